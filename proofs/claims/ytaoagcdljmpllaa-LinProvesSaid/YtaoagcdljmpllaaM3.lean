import Derived.Test.YtaoagcdljmpllaaM1
import Derived.Test.YtaoagcdljmpllaaM2
import Derived.Test.YtaoagcdljmpllaaProg
import Derived.KernelRfl
/- The table of the types of the seat of chapters 3 and 7, and that it is so. No conditions. -/
namespace Go.Proofs.Ytaoagcdljmpllaa
open Go.Am
def tab : Tab := [
  (3, ⟨.int .i64, 1, 8, .int .i64 0, false⟩),
  (4, ⟨.bool, 1, 1, .bool false, false⟩),
  (5, ⟨.int .u8, 1, 1, .int .u8 0, false⟩),
  (9, ⟨.string, 1, 16, .string ⟨#[]⟩, false⟩),
  (22, ⟨.array 16 5, 16, 16, .agg #[.int .u8 0, .int .u8 0, .int .u8 0, .int .u8 0, .int .u8 0, .int .u8 0, .int .u8 0, .int .u8 0, .int .u8 0, .int .u8 0, .int .u8 0, .int .u8 0, .int .u8 0, .int .u8 0, .int .u8 0, .int .u8 0], true⟩),
  (23, ⟨.int .u64, 1, 8, .int .u64 0, false⟩),
  (24, ⟨.int .u32, 1, 4, .int .u32 0, false⟩),
  (25, ⟨.array 4 24, 4, 16, .agg #[.int .u32 0, .int .u32 0, .int .u32 0, .int .u32 0], true⟩),
  (26, ⟨.int .i64, 1, 8, .int .i64 0, false⟩),
  (29, ⟨.slice 5, 1, 24, .slice none 0 0, false⟩),
  (35, ⟨.int .u64, 1, 8, .int .u64 0, false⟩),
  (40, ⟨.slice 47, 1, 24, .slice none 0 0, false⟩),
  (43, ⟨.slice 3, 1, 24, .slice none 0 0, false⟩),
  (46, ⟨.struct #[{ name := "Write", type := 4, offset := 0, embedded := false, tag := "", pkgPath := "", byteOffset := 0 }, { name := "Value", type := 9, offset := 1, embedded := false, tag := "", pkgPath := "", byteOffset := 8 }, { name := "Ver", type := 3, offset := 2, embedded := false, tag := "", pkgPath := "", byteOffset := 24 }, { name := "Began", type := 3, offset := 3, embedded := false, tag := "", pkgPath := "", byteOffset := 32 }, { name := "Ended", type := 3, offset := 4, embedded := false, tag := "", pkgPath := "", byteOffset := 40 }], 5, 48, .agg #[.bool false, .string ⟨#[]⟩, .int .i64 0, .int .i64 0, .int .i64 0], true⟩),
  (47, ⟨.struct #[{ name := "Write", type := 4, offset := 0, embedded := false, tag := "", pkgPath := "", byteOffset := 0 }, { name := "Value", type := 9, offset := 1, embedded := false, tag := "", pkgPath := "", byteOffset := 8 }, { name := "Ver", type := 3, offset := 2, embedded := false, tag := "", pkgPath := "", byteOffset := 24 }, { name := "Began", type := 3, offset := 3, embedded := false, tag := "", pkgPath := "", byteOffset := 32 }, { name := "Ended", type := 3, offset := 4, embedded := false, tag := "", pkgPath := "", byteOffset := 40 }], 5, 48, .agg #[.bool false, .string ⟨#[]⟩, .int .i64 0, .int .i64 0, .int .i64 0], true⟩),
  (52, ⟨.slice 4, 1, 24, .slice none 0 0, false⟩),
  (59, ⟨.array 4 24, 4, 16, .agg #[.int .u32 0, .int .u32 0, .int .u32 0, .int .u32 0], true⟩),
  (68, ⟨.pointer 71, 1, 8, .pointer none, false⟩),
  (69, ⟨.map 75 4, 1, 8, .map none, false⟩),
  (70, ⟨.struct #[{ name := "l", type := 40, offset := 0, embedded := false, tag := "", pkgPath := "towline/lin", byteOffset := 0 }, { name := "been", type := 69, offset := 1, embedded := false, tag := "", pkgPath := "towline/lin", byteOffset := 24 }, { name := "row", type := 43, offset := 2, embedded := false, tag := "", pkgPath := "towline/lin", byteOffset := 32 }], 3, 56, .agg #[.slice none 0 0, .map none, .slice none 0 0], false⟩),
  (71, ⟨.struct #[{ name := "l", type := 40, offset := 0, embedded := false, tag := "", pkgPath := "towline/lin", byteOffset := 0 }, { name := "been", type := 69, offset := 1, embedded := false, tag := "", pkgPath := "towline/lin", byteOffset := 24 }, { name := "row", type := 43, offset := 2, embedded := false, tag := "", pkgPath := "towline/lin", byteOffset := 32 }], 3, 56, .agg #[.slice none 0 0, .map none, .slice none 0 0], false⟩),
  (73, ⟨.int .u64, 1, 8, .int .u64 0, false⟩),
  (74, ⟨.struct #[{ name := "done", type := 73, offset := 0, embedded := false, tag := "", pkgPath := "towline/lin", byteOffset := 0 }, { name := "value", type := 9, offset := 1, embedded := false, tag := "", pkgPath := "towline/lin", byteOffset := 8 }], 2, 24, .agg #[.int .u64 0, .string ⟨#[]⟩], true⟩),
  (75, ⟨.struct #[{ name := "done", type := 73, offset := 0, embedded := false, tag := "", pkgPath := "towline/lin", byteOffset := 0 }, { name := "value", type := 9, offset := 1, embedded := false, tag := "", pkgPath := "towline/lin", byteOffset := 8 }], 2, 24, .agg #[.int .u64 0, .string ⟨#[]⟩], true⟩),
  (82, ⟨.map 3 84, 1, 8, .map none, false⟩),
  (83, ⟨.struct #[{ name := "value", type := 9, offset := 0, embedded := false, tag := "", pkgPath := "towline/lin", byteOffset := 0 }, { name := "began", type := 3, offset := 1, embedded := false, tag := "", pkgPath := "towline/lin", byteOffset := 16 }, { name := "there", type := 4, offset := 2, embedded := false, tag := "", pkgPath := "towline/lin", byteOffset := 24 }], 3, 32, .agg #[.string ⟨#[]⟩, .int .i64 0, .bool false], true⟩),
  (84, ⟨.struct #[{ name := "value", type := 9, offset := 0, embedded := false, tag := "", pkgPath := "towline/lin", byteOffset := 0 }, { name := "began", type := 3, offset := 1, embedded := false, tag := "", pkgPath := "towline/lin", byteOffset := 16 }, { name := "there", type := 4, offset := 2, embedded := false, tag := "", pkgPath := "towline/lin", byteOffset := 24 }], 3, 32, .agg #[.string ⟨#[]⟩, .int .i64 0, .bool false], true⟩)]
theorem inf3 : (Try.prog.info? 3).map (fun i => (i.size, i.bytes, i.zero)) = some (1, 8, some (.int .i64 0)) := by kernel_rfl
theorem inf4 : (Try.prog.info? 4).map (fun i => (i.size, i.bytes, i.zero)) = some (1, 1, some (.bool false)) := by kernel_rfl
theorem inf5 : (Try.prog.info? 5).map (fun i => (i.size, i.bytes, i.zero)) = some (1, 1, some (.int .u8 0)) := by kernel_rfl
theorem inf9 : (Try.prog.info? 9).map (fun i => (i.size, i.bytes, i.zero)) = some (1, 16, some (.string ⟨#[]⟩)) := by kernel_rfl
theorem inf22 : (Try.prog.info? 22).map (fun i => (i.size, i.bytes, i.zero)) = some (16, 16, some (.agg #[.int .u8 0, .int .u8 0, .int .u8 0, .int .u8 0, .int .u8 0, .int .u8 0, .int .u8 0, .int .u8 0, .int .u8 0, .int .u8 0, .int .u8 0, .int .u8 0, .int .u8 0, .int .u8 0, .int .u8 0, .int .u8 0])) := by kernel_rfl
theorem inf23 : (Try.prog.info? 23).map (fun i => (i.size, i.bytes, i.zero)) = some (1, 8, some (.int .u64 0)) := by kernel_rfl
theorem inf24 : (Try.prog.info? 24).map (fun i => (i.size, i.bytes, i.zero)) = some (1, 4, some (.int .u32 0)) := by kernel_rfl
theorem inf25 : (Try.prog.info? 25).map (fun i => (i.size, i.bytes, i.zero)) = some (4, 16, some (.agg #[.int .u32 0, .int .u32 0, .int .u32 0, .int .u32 0])) := by kernel_rfl
theorem inf26 : (Try.prog.info? 26).map (fun i => (i.size, i.bytes, i.zero)) = some (1, 8, some (.int .i64 0)) := by kernel_rfl
theorem inf29 : (Try.prog.info? 29).map (fun i => (i.size, i.bytes, i.zero)) = some (1, 24, some (.slice none 0 0)) := by kernel_rfl
theorem inf35 : (Try.prog.info? 35).map (fun i => (i.size, i.bytes, i.zero)) = some (1, 8, some (.int .u64 0)) := by kernel_rfl
theorem inf40 : (Try.prog.info? 40).map (fun i => (i.size, i.bytes, i.zero)) = some (1, 24, some (.slice none 0 0)) := by kernel_rfl
theorem inf43 : (Try.prog.info? 43).map (fun i => (i.size, i.bytes, i.zero)) = some (1, 24, some (.slice none 0 0)) := by kernel_rfl
theorem inf46 : (Try.prog.info? 46).map (fun i => (i.size, i.bytes, i.zero)) = some (5, 48, some (.agg #[.bool false, .string ⟨#[]⟩, .int .i64 0, .int .i64 0, .int .i64 0])) := by kernel_rfl
theorem inf47 : (Try.prog.info? 47).map (fun i => (i.size, i.bytes, i.zero)) = some (5, 48, some (.agg #[.bool false, .string ⟨#[]⟩, .int .i64 0, .int .i64 0, .int .i64 0])) := by kernel_rfl
theorem inf52 : (Try.prog.info? 52).map (fun i => (i.size, i.bytes, i.zero)) = some (1, 24, some (.slice none 0 0)) := by kernel_rfl
theorem inf59 : (Try.prog.info? 59).map (fun i => (i.size, i.bytes, i.zero)) = some (4, 16, some (.agg #[.int .u32 0, .int .u32 0, .int .u32 0, .int .u32 0])) := by kernel_rfl
theorem inf68 : (Try.prog.info? 68).map (fun i => (i.size, i.bytes, i.zero)) = some (1, 8, some (.pointer none)) := by kernel_rfl
theorem inf69 : (Try.prog.info? 69).map (fun i => (i.size, i.bytes, i.zero)) = some (1, 8, some (.map none)) := by kernel_rfl
theorem inf70 : (Try.prog.info? 70).map (fun i => (i.size, i.bytes, i.zero)) = some (3, 56, some (.agg #[.slice none 0 0, .map none, .slice none 0 0])) := by kernel_rfl
theorem inf71 : (Try.prog.info? 71).map (fun i => (i.size, i.bytes, i.zero)) = some (3, 56, some (.agg #[.slice none 0 0, .map none, .slice none 0 0])) := by kernel_rfl
theorem inf73 : (Try.prog.info? 73).map (fun i => (i.size, i.bytes, i.zero)) = some (1, 8, some (.int .u64 0)) := by kernel_rfl
theorem inf74 : (Try.prog.info? 74).map (fun i => (i.size, i.bytes, i.zero)) = some (2, 24, some (.agg #[.int .u64 0, .string ⟨#[]⟩])) := by kernel_rfl
theorem inf75 : (Try.prog.info? 75).map (fun i => (i.size, i.bytes, i.zero)) = some (2, 24, some (.agg #[.int .u64 0, .string ⟨#[]⟩])) := by kernel_rfl
theorem inf82 : (Try.prog.info? 82).map (fun i => (i.size, i.bytes, i.zero)) = some (1, 8, some (.map none)) := by kernel_rfl
theorem inf83 : (Try.prog.info? 83).map (fun i => (i.size, i.bytes, i.zero)) = some (3, 32, some (.agg #[.string ⟨#[]⟩, .int .i64 0, .bool false])) := by kernel_rfl
theorem inf84 : (Try.prog.info? 84).map (fun i => (i.size, i.bytes, i.zero)) = some (3, 32, some (.agg #[.string ⟨#[]⟩, .int .i64 0, .bool false])) := by kernel_rfl
theorem tabOk : TabOk Try.prog tab := TabOk.cons Try.underlying3 inf3 (fun h => by cases h) (TabOk.cons Try.underlying4 inf4 (fun h => by cases h) (TabOk.cons Try.underlying5 inf5 (fun h => by cases h) (TabOk.cons Try.underlying9 inf9 (fun h => by cases h) (TabOk.cons Try.underlying22 inf22 (fun _ => ⟨by kernel_rfl, by kernel_rfl⟩) (TabOk.cons Try.underlying23 inf23 (fun h => by cases h) (TabOk.cons Try.underlying24 inf24 (fun h => by cases h) (TabOk.cons Try.underlying25 inf25 (fun _ => ⟨by kernel_rfl, by kernel_rfl⟩) (TabOk.cons Try.underlying26 inf26 (fun h => by cases h) (TabOk.cons Try.underlying29 inf29 (fun h => by cases h) (TabOk.cons Try.underlying35 inf35 (fun h => by cases h) (TabOk.cons Try.underlying40 inf40 (fun h => by cases h) (TabOk.cons Try.underlying43 inf43 (fun h => by cases h) (TabOk.cons Try.underlying46 inf46 (fun _ => ⟨by kernel_rfl, by kernel_rfl⟩) (TabOk.cons Try.underlying47 inf47 (fun _ => ⟨by kernel_rfl, by kernel_rfl⟩) (TabOk.cons Try.underlying52 inf52 (fun h => by cases h) (TabOk.cons Try.underlying59 inf59 (fun _ => ⟨by kernel_rfl, by kernel_rfl⟩) (TabOk.cons Try.underlying68 inf68 (fun h => by cases h) (TabOk.cons Try.underlying69 inf69 (fun h => by cases h) (TabOk.cons Try.underlying70 inf70 (fun h => by cases h) (TabOk.cons Try.underlying71 inf71 (fun h => by cases h) (TabOk.cons Try.underlying73 inf73 (fun h => by cases h) (TabOk.cons Try.underlying74 inf74 (fun _ => ⟨by kernel_rfl, by kernel_rfl⟩) (TabOk.cons Try.underlying75 inf75 (fun _ => ⟨by kernel_rfl, by kernel_rfl⟩) (TabOk.cons Try.underlying82 inf82 (fun h => by cases h) (TabOk.cons Try.underlying83 inf83 (fun _ => ⟨by kernel_rfl, by kernel_rfl⟩) (TabOk.cons Try.underlying84 inf84 (fun _ => ⟨by kernel_rfl, by kernel_rfl⟩) (TabOk.nil _)))))))))))))))))))))))))))
theorem mixed : Try.prog.follows .mixedOrders = true := by kernel_rfl
theorem lit_cast {k : IntKind} {a b : Int} (h : a = b) : some (AV.pv (.lit (.int k a))) = some (AV.pv (.lit (.int k b))) := by rw [h]
structure Op where
  write : Bool
  value : ByteArray
  ver : Int
  began : Int
  ended : Int
  deriving Inhabited
def eOp : Enc Op := ⟨5, fun x => [.lit (.bool x.write), .lit (.string x.value), .lit (.int .i64 x.ver), .lit (.int .i64 x.began), .lit (.int .i64 x.ended)], fun _ => rfl⟩
def mIn (n : Int) : Bool :=
  (bif (decide (n ≥ 0)) then (decide (n < 64)) else false)
theorem mIn_calls (n : Int)  : PCalls Try.prog 59 [.pv (.lit (.int .i64 n))] (.pv (.lit (.bool (mIn n)))) := by
 generalize hR : mIn n = R
 refine PCalls.of_body tabOk Try.func59 rfl rfl rfl rfl rfl mixed fun E hP C hI => ?_
 refine Awp.consP C ?_
 refine rvP C (.pv (.lit (.bool false))) ?_
 refine rvc_nil ?_
 refine Awp.consP C ?_
 refine rvP C (.pv (.lit (.int .i64 n))) ?_
 refine rvP C (.pv (.lit (.bool (decide (n ≥ 0))))) ?_
 refine rvP C (.pv (.lit (.bool (decide (n ≥ 0))))) ?_
 refine rvc_case 5 (decide (n ≥ 0)) rfl (fun h1 => ?_) (fun h1 => ?_)
 ·
  replace hR := of_true h1 hR
  refine rvO C (.pv (.lit (.int .i64 n))) ?_
  refine rvO C (.pv (.lit (.bool (decide (n < 64))))) ?_
  refine rvP C (.pv (.lit (.bool (decide (n < 64))))) ?_
  refine rvP C (.pv (.lit (.bool (decide (n < 64))))) ?_
  refine rvc_nil ?_
  refine Awp.ret ?_
  subst hR
  exact ⟨.inl rfl, rfl⟩
 ·
  replace hR := of_false h1 hR
  refine rvS ?_
  refine rvS ?_
  refine rvP C (.pv (.lit (.bool false))) ?_
  refine rvP C (.pv (.lit (.bool false))) ?_
  refine rvc_nil ?_
  refine Awp.ret ?_
  subst hR
  exact ⟨.inl rfl, rfl⟩
def mHas (s : Int) (n : Int) : Bool :=
  (bif (mIn n) then ((bitI .and .u64 (shrI .u64 s n) 1) == 1) else false)
theorem mHas_calls (s : Int) (n : Int)  : PCalls Try.prog 49 [.pv (.lit (.int .u64 s)), .pv (.lit (.int .i64 n))] (.pv (.lit (.bool (mHas s n)))) := by
 generalize hR : mHas s n = R
 refine PCalls.of_body tabOk Try.func49 rfl rfl rfl rfl rfl mixed fun E hP C hI => ?_
 refine Awp.consP C ?_
 refine rvP C (.pv (.lit (.bool false))) ?_
 refine rvc_nil ?_
 refine Awp.consP C ?_
 refine rvP C (.pv (.lit (.int .i64 n))) ?_
 refine rvc_un (rexec_call hP C rfl rfl rfl (mIn_calls n) ?_)
 refine rvP C (.pv (.lit (.bool (mIn n)))) ?_
 refine rvc_case 7 (mIn n) rfl (fun h1 => ?_) (fun h1 => ?_)
 ·
  replace hR := of_true h1 hR
  refine rvO C (.pv (.lit (.int .u64 s))) ?_
  refine rvO C (.pv (.lit (.int .i64 n))) ?_
  refine rvc_open rfl rfl rfl (rexec_prim C (δ := { v := .pv (.lit (.int .u64 (shrI .u64 s n))) }) rfl rfl rfl rfl (by simp [mIn] at h1; omega) rfl ?_)
  refine rvO C (.pv (.lit (.int .u64 (bitI .and .u64 (shrI .u64 s n) 1)))) ?_
  refine rvO C (.pv (.lit (.bool ((bitI .and .u64 (shrI .u64 s n) 1) == 1)))) ?_
  refine rvP C (.pv (.lit (.bool ((bitI .and .u64 (shrI .u64 s n) 1) == 1)))) ?_
  refine rvP C (.pv (.lit (.bool ((bitI .and .u64 (shrI .u64 s n) 1) == 1)))) ?_
  refine rvc_nil ?_
  refine Awp.ret ?_
  subst hR
  exact ⟨.inl rfl, rfl⟩
 ·
  replace hR := of_false h1 hR
  refine rvS ?_
  refine rvS ?_
  refine rvS ?_
  refine rvS ?_
  refine rvS ?_
  refine rvP C (.pv (.lit (.bool false))) ?_
  refine rvP C (.pv (.lit (.bool false))) ?_
  refine rvc_nil ?_
  refine Awp.ret ?_
  subst hR
  exact ⟨.inl rfl, rfl⟩
def mWith (s : Int) (n : Int) : Int :=
  (bif (!(mIn n)) then s else (bitI .or .u64 s (shlI .u64 1 n)))
theorem mWith_calls (s : Int) (n : Int)  : PCalls Try.prog 51 [.pv (.lit (.int .u64 s)), .pv (.lit (.int .i64 n))] (.pv (.lit (.int .u64 (mWith s n)))) := by
 generalize hR : mWith s n = R
 refine PCalls.of_body tabOk Try.func51 rfl rfl rfl rfl rfl mixed fun E hP C hI => ?_
 refine Awp.consP C ?_
 refine rvP C (.pv (.lit (.int .u64 0))) ?_
 refine rvc_nil ?_
 refine Awp.seq ?_
 refine Awp.consP C ?_
 refine rvP C (.pv (.lit (.int .i64 n))) ?_
 refine rvc_un (rexec_call hP C rfl rfl rfl (mIn_calls n) ?_)
 refine rvP C (.pv (.lit (.bool (!(mIn n))))) ?_
 refine rvc_nil ?_
 refine Awp.cond (b := (!(mIn n))) rfl (fun h1 => ?_) (fun h1 => ?_)
 ·
  replace hR := of_true h1 hR
  refine Awp.consP C ?_
  refine rvP C (.pv (.lit (.int .u64 s))) ?_
  refine rvP C (.pv (.lit (.int .u64 s))) ?_
  refine rvc_nil ?_
  refine Awp.ret ?_
  subst hR
  exact ⟨.inl rfl, rfl⟩
 ·
  replace hR := of_false h1 hR
  refine Awp.skip ?_
  refine Awp.consP C ?_
  refine rvP C (.pv (.lit (.int .u64 s))) ?_
  refine rvP C (.pv (.lit (.int .i64 n))) ?_
  refine rvc_un (rexec_prim C (δ := { v := .pv (.lit (.int .u64 (shlI .u64 1 n))) }) rfl rfl rfl rfl (by simp [mIn] at h1; omega) rfl ?_)
  refine rvP C (.pv (.lit (.int .u64 (bitI .or .u64 s (shlI .u64 1 n))))) ?_
  refine rvP C (.pv (.lit (.int .u64 (bitI .or .u64 s (shlI .u64 1 n))))) ?_
  refine rvc_nil ?_
  refine Awp.ret ?_
  subst hR
  exact ⟨.inl rfl, rfl⟩
def over (o : Op) : Int :=
  (bif (o.ended == 0) then 9223372036854775807 else o.ended)
theorem over_calls (o : Op)  : PCalls Try.prog 60 [.agg [.pv (.lit (.bool o.write)), .pv (.lit (.string o.value)), .pv (.lit (.int .i64 o.ver)), .pv (.lit (.int .i64 o.began)), .pv (.lit (.int .i64 o.ended))]] (.pv (.lit (.int .i64 (over o)))) := by
 generalize hR : over o = R
 refine PCalls.of_body tabOk Try.func60 rfl rfl rfl rfl rfl mixed fun E hP C hI => ?_
 refine Awp.consP C ?_
 refine rvc_un (rexec_prim C (δ := { v := .ptr 1 0, new := [(1, .cells [.pv (.lit (.bool o.write)), .pv (.lit (.string o.value)), .pv (.lit (.int .i64 o.ver)), .pv (.lit (.int .i64 o.began)), .pv (.lit (.int .i64 o.ended))])] }) rfl rfl rfl rfl trivial rfl ?_)
 refine rvP C (.pv (.lit (.int .i64 0))) ?_
 refine rvc_nil ?_
 refine Awp.seq ?_
 refine Awp.consP C ?_
 refine rvP C (.ptr 1 4) ?_
 refine rvP C (.pv (.lit (.int .i64 o.ended))) ?_
 refine rvP C (.pv (.lit (.bool (o.ended == 0)))) ?_
 refine rvc_nil ?_
 refine Awp.cond (b := (o.ended == 0)) rfl (fun h1 => ?_) (fun h1 => ?_)
 ·
  replace hR := of_true h1 hR
  refine Awp.consP C ?_
  refine rvP C (.pv (.lit (.int .i64 9223372036854775807))) ?_
  refine rvc_nil ?_
  refine Awp.ret ?_
  subst hR
  exact ⟨.inl rfl, rfl⟩
 ·
  replace hR := of_false h1 hR
  refine Awp.skip ?_
  refine Awp.consP C ?_
  refine rvP C (.ptr 1 4) ?_
  refine rvP C (.pv (.lit (.int .i64 o.ended))) ?_
  refine rvP C (.pv (.lit (.int .i64 o.ended))) ?_
  refine rvc_nil ?_
  refine Awp.ret ?_
  subst hR
  exact ⟨.inl rfl, rfl⟩
def before (a : Op) (b : Op) : Bool :=
  (bif (decide (a.ended > 0)) then (decide (a.ended < b.began)) else false)
theorem before_calls (a : Op) (b : Op)  : PCalls Try.prog 58 [.agg [.pv (.lit (.bool a.write)), .pv (.lit (.string a.value)), .pv (.lit (.int .i64 a.ver)), .pv (.lit (.int .i64 a.began)), .pv (.lit (.int .i64 a.ended))], .agg [.pv (.lit (.bool b.write)), .pv (.lit (.string b.value)), .pv (.lit (.int .i64 b.ver)), .pv (.lit (.int .i64 b.began)), .pv (.lit (.int .i64 b.ended))]] (.pv (.lit (.bool (before a b)))) := by
 generalize hR : before a b = R
 refine PCalls.of_body tabOk Try.func58 rfl rfl rfl rfl rfl mixed fun E hP C hI => ?_
 refine Awp.consP C ?_
 refine rvc_un (rexec_prim C (δ := { v := .ptr 2 0, new := [(2, .cells [.pv (.lit (.bool a.write)), .pv (.lit (.string a.value)), .pv (.lit (.int .i64 a.ver)), .pv (.lit (.int .i64 a.began)), .pv (.lit (.int .i64 a.ended))])] }) rfl rfl rfl rfl trivial rfl ?_)
 refine rvc_un (rexec_prim C (δ := { v := .ptr 3 0, new := [(3, .cells [.pv (.lit (.bool b.write)), .pv (.lit (.string b.value)), .pv (.lit (.int .i64 b.ver)), .pv (.lit (.int .i64 b.began)), .pv (.lit (.int .i64 b.ended))])] }) rfl rfl rfl rfl trivial rfl ?_)
 refine rvP C (.pv (.lit (.bool false))) ?_
 refine rvc_nil ?_
 refine Awp.consP C ?_
 refine rvP C (.ptr 2 4) ?_
 refine rvP C (.pv (.lit (.int .i64 a.ended))) ?_
 refine rvP C (.pv (.lit (.bool (decide (a.ended > 0))))) ?_
 refine rvP C (.pv (.lit (.bool (decide (a.ended > 0))))) ?_
 refine rvc_case 8 (decide (a.ended > 0)) rfl (fun h1 => ?_) (fun h1 => ?_)
 ·
  replace hR := of_true h1 hR
  refine rvO C (.ptr 2 4) ?_
  refine rvO C (.pv (.lit (.int .i64 a.ended))) ?_
  refine rvO C (.ptr 3 3) ?_
  refine rvO C (.pv (.lit (.int .i64 b.began))) ?_
  refine rvO C (.pv (.lit (.bool (decide (a.ended < b.began))))) ?_
  refine rvP C (.pv (.lit (.bool (decide (a.ended < b.began))))) ?_
  refine rvP C (.pv (.lit (.bool (decide (a.ended < b.began))))) ?_
  refine rvc_nil ?_
  refine Awp.ret ?_
  subst hR
  exact ⟨.inl rfl, rfl⟩
 ·
  replace hR := of_false h1 hR
  refine rvS ?_
  refine rvS ?_
  refine rvS ?_
  refine rvS ?_
  refine rvS ?_
  refine rvP C (.pv (.lit (.bool false))) ?_
  refine rvP C (.pv (.lit (.bool false))) ?_
  refine rvc_nil ?_
  refine Awp.ret ?_
  subst hR
  exact ⟨.inl rfl, rfl⟩
def rightL_l0 : List Op → Nat → Int
  | [], _ => 0
  | x :: xs, i => (bif (decide (x.began < 1)) then 70 else (bif (x.ended != 0) then (bif (decide (x.ended ≤ x.began)) then 70 else (bif (decide (x.ver < 0)) then 70 else (bif (decide (x.ver > 1099511627776)) then 70 else (bif (decide ((x.value.size : Int) > 24)) then 70 else rightL_l0 xs (i + 1) )))) else (bif (decide (x.ver < 0)) then 70 else (bif (decide (x.ver > 1099511627776)) then 70 else (bif (decide ((x.value.size : Int) > 24)) then 70 else rightL_l0 xs (i + 1) )))))
def rightL (l : (Sl Op)) : Int :=
  (bif (decide ((l.D.length : Int) > 24)) then 4 else rightL_l0 l.D 0 )
theorem rightL_calls (l : (Sl Op)) (hl1 : l.D.length ≤ 9223372036854775807) : PCalls Try.prog 25 [sS (some l.nil) eOp l.D] (.pv (.lit (.int .i64 (rightL l)))) := by
 generalize hR : rightL l = R
 refine PCalls.of_body tabOk Try.func25 rfl rfl rfl rfl rfl mixed fun E hP C hI => ?_
 refine Awp.consP C ?_
 refine rvP C (.pv (.lit (.int .i64 0))) ?_
 refine rvc_nil ?_
 refine Awp.seq ?_
 refine Awp.consP C ?_
 refine rvP C (sS (some l.nil) eOp l.D) ?_
 refine rvP C (.pv (.lit (.int .i64 (l.D.length : Int)))) ?_
 refine rvP C (.pv (.lit (.bool (decide ((l.D.length : Int) > 24))))) ?_
 refine rvc_nil ?_
 refine Awp.cond (b := (decide ((l.D.length : Int) > 24))) rfl (fun h1 => ?_) (fun h1 => ?_)
 ·
  replace hR := of_true h1 hR
  refine Awp.consP C ?_
  refine rvP C (.pv (.lit (.int .i64 4))) ?_
  refine rvc_nil ?_
  refine Awp.ret ?_
  subst hR
  exact ⟨.inl rfl, rfl⟩
 ·
  replace hR := of_false h1 hR
  refine Awp.skip ?_
  refine Awp.seq ?_
  refine Awp.consP C ?_
  refine rvP C (sS (some l.nil) eOp l.D) ?_
  refine rvP C (.pv (.lit (.int .i64 (l.D.length : Int)))) ?_
  refine rvP C (.pv (.lit (.int .i64 0))) ?_
  refine rvc_nil ?_
  refine Awp.block ?_
  refine Awp.forR (σ := Unit) (l.D.length) (fun i _v => [(8, sS (some l.nil) eOp l.D), (9, .pv (.lit (.int .i64 (l.D.length : Int)))), (10, .pv (.lit (.int .i64 (i : Int))))]) (fun i _v => []) [] (fun i _v => rightL_l0 (l.D.drop i) i  = R) () ?_ ?_ (fun i _v h2 hR => ?_)
  · exact hR
  · exact ⟨fun b => b, WeakerR.ofL (Ks := []) hI ⟨⟨rfl, rfl⟩, ⟨rfl, rfl⟩, ⟨rfl, rfl⟩, trivial⟩ (okH_nil) rfl⟩
  refine Awp.consP C ?_
  refine rvP C (.pv (.lit (.bool (decide ((i : Int) < (l.D.length : Int)))))) ?_
  refine rvc_nil ?_
  refine Awp.seq ?_
  refine Awp.cond (b := (decide ((i : Int) < (l.D.length : Int)))) rfl (fun h3 => ?_) (fun h3 => ?_)
  ·
   have h4 : i < l.D.length := by have := of_decide_eq_true h3; omega
   obtain ⟨x, h5⟩ := getX h4
   rw [drop_at h5] at hR
   refine Awp.skip ?_
   refine Awp.seq ?_
   refine Awp.block ?_
   refine Awp.consP C ?_
   refine rvc_un (rexec_idxS C rfl rfl rfl rfl rfl rfl x (Int.natCast_nonneg _) h5 ?_)
   refine rvP C (.agg [.pv (.lit (.bool x.write)), .pv (.lit (.string x.value)), .pv (.lit (.int .i64 x.ver)), .pv (.lit (.int .i64 x.began)), .pv (.lit (.int .i64 x.ended))]) ?_
   refine rvc_un (rexec_prim C (δ := { v := .ptr 4 0, new := [(4, .cells [.pv (.lit (.bool false)), .pv (.lit (.string ⟨#[]⟩)), .pv (.lit (.int .i64 0)), .pv (.lit (.int .i64 0)), .pv (.lit (.int .i64 0))])] }) rfl rfl rfl rfl trivial rfl ?_)
   refine rvc_un (rexec_prim C (δ := { v := .undef, wr := [(4, some (.cells [.pv (.lit (.bool x.write)), .pv (.lit (.string x.value)), .pv (.lit (.int .i64 x.ver)), .pv (.lit (.int .i64 x.began)), .pv (.lit (.int .i64 x.ended))]))] }) rfl rfl rfl rfl trivial rfl ?_)
   refine rvc_nil ?_
   refine Awp.consP C ?_
   refine rvP C (.ptr 4 3) ?_
   refine rvP C (.pv (.lit (.int .i64 x.began))) ?_
   refine rvP C (.pv (.lit (.bool (decide (x.began < 1))))) ?_
   refine rvP C (.pv (.lit (.bool (decide (x.began < 1))))) ?_
   refine rvc_case 17 (decide (x.began < 1)) rfl (fun h6 => ?_) (fun h6 => ?_)
   ·
    replace hR := of_true h6 hR
    refine rvS ?_
    refine rvS ?_
    refine rvS ?_
    refine rvS ?_
    refine rvc_shutU rfl rfl rfl ?_
    refine rvc_shutU rfl rfl rfl ?_
    refine rvc_shutU rfl rfl rfl ?_
    refine rvc_shutU rfl rfl rfl ?_
    refine rvc_shutU rfl rfl rfl ?_
    refine rvS ?_
    refine rvP C (.pv (.lit (.bool true))) ?_
    refine rvP C (.pv (.lit (.bool true))) ?_
    refine rvS ?_
    refine rvS ?_
    refine rvS ?_
    refine rvP C (.pv (.lit (.bool true))) ?_
    refine rvP C (.pv (.lit (.bool true))) ?_
    refine rvS ?_
    refine rvS ?_
    refine rvS ?_
    refine rvP C (.pv (.lit (.bool true))) ?_
    refine rvP C (.pv (.lit (.bool true))) ?_
    refine rvS ?_
    refine rvS ?_
    refine rvS ?_
    refine rvS ?_
    refine rvP C (.pv (.lit (.bool true))) ?_
    refine rvc_nil ?_
    refine Awp.condT (b := true) rfl rfl ?_
    refine Awp.consP C ?_
    refine rvP C (.pv (.lit (.int .i64 70))) ?_
    refine rvc_nil ?_
    refine Awp.ret ?_
    subst hR
    exact ⟨.inl rfl, rfl⟩
   ·
    replace hR := of_false h6 hR
    refine rvO C (.ptr 4 4) ?_
    refine rvO C (.pv (.lit (.int .i64 x.ended))) ?_
    refine rvO C (.pv (.lit (.bool (x.ended != 0)))) ?_
    refine rvO C (.pv (.lit (.bool (x.ended != 0)))) ?_
    refine rvc_case 21 (x.ended != 0) rfl (fun h7 => ?_) (fun h7 => ?_)
    ·
     replace hR := of_true h7 hR
     refine rvO C (.ptr 4 4) ?_
     refine rvO C (.pv (.lit (.int .i64 x.ended))) ?_
     refine rvO C (.ptr 4 3) ?_
     refine rvO C (.pv (.lit (.int .i64 x.began))) ?_
     refine rvO C (.pv (.lit (.bool (decide (x.ended ≤ x.began))))) ?_
     refine rvO C (.pv (.lit (.bool (decide (x.ended ≤ x.began))))) ?_
     refine rvP C (.pv (.lit (.bool (decide (x.ended ≤ x.began))))) ?_
     refine rvP C (.pv (.lit (.bool (decide (x.ended ≤ x.began))))) ?_
     refine rvc_case 29 (decide (x.ended ≤ x.began)) rfl (fun h8 => ?_) (fun h8 => ?_)
     ·
      replace hR := of_true h8 hR
      refine rvS ?_
      refine rvS ?_
      refine rvS ?_
      refine rvP C (.pv (.lit (.bool true))) ?_
      refine rvP C (.pv (.lit (.bool true))) ?_
      refine rvS ?_
      refine rvS ?_
      refine rvS ?_
      refine rvP C (.pv (.lit (.bool true))) ?_
      refine rvP C (.pv (.lit (.bool true))) ?_
      refine rvS ?_
      refine rvS ?_
      refine rvS ?_
      refine rvS ?_
      refine rvP C (.pv (.lit (.bool true))) ?_
      refine rvc_nil ?_
      refine Awp.condT (b := true) rfl rfl ?_
      refine Awp.consP C ?_
      refine rvP C (.pv (.lit (.int .i64 70))) ?_
      refine rvc_nil ?_
      refine Awp.ret ?_
      subst hR
      exact ⟨.inl rfl, rfl⟩
     ·
      replace hR := of_false h8 hR
      refine rvO C (.ptr 4 2) ?_
      refine rvO C (.pv (.lit (.int .i64 x.ver))) ?_
      refine rvO C (.pv (.lit (.bool (decide (x.ver < 0))))) ?_
      refine rvP C (.pv (.lit (.bool (decide (x.ver < 0))))) ?_
      refine rvP C (.pv (.lit (.bool (decide (x.ver < 0))))) ?_
      refine rvc_case 34 (decide (x.ver < 0)) rfl (fun h9 => ?_) (fun h9 => ?_)
      ·
       replace hR := of_true h9 hR
       refine rvS ?_
       refine rvS ?_
       refine rvS ?_
       refine rvP C (.pv (.lit (.bool true))) ?_
       refine rvP C (.pv (.lit (.bool true))) ?_
       refine rvS ?_
       refine rvS ?_
       refine rvS ?_
       refine rvS ?_
       refine rvP C (.pv (.lit (.bool true))) ?_
       refine rvc_nil ?_
       refine Awp.condT (b := true) rfl rfl ?_
       refine Awp.consP C ?_
       refine rvP C (.pv (.lit (.int .i64 70))) ?_
       refine rvc_nil ?_
       refine Awp.ret ?_
       subst hR
       exact ⟨.inl rfl, rfl⟩
      ·
       replace hR := of_false h9 hR
       refine rvO C (.ptr 4 2) ?_
       refine rvO C (.pv (.lit (.int .i64 x.ver))) ?_
       refine rvO C (.pv (.lit (.bool (decide (x.ver > 1099511627776))))) ?_
       refine rvP C (.pv (.lit (.bool (decide (x.ver > 1099511627776))))) ?_
       refine rvP C (.pv (.lit (.bool (decide (x.ver > 1099511627776))))) ?_
       refine rvc_case 39 (decide (x.ver > 1099511627776)) rfl (fun h10 => ?_) (fun h10 => ?_)
       ·
        replace hR := of_true h10 hR
        refine rvS ?_
        refine rvS ?_
        refine rvS ?_
        refine rvS ?_
        refine rvP C (.pv (.lit (.bool true))) ?_
        refine rvc_nil ?_
        refine Awp.condT (b := true) rfl rfl ?_
        refine Awp.consP C ?_
        refine rvP C (.pv (.lit (.int .i64 70))) ?_
        refine rvc_nil ?_
        refine Awp.ret ?_
        subst hR
        exact ⟨.inl rfl, rfl⟩
       ·
        replace hR := of_false h10 hR
        refine rvO C (.ptr 4 1) ?_
        refine rvO C (.pv (.lit (.string x.value))) ?_
        refine rvO C (.pv (.lit (.int .i64 (x.value.size : Int)))) ?_
        refine rvO C (.pv (.lit (.bool (decide ((x.value.size : Int) > 24))))) ?_
        refine rvP C (.pv (.lit (.bool (decide ((x.value.size : Int) > 24))))) ?_
        refine rvc_nil ?_
        refine Awp.cond (b := (decide ((x.value.size : Int) > 24))) rfl (fun h11 => ?_) (fun h11 => ?_)
        ·
         replace hR := of_true h11 hR
         refine Awp.consP C ?_
         refine rvP C (.pv (.lit (.int .i64 70))) ?_
         refine rvc_nil ?_
         refine Awp.ret ?_
         subst hR
         exact ⟨.inl rfl, rfl⟩
        ·
         replace hR := of_false h11 hR
         refine Awp.skip ?_
         refine Awp.regionP C ?_
         refine rvP C (.pv (.lit (.int .i64 (IntKind.i64.wrap ((i : Int) + 1))))) ?_
         refine rvP C (.pv (.lit (.int .i64 (IntKind.i64.wrap ((i : Int) + 1))))) ?_
         refine rvc_nil ?_
         refine ⟨h4, (), ?_, ?_⟩
         · exact hR
         · exact ⟨fun b => b, WeakerR.ofL (Ks := []) hI ⟨⟨rfl, rfl⟩, ⟨rfl, rfl⟩, ⟨lit_cast (wrap_i64 (by omega) (by omega)), rfl⟩, trivial⟩ (okH_nil) rfl⟩
    ·
     replace hR := of_false h7 hR
     refine rvS ?_
     refine rvS ?_
     refine rvS ?_
     refine rvS ?_
     refine rvS ?_
     refine rvO C (.pv (.lit (.bool false))) ?_
     refine rvP C (.pv (.lit (.bool false))) ?_
     refine rvP C (.pv (.lit (.bool false))) ?_
     refine rvO C (.ptr 4 2) ?_
     refine rvO C (.pv (.lit (.int .i64 x.ver))) ?_
     refine rvO C (.pv (.lit (.bool (decide (x.ver < 0))))) ?_
     refine rvP C (.pv (.lit (.bool (decide (x.ver < 0))))) ?_
     refine rvP C (.pv (.lit (.bool (decide (x.ver < 0))))) ?_
     refine rvc_case 34 (decide (x.ver < 0)) rfl (fun h12 => ?_) (fun h12 => ?_)
     ·
      replace hR := of_true h12 hR
      refine rvS ?_
      refine rvS ?_
      refine rvS ?_
      refine rvP C (.pv (.lit (.bool true))) ?_
      refine rvP C (.pv (.lit (.bool true))) ?_
      refine rvS ?_
      refine rvS ?_
      refine rvS ?_
      refine rvS ?_
      refine rvP C (.pv (.lit (.bool true))) ?_
      refine rvc_nil ?_
      refine Awp.condT (b := true) rfl rfl ?_
      refine Awp.consP C ?_
      refine rvP C (.pv (.lit (.int .i64 70))) ?_
      refine rvc_nil ?_
      refine Awp.ret ?_
      subst hR
      exact ⟨.inl rfl, rfl⟩
     ·
      replace hR := of_false h12 hR
      refine rvO C (.ptr 4 2) ?_
      refine rvO C (.pv (.lit (.int .i64 x.ver))) ?_
      refine rvO C (.pv (.lit (.bool (decide (x.ver > 1099511627776))))) ?_
      refine rvP C (.pv (.lit (.bool (decide (x.ver > 1099511627776))))) ?_
      refine rvP C (.pv (.lit (.bool (decide (x.ver > 1099511627776))))) ?_
      refine rvc_case 39 (decide (x.ver > 1099511627776)) rfl (fun h13 => ?_) (fun h13 => ?_)
      ·
       replace hR := of_true h13 hR
       refine rvS ?_
       refine rvS ?_
       refine rvS ?_
       refine rvS ?_
       refine rvP C (.pv (.lit (.bool true))) ?_
       refine rvc_nil ?_
       refine Awp.condT (b := true) rfl rfl ?_
       refine Awp.consP C ?_
       refine rvP C (.pv (.lit (.int .i64 70))) ?_
       refine rvc_nil ?_
       refine Awp.ret ?_
       subst hR
       exact ⟨.inl rfl, rfl⟩
      ·
       replace hR := of_false h13 hR
       refine rvO C (.ptr 4 1) ?_
       refine rvO C (.pv (.lit (.string x.value))) ?_
       refine rvO C (.pv (.lit (.int .i64 (x.value.size : Int)))) ?_
       refine rvO C (.pv (.lit (.bool (decide ((x.value.size : Int) > 24))))) ?_
       refine rvP C (.pv (.lit (.bool (decide ((x.value.size : Int) > 24))))) ?_
       refine rvc_nil ?_
       refine Awp.cond (b := (decide ((x.value.size : Int) > 24))) rfl (fun h14 => ?_) (fun h14 => ?_)
       ·
        replace hR := of_true h14 hR
        refine Awp.consP C ?_
        refine rvP C (.pv (.lit (.int .i64 70))) ?_
        refine rvc_nil ?_
        refine Awp.ret ?_
        subst hR
        exact ⟨.inl rfl, rfl⟩
       ·
        replace hR := of_false h14 hR
        refine Awp.skip ?_
        refine Awp.regionP C ?_
        refine rvP C (.pv (.lit (.int .i64 (IntKind.i64.wrap ((i : Int) + 1))))) ?_
        refine rvP C (.pv (.lit (.int .i64 (IntKind.i64.wrap ((i : Int) + 1))))) ?_
        refine rvc_nil ?_
        refine ⟨h4, (), ?_, ?_⟩
        · exact hR
        · exact ⟨fun b => b, WeakerR.ofL (Ks := []) hI ⟨⟨rfl, rfl⟩, ⟨rfl, rfl⟩, ⟨lit_cast (wrap_i64 (by omega) (by omega)), rfl⟩, trivial⟩ (okH_nil) rfl⟩
  ·
   have h4 : ¬ i < l.D.length := by have := of_decide_eq_false h3; omega
   rw [drop_end h4] at hR
   refine Awp.exit ?_
   refine Awp.consP C ?_
   refine rvP C (.pv (.lit (.int .i64 0))) ?_
   refine rvc_nil ?_
   refine Awp.ret ?_
   subst hR
   exact ⟨.inl rfl, rfl⟩
structure Point where
  done : Int
  value : ByteArray
  deriving Inhabited
structure Search where
  l : (Sl Op)
  been : (List (Point × Bool))
  row : (Sl Int)
  deriving Inhabited
def kPoint : KEnc Point := ⟨fun x => .agg [.pv (.lit (.int .u64 x.done)), .pv (.lit (.string x.value))], fun a b => ((a.done == b.done) && ((a.value.toList == b.value.toList) && true)), fun _ => rfl, fun _ => Nat.le_of_ble_eq_true rfl, fun a b => by simp only [Bool.and_eq_true, beq_iff_eq, strEq, AV.agg.injEq, List.cons.injEq, AV.pv.injEq, PV.lit.injEq, Value.int.injEq, Value.string.injEq, and_true, true_and]⟩
theorem kPoint_ok : KeyOk Try.prog 75 kPoint := KeyOk.agg tabOk (r := (tab.lookup 75).get rfl) rfl rfl (fun _ _ => rfl) (fun _ => rfl)
def vBool : VEnc Bool := ⟨fun x => .pv (.lit (.bool x)), fun _ _ => rfl⟩
def allSO_l0 (done : Int) : List Op → Nat → Bool
  | [], _ => true
  | x :: xs, i => (bif (x.ended != 0) then (bif (!(mHas done (i : Int))) then false else allSO_l0 done xs (i + 1) ) else allSO_l0 done xs (i + 1) )
def allSO (s : Search) (done : Int) : Bool :=
  allSO_l0 done s.l.D 0
theorem allSO_calls (s : Search) (done : Int) (hl1 : s.l.D.length ≤ 9223372036854775807) : ObjCalls Try.prog 52 [.ptr 0 0, .pv (.lit (.int .u64 done))] [sS (some s.l.nil) eOp s.l.D, .mp 1, .sl 2 0 s.row.D.length 1 false] [(1, mapE kPoint vBool.enc s.been), (2, .cells (encC (eI .i64) s.row.D))] (.pv (.lit (.bool (allSO s done)))) [sS (some s.l.nil) eOp s.l.D, .mp 1, .sl 2 0 s.row.D.length 1 false] [(1, mapE kPoint vBool.enc s.been), (2, .cells (encC (eI .i64) s.row.D))] := by
 generalize hR : allSO s done = R
 refine ObjCalls.of_body tabOk Try.func52 rfl rfl rfl rfl rfl (allB_cons (mapE_within _ _) (allB_cons (encC_within _ _) allB_nil)) (of_decide_eq_true rfl) rfl rfl (allB_cons (mapE_within _ _) (allB_cons (encC_within _ _) allB_nil)) (of_decide_eq_true rfl) mixed fun E hP C hI => ?_
 refine Awp.consP C ?_
 refine rvP C (.pv (.lit (.bool false))) ?_
 refine rvc_nil ?_
 refine Awp.seq ?_
 refine Awp.consP C ?_
 refine rvP C (.ptr 0 0) ?_
 refine rvP C (.ptr 0 0) ?_
 refine rvP C (.ptr 0 0) ?_
 refine rvP C (sS (some s.l.nil) eOp s.l.D) ?_
 refine rvP C (.pv (.lit (.int .i64 (s.l.D.length : Int)))) ?_
 refine rvP C (.pv (.lit (.int .i64 0))) ?_
 refine rvc_nil ?_
 refine Awp.block ?_
 refine Awp.forR (σ := Unit) (s.l.D.length) (fun i _v => [(0, .ptr 0 0), (1, .pv (.lit (.int .u64 done))), (10, sS (some s.l.nil) eOp s.l.D), (11, .pv (.lit (.int .i64 (s.l.D.length : Int)))), (12, .pv (.lit (.int .i64 (i : Int))))]) (fun i _v => [(0, .cells [sS (some s.l.nil) eOp s.l.D, .mp 1, .sl 2 0 s.row.D.length 1 false]), (1, mapE kPoint vBool.enc s.been), (2, .cells (encC (eI .i64) s.row.D))]) [0, 1, 2] (fun i _v => allSO_l0 done (s.l.D.drop i) i  = R) () ?_ ?_ (fun i _v h1 hR => ?_)
 · exact hR
 · exact ⟨fun b => b, WeakerR.ofLI (I := [0, 1, 2]) (Ks := [0, 1, 2]) hI ⟨⟨rfl, rfl⟩, ⟨rfl, rfl⟩, ⟨rfl, rfl⟩, ⟨rfl, rfl⟩, ⟨rfl, rfl⟩, trivial⟩ (okH_cons rfl rfl rfl rfl (okH_map rfl rfl rfl (okH_list rfl rfl rfl (okH_nil)))) rfl rfl⟩
 refine Awp.consP C ?_
 refine rvP C (.pv (.lit (.bool (decide ((i : Int) < (s.l.D.length : Int)))))) ?_
 refine rvc_nil ?_
 refine Awp.seq ?_
 refine Awp.cond (b := (decide ((i : Int) < (s.l.D.length : Int)))) rfl (fun h2 => ?_) (fun h2 => ?_)
 ·
  have h3 : i < s.l.D.length := by have := of_decide_eq_true h2; omega
  obtain ⟨x, h4⟩ := getX h3
  rw [drop_at h4] at hR
  refine Awp.skip ?_
  refine Awp.seq ?_
  refine Awp.block ?_
  refine Awp.consP C ?_
  refine rvP C (.pv (.lit (.int .i64 (i : Int)))) ?_
  refine rvc_un (rexec_idxS C rfl rfl rfl rfl rfl rfl x (Int.natCast_nonneg _) h4 ?_)
  refine rvP C (.agg [.pv (.lit (.bool x.write)), .pv (.lit (.string x.value)), .pv (.lit (.int .i64 x.ver)), .pv (.lit (.int .i64 x.began)), .pv (.lit (.int .i64 x.ended))]) ?_
  refine rvc_un (rexec_prim C (δ := { v := .ptr 6 0, new := [(6, .cells [.pv (.lit (.bool false)), .pv (.lit (.string ⟨#[]⟩)), .pv (.lit (.int .i64 0)), .pv (.lit (.int .i64 0)), .pv (.lit (.int .i64 0))])] }) rfl rfl rfl rfl trivial rfl ?_)
  refine rvP C (.pv (.lit (.int .i64 (i : Int)))) ?_
  refine rvc_un (rexec_prim C (δ := { v := .undef, wr := [(6, some (.cells [.pv (.lit (.bool x.write)), .pv (.lit (.string x.value)), .pv (.lit (.int .i64 x.ver)), .pv (.lit (.int .i64 x.began)), .pv (.lit (.int .i64 x.ended))]))] }) rfl rfl rfl rfl trivial rfl ?_)
  refine rvc_nil ?_
  refine Awp.consP C ?_
  refine rvP C (.ptr 6 4) ?_
  refine rvP C (.pv (.lit (.int .i64 x.ended))) ?_
  refine rvP C (.pv (.lit (.bool (x.ended != 0)))) ?_
  refine rvP C (.pv (.lit (.bool (x.ended != 0)))) ?_
  refine rvc_case 20 (x.ended != 0) rfl (fun h5 => ?_) (fun h5 => ?_)
  ·
   replace hR := of_true h5 hR
   refine rvO C (.pv (.lit (.int .u64 done))) ?_
   refine rvO C (.pv (.lit (.int .i64 (i : Int)))) ?_
   refine rvc_open rfl rfl rfl (rexec_call hP C rfl rfl rfl (mHas_calls done (i : Int)) ?_)
   refine rvO C (.pv (.lit (.bool (!(mHas done (i : Int)))))) ?_
   refine rvP C (.pv (.lit (.bool (!(mHas done (i : Int)))))) ?_
   refine rvc_nil ?_
   refine Awp.cond (b := (!(mHas done (i : Int)))) rfl (fun h6 => ?_) (fun h6 => ?_)
   ·
    replace hR := of_true h6 hR
    refine Awp.consP C ?_
    refine rvP C (.pv (.lit (.bool false))) ?_
    refine rvc_nil ?_
    refine Awp.ret ?_
    subst hR
    exact ⟨.inl rfl, rfl, rfl, ⟨rfl, rfl, trivial⟩⟩
   ·
    replace hR := of_false h6 hR
    refine Awp.skip ?_
    refine Awp.regionP C ?_
    refine rvP C (.pv (.lit (.int .i64 (IntKind.i64.wrap ((i : Int) + 1))))) ?_
    refine rvP C (.pv (.lit (.int .i64 (IntKind.i64.wrap ((i : Int) + 1))))) ?_
    refine rvc_nil ?_
    refine ⟨h3, (), ?_, ?_⟩
    · exact hR
    · exact ⟨fun b => b, WeakerR.ofLI (I := [0, 1, 2]) (Ks := [0, 1, 2]) hI ⟨⟨rfl, rfl⟩, ⟨rfl, rfl⟩, ⟨rfl, rfl⟩, ⟨rfl, rfl⟩, ⟨lit_cast (wrap_i64 (by omega) (by omega)), rfl⟩, trivial⟩ (okH_cons rfl rfl rfl rfl (okH_map rfl rfl rfl (okH_list rfl rfl rfl (okH_nil)))) rfl rfl⟩
  ·
   replace hR := of_false h5 hR
   refine rvS ?_
   refine rvS ?_
   refine rvS ?_
   refine rvS ?_
   refine rvP C (.pv (.lit (.bool false))) ?_
   refine rvc_nil ?_
   refine Awp.condF (b := false) rfl rfl ?_
   refine Awp.skip ?_
   refine Awp.regionP C ?_
   refine rvP C (.pv (.lit (.int .i64 (IntKind.i64.wrap ((i : Int) + 1))))) ?_
   refine rvP C (.pv (.lit (.int .i64 (IntKind.i64.wrap ((i : Int) + 1))))) ?_
   refine rvc_nil ?_
   refine ⟨h3, (), ?_, ?_⟩
   · exact hR
   · exact ⟨fun b => b, WeakerR.ofLI (I := [0, 1, 2]) (Ks := [0, 1, 2]) hI ⟨⟨rfl, rfl⟩, ⟨rfl, rfl⟩, ⟨rfl, rfl⟩, ⟨rfl, rfl⟩, ⟨lit_cast (wrap_i64 (by omega) (by omega)), rfl⟩, trivial⟩ (okH_cons rfl rfl rfl rfl (okH_map rfl rfl rfl (okH_list rfl rfl rfl (okH_nil)))) rfl rfl⟩
 ·
  have h3 : ¬ i < s.l.D.length := by have := of_decide_eq_false h2; omega
  rw [drop_end h3] at hR
  refine Awp.exit ?_
  refine Awp.consP C ?_
  refine rvP C (.pv (.lit (.bool true))) ?_
  refine rvc_nil ?_
  refine Awp.ret ?_
  subst hR
  exact ⟨.inl rfl, rfl, rfl, ⟨rfl, rfl, trivial⟩⟩
def allSN_l0 (done : Int) : List Op → Nat → Bool
  | [], _ => true
  | x :: xs, i => (bif (x.ended != 0) then (bif (!(mHas done (i : Int))) then false else allSN_l0 done xs (i + 1) ) else allSN_l0 done xs (i + 1) )
def allSN (s : Search) (done : Int) : Bool :=
  allSN_l0 done s.l.D 0
theorem allSN_calls (s : Search) (done : Int) (hl1 : s.l.D.length ≤ 9223372036854775807) : ObjCalls Try.prog 52 [.ptr 0 0, .pv (.lit (.int .u64 done))] [sS (some s.l.nil) eOp s.l.D, .mp 1, sS (some true) (eI .i64) []] [(1, mapE kPoint vBool.enc s.been)] (.pv (.lit (.bool (allSN s done)))) [sS (some s.l.nil) eOp s.l.D, .mp 1, sS (some true) (eI .i64) []] [(1, mapE kPoint vBool.enc s.been)] := by
 generalize hR : allSN s done = R
 refine ObjCalls.of_body tabOk Try.func52 rfl rfl rfl rfl rfl (allB_cons (mapE_within _ _) allB_nil) (of_decide_eq_true rfl) rfl rfl (allB_cons (mapE_within _ _) allB_nil) (of_decide_eq_true rfl) mixed fun E hP C hI => ?_
 refine Awp.consP C ?_
 refine rvP C (.pv (.lit (.bool false))) ?_
 refine rvc_nil ?_
 refine Awp.seq ?_
 refine Awp.consP C ?_
 refine rvP C (.ptr 0 0) ?_
 refine rvP C (.ptr 0 0) ?_
 refine rvP C (.ptr 0 0) ?_
 refine rvP C (sS (some s.l.nil) eOp s.l.D) ?_
 refine rvP C (.pv (.lit (.int .i64 (s.l.D.length : Int)))) ?_
 refine rvP C (.pv (.lit (.int .i64 0))) ?_
 refine rvc_nil ?_
 refine Awp.block ?_
 refine Awp.forR (σ := Unit) (s.l.D.length) (fun i _v => [(0, .ptr 0 0), (1, .pv (.lit (.int .u64 done))), (10, sS (some s.l.nil) eOp s.l.D), (11, .pv (.lit (.int .i64 (s.l.D.length : Int)))), (12, .pv (.lit (.int .i64 (i : Int))))]) (fun i _v => [(0, .cells [sS (some s.l.nil) eOp s.l.D, .mp 1, sS (some true) (eI .i64) []]), (1, mapE kPoint vBool.enc s.been)]) [0, 1] (fun i _v => allSN_l0 done (s.l.D.drop i) i  = R) () ?_ ?_ (fun i _v h1 hR => ?_)
 · exact hR
 · exact ⟨fun b => b, WeakerR.ofLI (I := [0, 1]) (Ks := [0, 1]) hI ⟨⟨rfl, rfl⟩, ⟨rfl, rfl⟩, ⟨rfl, rfl⟩, ⟨rfl, rfl⟩, ⟨rfl, rfl⟩, trivial⟩ (okH_cons rfl rfl rfl rfl (okH_map rfl rfl rfl (okH_nil))) rfl rfl⟩
 refine Awp.consP C ?_
 refine rvP C (.pv (.lit (.bool (decide ((i : Int) < (s.l.D.length : Int)))))) ?_
 refine rvc_nil ?_
 refine Awp.seq ?_
 refine Awp.cond (b := (decide ((i : Int) < (s.l.D.length : Int)))) rfl (fun h2 => ?_) (fun h2 => ?_)
 ·
  have h3 : i < s.l.D.length := by have := of_decide_eq_true h2; omega
  obtain ⟨x, h4⟩ := getX h3
  rw [drop_at h4] at hR
  refine Awp.skip ?_
  refine Awp.seq ?_
  refine Awp.block ?_
  refine Awp.consP C ?_
  refine rvP C (.pv (.lit (.int .i64 (i : Int)))) ?_
  refine rvc_un (rexec_idxS C rfl rfl rfl rfl rfl rfl x (Int.natCast_nonneg _) h4 ?_)
  refine rvP C (.agg [.pv (.lit (.bool x.write)), .pv (.lit (.string x.value)), .pv (.lit (.int .i64 x.ver)), .pv (.lit (.int .i64 x.began)), .pv (.lit (.int .i64 x.ended))]) ?_
  refine rvc_un (rexec_prim C (δ := { v := .ptr 6 0, new := [(6, .cells [.pv (.lit (.bool false)), .pv (.lit (.string ⟨#[]⟩)), .pv (.lit (.int .i64 0)), .pv (.lit (.int .i64 0)), .pv (.lit (.int .i64 0))])] }) rfl rfl rfl rfl trivial rfl ?_)
  refine rvP C (.pv (.lit (.int .i64 (i : Int)))) ?_
  refine rvc_un (rexec_prim C (δ := { v := .undef, wr := [(6, some (.cells [.pv (.lit (.bool x.write)), .pv (.lit (.string x.value)), .pv (.lit (.int .i64 x.ver)), .pv (.lit (.int .i64 x.began)), .pv (.lit (.int .i64 x.ended))]))] }) rfl rfl rfl rfl trivial rfl ?_)
  refine rvc_nil ?_
  refine Awp.consP C ?_
  refine rvP C (.ptr 6 4) ?_
  refine rvP C (.pv (.lit (.int .i64 x.ended))) ?_
  refine rvP C (.pv (.lit (.bool (x.ended != 0)))) ?_
  refine rvP C (.pv (.lit (.bool (x.ended != 0)))) ?_
  refine rvc_case 20 (x.ended != 0) rfl (fun h5 => ?_) (fun h5 => ?_)
  ·
   replace hR := of_true h5 hR
   refine rvO C (.pv (.lit (.int .u64 done))) ?_
   refine rvO C (.pv (.lit (.int .i64 (i : Int)))) ?_
   refine rvc_open rfl rfl rfl (rexec_call hP C rfl rfl rfl (mHas_calls done (i : Int)) ?_)
   refine rvO C (.pv (.lit (.bool (!(mHas done (i : Int)))))) ?_
   refine rvP C (.pv (.lit (.bool (!(mHas done (i : Int)))))) ?_
   refine rvc_nil ?_
   refine Awp.cond (b := (!(mHas done (i : Int)))) rfl (fun h6 => ?_) (fun h6 => ?_)
   ·
    replace hR := of_true h6 hR
    refine Awp.consP C ?_
    refine rvP C (.pv (.lit (.bool false))) ?_
    refine rvc_nil ?_
    refine Awp.ret ?_
    subst hR
    exact ⟨.inl rfl, rfl, rfl, ⟨rfl, trivial⟩⟩
   ·
    replace hR := of_false h6 hR
    refine Awp.skip ?_
    refine Awp.regionP C ?_
    refine rvP C (.pv (.lit (.int .i64 (IntKind.i64.wrap ((i : Int) + 1))))) ?_
    refine rvP C (.pv (.lit (.int .i64 (IntKind.i64.wrap ((i : Int) + 1))))) ?_
    refine rvc_nil ?_
    refine ⟨h3, (), ?_, ?_⟩
    · exact hR
    · exact ⟨fun b => b, WeakerR.ofLI (I := [0, 1]) (Ks := [0, 1]) hI ⟨⟨rfl, rfl⟩, ⟨rfl, rfl⟩, ⟨rfl, rfl⟩, ⟨rfl, rfl⟩, ⟨lit_cast (wrap_i64 (by omega) (by omega)), rfl⟩, trivial⟩ (okH_cons rfl rfl rfl rfl (okH_map rfl rfl rfl (okH_nil))) rfl rfl⟩
  ·
   replace hR := of_false h5 hR
   refine rvS ?_
   refine rvS ?_
   refine rvS ?_
   refine rvS ?_
   refine rvP C (.pv (.lit (.bool false))) ?_
   refine rvc_nil ?_
   refine Awp.condF (b := false) rfl rfl ?_
   refine Awp.skip ?_
   refine Awp.regionP C ?_
   refine rvP C (.pv (.lit (.int .i64 (IntKind.i64.wrap ((i : Int) + 1))))) ?_
   refine rvP C (.pv (.lit (.int .i64 (IntKind.i64.wrap ((i : Int) + 1))))) ?_
   refine rvc_nil ?_
   refine ⟨h3, (), ?_, ?_⟩
   · exact hR
   · exact ⟨fun b => b, WeakerR.ofLI (I := [0, 1]) (Ks := [0, 1]) hI ⟨⟨rfl, rfl⟩, ⟨rfl, rfl⟩, ⟨rfl, rfl⟩, ⟨rfl, rfl⟩, ⟨lit_cast (wrap_i64 (by omega) (by omega)), rfl⟩, trivial⟩ (okH_cons rfl rfl rfl rfl (okH_map rfl rfl rfl (okH_nil))) rfl rfl⟩
 ·
  have h3 : ¬ i < s.l.D.length := by have := of_decide_eq_false h2; omega
  rw [drop_end h3] at hR
  refine Awp.exit ?_
  refine Awp.consP C ?_
  refine rvP C (.pv (.lit (.bool true))) ?_
  refine rvc_nil ?_
  refine Awp.ret ?_
  subst hR
  exact ⟨.inl rfl, rfl, rfl, ⟨rfl, trivial⟩⟩
def firstSO_l0 (s : Search) (i : Int) (done : Int) : List Op → Nat → Bool
  | [], _ => true
  | x :: xs, i1 => (bif ((i1 : Int) != i) then (bif (!(mHas done (i1 : Int))) then (bif (decide ((over x) < (s.l.D[i.toNat]!.began))) then false else firstSO_l0 s i done xs (i1 + 1) ) else firstSO_l0 s i done xs (i1 + 1) ) else firstSO_l0 s i done xs (i1 + 1) )
def firstSO (s : Search) (i : Int) (done : Int) : Bool :=
  firstSO_l0 s i done s.l.D 0
theorem firstSO_calls (s : Search) (i : Int) (done : Int) (hi : 0 ≤ i ∧ i < (s.l.D.length : Int)) (hl1 : s.l.D.length ≤ 9223372036854775807) : ObjCalls Try.prog 50 [.ptr 0 0, .pv (.lit (.int .i64 i)), .pv (.lit (.int .u64 done))] [sS (some s.l.nil) eOp s.l.D, .mp 1, .sl 2 0 s.row.D.length 1 false] [(1, mapE kPoint vBool.enc s.been), (2, .cells (encC (eI .i64) s.row.D))] (.pv (.lit (.bool (firstSO s i done)))) [sS (some s.l.nil) eOp s.l.D, .mp 1, .sl 2 0 s.row.D.length 1 false] [(1, mapE kPoint vBool.enc s.been), (2, .cells (encC (eI .i64) s.row.D))] := by
 generalize hR : firstSO s i done = R
 refine ObjCalls.of_body tabOk Try.func50 rfl rfl rfl rfl rfl (allB_cons (mapE_within _ _) (allB_cons (encC_within _ _) allB_nil)) (of_decide_eq_true rfl) rfl rfl (allB_cons (mapE_within _ _) (allB_cons (encC_within _ _) allB_nil)) (of_decide_eq_true rfl) mixed fun E hP C hI => ?_
 refine Awp.consP C ?_
 refine rvP C (.pv (.lit (.bool false))) ?_
 refine rvc_nil ?_
 refine Awp.seq ?_
 refine Awp.consP C ?_
 refine rvP C (.ptr 0 0) ?_
 refine rvP C (.ptr 0 0) ?_
 refine rvP C (.ptr 0 0) ?_
 refine rvP C (sS (some s.l.nil) eOp s.l.D) ?_
 refine rvP C (.pv (.lit (.int .i64 (s.l.D.length : Int)))) ?_
 refine rvP C (.pv (.lit (.int .i64 0))) ?_
 refine rvc_nil ?_
 refine Awp.block ?_
 refine Awp.forR (σ := Unit) (s.l.D.length) (fun i1 _v => [(0, .ptr 0 0), (1, .pv (.lit (.int .i64 i))), (2, .pv (.lit (.int .u64 done))), (12, sS (some s.l.nil) eOp s.l.D), (13, .pv (.lit (.int .i64 (s.l.D.length : Int)))), (14, .pv (.lit (.int .i64 (i1 : Int))))]) (fun i1 _v => [(0, .cells [sS (some s.l.nil) eOp s.l.D, .mp 1, .sl 2 0 s.row.D.length 1 false]), (1, mapE kPoint vBool.enc s.been), (2, .cells (encC (eI .i64) s.row.D))]) [0, 1, 2] (fun i1 _v => firstSO_l0 s i done (s.l.D.drop i1) i1  = R) () ?_ ?_ (fun i1 _v h1 hR => ?_)
 · exact hR
 · exact ⟨fun b => b, WeakerR.ofLI (I := [0, 1, 2]) (Ks := [0, 1, 2]) hI ⟨⟨rfl, rfl⟩, ⟨rfl, rfl⟩, ⟨rfl, rfl⟩, ⟨rfl, rfl⟩, ⟨rfl, rfl⟩, ⟨rfl, rfl⟩, trivial⟩ (okH_cons rfl rfl rfl rfl (okH_map rfl rfl rfl (okH_list rfl rfl rfl (okH_nil)))) rfl rfl⟩
 refine Awp.consP C ?_
 refine rvP C (.pv (.lit (.bool (decide ((i1 : Int) < (s.l.D.length : Int)))))) ?_
 refine rvc_nil ?_
 refine Awp.seq ?_
 refine Awp.cond (b := (decide ((i1 : Int) < (s.l.D.length : Int)))) rfl (fun h2 => ?_) (fun h2 => ?_)
 ·
  have h3 : i1 < s.l.D.length := by have := of_decide_eq_true h2; omega
  obtain ⟨x, h4⟩ := getX h3
  rw [drop_at h4] at hR
  refine Awp.skip ?_
  refine Awp.seq ?_
  refine Awp.block ?_
  refine Awp.consP C ?_
  refine rvP C (.pv (.lit (.int .i64 (i1 : Int)))) ?_
  refine rvc_un (rexec_idxS C rfl rfl rfl rfl rfl rfl x (Int.natCast_nonneg _) h4 ?_)
  refine rvP C (.agg [.pv (.lit (.bool x.write)), .pv (.lit (.string x.value)), .pv (.lit (.int .i64 x.ver)), .pv (.lit (.int .i64 x.began)), .pv (.lit (.int .i64 x.ended))]) ?_
  refine rvc_un (rexec_prim C (δ := { v := .ptr 8 0, new := [(8, .cells [.pv (.lit (.bool false)), .pv (.lit (.string ⟨#[]⟩)), .pv (.lit (.int .i64 0)), .pv (.lit (.int .i64 0)), .pv (.lit (.int .i64 0))])] }) rfl rfl rfl rfl trivial rfl ?_)
  refine rvP C (.pv (.lit (.int .i64 (i1 : Int)))) ?_
  refine rvc_un (rexec_prim C (δ := { v := .undef, wr := [(8, some (.cells [.pv (.lit (.bool x.write)), .pv (.lit (.string x.value)), .pv (.lit (.int .i64 x.ver)), .pv (.lit (.int .i64 x.began)), .pv (.lit (.int .i64 x.ended))]))] }) rfl rfl rfl rfl trivial rfl ?_)
  refine rvc_nil ?_
  refine Awp.consP C ?_
  refine rvP C (.pv (.lit (.int .i64 (i1 : Int)))) ?_
  refine rvP C (.pv (.lit (.int .i64 i))) ?_
  refine rvP C (.pv (.lit (.bool ((i1 : Int) != i)))) ?_
  refine rvP C (.pv (.lit (.bool ((i1 : Int) != i)))) ?_
  refine rvc_case 22 ((i1 : Int) != i) rfl (fun h5 => ?_) (fun h5 => ?_)
  ·
   replace hR := of_true h5 hR
   refine rvO C (.pv (.lit (.int .u64 done))) ?_
   refine rvO C (.pv (.lit (.int .i64 (i1 : Int)))) ?_
   refine rvc_open rfl rfl rfl (rexec_call hP C rfl rfl rfl (mHas_calls done (i1 : Int)) ?_)
   refine rvO C (.pv (.lit (.bool (!(mHas done (i1 : Int)))))) ?_
   refine rvP C (.pv (.lit (.bool (!(mHas done (i1 : Int)))))) ?_
   refine rvP C (.pv (.lit (.bool (!(mHas done (i1 : Int)))))) ?_
   refine rvc_case 28 (!(mHas done (i1 : Int))) rfl (fun h6 => ?_) (fun h6 => ?_)
   ·
    replace hR := of_true h6 hR
    refine rvO C (.agg [.pv (.lit (.bool x.write)), .pv (.lit (.string x.value)), .pv (.lit (.int .i64 x.ver)), .pv (.lit (.int .i64 x.began)), .pv (.lit (.int .i64 x.ended))]) ?_
    refine rvc_open rfl rfl rfl (rexec_call hP C rfl rfl rfl (over_calls x) ?_)
    refine rvO C (.ptr 0 0) ?_
    refine rvO C (.ptr 0 0) ?_
    refine rvO C (.ptr 0 0) ?_
    refine rvO C (sS (some s.l.nil) eOp s.l.D) ?_
    refine rvO C (.pv (.lit (.int .i64 i))) ?_
    have h7 : s.l.D[i.toNat]? = some s.l.D[i.toNat]! := getE (by have := of_decide_eq_true h2; have := bne_iff_ne.1 h5; omega)
    refine rvc_open rfl rfl rfl (rexec_idxS C rfl rfl rfl rfl rfl rfl (s.l.D[i.toNat]!) (by have := of_decide_eq_true h2; have := bne_iff_ne.1 h5; omega) h7 ?_)
    refine rvO C (.rp [.lit (.int .i64 (s.l.D[i.toNat]!.began))]) ?_
    refine rvO C (.pv (.lit (.int .i64 (s.l.D[i.toNat]!.began)))) ?_
    refine rvO C (.pv (.lit (.bool (decide ((over x) < (s.l.D[i.toNat]!.began)))))) ?_
    refine rvP C (.pv (.lit (.bool (decide ((over x) < (s.l.D[i.toNat]!.began)))))) ?_
    refine rvc_nil ?_
    refine Awp.cond (b := (decide ((over x) < (s.l.D[i.toNat]!.began)))) rfl (fun h8 => ?_) (fun h8 => ?_)
    ·
     replace hR := of_true h8 hR
     refine Awp.consP C ?_
     refine rvP C (.pv (.lit (.bool false))) ?_
     refine rvc_nil ?_
     refine Awp.ret ?_
     subst hR
     exact ⟨.inl rfl, rfl, rfl, ⟨rfl, rfl, trivial⟩⟩
    ·
     replace hR := of_false h8 hR
     refine Awp.skip ?_
     refine Awp.regionP C ?_
     refine rvP C (.pv (.lit (.int .i64 (IntKind.i64.wrap ((i1 : Int) + 1))))) ?_
     refine rvP C (.pv (.lit (.int .i64 (IntKind.i64.wrap ((i1 : Int) + 1))))) ?_
     refine rvc_nil ?_
     refine ⟨h3, (), ?_, ?_⟩
     · exact hR
     · exact ⟨fun b => b, WeakerR.ofLI (I := [0, 1, 2]) (Ks := [0, 1, 2]) hI ⟨⟨rfl, rfl⟩, ⟨rfl, rfl⟩, ⟨rfl, rfl⟩, ⟨rfl, rfl⟩, ⟨rfl, rfl⟩, ⟨lit_cast (wrap_i64 (by omega) (by omega)), rfl⟩, trivial⟩ (okH_cons rfl rfl rfl rfl (okH_map rfl rfl rfl (okH_list rfl rfl rfl (okH_nil)))) rfl rfl⟩
   ·
    replace hR := of_false h6 hR
    refine rvS ?_
    refine rvS ?_
    refine rvS ?_
    refine rvS ?_
    refine rvS ?_
    refine rvS ?_
    refine rvS ?_
    refine rvS ?_
    refine rvS ?_
    refine rvS ?_
    refine rvS ?_
    refine rvP C (.pv (.lit (.bool false))) ?_
    refine rvc_nil ?_
    refine Awp.condF (b := false) rfl rfl ?_
    refine Awp.skip ?_
    refine Awp.regionP C ?_
    refine rvP C (.pv (.lit (.int .i64 (IntKind.i64.wrap ((i1 : Int) + 1))))) ?_
    refine rvP C (.pv (.lit (.int .i64 (IntKind.i64.wrap ((i1 : Int) + 1))))) ?_
    refine rvc_nil ?_
    refine ⟨h3, (), ?_, ?_⟩
    · exact hR
    · exact ⟨fun b => b, WeakerR.ofLI (I := [0, 1, 2]) (Ks := [0, 1, 2]) hI ⟨⟨rfl, rfl⟩, ⟨rfl, rfl⟩, ⟨rfl, rfl⟩, ⟨rfl, rfl⟩, ⟨rfl, rfl⟩, ⟨lit_cast (wrap_i64 (by omega) (by omega)), rfl⟩, trivial⟩ (okH_cons rfl rfl rfl rfl (okH_map rfl rfl rfl (okH_list rfl rfl rfl (okH_nil)))) rfl rfl⟩
  ·
   replace hR := of_false h5 hR
   refine rvS ?_
   refine rvS ?_
   refine rvS ?_
   refine rvS ?_
   refine rvP C (.pv (.lit (.bool false))) ?_
   refine rvP C (.pv (.lit (.bool false))) ?_
   refine rvS ?_
   refine rvS ?_
   refine rvS ?_
   refine rvS ?_
   refine rvS ?_
   refine rvS ?_
   refine rvS ?_
   refine rvS ?_
   refine rvS ?_
   refine rvS ?_
   refine rvS ?_
   refine rvP C (.pv (.lit (.bool false))) ?_
   refine rvc_nil ?_
   refine Awp.condF (b := false) rfl rfl ?_
   refine Awp.skip ?_
   refine Awp.regionP C ?_
   refine rvP C (.pv (.lit (.int .i64 (IntKind.i64.wrap ((i1 : Int) + 1))))) ?_
   refine rvP C (.pv (.lit (.int .i64 (IntKind.i64.wrap ((i1 : Int) + 1))))) ?_
   refine rvc_nil ?_
   refine ⟨h3, (), ?_, ?_⟩
   · exact hR
   · exact ⟨fun b => b, WeakerR.ofLI (I := [0, 1, 2]) (Ks := [0, 1, 2]) hI ⟨⟨rfl, rfl⟩, ⟨rfl, rfl⟩, ⟨rfl, rfl⟩, ⟨rfl, rfl⟩, ⟨rfl, rfl⟩, ⟨lit_cast (wrap_i64 (by omega) (by omega)), rfl⟩, trivial⟩ (okH_cons rfl rfl rfl rfl (okH_map rfl rfl rfl (okH_list rfl rfl rfl (okH_nil)))) rfl rfl⟩
 ·
  have h3 : ¬ i1 < s.l.D.length := by have := of_decide_eq_false h2; omega
  rw [drop_end h3] at hR
  refine Awp.exit ?_
  refine Awp.consP C ?_
  refine rvP C (.pv (.lit (.bool true))) ?_
  refine rvc_nil ?_
  refine Awp.ret ?_
  subst hR
  exact ⟨.inl rfl, rfl, rfl, ⟨rfl, rfl, trivial⟩⟩
def firstSN_l0 (s : Search) (i : Int) (done : Int) : List Op → Nat → Bool
  | [], _ => true
  | x :: xs, i1 => (bif ((i1 : Int) != i) then (bif (!(mHas done (i1 : Int))) then (bif (decide ((over x) < (s.l.D[i.toNat]!.began))) then false else firstSN_l0 s i done xs (i1 + 1) ) else firstSN_l0 s i done xs (i1 + 1) ) else firstSN_l0 s i done xs (i1 + 1) )
def firstSN (s : Search) (i : Int) (done : Int) : Bool :=
  firstSN_l0 s i done s.l.D 0
theorem firstSN_calls (s : Search) (i : Int) (done : Int) (hi : 0 ≤ i ∧ i < (s.l.D.length : Int)) (hl1 : s.l.D.length ≤ 9223372036854775807) : ObjCalls Try.prog 50 [.ptr 0 0, .pv (.lit (.int .i64 i)), .pv (.lit (.int .u64 done))] [sS (some s.l.nil) eOp s.l.D, .mp 1, sS (some true) (eI .i64) []] [(1, mapE kPoint vBool.enc s.been)] (.pv (.lit (.bool (firstSN s i done)))) [sS (some s.l.nil) eOp s.l.D, .mp 1, sS (some true) (eI .i64) []] [(1, mapE kPoint vBool.enc s.been)] := by
 generalize hR : firstSN s i done = R
 refine ObjCalls.of_body tabOk Try.func50 rfl rfl rfl rfl rfl (allB_cons (mapE_within _ _) allB_nil) (of_decide_eq_true rfl) rfl rfl (allB_cons (mapE_within _ _) allB_nil) (of_decide_eq_true rfl) mixed fun E hP C hI => ?_
 refine Awp.consP C ?_
 refine rvP C (.pv (.lit (.bool false))) ?_
 refine rvc_nil ?_
 refine Awp.seq ?_
 refine Awp.consP C ?_
 refine rvP C (.ptr 0 0) ?_
 refine rvP C (.ptr 0 0) ?_
 refine rvP C (.ptr 0 0) ?_
 refine rvP C (sS (some s.l.nil) eOp s.l.D) ?_
 refine rvP C (.pv (.lit (.int .i64 (s.l.D.length : Int)))) ?_
 refine rvP C (.pv (.lit (.int .i64 0))) ?_
 refine rvc_nil ?_
 refine Awp.block ?_
 refine Awp.forR (σ := Unit) (s.l.D.length) (fun i1 _v => [(0, .ptr 0 0), (1, .pv (.lit (.int .i64 i))), (2, .pv (.lit (.int .u64 done))), (12, sS (some s.l.nil) eOp s.l.D), (13, .pv (.lit (.int .i64 (s.l.D.length : Int)))), (14, .pv (.lit (.int .i64 (i1 : Int))))]) (fun i1 _v => [(0, .cells [sS (some s.l.nil) eOp s.l.D, .mp 1, sS (some true) (eI .i64) []]), (1, mapE kPoint vBool.enc s.been)]) [0, 1] (fun i1 _v => firstSN_l0 s i done (s.l.D.drop i1) i1  = R) () ?_ ?_ (fun i1 _v h1 hR => ?_)
 · exact hR
 · exact ⟨fun b => b, WeakerR.ofLI (I := [0, 1]) (Ks := [0, 1]) hI ⟨⟨rfl, rfl⟩, ⟨rfl, rfl⟩, ⟨rfl, rfl⟩, ⟨rfl, rfl⟩, ⟨rfl, rfl⟩, ⟨rfl, rfl⟩, trivial⟩ (okH_cons rfl rfl rfl rfl (okH_map rfl rfl rfl (okH_nil))) rfl rfl⟩
 refine Awp.consP C ?_
 refine rvP C (.pv (.lit (.bool (decide ((i1 : Int) < (s.l.D.length : Int)))))) ?_
 refine rvc_nil ?_
 refine Awp.seq ?_
 refine Awp.cond (b := (decide ((i1 : Int) < (s.l.D.length : Int)))) rfl (fun h2 => ?_) (fun h2 => ?_)
 ·
  have h3 : i1 < s.l.D.length := by have := of_decide_eq_true h2; omega
  obtain ⟨x, h4⟩ := getX h3
  rw [drop_at h4] at hR
  refine Awp.skip ?_
  refine Awp.seq ?_
  refine Awp.block ?_
  refine Awp.consP C ?_
  refine rvP C (.pv (.lit (.int .i64 (i1 : Int)))) ?_
  refine rvc_un (rexec_idxS C rfl rfl rfl rfl rfl rfl x (Int.natCast_nonneg _) h4 ?_)
  refine rvP C (.agg [.pv (.lit (.bool x.write)), .pv (.lit (.string x.value)), .pv (.lit (.int .i64 x.ver)), .pv (.lit (.int .i64 x.began)), .pv (.lit (.int .i64 x.ended))]) ?_
  refine rvc_un (rexec_prim C (δ := { v := .ptr 8 0, new := [(8, .cells [.pv (.lit (.bool false)), .pv (.lit (.string ⟨#[]⟩)), .pv (.lit (.int .i64 0)), .pv (.lit (.int .i64 0)), .pv (.lit (.int .i64 0))])] }) rfl rfl rfl rfl trivial rfl ?_)
  refine rvP C (.pv (.lit (.int .i64 (i1 : Int)))) ?_
  refine rvc_un (rexec_prim C (δ := { v := .undef, wr := [(8, some (.cells [.pv (.lit (.bool x.write)), .pv (.lit (.string x.value)), .pv (.lit (.int .i64 x.ver)), .pv (.lit (.int .i64 x.began)), .pv (.lit (.int .i64 x.ended))]))] }) rfl rfl rfl rfl trivial rfl ?_)
  refine rvc_nil ?_
  refine Awp.consP C ?_
  refine rvP C (.pv (.lit (.int .i64 (i1 : Int)))) ?_
  refine rvP C (.pv (.lit (.int .i64 i))) ?_
  refine rvP C (.pv (.lit (.bool ((i1 : Int) != i)))) ?_
  refine rvP C (.pv (.lit (.bool ((i1 : Int) != i)))) ?_
  refine rvc_case 22 ((i1 : Int) != i) rfl (fun h5 => ?_) (fun h5 => ?_)
  ·
   replace hR := of_true h5 hR
   refine rvO C (.pv (.lit (.int .u64 done))) ?_
   refine rvO C (.pv (.lit (.int .i64 (i1 : Int)))) ?_
   refine rvc_open rfl rfl rfl (rexec_call hP C rfl rfl rfl (mHas_calls done (i1 : Int)) ?_)
   refine rvO C (.pv (.lit (.bool (!(mHas done (i1 : Int)))))) ?_
   refine rvP C (.pv (.lit (.bool (!(mHas done (i1 : Int)))))) ?_
   refine rvP C (.pv (.lit (.bool (!(mHas done (i1 : Int)))))) ?_
   refine rvc_case 28 (!(mHas done (i1 : Int))) rfl (fun h6 => ?_) (fun h6 => ?_)
   ·
    replace hR := of_true h6 hR
    refine rvO C (.agg [.pv (.lit (.bool x.write)), .pv (.lit (.string x.value)), .pv (.lit (.int .i64 x.ver)), .pv (.lit (.int .i64 x.began)), .pv (.lit (.int .i64 x.ended))]) ?_
    refine rvc_open rfl rfl rfl (rexec_call hP C rfl rfl rfl (over_calls x) ?_)
    refine rvO C (.ptr 0 0) ?_
    refine rvO C (.ptr 0 0) ?_
    refine rvO C (.ptr 0 0) ?_
    refine rvO C (sS (some s.l.nil) eOp s.l.D) ?_
    refine rvO C (.pv (.lit (.int .i64 i))) ?_
    have h7 : s.l.D[i.toNat]? = some s.l.D[i.toNat]! := getE (by have := of_decide_eq_true h2; have := bne_iff_ne.1 h5; omega)
    refine rvc_open rfl rfl rfl (rexec_idxS C rfl rfl rfl rfl rfl rfl (s.l.D[i.toNat]!) (by have := of_decide_eq_true h2; have := bne_iff_ne.1 h5; omega) h7 ?_)
    refine rvO C (.rp [.lit (.int .i64 (s.l.D[i.toNat]!.began))]) ?_
    refine rvO C (.pv (.lit (.int .i64 (s.l.D[i.toNat]!.began)))) ?_
    refine rvO C (.pv (.lit (.bool (decide ((over x) < (s.l.D[i.toNat]!.began)))))) ?_
    refine rvP C (.pv (.lit (.bool (decide ((over x) < (s.l.D[i.toNat]!.began)))))) ?_
    refine rvc_nil ?_
    refine Awp.cond (b := (decide ((over x) < (s.l.D[i.toNat]!.began)))) rfl (fun h8 => ?_) (fun h8 => ?_)
    ·
     replace hR := of_true h8 hR
     refine Awp.consP C ?_
     refine rvP C (.pv (.lit (.bool false))) ?_
     refine rvc_nil ?_
     refine Awp.ret ?_
     subst hR
     exact ⟨.inl rfl, rfl, rfl, ⟨rfl, trivial⟩⟩
    ·
     replace hR := of_false h8 hR
     refine Awp.skip ?_
     refine Awp.regionP C ?_
     refine rvP C (.pv (.lit (.int .i64 (IntKind.i64.wrap ((i1 : Int) + 1))))) ?_
     refine rvP C (.pv (.lit (.int .i64 (IntKind.i64.wrap ((i1 : Int) + 1))))) ?_
     refine rvc_nil ?_
     refine ⟨h3, (), ?_, ?_⟩
     · exact hR
     · exact ⟨fun b => b, WeakerR.ofLI (I := [0, 1]) (Ks := [0, 1]) hI ⟨⟨rfl, rfl⟩, ⟨rfl, rfl⟩, ⟨rfl, rfl⟩, ⟨rfl, rfl⟩, ⟨rfl, rfl⟩, ⟨lit_cast (wrap_i64 (by omega) (by omega)), rfl⟩, trivial⟩ (okH_cons rfl rfl rfl rfl (okH_map rfl rfl rfl (okH_nil))) rfl rfl⟩
   ·
    replace hR := of_false h6 hR
    refine rvS ?_
    refine rvS ?_
    refine rvS ?_
    refine rvS ?_
    refine rvS ?_
    refine rvS ?_
    refine rvS ?_
    refine rvS ?_
    refine rvS ?_
    refine rvS ?_
    refine rvS ?_
    refine rvP C (.pv (.lit (.bool false))) ?_
    refine rvc_nil ?_
    refine Awp.condF (b := false) rfl rfl ?_
    refine Awp.skip ?_
    refine Awp.regionP C ?_
    refine rvP C (.pv (.lit (.int .i64 (IntKind.i64.wrap ((i1 : Int) + 1))))) ?_
    refine rvP C (.pv (.lit (.int .i64 (IntKind.i64.wrap ((i1 : Int) + 1))))) ?_
    refine rvc_nil ?_
    refine ⟨h3, (), ?_, ?_⟩
    · exact hR
    · exact ⟨fun b => b, WeakerR.ofLI (I := [0, 1]) (Ks := [0, 1]) hI ⟨⟨rfl, rfl⟩, ⟨rfl, rfl⟩, ⟨rfl, rfl⟩, ⟨rfl, rfl⟩, ⟨rfl, rfl⟩, ⟨lit_cast (wrap_i64 (by omega) (by omega)), rfl⟩, trivial⟩ (okH_cons rfl rfl rfl rfl (okH_map rfl rfl rfl (okH_nil))) rfl rfl⟩
  ·
   replace hR := of_false h5 hR
   refine rvS ?_
   refine rvS ?_
   refine rvS ?_
   refine rvS ?_
   refine rvP C (.pv (.lit (.bool false))) ?_
   refine rvP C (.pv (.lit (.bool false))) ?_
   refine rvS ?_
   refine rvS ?_
   refine rvS ?_
   refine rvS ?_
   refine rvS ?_
   refine rvS ?_
   refine rvS ?_
   refine rvS ?_
   refine rvS ?_
   refine rvS ?_
   refine rvS ?_
   refine rvP C (.pv (.lit (.bool false))) ?_
   refine rvc_nil ?_
   refine Awp.condF (b := false) rfl rfl ?_
   refine Awp.skip ?_
   refine Awp.regionP C ?_
   refine rvP C (.pv (.lit (.int .i64 (IntKind.i64.wrap ((i1 : Int) + 1))))) ?_
   refine rvP C (.pv (.lit (.int .i64 (IntKind.i64.wrap ((i1 : Int) + 1))))) ?_
   refine rvc_nil ?_
   refine ⟨h3, (), ?_, ?_⟩
   · exact hR
   · exact ⟨fun b => b, WeakerR.ofLI (I := [0, 1]) (Ks := [0, 1]) hI ⟨⟨rfl, rfl⟩, ⟨rfl, rfl⟩, ⟨rfl, rfl⟩, ⟨rfl, rfl⟩, ⟨rfl, rfl⟩, ⟨lit_cast (wrap_i64 (by omega) (by omega)), rfl⟩, trivial⟩ (okH_cons rfl rfl rfl rfl (okH_map rfl rfl rfl (okH_nil))) rfl rfl⟩
 ·
  have h3 : ¬ i1 < s.l.D.length := by have := of_decide_eq_false h2; omega
  rw [drop_end h3] at hR
  refine Awp.exit ?_
  refine Awp.consP C ?_
  refine rvP C (.pv (.lit (.bool true))) ?_
  refine rvc_nil ?_
  refine Awp.ret ?_
  subst hR
  exact ⟨.inl rfl, rfl, rfl, ⟨rfl, trivial⟩⟩
theorem wrap64 (n : Int) : IntKind.u64.wrap n = n % 18446744073709551616 := by
  simp [IntKind.wrap, IntKind.bits, IntKind.signed]
theorem bv64 (a : Nat) (h : a < 18446744073709551616) : (BitVec.ofInt 64 (a : Int)).toNat = a := by
  rw [BitVec.toNat_ofInt]
  have : ((2 ^ 64 : Nat) : Int) = 18446744073709551616 := by decide
  rw [this]; omega
theorem or64 {a b : Nat} (ha : a < 18446744073709551616) (hb : b < 18446744073709551616) : bitI .or .u64 a b = ((a ||| b : Nat) : Int) := by
  have : a ||| b < 18446744073709551616 := Nat.or_lt_two_pow (n := 64) ha hb
  show IntKind.u64.wrap (((BitVec.ofInt 64 (a : Int) ||| BitVec.ofInt 64 (b : Int) : BitVec 64).toNat : Nat) : Int) = _
  rw [BitVec.toNat_or, bv64 a ha, bv64 b hb, wrap64]; omega
theorem and64 {a b : Nat} (ha : a < 18446744073709551616) (hb : b < 18446744073709551616) : bitI .and .u64 a b = ((a &&& b : Nat) : Int) := by
  have : a &&& b < 18446744073709551616 := Nat.lt_of_le_of_lt Nat.and_le_left ha
  show IntKind.u64.wrap (((BitVec.ofInt 64 (a : Int) &&& BitVec.ofInt 64 (b : Int) : BitVec 64).toNat : Nat) : Int) = _
  rw [BitVec.toNat_and, bv64 a ha, bv64 b hb, wrap64]; omega
theorem shr64 {a n : Nat} (hn : n < 64) : shrI .u64 (a : Int) (n : Int) = ((a >>> n : Nat) : Int) := by
  show (a : Int) / 2 ^ (min ((n : Int).toNat) 64) = _
  rw [Int.toNat_natCast, Nat.min_eq_left (by omega), Nat.shiftRight_eq_div_pow]
  simp
theorem shl64 {n : Nat} (hn : n < 64) : shlI .u64 1 (n : Int) = ((2 ^ n : Nat) : Int) := by
  show IntKind.u64.wrap (1 * 2 ^ (min ((n : Int).toNat) 64)) = _
  have h : 2 ^ n < 2 ^ 64 := Nat.pow_lt_pow_right (by decide) hn
  have h' : (2 : Nat) ^ 64 = 18446744073709551616 := by decide
  rw [Int.toNat_natCast, Nat.min_eq_left (by omega), wrap64, Int.one_mul]
  have e : (2 : Int) ^ n = ((2 ^ n : Nat) : Int) := by simp
  rw [e]
  rw [h'] at h
  clear e h'
  generalize (2 : Nat) ^ n = p at h ⊢
  omega
theorem in_nat {n : Nat} : mIn (n : Int) = decide (n < 64) := by
  unfold mIn
  have h0 : decide ((n : Int) ≥ 0) = true := by simp
  rw [h0]
  simp only [cond_true]
  congr 1
  exact propext ⟨fun h => by omega, fun h => by omega⟩
theorem has_nat {S n : Nat} (hS : S < 18446744073709551616) (hn : n < 64) : mHas (S : Int) (n : Int) = S.testBit n := by
  unfold mHas
  have hlt : S >>> n < 18446744073709551616 := Nat.lt_of_le_of_lt (Nat.shiftRight_le _ _) hS
  have h1 : (1 : Int) = ((1 : Nat) : Int) := rfl
  rw [in_nat, decide_eq_true hn, cond_true, shr64 hn, h1, and64 hlt (by decide)]
  rw [Nat.testBit_eq_decide_div_mod_eq, Nat.and_one_is_mod, Nat.shiftRight_eq_div_pow]
  by_cases h : S / 2 ^ n % 2 = 1
  · simp [h]
  · have : S / 2 ^ n % 2 = 0 := by omega
    simp [this]
theorem with_nat {S n : Nat} (hS : S < 18446744073709551616) (hn : n < 64) : mWith (S : Int) (n : Int) = ((S ||| 2 ^ n : Nat) : Int) := by
  unfold mWith
  have h : 2 ^ n < 2 ^ 64 := Nat.pow_lt_pow_right (by decide) hn
  have h' : (2 : Nat) ^ 64 = 18446744073709551616 := by decide
  rw [in_nat, decide_eq_true hn, Bool.not_true, cond_false, shl64 hn, or64 hS (by omega)]
theorem with_lt {S n : Nat} (hS : S < 18446744073709551616) (hn : n < 64) : S ||| 2 ^ n < 18446744073709551616 :=
  Nat.or_lt_two_pow (n := 64) hS (Nat.pow_lt_pow_right (by decide) hn)
theorem has_with {S n m : Nat} (hS : S < 18446744073709551616) (hn : n < 64) (hm : m < 64) : mHas (mWith (S : Int) (n : Int)) (m : Int) = (mHas (S : Int) (m : Int) || decide (n = m)) := by
  rw [with_nat hS hn, has_nat (with_lt hS hn) hm, has_nat hS hm, Nat.testBit_or, Nat.testBit_two_pow]
def okD (d : Int) : Prop := 0 ≤ d ∧ d < 18446744073709551616
theorem okD_nat {d : Int} (h : okD d) : ∃ S : Nat, d = (S : Int) ∧ S < 18446744073709551616 := ⟨d.toNat, by obtain ⟨h1, h2⟩ := h; omega, by obtain ⟨h1, h2⟩ := h; omega⟩
theorem okD_cast {S : Nat} (h : S < 18446744073709551616) : okD (S : Int) := ⟨by omega, by omega⟩
theorem with_okD {d : Int} (h : okD d) {n : Nat} (hn : n < 64) : okD (mWith d (n : Int)) := by
  obtain ⟨S, rfl, hS⟩ := okD_nat h
  rw [with_nat hS hn]
  exact okD_cast (with_lt hS hn)
theorem has_withD {d : Int} (h : okD d) {n m : Nat} (hn : n < 64) (hm : m < 64) : mHas (mWith d (n : Int)) (m : Int) = (mHas d (m : Int) || decide (n = m)) := by
  obtain ⟨S, rfl, hS⟩ := okD_nat h
  exact has_with hS hn hm
theorem countP_lt' {p q : Nat → Bool} {a : Nat} : ∀ {l : List Nat}, (∀ x ∈ l, q x = true → p x = true) → a ∈ l → p a = true → q a = false → l.countP q < l.countP p
  | [], _, ha, _, _ => by cases ha
  | x :: xs, hqp, ha, hp, hq => by
    have hx := hqp x List.mem_cons_self
    have hm : xs.countP q ≤ xs.countP p := List.countP_mono_left fun y hy => hqp y (List.mem_cons_of_mem _ hy)
    rw [List.countP_cons, List.countP_cons]
    rcases List.mem_cons.1 ha with rfl | h
    · rw [hp, hq]; simp; omega
    · have := countP_lt' (fun y hy => hqp y (List.mem_cons_of_mem _ hy)) h hp hq
      cases h1 : q x
      · simp; omega
      · rw [hx h1]; simp; omega
def mu (l : List Op) (d : Int) : Nat := (List.range l.length).countP fun (i : Nat) => !mHas d (i : Int)
theorem mu_with {l : List Op} {d : Int} {i : Nat} (hl : l.length ≤ 64) (h : okD d) (hi : i < l.length) (hn : mHas d (i : Int) = false) : mu l (mWith d (i : Int)) < mu l d := by
  refine countP_lt' (a := i) (fun x hx => ?_) (List.mem_range.2 hi) (by rw [hn]; rfl) ?_
  · have := List.mem_range.1 hx
    rw [has_withD h (by omega) (by omega)]
    cases mHas d (x : Int) <;> simp
  · rw [has_withD h (by omega) (by omega)]; simp
def fromB_l0 (rec : Search → Point → Search × Bool) (s : Search) (p : Point) : List Op → Nat → (List Int) → (List (Point × Bool)) → Search × Bool
  | [], _, vc, vc1 => ((Search.mk s.l vc1 (Sl.mk false vc)), false)
  | x :: xs, i, vc, vc1 => (bif (mHas p.done (i : Int)) then fromB_l0 rec s p xs (i + 1) vc vc1 else (bif (!x.write) then (bif (x.ended == 0) then fromB_l0 rec s p xs (i + 1) vc vc1 else (bif (!(x.value.toList == p.value.toList)) then fromB_l0 rec s p xs (i + 1) vc vc1 else (bif (!(firstSO (Search.mk s.l vc1 (Sl.mk false vc)) (i : Int) p.done)) then fromB_l0 rec s p xs (i + 1) vc vc1 else (bif x.write then (bif (rec (Search.mk s.l vc1 (Sl.mk false (vc ++ [(i : Int)]))) (Point.mk (mWith p.done (i : Int)) x.value)).2 then ((Search.mk s.l (rec (Search.mk s.l vc1 (Sl.mk false (vc ++ [(i : Int)]))) (Point.mk (mWith p.done (i : Int)) x.value)).1.been (Sl.mk false (rec (Search.mk s.l vc1 (Sl.mk false (vc ++ [(i : Int)]))) (Point.mk (mWith p.done (i : Int)) x.value)).1.row.D)), true) else fromB_l0 rec s p xs (i + 1) ((rec (Search.mk s.l vc1 (Sl.mk false (vc ++ [(i : Int)]))) (Point.mk (mWith p.done (i : Int)) x.value)).1.row.D.dropLast) (rec (Search.mk s.l vc1 (Sl.mk false (vc ++ [(i : Int)]))) (Point.mk (mWith p.done (i : Int)) x.value)).1.been) else (bif (rec (Search.mk s.l vc1 (Sl.mk false (vc ++ [(i : Int)]))) (Point.mk (mWith p.done (i : Int)) p.value)).2 then ((Search.mk s.l (rec (Search.mk s.l vc1 (Sl.mk false (vc ++ [(i : Int)]))) (Point.mk (mWith p.done (i : Int)) p.value)).1.been (Sl.mk false (rec (Search.mk s.l vc1 (Sl.mk false (vc ++ [(i : Int)]))) (Point.mk (mWith p.done (i : Int)) p.value)).1.row.D)), true) else fromB_l0 rec s p xs (i + 1) ((rec (Search.mk s.l vc1 (Sl.mk false (vc ++ [(i : Int)]))) (Point.mk (mWith p.done (i : Int)) p.value)).1.row.D.dropLast) (rec (Search.mk s.l vc1 (Sl.mk false (vc ++ [(i : Int)]))) (Point.mk (mWith p.done (i : Int)) p.value)).1.been))))) else (bif (!(firstSO (Search.mk s.l vc1 (Sl.mk false vc)) (i : Int) p.done)) then fromB_l0 rec s p xs (i + 1) vc vc1 else (bif x.write then (bif (rec (Search.mk s.l vc1 (Sl.mk false (vc ++ [(i : Int)]))) (Point.mk (mWith p.done (i : Int)) x.value)).2 then ((Search.mk s.l (rec (Search.mk s.l vc1 (Sl.mk false (vc ++ [(i : Int)]))) (Point.mk (mWith p.done (i : Int)) x.value)).1.been (Sl.mk false (rec (Search.mk s.l vc1 (Sl.mk false (vc ++ [(i : Int)]))) (Point.mk (mWith p.done (i : Int)) x.value)).1.row.D)), true) else fromB_l0 rec s p xs (i + 1) ((rec (Search.mk s.l vc1 (Sl.mk false (vc ++ [(i : Int)]))) (Point.mk (mWith p.done (i : Int)) x.value)).1.row.D.dropLast) (rec (Search.mk s.l vc1 (Sl.mk false (vc ++ [(i : Int)]))) (Point.mk (mWith p.done (i : Int)) x.value)).1.been) else (bif (rec (Search.mk s.l vc1 (Sl.mk false (vc ++ [(i : Int)]))) (Point.mk (mWith p.done (i : Int)) p.value)).2 then ((Search.mk s.l (rec (Search.mk s.l vc1 (Sl.mk false (vc ++ [(i : Int)]))) (Point.mk (mWith p.done (i : Int)) p.value)).1.been (Sl.mk false (rec (Search.mk s.l vc1 (Sl.mk false (vc ++ [(i : Int)]))) (Point.mk (mWith p.done (i : Int)) p.value)).1.row.D)), true) else fromB_l0 rec s p xs (i + 1) ((rec (Search.mk s.l vc1 (Sl.mk false (vc ++ [(i : Int)]))) (Point.mk (mWith p.done (i : Int)) p.value)).1.row.D.dropLast) (rec (Search.mk s.l vc1 (Sl.mk false (vc ++ [(i : Int)]))) (Point.mk (mWith p.done (i : Int)) p.value)).1.been)))))
def fromB (rec : Search → Point → Search × Bool) (s : Search) (p : Point) : Search × Bool :=
  (bif (allSO (Search.mk s.l s.been (Sl.mk false s.row.D)) p.done) then ((Search.mk s.l s.been (Sl.mk false s.row.D)), true) else (bif ((mGet kPoint p s.been).getD false) then ((Search.mk s.l s.been (Sl.mk false s.row.D)), false) else fromB_l0 rec s p s.l.D 0 s.row.D (mSet kPoint p true s.been)))
set_option maxRecDepth 20000 in
theorem fromB_calls (rec : Search → Point → Search × Bool) (s : Search) (p : Point) (hrec : ∀ (s_ : Search) (p_ : Point), s_.l = s.l → okD p_.done → mu s.l.D p_.done < mu s.l.D p.done → s_.row.D.length + mu s.l.D p_.done ≤ 1000000 → ObjCalls Try.prog 46 [.ptr 0 0, .agg [.pv (.lit (.int .u64 p_.done)), .pv (.lit (.string p_.value))]] [sS (some s_.l.nil) eOp s_.l.D, .mp 1, .sl 2 0 s_.row.D.length 1 false] [(1, mapE kPoint vBool.enc s_.been), (2, .cells (encC (eI .i64) s_.row.D))] (.pv (.lit (.bool (rec s_ p_).2))) [sS (some s_.l.nil) eOp s_.l.D, .mp 1, .sl 3 0 (rec s_ p_).1.row.D.length 1 false] [(1, mapE kPoint vBool.enc (rec s_ p_).1.been), (3, .cells (encC (eI .i64) (rec s_ p_).1.row.D))]) (hl64 : s.l.D.length ≤ 64) (hd : okD p.done) (hrl : s.row.D.length + mu s.l.D p.done ≤ 1000000) (hrow : ∀ (s_ : Search) (p_ : Point), (rec s_ p_).2 = false → (rec s_ p_).1.row.D.length = s_.row.D.length) (hl1 : s.l.D.length ≤ 9223372036854775807) : ObjCalls Try.prog 46 [.ptr 0 0, .agg [.pv (.lit (.int .u64 p.done)), .pv (.lit (.string p.value))]] [sS (some s.l.nil) eOp s.l.D, .mp 1, .sl 2 0 s.row.D.length 1 false] [(1, mapE kPoint vBool.enc s.been), (2, .cells (encC (eI .i64) s.row.D))] (.pv (.lit (.bool ((fromB rec s p).2)))) [sS (some s.l.nil) eOp s.l.D, .mp 1, .sl 3 0 (((fromB rec s p).1.row.D).length) 1 false] [(1, mapE kPoint vBool.enc ((fromB rec s p).1.been)), (3, .cells (encC (eI .i64) ((fromB rec s p).1.row.D)))] := by
 generalize hR : fromB rec s p = R
 refine ObjCalls.of_body tabOk Try.func46 rfl rfl rfl rfl rfl (allB_cons (mapE_within _ _) (allB_cons (encC_within _ _) allB_nil)) (of_decide_eq_true rfl) rfl rfl (allB_cons (mapE_within _ _) (allB_cons (encC_within _ _) allB_nil)) (of_decide_eq_true rfl) mixed fun E hP C hI => ?_
 refine Awp.consP C ?_
 refine rvc_un (rexec_prim C (δ := { v := .ptr 3 0, new := [(3, .cells [.pv (.lit (.int .u64 p.done)), .pv (.lit (.string p.value))])] }) rfl rfl rfl rfl trivial rfl ?_)
 refine rvP C (.pv (.lit (.bool false))) ?_
 refine rvc_nil ?_
 refine Awp.seq ?_
 refine Awp.cons C (fun _ => .writer) (by kernel_rfl) ?_
 refine rvP C (.ptr 0 0) ?_
 refine rvP C (.ptr 3 0) ?_
 refine rvP C (.pv (.lit (.int .u64 p.done))) ?_
 refine rvc_un (rexec_callObj hP C (fun b => bif b == 0 then 0 else bif b == 1 then 1 else bif b == 2 then 2 else b) [] rfl rfl rfl (allSO_calls (Search.mk s.l s.been (Sl.mk false s.row.D)) p.done hl1) rfl rfl ⟨rfl, rfl, trivial⟩ (of_decide_eq_true rfl) rfl (of_decide_eq_true rfl) (of_decide_eq_true rfl) allB_nil allB_nil (allB_cons rfl (allB_cons rfl allB_nil)) ?_ rfl (allB_cons rfl (allB_cons rfl allB_nil)))
 refine rvc_nil ?_
 refine Awp.cond (b := (allSO (Search.mk s.l s.been (Sl.mk false s.row.D)) p.done)) rfl (fun h1 => ?_) (fun h1 => ?_)
 ·
  replace hR := of_true h1 hR
  refine Awp.consP C ?_
  refine rvP C (.pv (.lit (.bool true))) ?_
  refine rvc_nil ?_
  refine Awp.weakenR (S := [(4, .pv (.lit (.bool true)))]) (H := [(0, .cells [sS (some s.l.nil) eOp s.l.D, .mp 1, .sl 3 0 s.row.D.length 1 false]), (1, mapE kPoint vBool.enc s.been), (3, .cells (encC (eI .i64) s.row.D))]) (U := [0, 1, 2, 3]) (fun x => bif x == 3 then 2 else x) (WeakerR.ofLI (I := [0, 1, 2]) (Ks := [0, 1, 3]) hI ⟨⟨rfl, rfl⟩, trivial⟩ (okH_cons rfl rfl rfl rfl (okH_map rfl rfl rfl (okH_list rfl rfl rfl (okH_nil)))) rfl rfl) ?_
  refine Awp.ret ?_
  subst hR
  exact ⟨.inl rfl, rfl, rfl, ⟨rfl, rfl, trivial⟩⟩
 ·
  replace hR := of_false h1 hR
  refine Awp.skip ?_
  refine Awp.seq ?_
  refine Awp.consP C ?_
  refine rvP C (.ptr 0 0) ?_
  refine rvP C (.ptr 0 0) ?_
  refine rvP C (.ptr 0 1) ?_
  refine rvP C (.mp 1) ?_
  refine rvP C (.agg [.pv (.lit (.int .u64 p.done)), .pv (.lit (.string p.value))]) ?_
  refine rvc_un (rexec_lookup hP C rfl p false rfl rfl rfl rfl rfl rfl kPoint_ok rfl (.pv (.lit (.bool ((mGet kPoint p s.been).getD false)))) rfl ?_)
  refine rvc_nil ?_
  refine Awp.cond (b := ((mGet kPoint p s.been).getD false)) rfl (fun h2 => ?_) (fun h2 => ?_)
  ·
   replace hR := of_true h2 hR
   refine Awp.consP C ?_
   refine rvP C (.pv (.lit (.bool false))) ?_
   refine rvc_nil ?_
   refine Awp.weakenR (S := [(4, .pv (.lit (.bool false)))]) (H := [(0, .cells [sS (some s.l.nil) eOp s.l.D, .mp 1, .sl 3 0 s.row.D.length 1 false]), (1, mapE kPoint vBool.enc s.been), (3, .cells (encC (eI .i64) s.row.D))]) (U := [0, 1, 2, 3]) (fun x => bif x == 3 then 2 else x) (WeakerR.ofLI (I := [0, 1, 2]) (Ks := [0, 1, 3]) hI ⟨⟨rfl, rfl⟩, trivial⟩ (okH_cons rfl rfl rfl rfl (okH_map rfl rfl rfl (okH_list rfl rfl rfl (okH_nil)))) rfl rfl) ?_
   refine Awp.ret ?_
   subst hR
   exact ⟨.inl rfl, rfl, rfl, ⟨rfl, rfl, trivial⟩⟩
  ·
   replace hR := of_false h2 hR
   refine Awp.skip ?_
   refine Awp.consP C ?_
   refine rvP C (.ptr 0 0) ?_
   refine rvP C (.ptr 0 0) ?_
   refine rvP C (.ptr 0 1) ?_
   refine rvP C (.mp 1) ?_
   refine rvP C (.agg [.pv (.lit (.int .u64 p.done)), .pv (.lit (.string p.value))]) ?_
   refine rvc_un (rexec_mapUpdate hP C p true rfl rfl rfl rfl rfl rfl kPoint_ok ?_)
   refine rvc_nil ?_
   refine Awp.seq ?_
   refine Awp.consP C ?_
   refine rvP C (.ptr 0 0) ?_
   refine rvP C (.ptr 0 0) ?_
   refine rvP C (.ptr 0 0) ?_
   refine rvP C (sS (some s.l.nil) eOp s.l.D) ?_
   refine rvP C (.pv (.lit (.int .i64 (s.l.D.length : Int)))) ?_
   refine rvP C (.pv (.lit (.int .i64 0))) ?_
   refine rvc_nil ?_
   refine Awp.block ?_
   refine Awp.forR (σ := ((List Int)) × ((List (Point × Bool)))) (s.l.D.length) (fun i v => [(0, .ptr 0 0), (3, .ptr 3 0), (26, sS (some s.l.nil) eOp s.l.D), (27, .pv (.lit (.int .i64 (s.l.D.length : Int)))), (28, .pv (.lit (.int .i64 (i : Int))))]) (fun i v => [(0, .cells [sS (some s.l.nil) eOp s.l.D, .mp 1, .sl 900 0 v.1.length 1 false]), (1, mapE kPoint vBool.enc v.2), (3, .cells [.pv (.lit (.int .u64 p.done)), .pv (.lit (.string p.value))]), (900, .cells (encC (eI .i64) v.1))]) [0, 1, 2, 3, 900] (fun i v => (fromB_l0 rec s p (s.l.D.drop i) i v.1 v.2 = R) ∧ (v.1.length = s.row.D.length)) (s.row.D, (mSet kPoint p true s.been)) ?_ ?_ (fun i v h3 hR => ?_)
   · exact ⟨hR, (by first | rfl | omega | ((first | have h_ := hf0_r (by assumption) | have h_ := hf0_r1 (by assumption) | have h_ := hf0_r2 (by assumption) | have h_ := hf0_r3 (by assumption) | have h_ := hf0_r4 (by assumption) | have h_ := hf0_r5 (by assumption) | have h_ := hf0_r6 (by assumption) | have h_ := hf0_r7 (by assumption) | have h_ := hf0_r8 (by assumption) | have h_ := hf0_r9 (by assumption) | have h_ := hf0_r10 (by assumption) | have h_ := hf0_r11 (by assumption) | have h_ := hf0_r12 (by assumption) | have h_ := hf0_r13 (by assumption) | have h_ := hf0_r14 (by assumption) | have h_ := hf0_r15 (by assumption)); simp at h_; simp; omega))⟩
   · exact ⟨fun b => bif b == 900 then 2 else (fun b => b) b, WeakerR.ofLI (I := [0, 1, 2]) (Ks := [0, 1, 3, 900]) hI ⟨⟨rfl, rfl⟩, ⟨rfl, rfl⟩, ⟨rfl, rfl⟩, ⟨rfl, rfl⟩, ⟨rfl, rfl⟩, trivial⟩ (okH_cons rfl rfl rfl rfl (okH_map rfl rfl rfl (okH_cons rfl rfl rfl rfl (okH_list rfl rfl rfl (okH_nil))))) rfl rfl⟩
   obtain ⟨vc, vc1⟩ := v
   obtain ⟨hR, hi_vc⟩ := hR
   replace hi_vc : vc.length = s.row.D.length := hi_vc
   refine Awp.consP C ?_
   refine rvP C (.pv (.lit (.bool (decide ((i : Int) < (s.l.D.length : Int)))))) ?_
   refine rvc_nil ?_
   refine Awp.seq ?_
   refine Awp.cond (b := (decide ((i : Int) < (s.l.D.length : Int)))) rfl (fun h4 => ?_) (fun h4 => ?_)
   ·
    have h5 : i < s.l.D.length := by have := of_decide_eq_true h4; omega
    obtain ⟨x, h6⟩ := getX h5
    rw [drop_at h6] at hR
    refine Awp.skip ?_
    refine Awp.seq ?_
    refine Awp.block ?_
    refine Awp.consP C ?_
    refine rvP C (.pv (.lit (.int .i64 (i : Int)))) ?_
    refine rvc_un (rexec_idxS C rfl rfl rfl rfl rfl rfl x (Int.natCast_nonneg _) h6 ?_)
    refine rvP C (.agg [.pv (.lit (.bool x.write)), .pv (.lit (.string x.value)), .pv (.lit (.int .i64 x.ver)), .pv (.lit (.int .i64 x.began)), .pv (.lit (.int .i64 x.ended))]) ?_
    refine rvc_un (rexec_prim C (δ := { v := .ptr 6 0, new := [(6, .cells [.pv (.lit (.bool false)), .pv (.lit (.string ⟨#[]⟩)), .pv (.lit (.int .i64 0)), .pv (.lit (.int .i64 0)), .pv (.lit (.int .i64 0))])] }) rfl rfl rfl rfl trivial rfl ?_)
    refine rvP C (.pv (.lit (.int .i64 (i : Int)))) ?_
    refine rvc_un (rexec_prim C (δ := { v := .undef, wr := [(6, some (.cells [.pv (.lit (.bool x.write)), .pv (.lit (.string x.value)), .pv (.lit (.int .i64 x.ver)), .pv (.lit (.int .i64 x.began)), .pv (.lit (.int .i64 x.ended))]))] }) rfl rfl rfl rfl trivial rfl ?_)
    refine rvc_nil ?_
    refine Awp.seq ?_
    refine Awp.cons C (fun _ => .writer) (by kernel_rfl) ?_
    refine rvP C (.ptr 3 0) ?_
    refine rvP C (.pv (.lit (.int .u64 p.done))) ?_
    refine rvP C (.pv (.lit (.int .i64 (i : Int)))) ?_
    refine rvc_un (rexec_call hP C rfl rfl rfl (mHas_calls p.done (i : Int)) ?_)
    refine rvP C (.pv (.lit (.bool (mHas p.done (i : Int))))) ?_
    refine rvc_case 37 (mHas p.done (i : Int)) rfl (fun h7 => ?_) (fun h7 => ?_)
    ·
     replace hR := of_true h7 hR
     refine rvS ?_
     refine rvS ?_
     refine rvS ?_
     refine rvS ?_
     refine rvc_shutU rfl rfl rfl ?_
     refine rvc_shutU rfl rfl rfl ?_
     refine rvc_shutU rfl rfl rfl ?_
     refine rvc_shutU rfl rfl rfl ?_
     refine rvc_shutU rfl rfl rfl ?_
     refine rvc_shutU rfl rfl rfl ?_
     refine rvc_shutU rfl rfl rfl ?_
     refine rvc_shutU rfl rfl rfl ?_
     refine rvc_shutU rfl rfl rfl ?_
     refine rvc_shutU rfl rfl rfl ?_
     refine rvS ?_
     refine rvP C (.pv (.lit (.bool true))) ?_
     refine rvP C (.pv (.lit (.bool true))) ?_
     refine rvS ?_
     refine rvS ?_
     refine rvS ?_
     refine rvS ?_
     refine rvS ?_
     refine rvS ?_
     refine rvP C (.pv (.lit (.bool true))) ?_
     refine rvc_nil ?_
     refine Awp.condT (b := true) rfl rfl ?_
     refine Awp.exit ?_
     refine Awp.regionP C ?_
     refine rvP C (.pv (.lit (.int .i64 (IntKind.i64.wrap ((i : Int) + 1))))) ?_
     refine rvP C (.pv (.lit (.int .i64 (IntKind.i64.wrap ((i : Int) + 1))))) ?_
     refine rvc_nil ?_
     refine ⟨h5, (vc, vc1), ?_, ?_⟩
     · exact ⟨hR, (by first | rfl | omega | ((first | have h_ := hf0_r (by assumption) | have h_ := hf0_r1 (by assumption) | have h_ := hf0_r2 (by assumption) | have h_ := hf0_r3 (by assumption) | have h_ := hf0_r4 (by assumption) | have h_ := hf0_r5 (by assumption) | have h_ := hf0_r6 (by assumption) | have h_ := hf0_r7 (by assumption) | have h_ := hf0_r8 (by assumption) | have h_ := hf0_r9 (by assumption) | have h_ := hf0_r10 (by assumption) | have h_ := hf0_r11 (by assumption) | have h_ := hf0_r12 (by assumption) | have h_ := hf0_r13 (by assumption) | have h_ := hf0_r14 (by assumption) | have h_ := hf0_r15 (by assumption)); simp at h_; simp; omega))⟩
     · exact ⟨fun b => b, WeakerR.ofLI (I := [0, 1, 2]) (Ks := [0, 1, 3, 900]) hI ⟨⟨rfl, rfl⟩, ⟨rfl, rfl⟩, ⟨rfl, rfl⟩, ⟨rfl, rfl⟩, ⟨lit_cast (wrap_i64 (by omega) (by omega)), rfl⟩, trivial⟩ (okH_cons rfl rfl rfl rfl (okH_map rfl rfl rfl (okH_cons rfl rfl rfl rfl (okH_list rfl rfl rfl (okH_nil))))) rfl rfl⟩
    ·
     replace hR := of_false h7 hR
     refine rvO C (.ptr 6 0) ?_
     refine rvO C (.pv (.lit (.bool x.write))) ?_
     refine rvO C (.pv (.lit (.bool (!x.write)))) ?_
     refine rvO C (.pv (.lit (.bool (!x.write)))) ?_
     refine rvc_case 41 (!x.write) rfl (fun h8 => ?_) (fun h8 => ?_)
     ·
      replace hR := of_true h8 hR
      refine rvO C (.ptr 6 4) ?_
      refine rvO C (.pv (.lit (.int .i64 x.ended))) ?_
      refine rvO C (.pv (.lit (.bool (x.ended == 0)))) ?_
      refine rvO C (.pv (.lit (.bool (x.ended == 0)))) ?_
      refine rvc_case 45 (x.ended == 0) rfl (fun h9 => ?_) (fun h9 => ?_)
      ·
       replace hR := of_true h9 hR
       refine rvS ?_
       refine rvS ?_
       refine rvS ?_
       refine rvS ?_
       refine rvS ?_
       refine rvO C (.pv (.lit (.bool true))) ?_
       refine rvO C (.pv (.lit (.bool true))) ?_
       refine rvP C (.pv (.lit (.bool true))) ?_
       refine rvP C (.pv (.lit (.bool true))) ?_
       refine rvS ?_
       refine rvS ?_
       refine rvS ?_
       refine rvS ?_
       refine rvS ?_
       refine rvS ?_
       refine rvP C (.pv (.lit (.bool true))) ?_
       refine rvc_nil ?_
       refine Awp.condT (b := true) rfl rfl ?_
       refine Awp.exit ?_
       refine Awp.regionP C ?_
       refine rvP C (.pv (.lit (.int .i64 (IntKind.i64.wrap ((i : Int) + 1))))) ?_
       refine rvP C (.pv (.lit (.int .i64 (IntKind.i64.wrap ((i : Int) + 1))))) ?_
       refine rvc_nil ?_
       refine ⟨h5, (vc, vc1), ?_, ?_⟩
       · exact ⟨hR, (by first | rfl | omega | ((first | have h_ := hf0_r (by assumption) | have h_ := hf0_r1 (by assumption) | have h_ := hf0_r2 (by assumption) | have h_ := hf0_r3 (by assumption) | have h_ := hf0_r4 (by assumption) | have h_ := hf0_r5 (by assumption) | have h_ := hf0_r6 (by assumption) | have h_ := hf0_r7 (by assumption) | have h_ := hf0_r8 (by assumption) | have h_ := hf0_r9 (by assumption) | have h_ := hf0_r10 (by assumption) | have h_ := hf0_r11 (by assumption) | have h_ := hf0_r12 (by assumption) | have h_ := hf0_r13 (by assumption) | have h_ := hf0_r14 (by assumption) | have h_ := hf0_r15 (by assumption)); simp at h_; simp; omega))⟩
       · exact ⟨fun b => b, WeakerR.ofLI (I := [0, 1, 2]) (Ks := [0, 1, 3, 900]) hI ⟨⟨rfl, rfl⟩, ⟨rfl, rfl⟩, ⟨rfl, rfl⟩, ⟨rfl, rfl⟩, ⟨lit_cast (wrap_i64 (by omega) (by omega)), rfl⟩, trivial⟩ (okH_cons rfl rfl rfl rfl (okH_map rfl rfl rfl (okH_cons rfl rfl rfl rfl (okH_list rfl rfl rfl (okH_nil))))) rfl rfl⟩
      ·
       replace hR := of_false h9 hR
       refine rvO C (.ptr 6 1) ?_
       refine rvO C (.pv (.lit (.string x.value))) ?_
       refine rvO C (.ptr 3 1) ?_
       refine rvO C (.pv (.lit (.string p.value))) ?_
       refine rvO C (.pv (.lit (.bool (!(x.value.toList == p.value.toList))))) ?_
       refine rvO C (.pv (.lit (.bool (!(x.value.toList == p.value.toList))))) ?_
       refine rvO C (.pv (.lit (.bool (!(x.value.toList == p.value.toList))))) ?_
       refine rvP C (.pv (.lit (.bool (!(x.value.toList == p.value.toList))))) ?_
       refine rvP C (.pv (.lit (.bool (!(x.value.toList == p.value.toList))))) ?_
       refine rvc_case 54 (!(x.value.toList == p.value.toList)) rfl (fun h10 => ?_) (fun h10 => ?_)
       ·
        replace hR := of_true h10 hR
        refine rvS ?_
        refine rvS ?_
        refine rvS ?_
        refine rvS ?_
        refine rvS ?_
        refine rvS ?_
        refine rvP C (.pv (.lit (.bool true))) ?_
        refine rvc_nil ?_
        refine Awp.condT (b := true) rfl rfl ?_
        refine Awp.exit ?_
        refine Awp.regionP C ?_
        refine rvP C (.pv (.lit (.int .i64 (IntKind.i64.wrap ((i : Int) + 1))))) ?_
        refine rvP C (.pv (.lit (.int .i64 (IntKind.i64.wrap ((i : Int) + 1))))) ?_
        refine rvc_nil ?_
        refine ⟨h5, (vc, vc1), ?_, ?_⟩
        · exact ⟨hR, (by first | rfl | omega | ((first | have h_ := hf0_r (by assumption) | have h_ := hf0_r1 (by assumption) | have h_ := hf0_r2 (by assumption) | have h_ := hf0_r3 (by assumption) | have h_ := hf0_r4 (by assumption) | have h_ := hf0_r5 (by assumption) | have h_ := hf0_r6 (by assumption) | have h_ := hf0_r7 (by assumption) | have h_ := hf0_r8 (by assumption) | have h_ := hf0_r9 (by assumption) | have h_ := hf0_r10 (by assumption) | have h_ := hf0_r11 (by assumption) | have h_ := hf0_r12 (by assumption) | have h_ := hf0_r13 (by assumption) | have h_ := hf0_r14 (by assumption) | have h_ := hf0_r15 (by assumption)); simp at h_; simp; omega))⟩
        · exact ⟨fun b => b, WeakerR.ofLI (I := [0, 1, 2]) (Ks := [0, 1, 3, 900]) hI ⟨⟨rfl, rfl⟩, ⟨rfl, rfl⟩, ⟨rfl, rfl⟩, ⟨rfl, rfl⟩, ⟨lit_cast (wrap_i64 (by omega) (by omega)), rfl⟩, trivial⟩ (okH_cons rfl rfl rfl rfl (okH_map rfl rfl rfl (okH_cons rfl rfl rfl rfl (okH_list rfl rfl rfl (okH_nil))))) rfl rfl⟩
       ·
        replace hR := of_false h10 hR
        refine rvO C (.ptr 0 0) ?_
        refine rvO C (.pv (.lit (.int .i64 (i : Int)))) ?_
        refine rvO C (.ptr 3 0) ?_
        refine rvO C (.pv (.lit (.int .u64 p.done))) ?_
        refine rvc_open rfl rfl rfl (rexec_callObj hP C (fun b => bif b == 0 then 0 else bif b == 1 then 1 else bif b == 2 then 900 else b) [] rfl rfl rfl (firstSO_calls (Search.mk s.l vc1 (Sl.mk false vc)) (i : Int) p.done ⟨by omega, by show (i : Int) < (s.l.D.length : Int); omega⟩ hl1) rfl rfl ⟨rfl, rfl, trivial⟩ (of_decide_eq_true rfl) rfl (of_decide_eq_true rfl) (of_decide_eq_true rfl) allB_nil allB_nil (allB_cons rfl (allB_cons rfl allB_nil)) ?_ rfl (allB_cons rfl (allB_cons rfl allB_nil)))
        refine rvO C (.pv (.lit (.bool (!(firstSO (Search.mk s.l vc1 (Sl.mk false vc)) (i : Int) p.done))))) ?_
        refine rvP C (.pv (.lit (.bool (!(firstSO (Search.mk s.l vc1 (Sl.mk false vc)) (i : Int) p.done))))) ?_
        refine rvc_nil ?_
        refine Awp.cond (b := (!(firstSO (Search.mk s.l vc1 (Sl.mk false vc)) (i : Int) p.done))) rfl (fun h11 => ?_) (fun h11 => ?_)
        ·
         replace hR := of_true h11 hR
         refine Awp.exit ?_
         refine Awp.regionP C ?_
         refine rvP C (.pv (.lit (.int .i64 (IntKind.i64.wrap ((i : Int) + 1))))) ?_
         refine rvP C (.pv (.lit (.int .i64 (IntKind.i64.wrap ((i : Int) + 1))))) ?_
         refine rvc_nil ?_
         refine ⟨h5, (vc, vc1), ?_, ?_⟩
         · exact ⟨hR, (by first | rfl | omega | ((first | have h_ := hf0_r (by assumption) | have h_ := hf0_r1 (by assumption) | have h_ := hf0_r2 (by assumption) | have h_ := hf0_r3 (by assumption) | have h_ := hf0_r4 (by assumption) | have h_ := hf0_r5 (by assumption) | have h_ := hf0_r6 (by assumption) | have h_ := hf0_r7 (by assumption) | have h_ := hf0_r8 (by assumption) | have h_ := hf0_r9 (by assumption) | have h_ := hf0_r10 (by assumption) | have h_ := hf0_r11 (by assumption) | have h_ := hf0_r12 (by assumption) | have h_ := hf0_r13 (by assumption) | have h_ := hf0_r14 (by assumption) | have h_ := hf0_r15 (by assumption)); simp at h_; simp; omega))⟩
         · exact ⟨fun b => b, WeakerR.ofLI (I := [0, 1, 2]) (Ks := [0, 1, 3, 900]) hI ⟨⟨rfl, rfl⟩, ⟨rfl, rfl⟩, ⟨rfl, rfl⟩, ⟨rfl, rfl⟩, ⟨lit_cast (wrap_i64 (by omega) (by omega)), rfl⟩, trivial⟩ (okH_cons rfl rfl rfl rfl (okH_map rfl rfl rfl (okH_cons rfl rfl rfl rfl (okH_list rfl rfl rfl (okH_nil))))) rfl rfl⟩
        ·
         replace hR := of_false h11 hR
         refine Awp.skip ?_
         refine Awp.consP C ?_
         refine rvP C (.ptr 3 0) ?_
         refine rvP C (.pv (.lit (.int .u64 p.done))) ?_
         refine rvP C (.pv (.lit (.int .i64 (i : Int)))) ?_
         refine rvc_un (rexec_call hP C rfl rfl rfl (mWith_calls p.done (i : Int)) ?_)
         refine rvP C (.ptr 3 1) ?_
         refine rvP C (.pv (.lit (.string p.value))) ?_
         refine rvP C (.agg [.pv (.lit (.int .u64 (mWith p.done (i : Int)))), .pv (.lit (.string p.value))]) ?_
         refine rvc_un (rexec_prim C (δ := { v := .ptr 7 0, new := [(7, .cells [.pv (.lit (.int .u64 0)), .pv (.lit (.string ⟨#[]⟩))])] }) rfl rfl rfl rfl trivial rfl ?_)
         refine rvc_un (rexec_prim C (δ := { v := .undef, wr := [(7, some (.cells [.pv (.lit (.int .u64 (mWith p.done (i : Int)))), .pv (.lit (.string p.value))]))] }) rfl rfl rfl rfl trivial rfl ?_)
         refine rvc_nil ?_
         refine Awp.seq ?_
         refine Awp.consP C ?_
         refine rvP C (.ptr 6 0) ?_
         refine rvP C (.pv (.lit (.bool x.write))) ?_
         refine rvc_nil ?_
         refine Awp.cond (b := x.write) rfl (fun h12 => ?_) (fun h12 => ?_)
         ·
          replace hR := of_true h12 hR
          refine Awp.regionP C ?_
          refine rvP C (.ptr 6 1) ?_
          refine rvP C (.pv (.lit (.string x.value))) ?_
          refine rvP C (.ptr 7 1) ?_
          refine rvc_un (rexec_prim C (δ := { v := .undef, wr := [(7, some (.cells [.pv (.lit (.int .u64 (mWith p.done (i : Int)))), .pv (.lit (.string x.value))]))] }) rfl rfl rfl rfl trivial rfl ?_)
          refine rvc_nil ?_
          refine Awp.consP C ?_
          refine rvP C (.ptr 0 0) ?_
          refine rvP C (.ptr 0 0) ?_
          refine rvP C (.ptr 0 0) ?_
          refine rvP C (.ptr 0 2) ?_
          refine rvP C (.sl 900 0 vc.length 1 false) ?_
          refine rvP C (.pv (.lit (.int .i64 (i : Int)))) ?_
          refine rvc_un (rexec_buildSliceF C (eI .i64) [(i : Int)] rfl rfl rfl rfl rfl rfl rfl (by decide) rfl ?_)
          refine rvc_un (rexec_append C rfl rfl rfl rfl rfl rfl rfl rfl (fun _ h => by cases h) rfl (en := (eI .i64)) (D0 := vc) (D := [(i : Int)]) rfl rfl rfl rfl (by have := of_decide_eq_true h4; have := ne_of_beq_false h9; first | omega | (simp <;> omega)) (by decide) (nn := (vc ++ [(i : Int)]).length) (by simp) ?_)
          refine rvP C (.ptr 0 0) ?_
          refine rvP C (.ptr 0 2) ?_
          refine rvc_un (rexec_prim C (δ := { v := .undef, wr := [(0, some (.cells [sS (some s.l.nil) eOp s.l.D, .mp 1, .sl 81 0 ((vc ++ [(i : Int)]).length) 1 false]))] }) rfl rfl rfl rfl trivial rfl ?_)
          refine rvc_nil ?_
          refine Awp.seq ?_
          refine Awp.cons C (fun _ => .writer) (by kernel_rfl) ?_
          refine rvP C (.ptr 0 0) ?_
          refine rvP C (.agg [.pv (.lit (.int .u64 (mWith p.done (i : Int)))), .pv (.lit (.string x.value))]) ?_
          obtain ⟨r, hq_r⟩ : ∃ q_, q_ = (rec (Search.mk s.l vc1 (Sl.mk false (vc ++ [(i : Int)]))) (Point.mk (mWith p.done (i : Int)) x.value)) := ⟨_, rfl⟩
          have hc_r := (hrec (Search.mk s.l vc1 (Sl.mk false (vc ++ [(i : Int)]))) (Point.mk (mWith p.done (i : Int)) x.value) rfl (with_okD hd (by omega)) (mu_with hl64 hd (by omega) (by assumption)) (by have h_ := mu_with (i := i) hl64 hd (by omega) (by assumption); show (_ : List Int).length + _ ≤ 1000000; rw [List.length_append, List.length_singleton]; show _ + mu s.l.D (mWith p.done (i : Int)) ≤ _; omega))
          first | rw [← hq_r] at hR hc_r | (unfold fromB at hR; rw [← hq_r] at hR hc_r) | (unfold fromB_l0 at hR; rw [← hq_r] at hR hc_r)
          have hf0_r := hrow (Search.mk s.l vc1 (Sl.mk false (vc ++ [(i : Int)]))) (Point.mk (mWith p.done (i : Int)) x.value)
          rw [← hq_r] at hf0_r
          refine rvc_un (rexec_callObj hP C (fun b => bif b == 0 then 0 else bif b == 1 then 1 else bif b == 2 then 81 else b) [(86, 3)] rfl rfl rfl hc_r rfl rfl ⟨rfl, rfl, trivial⟩ (of_decide_eq_true rfl) rfl (of_decide_eq_true rfl) (of_decide_eq_true rfl) (allB_cons rfl allB_nil) (allB_cons rfl allB_nil) (allB_cons rfl (allB_cons rfl allB_nil)) ?_ rfl (allB_cons rfl (allB_cons rfl allB_nil)))
          refine rvc_nil ?_
          refine Awp.cond (b := r.2) rfl (fun h13 => ?_) (fun h13 => ?_)
          ·
           replace hR := of_true h13 hR
           refine Awp.consP C ?_
           refine rvP C (.pv (.lit (.bool true))) ?_
           refine rvc_nil ?_
           refine Awp.weakenR (S := [(4, .pv (.lit (.bool true)))]) (H := [(0, .cells [sS (some s.l.nil) eOp s.l.D, .mp 1, .sl 3 0 r.1.row.D.length 1 false]), (1, mapE kPoint vBool.enc r.1.been), (3, .cells (encC (eI .i64) r.1.row.D))]) (U := [0, 1, 2, 3]) (fun x => bif x == 3 then 86 else x) (WeakerR.ofLI (I := [0, 1, 2]) (Ks := [0, 1, 3]) hI ⟨⟨rfl, rfl⟩, trivial⟩ (okH_cons rfl rfl rfl rfl (okH_map rfl rfl rfl (okH_list rfl rfl rfl (okH_nil)))) rfl rfl) ?_
           refine Awp.ret ?_
           subst hR
           exact ⟨.inl rfl, rfl, rfl, ⟨rfl, rfl, trivial⟩⟩
          ·
           replace hR := of_false h13 hR
           refine Awp.skip ?_
           refine Awp.regionP C ?_
           refine rvP C (.ptr 0 0) ?_
           refine rvP C (.ptr 0 0) ?_
           refine rvP C (.ptr 0 0) ?_
           refine rvP C (.ptr 0 2) ?_
           refine rvP C (.sl 86 0 r.1.row.D.length 1 false) ?_
           refine rvP C (.ptr 0 0) ?_
           refine rvP C (.ptr 0 0) ?_
           refine rvP C (.ptr 0 2) ?_
           refine rvP C (.sl 86 0 r.1.row.D.length 1 false) ?_
           refine rvP C (.pv (.lit (.int .i64 (r.1.row.D.length : Int)))) ?_
           refine rvP C (.pv (.lit (.int .i64 (IntKind.i64.wrap ((r.1.row.D.length : Int) - 1))))) ?_
           refine rvc_un (rexec_cutOwn C ((r.1.row.D.dropLast).length) rfl rfl rfl rfl rfl rfl rfl ⟨(by have h_ : 1 ≤ r.1.row.D.length ∧ r.1.row.D.length ≤ 9000000000000000000 := (by (first | have h_ := hf0_r (by assumption) | have h_ := hf0_r1 (by assumption) | have h_ := hf0_r2 (by assumption) | have h_ := hf0_r3 (by assumption) | have h_ := hf0_r4 (by assumption) | have h_ := hf0_r5 (by assumption) | have h_ := hf0_r6 (by assumption) | have h_ := hf0_r7 (by assumption) | have h_ := hf0_r8 (by assumption) | have h_ := hf0_r9 (by assumption) | have h_ := hf0_r10 (by assumption) | have h_ := hf0_r11 (by assumption) | have h_ := hf0_r12 (by assumption) | have h_ := hf0_r13 (by assumption) | have h_ := hf0_r14 (by assumption) | have h_ := hf0_r15 (by assumption)); simp at h_; omega); rw [wrap_i64 (by omega) (by omega)]; omega), (by have h_ : 1 ≤ r.1.row.D.length ∧ r.1.row.D.length ≤ 9000000000000000000 := (by (first | have h_ := hf0_r (by assumption) | have h_ := hf0_r1 (by assumption) | have h_ := hf0_r2 (by assumption) | have h_ := hf0_r3 (by assumption) | have h_ := hf0_r4 (by assumption) | have h_ := hf0_r5 (by assumption) | have h_ := hf0_r6 (by assumption) | have h_ := hf0_r7 (by assumption) | have h_ := hf0_r8 (by assumption) | have h_ := hf0_r9 (by assumption) | have h_ := hf0_r10 (by assumption) | have h_ := hf0_r11 (by assumption) | have h_ := hf0_r12 (by assumption) | have h_ := hf0_r13 (by assumption) | have h_ := hf0_r14 (by assumption) | have h_ := hf0_r15 (by assumption)); simp at h_; omega); rw [wrap_i64 (by omega) (by omega)]; omega)⟩ (by have h_ : 1 ≤ r.1.row.D.length ∧ r.1.row.D.length ≤ 9000000000000000000 := (by (first | have h_ := hf0_r (by assumption) | have h_ := hf0_r1 (by assumption) | have h_ := hf0_r2 (by assumption) | have h_ := hf0_r3 (by assumption) | have h_ := hf0_r4 (by assumption) | have h_ := hf0_r5 (by assumption) | have h_ := hf0_r6 (by assumption) | have h_ := hf0_r7 (by assumption) | have h_ := hf0_r8 (by assumption) | have h_ := hf0_r9 (by assumption) | have h_ := hf0_r10 (by assumption) | have h_ := hf0_r11 (by assumption) | have h_ := hf0_r12 (by assumption) | have h_ := hf0_r13 (by assumption) | have h_ := hf0_r14 (by assumption) | have h_ := hf0_r15 (by assumption)); simp at h_; omega); rw [wrap_i64 (by omega) (by omega)]; rw [List.length_dropLast]; omega) ?_)
           refine rvP C (.ptr 0 0) ?_
           refine rvP C (.ptr 0 2) ?_
           refine rvc_un (rexec_prim C (δ := { v := .undef, wr := [(0, some (.cells [sS (some s.l.nil) eOp s.l.D, .mp 1, .sl 86 0 ((r.1.row.D.dropLast).length) 1 false]))] }) rfl rfl rfl rfl trivial rfl ?_)
           refine rvc_nil ?_
           refine Awp.cutB 86 ((r.1.row.D.length - 1) * (eI .i64).sz) _ rfl (encC (eI .i64) (r.1.row.D.dropLast)) (encC_dropLast _) ?_
           refine Awp.regionP C ?_
           refine rvP C (.pv (.lit (.int .i64 (IntKind.i64.wrap ((i : Int) + 1))))) ?_
           refine rvP C (.pv (.lit (.int .i64 (IntKind.i64.wrap ((i : Int) + 1))))) ?_
           refine rvc_nil ?_
           refine ⟨h5, ((r.1.row.D.dropLast), r.1.been), ?_, ?_⟩
           · exact ⟨hR, (by first | rfl | omega | ((first | have h_ := hf0_r (by assumption) | have h_ := hf0_r1 (by assumption) | have h_ := hf0_r2 (by assumption) | have h_ := hf0_r3 (by assumption) | have h_ := hf0_r4 (by assumption) | have h_ := hf0_r5 (by assumption) | have h_ := hf0_r6 (by assumption) | have h_ := hf0_r7 (by assumption) | have h_ := hf0_r8 (by assumption) | have h_ := hf0_r9 (by assumption) | have h_ := hf0_r10 (by assumption) | have h_ := hf0_r11 (by assumption) | have h_ := hf0_r12 (by assumption) | have h_ := hf0_r13 (by assumption) | have h_ := hf0_r14 (by assumption) | have h_ := hf0_r15 (by assumption)); simp at h_; simp; omega))⟩
           · exact ⟨fun b => bif b == 900 then 86 else (fun b => b) b, WeakerR.ofLI (I := [0, 1, 2]) (Ks := [0, 1, 3, 900]) hI ⟨⟨rfl, rfl⟩, ⟨rfl, rfl⟩, ⟨rfl, rfl⟩, ⟨rfl, rfl⟩, ⟨lit_cast (wrap_i64 (by omega) (by omega)), rfl⟩, trivial⟩ (okH_cons rfl rfl rfl rfl (okH_map rfl rfl rfl (okH_cons rfl rfl rfl rfl (okH_list rfl rfl rfl (okH_nil))))) rfl rfl⟩
         ·
          replace hR := of_false h12 hR
          refine Awp.skip ?_
          refine Awp.consP C ?_
          refine rvP C (.ptr 0 0) ?_
          refine rvP C (.ptr 0 0) ?_
          refine rvP C (.ptr 0 0) ?_
          refine rvP C (.ptr 0 2) ?_
          refine rvP C (.sl 900 0 vc.length 1 false) ?_
          refine rvP C (.pv (.lit (.int .i64 (i : Int)))) ?_
          refine rvc_un (rexec_buildSliceF C (eI .i64) [(i : Int)] rfl rfl rfl rfl rfl rfl rfl (by decide) rfl ?_)
          refine rvc_un (rexec_append C rfl rfl rfl rfl rfl rfl rfl rfl (fun _ h => by cases h) rfl (en := (eI .i64)) (D0 := vc) (D := [(i : Int)]) rfl rfl rfl rfl (by have := of_decide_eq_true h4; have := ne_of_beq_false h9; first | omega | (simp <;> omega)) (by decide) (nn := (vc ++ [(i : Int)]).length) (by simp) ?_)
          refine rvP C (.ptr 0 0) ?_
          refine rvP C (.ptr 0 2) ?_
          refine rvc_un (rexec_prim C (δ := { v := .undef, wr := [(0, some (.cells [sS (some s.l.nil) eOp s.l.D, .mp 1, .sl 81 0 ((vc ++ [(i : Int)]).length) 1 false]))] }) rfl rfl rfl rfl trivial rfl ?_)
          refine rvc_nil ?_
          refine Awp.seq ?_
          refine Awp.cons C (fun _ => .writer) (by kernel_rfl) ?_
          refine rvP C (.ptr 0 0) ?_
          refine rvP C (.agg [.pv (.lit (.int .u64 (mWith p.done (i : Int)))), .pv (.lit (.string p.value))]) ?_
          obtain ⟨r1, hq_r1⟩ : ∃ q_, q_ = (rec (Search.mk s.l vc1 (Sl.mk false (vc ++ [(i : Int)]))) (Point.mk (mWith p.done (i : Int)) p.value)) := ⟨_, rfl⟩
          have hc_r1 := (hrec (Search.mk s.l vc1 (Sl.mk false (vc ++ [(i : Int)]))) (Point.mk (mWith p.done (i : Int)) p.value) rfl (with_okD hd (by omega)) (mu_with hl64 hd (by omega) (by assumption)) (by have h_ := mu_with (i := i) hl64 hd (by omega) (by assumption); show (_ : List Int).length + _ ≤ 1000000; rw [List.length_append, List.length_singleton]; show _ + mu s.l.D (mWith p.done (i : Int)) ≤ _; omega))
          first | rw [← hq_r1] at hR hc_r1 | (unfold fromB at hR; rw [← hq_r1] at hR hc_r1) | (unfold fromB_l0 at hR; rw [← hq_r1] at hR hc_r1)
          have hf0_r1 := hrow (Search.mk s.l vc1 (Sl.mk false (vc ++ [(i : Int)]))) (Point.mk (mWith p.done (i : Int)) p.value)
          rw [← hq_r1] at hf0_r1
          refine rvc_un (rexec_callObj hP C (fun b => bif b == 0 then 0 else bif b == 1 then 1 else bif b == 2 then 81 else b) [(86, 3)] rfl rfl rfl hc_r1 rfl rfl ⟨rfl, rfl, trivial⟩ (of_decide_eq_true rfl) rfl (of_decide_eq_true rfl) (of_decide_eq_true rfl) (allB_cons rfl allB_nil) (allB_cons rfl allB_nil) (allB_cons rfl (allB_cons rfl allB_nil)) ?_ rfl (allB_cons rfl (allB_cons rfl allB_nil)))
          refine rvc_nil ?_
          refine Awp.cond (b := r1.2) rfl (fun h14 => ?_) (fun h14 => ?_)
          ·
           replace hR := of_true h14 hR
           refine Awp.consP C ?_
           refine rvP C (.pv (.lit (.bool true))) ?_
           refine rvc_nil ?_
           refine Awp.weakenR (S := [(4, .pv (.lit (.bool true)))]) (H := [(0, .cells [sS (some s.l.nil) eOp s.l.D, .mp 1, .sl 3 0 r1.1.row.D.length 1 false]), (1, mapE kPoint vBool.enc r1.1.been), (3, .cells (encC (eI .i64) r1.1.row.D))]) (U := [0, 1, 2, 3]) (fun x => bif x == 3 then 86 else x) (WeakerR.ofLI (I := [0, 1, 2]) (Ks := [0, 1, 3]) hI ⟨⟨rfl, rfl⟩, trivial⟩ (okH_cons rfl rfl rfl rfl (okH_map rfl rfl rfl (okH_list rfl rfl rfl (okH_nil)))) rfl rfl) ?_
           refine Awp.ret ?_
           subst hR
           exact ⟨.inl rfl, rfl, rfl, ⟨rfl, rfl, trivial⟩⟩
          ·
           replace hR := of_false h14 hR
           refine Awp.skip ?_
           refine Awp.regionP C ?_
           refine rvP C (.ptr 0 0) ?_
           refine rvP C (.ptr 0 0) ?_
           refine rvP C (.ptr 0 0) ?_
           refine rvP C (.ptr 0 2) ?_
           refine rvP C (.sl 86 0 r1.1.row.D.length 1 false) ?_
           refine rvP C (.ptr 0 0) ?_
           refine rvP C (.ptr 0 0) ?_
           refine rvP C (.ptr 0 2) ?_
           refine rvP C (.sl 86 0 r1.1.row.D.length 1 false) ?_
           refine rvP C (.pv (.lit (.int .i64 (r1.1.row.D.length : Int)))) ?_
           refine rvP C (.pv (.lit (.int .i64 (IntKind.i64.wrap ((r1.1.row.D.length : Int) - 1))))) ?_
           refine rvc_un (rexec_cutOwn C ((r1.1.row.D.dropLast).length) rfl rfl rfl rfl rfl rfl rfl ⟨(by have h_ : 1 ≤ r1.1.row.D.length ∧ r1.1.row.D.length ≤ 9000000000000000000 := (by (first | have h_ := hf0_r (by assumption) | have h_ := hf0_r1 (by assumption) | have h_ := hf0_r2 (by assumption) | have h_ := hf0_r3 (by assumption) | have h_ := hf0_r4 (by assumption) | have h_ := hf0_r5 (by assumption) | have h_ := hf0_r6 (by assumption) | have h_ := hf0_r7 (by assumption) | have h_ := hf0_r8 (by assumption) | have h_ := hf0_r9 (by assumption) | have h_ := hf0_r10 (by assumption) | have h_ := hf0_r11 (by assumption) | have h_ := hf0_r12 (by assumption) | have h_ := hf0_r13 (by assumption) | have h_ := hf0_r14 (by assumption) | have h_ := hf0_r15 (by assumption)); simp at h_; omega); rw [wrap_i64 (by omega) (by omega)]; omega), (by have h_ : 1 ≤ r1.1.row.D.length ∧ r1.1.row.D.length ≤ 9000000000000000000 := (by (first | have h_ := hf0_r (by assumption) | have h_ := hf0_r1 (by assumption) | have h_ := hf0_r2 (by assumption) | have h_ := hf0_r3 (by assumption) | have h_ := hf0_r4 (by assumption) | have h_ := hf0_r5 (by assumption) | have h_ := hf0_r6 (by assumption) | have h_ := hf0_r7 (by assumption) | have h_ := hf0_r8 (by assumption) | have h_ := hf0_r9 (by assumption) | have h_ := hf0_r10 (by assumption) | have h_ := hf0_r11 (by assumption) | have h_ := hf0_r12 (by assumption) | have h_ := hf0_r13 (by assumption) | have h_ := hf0_r14 (by assumption) | have h_ := hf0_r15 (by assumption)); simp at h_; omega); rw [wrap_i64 (by omega) (by omega)]; omega)⟩ (by have h_ : 1 ≤ r1.1.row.D.length ∧ r1.1.row.D.length ≤ 9000000000000000000 := (by (first | have h_ := hf0_r (by assumption) | have h_ := hf0_r1 (by assumption) | have h_ := hf0_r2 (by assumption) | have h_ := hf0_r3 (by assumption) | have h_ := hf0_r4 (by assumption) | have h_ := hf0_r5 (by assumption) | have h_ := hf0_r6 (by assumption) | have h_ := hf0_r7 (by assumption) | have h_ := hf0_r8 (by assumption) | have h_ := hf0_r9 (by assumption) | have h_ := hf0_r10 (by assumption) | have h_ := hf0_r11 (by assumption) | have h_ := hf0_r12 (by assumption) | have h_ := hf0_r13 (by assumption) | have h_ := hf0_r14 (by assumption) | have h_ := hf0_r15 (by assumption)); simp at h_; omega); rw [wrap_i64 (by omega) (by omega)]; rw [List.length_dropLast]; omega) ?_)
           refine rvP C (.ptr 0 0) ?_
           refine rvP C (.ptr 0 2) ?_
           refine rvc_un (rexec_prim C (δ := { v := .undef, wr := [(0, some (.cells [sS (some s.l.nil) eOp s.l.D, .mp 1, .sl 86 0 ((r1.1.row.D.dropLast).length) 1 false]))] }) rfl rfl rfl rfl trivial rfl ?_)
           refine rvc_nil ?_
           refine Awp.cutB 86 ((r1.1.row.D.length - 1) * (eI .i64).sz) _ rfl (encC (eI .i64) (r1.1.row.D.dropLast)) (encC_dropLast _) ?_
           refine Awp.regionP C ?_
           refine rvP C (.pv (.lit (.int .i64 (IntKind.i64.wrap ((i : Int) + 1))))) ?_
           refine rvP C (.pv (.lit (.int .i64 (IntKind.i64.wrap ((i : Int) + 1))))) ?_
           refine rvc_nil ?_
           refine ⟨h5, ((r1.1.row.D.dropLast), r1.1.been), ?_, ?_⟩
           · exact ⟨hR, (by first | rfl | omega | ((first | have h_ := hf0_r (by assumption) | have h_ := hf0_r1 (by assumption) | have h_ := hf0_r2 (by assumption) | have h_ := hf0_r3 (by assumption) | have h_ := hf0_r4 (by assumption) | have h_ := hf0_r5 (by assumption) | have h_ := hf0_r6 (by assumption) | have h_ := hf0_r7 (by assumption) | have h_ := hf0_r8 (by assumption) | have h_ := hf0_r9 (by assumption) | have h_ := hf0_r10 (by assumption) | have h_ := hf0_r11 (by assumption) | have h_ := hf0_r12 (by assumption) | have h_ := hf0_r13 (by assumption) | have h_ := hf0_r14 (by assumption) | have h_ := hf0_r15 (by assumption)); simp at h_; simp; omega))⟩
           · exact ⟨fun b => bif b == 900 then 86 else (fun b => b) b, WeakerR.ofLI (I := [0, 1, 2]) (Ks := [0, 1, 3, 900]) hI ⟨⟨rfl, rfl⟩, ⟨rfl, rfl⟩, ⟨rfl, rfl⟩, ⟨rfl, rfl⟩, ⟨lit_cast (wrap_i64 (by omega) (by omega)), rfl⟩, trivial⟩ (okH_cons rfl rfl rfl rfl (okH_map rfl rfl rfl (okH_cons rfl rfl rfl rfl (okH_list rfl rfl rfl (okH_nil))))) rfl rfl⟩
     ·
      replace hR := of_false h8 hR
      refine rvS ?_
      refine rvS ?_
      refine rvS ?_
      refine rvS ?_
      refine rvc_shutU rfl rfl rfl ?_
      refine rvc_shutU rfl rfl rfl ?_
      refine rvc_shutU rfl rfl rfl ?_
      refine rvc_shutU rfl rfl rfl ?_
      refine rvc_shutU rfl rfl rfl ?_
      refine rvS ?_
      refine rvO C (.pv (.lit (.bool false))) ?_
      refine rvP C (.pv (.lit (.bool false))) ?_
      refine rvP C (.pv (.lit (.bool false))) ?_
      refine rvO C (.ptr 0 0) ?_
      refine rvO C (.pv (.lit (.int .i64 (i : Int)))) ?_
      refine rvO C (.ptr 3 0) ?_
      refine rvO C (.pv (.lit (.int .u64 p.done))) ?_
      refine rvc_open rfl rfl rfl (rexec_callObj hP C (fun b => bif b == 0 then 0 else bif b == 1 then 1 else bif b == 2 then 900 else b) [] rfl rfl rfl (firstSO_calls (Search.mk s.l vc1 (Sl.mk false vc)) (i : Int) p.done ⟨by omega, by show (i : Int) < (s.l.D.length : Int); omega⟩ hl1) rfl rfl ⟨rfl, rfl, trivial⟩ (of_decide_eq_true rfl) rfl (of_decide_eq_true rfl) (of_decide_eq_true rfl) allB_nil allB_nil (allB_cons rfl (allB_cons rfl allB_nil)) ?_ rfl (allB_cons rfl (allB_cons rfl allB_nil)))
      refine rvO C (.pv (.lit (.bool (!(firstSO (Search.mk s.l vc1 (Sl.mk false vc)) (i : Int) p.done))))) ?_
      refine rvP C (.pv (.lit (.bool (!(firstSO (Search.mk s.l vc1 (Sl.mk false vc)) (i : Int) p.done))))) ?_
      refine rvc_nil ?_
      refine Awp.cond (b := (!(firstSO (Search.mk s.l vc1 (Sl.mk false vc)) (i : Int) p.done))) rfl (fun h15 => ?_) (fun h15 => ?_)
      ·
       replace hR := of_true h15 hR
       refine Awp.exit ?_
       refine Awp.regionP C ?_
       refine rvP C (.pv (.lit (.int .i64 (IntKind.i64.wrap ((i : Int) + 1))))) ?_
       refine rvP C (.pv (.lit (.int .i64 (IntKind.i64.wrap ((i : Int) + 1))))) ?_
       refine rvc_nil ?_
       refine ⟨h5, (vc, vc1), ?_, ?_⟩
       · exact ⟨hR, (by first | rfl | omega | ((first | have h_ := hf0_r (by assumption) | have h_ := hf0_r1 (by assumption) | have h_ := hf0_r2 (by assumption) | have h_ := hf0_r3 (by assumption) | have h_ := hf0_r4 (by assumption) | have h_ := hf0_r5 (by assumption) | have h_ := hf0_r6 (by assumption) | have h_ := hf0_r7 (by assumption) | have h_ := hf0_r8 (by assumption) | have h_ := hf0_r9 (by assumption) | have h_ := hf0_r10 (by assumption) | have h_ := hf0_r11 (by assumption) | have h_ := hf0_r12 (by assumption) | have h_ := hf0_r13 (by assumption) | have h_ := hf0_r14 (by assumption) | have h_ := hf0_r15 (by assumption)); simp at h_; simp; omega))⟩
       · exact ⟨fun b => b, WeakerR.ofLI (I := [0, 1, 2]) (Ks := [0, 1, 3, 900]) hI ⟨⟨rfl, rfl⟩, ⟨rfl, rfl⟩, ⟨rfl, rfl⟩, ⟨rfl, rfl⟩, ⟨lit_cast (wrap_i64 (by omega) (by omega)), rfl⟩, trivial⟩ (okH_cons rfl rfl rfl rfl (okH_map rfl rfl rfl (okH_cons rfl rfl rfl rfl (okH_list rfl rfl rfl (okH_nil))))) rfl rfl⟩
      ·
       replace hR := of_false h15 hR
       refine Awp.skip ?_
       refine Awp.consP C ?_
       refine rvP C (.ptr 3 0) ?_
       refine rvP C (.pv (.lit (.int .u64 p.done))) ?_
       refine rvP C (.pv (.lit (.int .i64 (i : Int)))) ?_
       refine rvc_un (rexec_call hP C rfl rfl rfl (mWith_calls p.done (i : Int)) ?_)
       refine rvP C (.ptr 3 1) ?_
       refine rvP C (.pv (.lit (.string p.value))) ?_
       refine rvP C (.agg [.pv (.lit (.int .u64 (mWith p.done (i : Int)))), .pv (.lit (.string p.value))]) ?_
       refine rvc_un (rexec_prim C (δ := { v := .ptr 7 0, new := [(7, .cells [.pv (.lit (.int .u64 0)), .pv (.lit (.string ⟨#[]⟩))])] }) rfl rfl rfl rfl trivial rfl ?_)
       refine rvc_un (rexec_prim C (δ := { v := .undef, wr := [(7, some (.cells [.pv (.lit (.int .u64 (mWith p.done (i : Int)))), .pv (.lit (.string p.value))]))] }) rfl rfl rfl rfl trivial rfl ?_)
       refine rvc_nil ?_
       refine Awp.seq ?_
       refine Awp.consP C ?_
       refine rvP C (.ptr 6 0) ?_
       refine rvP C (.pv (.lit (.bool x.write))) ?_
       refine rvc_nil ?_
       refine Awp.cond (b := x.write) rfl (fun h16 => ?_) (fun h16 => ?_)
       ·
        replace hR := of_true h16 hR
        refine Awp.regionP C ?_
        refine rvP C (.ptr 6 1) ?_
        refine rvP C (.pv (.lit (.string x.value))) ?_
        refine rvP C (.ptr 7 1) ?_
        refine rvc_un (rexec_prim C (δ := { v := .undef, wr := [(7, some (.cells [.pv (.lit (.int .u64 (mWith p.done (i : Int)))), .pv (.lit (.string x.value))]))] }) rfl rfl rfl rfl trivial rfl ?_)
        refine rvc_nil ?_
        refine Awp.consP C ?_
        refine rvP C (.ptr 0 0) ?_
        refine rvP C (.ptr 0 0) ?_
        refine rvP C (.ptr 0 0) ?_
        refine rvP C (.ptr 0 2) ?_
        refine rvP C (.sl 900 0 vc.length 1 false) ?_
        refine rvP C (.pv (.lit (.int .i64 (i : Int)))) ?_
        refine rvc_un (rexec_buildSliceF C (eI .i64) [(i : Int)] rfl rfl rfl rfl rfl rfl rfl (by decide) rfl ?_)
        refine rvc_un (rexec_append C rfl rfl rfl rfl rfl rfl rfl rfl (fun _ h => by cases h) rfl (en := (eI .i64)) (D0 := vc) (D := [(i : Int)]) rfl rfl rfl rfl (by have := of_decide_eq_true h4; first | omega | (simp <;> omega)) (by decide) (nn := (vc ++ [(i : Int)]).length) (by simp) ?_)
        refine rvP C (.ptr 0 0) ?_
        refine rvP C (.ptr 0 2) ?_
        refine rvc_un (rexec_prim C (δ := { v := .undef, wr := [(0, some (.cells [sS (some s.l.nil) eOp s.l.D, .mp 1, .sl 81 0 ((vc ++ [(i : Int)]).length) 1 false]))] }) rfl rfl rfl rfl trivial rfl ?_)
        refine rvc_nil ?_
        refine Awp.seq ?_
        refine Awp.cons C (fun _ => .writer) (by kernel_rfl) ?_
        refine rvP C (.ptr 0 0) ?_
        refine rvP C (.agg [.pv (.lit (.int .u64 (mWith p.done (i : Int)))), .pv (.lit (.string x.value))]) ?_
        obtain ⟨r2, hq_r2⟩ : ∃ q_, q_ = (rec (Search.mk s.l vc1 (Sl.mk false (vc ++ [(i : Int)]))) (Point.mk (mWith p.done (i : Int)) x.value)) := ⟨_, rfl⟩
        have hc_r2 := (hrec (Search.mk s.l vc1 (Sl.mk false (vc ++ [(i : Int)]))) (Point.mk (mWith p.done (i : Int)) x.value) rfl (with_okD hd (by omega)) (mu_with hl64 hd (by omega) (by assumption)) (by have h_ := mu_with (i := i) hl64 hd (by omega) (by assumption); show (_ : List Int).length + _ ≤ 1000000; rw [List.length_append, List.length_singleton]; show _ + mu s.l.D (mWith p.done (i : Int)) ≤ _; omega))
        first | rw [← hq_r2] at hR hc_r2 | (unfold fromB at hR; rw [← hq_r2] at hR hc_r2) | (unfold fromB_l0 at hR; rw [← hq_r2] at hR hc_r2)
        have hf0_r2 := hrow (Search.mk s.l vc1 (Sl.mk false (vc ++ [(i : Int)]))) (Point.mk (mWith p.done (i : Int)) x.value)
        rw [← hq_r2] at hf0_r2
        refine rvc_un (rexec_callObj hP C (fun b => bif b == 0 then 0 else bif b == 1 then 1 else bif b == 2 then 81 else b) [(86, 3)] rfl rfl rfl hc_r2 rfl rfl ⟨rfl, rfl, trivial⟩ (of_decide_eq_true rfl) rfl (of_decide_eq_true rfl) (of_decide_eq_true rfl) (allB_cons rfl allB_nil) (allB_cons rfl allB_nil) (allB_cons rfl (allB_cons rfl allB_nil)) ?_ rfl (allB_cons rfl (allB_cons rfl allB_nil)))
        refine rvc_nil ?_
        refine Awp.cond (b := r2.2) rfl (fun h17 => ?_) (fun h17 => ?_)
        ·
         replace hR := of_true h17 hR
         refine Awp.consP C ?_
         refine rvP C (.pv (.lit (.bool true))) ?_
         refine rvc_nil ?_
         refine Awp.weakenR (S := [(4, .pv (.lit (.bool true)))]) (H := [(0, .cells [sS (some s.l.nil) eOp s.l.D, .mp 1, .sl 3 0 r2.1.row.D.length 1 false]), (1, mapE kPoint vBool.enc r2.1.been), (3, .cells (encC (eI .i64) r2.1.row.D))]) (U := [0, 1, 2, 3]) (fun x => bif x == 3 then 86 else x) (WeakerR.ofLI (I := [0, 1, 2]) (Ks := [0, 1, 3]) hI ⟨⟨rfl, rfl⟩, trivial⟩ (okH_cons rfl rfl rfl rfl (okH_map rfl rfl rfl (okH_list rfl rfl rfl (okH_nil)))) rfl rfl) ?_
         refine Awp.ret ?_
         subst hR
         exact ⟨.inl rfl, rfl, rfl, ⟨rfl, rfl, trivial⟩⟩
        ·
         replace hR := of_false h17 hR
         refine Awp.skip ?_
         refine Awp.regionP C ?_
         refine rvP C (.ptr 0 0) ?_
         refine rvP C (.ptr 0 0) ?_
         refine rvP C (.ptr 0 0) ?_
         refine rvP C (.ptr 0 2) ?_
         refine rvP C (.sl 86 0 r2.1.row.D.length 1 false) ?_
         refine rvP C (.ptr 0 0) ?_
         refine rvP C (.ptr 0 0) ?_
         refine rvP C (.ptr 0 2) ?_
         refine rvP C (.sl 86 0 r2.1.row.D.length 1 false) ?_
         refine rvP C (.pv (.lit (.int .i64 (r2.1.row.D.length : Int)))) ?_
         refine rvP C (.pv (.lit (.int .i64 (IntKind.i64.wrap ((r2.1.row.D.length : Int) - 1))))) ?_
         refine rvc_un (rexec_cutOwn C ((r2.1.row.D.dropLast).length) rfl rfl rfl rfl rfl rfl rfl ⟨(by have h_ : 1 ≤ r2.1.row.D.length ∧ r2.1.row.D.length ≤ 9000000000000000000 := (by (first | have h_ := hf0_r (by assumption) | have h_ := hf0_r1 (by assumption) | have h_ := hf0_r2 (by assumption) | have h_ := hf0_r3 (by assumption) | have h_ := hf0_r4 (by assumption) | have h_ := hf0_r5 (by assumption) | have h_ := hf0_r6 (by assumption) | have h_ := hf0_r7 (by assumption) | have h_ := hf0_r8 (by assumption) | have h_ := hf0_r9 (by assumption) | have h_ := hf0_r10 (by assumption) | have h_ := hf0_r11 (by assumption) | have h_ := hf0_r12 (by assumption) | have h_ := hf0_r13 (by assumption) | have h_ := hf0_r14 (by assumption) | have h_ := hf0_r15 (by assumption)); simp at h_; omega); rw [wrap_i64 (by omega) (by omega)]; omega), (by have h_ : 1 ≤ r2.1.row.D.length ∧ r2.1.row.D.length ≤ 9000000000000000000 := (by (first | have h_ := hf0_r (by assumption) | have h_ := hf0_r1 (by assumption) | have h_ := hf0_r2 (by assumption) | have h_ := hf0_r3 (by assumption) | have h_ := hf0_r4 (by assumption) | have h_ := hf0_r5 (by assumption) | have h_ := hf0_r6 (by assumption) | have h_ := hf0_r7 (by assumption) | have h_ := hf0_r8 (by assumption) | have h_ := hf0_r9 (by assumption) | have h_ := hf0_r10 (by assumption) | have h_ := hf0_r11 (by assumption) | have h_ := hf0_r12 (by assumption) | have h_ := hf0_r13 (by assumption) | have h_ := hf0_r14 (by assumption) | have h_ := hf0_r15 (by assumption)); simp at h_; omega); rw [wrap_i64 (by omega) (by omega)]; omega)⟩ (by have h_ : 1 ≤ r2.1.row.D.length ∧ r2.1.row.D.length ≤ 9000000000000000000 := (by (first | have h_ := hf0_r (by assumption) | have h_ := hf0_r1 (by assumption) | have h_ := hf0_r2 (by assumption) | have h_ := hf0_r3 (by assumption) | have h_ := hf0_r4 (by assumption) | have h_ := hf0_r5 (by assumption) | have h_ := hf0_r6 (by assumption) | have h_ := hf0_r7 (by assumption) | have h_ := hf0_r8 (by assumption) | have h_ := hf0_r9 (by assumption) | have h_ := hf0_r10 (by assumption) | have h_ := hf0_r11 (by assumption) | have h_ := hf0_r12 (by assumption) | have h_ := hf0_r13 (by assumption) | have h_ := hf0_r14 (by assumption) | have h_ := hf0_r15 (by assumption)); simp at h_; omega); rw [wrap_i64 (by omega) (by omega)]; rw [List.length_dropLast]; omega) ?_)
         refine rvP C (.ptr 0 0) ?_
         refine rvP C (.ptr 0 2) ?_
         refine rvc_un (rexec_prim C (δ := { v := .undef, wr := [(0, some (.cells [sS (some s.l.nil) eOp s.l.D, .mp 1, .sl 86 0 ((r2.1.row.D.dropLast).length) 1 false]))] }) rfl rfl rfl rfl trivial rfl ?_)
         refine rvc_nil ?_
         refine Awp.cutB 86 ((r2.1.row.D.length - 1) * (eI .i64).sz) _ rfl (encC (eI .i64) (r2.1.row.D.dropLast)) (encC_dropLast _) ?_
         refine Awp.regionP C ?_
         refine rvP C (.pv (.lit (.int .i64 (IntKind.i64.wrap ((i : Int) + 1))))) ?_
         refine rvP C (.pv (.lit (.int .i64 (IntKind.i64.wrap ((i : Int) + 1))))) ?_
         refine rvc_nil ?_
         refine ⟨h5, ((r2.1.row.D.dropLast), r2.1.been), ?_, ?_⟩
         · exact ⟨hR, (by first | rfl | omega | ((first | have h_ := hf0_r (by assumption) | have h_ := hf0_r1 (by assumption) | have h_ := hf0_r2 (by assumption) | have h_ := hf0_r3 (by assumption) | have h_ := hf0_r4 (by assumption) | have h_ := hf0_r5 (by assumption) | have h_ := hf0_r6 (by assumption) | have h_ := hf0_r7 (by assumption) | have h_ := hf0_r8 (by assumption) | have h_ := hf0_r9 (by assumption) | have h_ := hf0_r10 (by assumption) | have h_ := hf0_r11 (by assumption) | have h_ := hf0_r12 (by assumption) | have h_ := hf0_r13 (by assumption) | have h_ := hf0_r14 (by assumption) | have h_ := hf0_r15 (by assumption)); simp at h_; simp; omega))⟩
         · exact ⟨fun b => bif b == 900 then 86 else (fun b => b) b, WeakerR.ofLI (I := [0, 1, 2]) (Ks := [0, 1, 3, 900]) hI ⟨⟨rfl, rfl⟩, ⟨rfl, rfl⟩, ⟨rfl, rfl⟩, ⟨rfl, rfl⟩, ⟨lit_cast (wrap_i64 (by omega) (by omega)), rfl⟩, trivial⟩ (okH_cons rfl rfl rfl rfl (okH_map rfl rfl rfl (okH_cons rfl rfl rfl rfl (okH_list rfl rfl rfl (okH_nil))))) rfl rfl⟩
       ·
        replace hR := of_false h16 hR
        refine Awp.skip ?_
        refine Awp.consP C ?_
        refine rvP C (.ptr 0 0) ?_
        refine rvP C (.ptr 0 0) ?_
        refine rvP C (.ptr 0 0) ?_
        refine rvP C (.ptr 0 2) ?_
        refine rvP C (.sl 900 0 vc.length 1 false) ?_
        refine rvP C (.pv (.lit (.int .i64 (i : Int)))) ?_
        refine rvc_un (rexec_buildSliceF C (eI .i64) [(i : Int)] rfl rfl rfl rfl rfl rfl rfl (by decide) rfl ?_)
        refine rvc_un (rexec_append C rfl rfl rfl rfl rfl rfl rfl rfl (fun _ h => by cases h) rfl (en := (eI .i64)) (D0 := vc) (D := [(i : Int)]) rfl rfl rfl rfl (by have := of_decide_eq_true h4; first | omega | (simp <;> omega)) (by decide) (nn := (vc ++ [(i : Int)]).length) (by simp) ?_)
        refine rvP C (.ptr 0 0) ?_
        refine rvP C (.ptr 0 2) ?_
        refine rvc_un (rexec_prim C (δ := { v := .undef, wr := [(0, some (.cells [sS (some s.l.nil) eOp s.l.D, .mp 1, .sl 81 0 ((vc ++ [(i : Int)]).length) 1 false]))] }) rfl rfl rfl rfl trivial rfl ?_)
        refine rvc_nil ?_
        refine Awp.seq ?_
        refine Awp.cons C (fun _ => .writer) (by kernel_rfl) ?_
        refine rvP C (.ptr 0 0) ?_
        refine rvP C (.agg [.pv (.lit (.int .u64 (mWith p.done (i : Int)))), .pv (.lit (.string p.value))]) ?_
        obtain ⟨r3, hq_r3⟩ : ∃ q_, q_ = (rec (Search.mk s.l vc1 (Sl.mk false (vc ++ [(i : Int)]))) (Point.mk (mWith p.done (i : Int)) p.value)) := ⟨_, rfl⟩
        have hc_r3 := (hrec (Search.mk s.l vc1 (Sl.mk false (vc ++ [(i : Int)]))) (Point.mk (mWith p.done (i : Int)) p.value) rfl (with_okD hd (by omega)) (mu_with hl64 hd (by omega) (by assumption)) (by have h_ := mu_with (i := i) hl64 hd (by omega) (by assumption); show (_ : List Int).length + _ ≤ 1000000; rw [List.length_append, List.length_singleton]; show _ + mu s.l.D (mWith p.done (i : Int)) ≤ _; omega))
        first | rw [← hq_r3] at hR hc_r3 | (unfold fromB at hR; rw [← hq_r3] at hR hc_r3) | (unfold fromB_l0 at hR; rw [← hq_r3] at hR hc_r3)
        have hf0_r3 := hrow (Search.mk s.l vc1 (Sl.mk false (vc ++ [(i : Int)]))) (Point.mk (mWith p.done (i : Int)) p.value)
        rw [← hq_r3] at hf0_r3
        refine rvc_un (rexec_callObj hP C (fun b => bif b == 0 then 0 else bif b == 1 then 1 else bif b == 2 then 81 else b) [(86, 3)] rfl rfl rfl hc_r3 rfl rfl ⟨rfl, rfl, trivial⟩ (of_decide_eq_true rfl) rfl (of_decide_eq_true rfl) (of_decide_eq_true rfl) (allB_cons rfl allB_nil) (allB_cons rfl allB_nil) (allB_cons rfl (allB_cons rfl allB_nil)) ?_ rfl (allB_cons rfl (allB_cons rfl allB_nil)))
        refine rvc_nil ?_
        refine Awp.cond (b := r3.2) rfl (fun h18 => ?_) (fun h18 => ?_)
        ·
         replace hR := of_true h18 hR
         refine Awp.consP C ?_
         refine rvP C (.pv (.lit (.bool true))) ?_
         refine rvc_nil ?_
         refine Awp.weakenR (S := [(4, .pv (.lit (.bool true)))]) (H := [(0, .cells [sS (some s.l.nil) eOp s.l.D, .mp 1, .sl 3 0 r3.1.row.D.length 1 false]), (1, mapE kPoint vBool.enc r3.1.been), (3, .cells (encC (eI .i64) r3.1.row.D))]) (U := [0, 1, 2, 3]) (fun x => bif x == 3 then 86 else x) (WeakerR.ofLI (I := [0, 1, 2]) (Ks := [0, 1, 3]) hI ⟨⟨rfl, rfl⟩, trivial⟩ (okH_cons rfl rfl rfl rfl (okH_map rfl rfl rfl (okH_list rfl rfl rfl (okH_nil)))) rfl rfl) ?_
         refine Awp.ret ?_
         subst hR
         exact ⟨.inl rfl, rfl, rfl, ⟨rfl, rfl, trivial⟩⟩
        ·
         replace hR := of_false h18 hR
         refine Awp.skip ?_
         refine Awp.regionP C ?_
         refine rvP C (.ptr 0 0) ?_
         refine rvP C (.ptr 0 0) ?_
         refine rvP C (.ptr 0 0) ?_
         refine rvP C (.ptr 0 2) ?_
         refine rvP C (.sl 86 0 r3.1.row.D.length 1 false) ?_
         refine rvP C (.ptr 0 0) ?_
         refine rvP C (.ptr 0 0) ?_
         refine rvP C (.ptr 0 2) ?_
         refine rvP C (.sl 86 0 r3.1.row.D.length 1 false) ?_
         refine rvP C (.pv (.lit (.int .i64 (r3.1.row.D.length : Int)))) ?_
         refine rvP C (.pv (.lit (.int .i64 (IntKind.i64.wrap ((r3.1.row.D.length : Int) - 1))))) ?_
         refine rvc_un (rexec_cutOwn C ((r3.1.row.D.dropLast).length) rfl rfl rfl rfl rfl rfl rfl ⟨(by have h_ : 1 ≤ r3.1.row.D.length ∧ r3.1.row.D.length ≤ 9000000000000000000 := (by (first | have h_ := hf0_r (by assumption) | have h_ := hf0_r1 (by assumption) | have h_ := hf0_r2 (by assumption) | have h_ := hf0_r3 (by assumption) | have h_ := hf0_r4 (by assumption) | have h_ := hf0_r5 (by assumption) | have h_ := hf0_r6 (by assumption) | have h_ := hf0_r7 (by assumption) | have h_ := hf0_r8 (by assumption) | have h_ := hf0_r9 (by assumption) | have h_ := hf0_r10 (by assumption) | have h_ := hf0_r11 (by assumption) | have h_ := hf0_r12 (by assumption) | have h_ := hf0_r13 (by assumption) | have h_ := hf0_r14 (by assumption) | have h_ := hf0_r15 (by assumption)); simp at h_; omega); rw [wrap_i64 (by omega) (by omega)]; omega), (by have h_ : 1 ≤ r3.1.row.D.length ∧ r3.1.row.D.length ≤ 9000000000000000000 := (by (first | have h_ := hf0_r (by assumption) | have h_ := hf0_r1 (by assumption) | have h_ := hf0_r2 (by assumption) | have h_ := hf0_r3 (by assumption) | have h_ := hf0_r4 (by assumption) | have h_ := hf0_r5 (by assumption) | have h_ := hf0_r6 (by assumption) | have h_ := hf0_r7 (by assumption) | have h_ := hf0_r8 (by assumption) | have h_ := hf0_r9 (by assumption) | have h_ := hf0_r10 (by assumption) | have h_ := hf0_r11 (by assumption) | have h_ := hf0_r12 (by assumption) | have h_ := hf0_r13 (by assumption) | have h_ := hf0_r14 (by assumption) | have h_ := hf0_r15 (by assumption)); simp at h_; omega); rw [wrap_i64 (by omega) (by omega)]; omega)⟩ (by have h_ : 1 ≤ r3.1.row.D.length ∧ r3.1.row.D.length ≤ 9000000000000000000 := (by (first | have h_ := hf0_r (by assumption) | have h_ := hf0_r1 (by assumption) | have h_ := hf0_r2 (by assumption) | have h_ := hf0_r3 (by assumption) | have h_ := hf0_r4 (by assumption) | have h_ := hf0_r5 (by assumption) | have h_ := hf0_r6 (by assumption) | have h_ := hf0_r7 (by assumption) | have h_ := hf0_r8 (by assumption) | have h_ := hf0_r9 (by assumption) | have h_ := hf0_r10 (by assumption) | have h_ := hf0_r11 (by assumption) | have h_ := hf0_r12 (by assumption) | have h_ := hf0_r13 (by assumption) | have h_ := hf0_r14 (by assumption) | have h_ := hf0_r15 (by assumption)); simp at h_; omega); rw [wrap_i64 (by omega) (by omega)]; rw [List.length_dropLast]; omega) ?_)
         refine rvP C (.ptr 0 0) ?_
         refine rvP C (.ptr 0 2) ?_
         refine rvc_un (rexec_prim C (δ := { v := .undef, wr := [(0, some (.cells [sS (some s.l.nil) eOp s.l.D, .mp 1, .sl 86 0 ((r3.1.row.D.dropLast).length) 1 false]))] }) rfl rfl rfl rfl trivial rfl ?_)
         refine rvc_nil ?_
         refine Awp.cutB 86 ((r3.1.row.D.length - 1) * (eI .i64).sz) _ rfl (encC (eI .i64) (r3.1.row.D.dropLast)) (encC_dropLast _) ?_
         refine Awp.regionP C ?_
         refine rvP C (.pv (.lit (.int .i64 (IntKind.i64.wrap ((i : Int) + 1))))) ?_
         refine rvP C (.pv (.lit (.int .i64 (IntKind.i64.wrap ((i : Int) + 1))))) ?_
         refine rvc_nil ?_
         refine ⟨h5, ((r3.1.row.D.dropLast), r3.1.been), ?_, ?_⟩
         · exact ⟨hR, (by first | rfl | omega | ((first | have h_ := hf0_r (by assumption) | have h_ := hf0_r1 (by assumption) | have h_ := hf0_r2 (by assumption) | have h_ := hf0_r3 (by assumption) | have h_ := hf0_r4 (by assumption) | have h_ := hf0_r5 (by assumption) | have h_ := hf0_r6 (by assumption) | have h_ := hf0_r7 (by assumption) | have h_ := hf0_r8 (by assumption) | have h_ := hf0_r9 (by assumption) | have h_ := hf0_r10 (by assumption) | have h_ := hf0_r11 (by assumption) | have h_ := hf0_r12 (by assumption) | have h_ := hf0_r13 (by assumption) | have h_ := hf0_r14 (by assumption) | have h_ := hf0_r15 (by assumption)); simp at h_; simp; omega))⟩
         · exact ⟨fun b => bif b == 900 then 86 else (fun b => b) b, WeakerR.ofLI (I := [0, 1, 2]) (Ks := [0, 1, 3, 900]) hI ⟨⟨rfl, rfl⟩, ⟨rfl, rfl⟩, ⟨rfl, rfl⟩, ⟨rfl, rfl⟩, ⟨lit_cast (wrap_i64 (by omega) (by omega)), rfl⟩, trivial⟩ (okH_cons rfl rfl rfl rfl (okH_map rfl rfl rfl (okH_cons rfl rfl rfl rfl (okH_list rfl rfl rfl (okH_nil))))) rfl rfl⟩
   ·
    have h5 : ¬ i < s.l.D.length := by have := of_decide_eq_false h4; omega
    rw [drop_end h5] at hR
    refine Awp.exit ?_
    refine Awp.consP C ?_
    refine rvP C (.pv (.lit (.bool false))) ?_
    refine rvc_nil ?_
    refine Awp.weakenR (S := [(4, .pv (.lit (.bool false)))]) (H := [(0, .cells [sS (some s.l.nil) eOp s.l.D, .mp 1, .sl 3 0 vc.length 1 false]), (1, mapE kPoint vBool.enc vc1), (3, .cells (encC (eI .i64) vc))]) (U := [0, 1, 2, 3]) (fun x => bif x == 3 then 900 else x) (WeakerR.ofLI (I := [0, 1, 2]) (Ks := [0, 1, 3]) hI ⟨⟨rfl, rfl⟩, trivial⟩ (okH_cons rfl rfl rfl rfl (okH_map rfl rfl rfl (okH_list rfl rfl rfl (okH_nil)))) rfl rfl) ?_
    refine Awp.ret ?_
    subst hR
    exact ⟨.inl rfl, rfl, rfl, ⟨rfl, rfl, trivial⟩⟩
theorem mu_le (l : List Op) (d : Int) : mu l d ≤ l.length := by
  have := List.countP_le_length (p := fun (i : Nat) => !mHas d (i : Int)) (l := List.range l.length)
  rw [List.length_range] at this
  exact this
def fromO : Nat → Search → Point → Search × Bool
  | 0 => fun s _ => (s, false)
  | k + 1 => fromB (fromO k)
/-- May this call be the next one, behind those that are done? -/
def cand (l : List Op) (p : Point) (i : Nat) (x : Op) : Bool :=
  !(mHas p.done (i : Int)) && ((x.write || !(x.ended == 0) && (x.value.toList == p.value.toList)) && firstSO (Search.mk (Sl.mk false l) [] (Sl.mk false [])) (i : Int) p.done)
def goOn (p : Point) (i : Nat) (x : Op) : Point := Point.mk (mWith p.done (i : Int)) (bif x.write then x.value else p.value)
theorem firstSO_eq (s s' : Search) (h : s.l.D = s'.l.D) (i d : Int) : firstSO s i d = firstSO s' i d := by
  unfold firstSO
  rw [h]
  generalize s'.l.D = xs
  suffices hh : ∀ (ys : List Op) (j : Nat), firstSO_l0 s i d ys j = firstSO_l0 s' i d ys j from hh xs 0
  intro ys
  induction ys with
  | nil => intro j; rfl
  | cons y ys ih => intro j; unfold firstSO_l0; rw [ih, h]
def fromStep (rec : Search → Point → Search × Bool) (s : Search) (p : Point) (xs : List Op) (i : Nat) (q : Search × Bool) : Search × Bool :=
  bif q.2 then (Search.mk s.l q.1.been (Sl.mk false q.1.row.D), true) else fromB_l0 rec s p xs (i + 1) q.1.row.D.dropLast q.1.been
theorem fromB_step (rec : Search → Point → Search × Bool) (s : Search) (p : Point) (x : Op) (xs : List Op) (i : Nat) (row : List Int) (been : List (Point × Bool)) :
    fromB_l0 rec s p (x :: xs) i row been = bif cand s.l.D p i x then fromStep rec s p xs i (rec (Search.mk s.l been (Sl.mk false (row ++ [(i : Int)]))) (goOn p i x)) else fromB_l0 rec s p xs (i + 1) row been := by
  conv => lhs; unfold fromB_l0
  unfold cand goOn fromStep
  rw [firstSO_eq (Search.mk (Sl.mk false s.l.D) [] (Sl.mk false [])) (Search.mk s.l been (Sl.mk false row)) rfl]
  cases mHas p.done (i : Int) <;> cases x.write <;> cases (x.ended == 0) <;> cases (x.value.toList == p.value.toList) <;> cases firstSO (Search.mk s.l been (Sl.mk false row)) (i : Int) p.done <;> rfl
theorem fromB_row {rec : Search → Point → Search × Bool} (hrow : ∀ s p, (rec s p).2 = false → (rec s p).1.row.D = s.row.D) (s : Search) (p : Point) : ∀ (l : List Op) (i : Nat) (row : List Int) (been : List (Point × Bool)), (fromB_l0 rec s p l i row been).2 = false → (fromB_l0 rec s p l i row been).1.row.D = row
  | [], _, _, _, _ => rfl
  | x :: xs, i, row, been, h => by
    have ih := fromB_row hrow s p xs (i + 1)
    rw [fromB_step] at h ⊢
    cases hc : cand s.l.D p i x
    · rw [hc, cond_false] at h
      rw [cond_false]
      exact ih _ _ h
    · rw [hc, cond_true] at h
      rw [cond_true]
      unfold fromStep at h ⊢
      generalize hq : rec (Search.mk s.l been (Sl.mk false (row ++ [(i : Int)]))) (goOn p i x) = q at h ⊢
      have h3 := hrow (Search.mk s.l been (Sl.mk false (row ++ [(i : Int)]))) (goOn p i x)
      rw [hq] at h3
      cases h2 : q.2
      · rw [h2, cond_false] at h
        rw [cond_false, ih _ _ h, h3 h2]
        exact List.dropLast_concat
      · rw [h2, cond_true] at h; cases h
theorem fromO_rowD : ∀ (k : Nat) (s : Search) (p : Point), (fromO k s p).2 = false → (fromO k s p).1.row.D = s.row.D
  | 0, _, _, _ => rfl
  | k + 1, s, p, h => by
    have hb := fromB_row (fromO_rowD k) s p s.l.D 0 s.row.D (mSet kPoint p true s.been)
    change (fromB (fromO k) s p).2 = false at h
    change (fromB (fromO k) s p).1.row.D = s.row.D
    unfold fromB at h ⊢
    cases h1 : allSO (Search.mk s.l s.been (Sl.mk false s.row.D)) p.done
    · rw [h1, cond_false] at h
      rw [cond_false]
      cases h2 : (mGet kPoint p s.been).getD false
      · rw [h2, cond_false] at h
        rw [cond_false]
        exact hb h
      · rfl
    · rw [h1, cond_true] at h; cases h
theorem fromO_row (k : Nat) (s : Search) (p : Point) (h : (fromO k s p).2 = false) : (fromO k s p).1.row.D.length = s.row.D.length := by rw [fromO_rowD k s p h]
theorem fromO_calls : ∀ (k : Nat) (s_ : Search) (p_ : Point), s_.l.D.length ≤ 64 → okD p_.done → s_.row.D.length + mu s_.l.D p_.done ≤ 1000000 → mu s_.l.D p_.done < k → ObjCalls Try.prog 46 [.ptr 0 0, .agg [.pv (.lit (.int .u64 p_.done)), .pv (.lit (.string p_.value))]] [sS (some s_.l.nil) eOp s_.l.D, .mp 1, .sl 2 0 s_.row.D.length 1 false] [(1, mapE kPoint vBool.enc s_.been), (2, .cells (encC (eI .i64) s_.row.D))] (.pv (.lit (.bool (fromO k s_ p_).2))) [sS (some s_.l.nil) eOp s_.l.D, .mp 1, .sl 3 0 (fromO k s_ p_).1.row.D.length 1 false] [(1, mapE kPoint vBool.enc (fromO k s_ p_).1.been), (3, .cells (encC (eI .i64) (fromO k s_ p_).1.row.D))]
  | 0, _, _, _, _, _, h => absurd h (Nat.not_lt_zero _)
  | k + 1, s, p, h1, h2, h3, h4 => fromB_calls (fromO k) s p (fun s' p' e1 e2 e3 e4 => by
      have := fromO_calls k s' p' (by rw [e1]; exact h1) e2 (by rw [e1]; exact e4) (by rw [e1]; omega)
      exact this) h1 h2 h3 (fromO_row k) (by omega)
end Go.Proofs.Ytaoagcdljmpllaa
