/- The table of the types of the seat of chapter 8, and that it is so. No conditions. -/
import Derived.Test.YtjhphpoihadmkaaProg
import Derived.Test.YtjhphpoihadmkaaAm16
import Derived.KernelRfl
namespace Go.Proofs.Ytjhphpoihadmkaa
open Go.Am
def tab : Tab := [
  (3, ⟨.int .i64, 1, 8, .int .i64 0, false⟩),
  (4, ⟨.bool, 1, 1, .bool false, false⟩),
  (9, ⟨.string, 1, 16, .string ⟨#[]⟩, false⟩),
  (22, ⟨.slice 45, 1, 24, .slice none 0 0, false⟩),
  (23, ⟨.struct #[{ name := "Epoch", type := 3, offset := 0, embedded := false, tag := "", pkgPath := "", byteOffset := 0 }, { name := "Members", type := 22, offset := 1, embedded := false, tag := "", pkgPath := "", byteOffset := 8 }], 2, 32, .agg #[.int .i64 0, .slice none 0 0], true⟩),
  (24, ⟨.struct #[{ name := "Epoch", type := 3, offset := 0, embedded := false, tag := "", pkgPath := "", byteOffset := 0 }, { name := "Members", type := 22, offset := 1, embedded := false, tag := "", pkgPath := "", byteOffset := 8 }], 2, 32, .agg #[.int .i64 0, .slice none 0 0], true⟩),
  (26, ⟨.int .i64, 1, 8, .int .i64 0, false⟩),
  (33, ⟨.int .u64, 1, 8, .int .u64 0, false⟩),
  (34, ⟨.int .u64, 1, 8, .int .u64 0, false⟩),
  (41, ⟨.struct #[{ name := "Op", type := 3, offset := 0, embedded := false, tag := "", pkgPath := "", byteOffset := 0 }, { name := "Node", type := 3, offset := 1, embedded := false, tag := "", pkgPath := "", byteOffset := 8 }, { name := "Site", type := 3, offset := 2, embedded := false, tag := "", pkgPath := "", byteOffset := 16 }, { name := "Fresh", type := 4, offset := 3, embedded := false, tag := "", pkgPath := "", byteOffset := 24 }], 4, 32, .agg #[.int .i64 0, .int .i64 0, .int .i64 0, .bool false], true⟩),
  (42, ⟨.struct #[{ name := "Op", type := 3, offset := 0, embedded := false, tag := "", pkgPath := "", byteOffset := 0 }, { name := "Node", type := 3, offset := 1, embedded := false, tag := "", pkgPath := "", byteOffset := 8 }, { name := "Site", type := 3, offset := 2, embedded := false, tag := "", pkgPath := "", byteOffset := 16 }, { name := "Fresh", type := 4, offset := 3, embedded := false, tag := "", pkgPath := "", byteOffset := 24 }], 4, 32, .agg #[.int .i64 0, .int .i64 0, .int .i64 0, .bool false], true⟩),
  (44, ⟨.struct #[{ name := "Node", type := 3, offset := 0, embedded := false, tag := "", pkgPath := "", byteOffset := 0 }, { name := "Site", type := 3, offset := 1, embedded := false, tag := "", pkgPath := "", byteOffset := 8 }, { name := "Fresh", type := 4, offset := 2, embedded := false, tag := "", pkgPath := "", byteOffset := 16 }], 3, 24, .agg #[.int .i64 0, .int .i64 0, .bool false], true⟩),
  (45, ⟨.struct #[{ name := "Node", type := 3, offset := 0, embedded := false, tag := "", pkgPath := "", byteOffset := 0 }, { name := "Site", type := 3, offset := 1, embedded := false, tag := "", pkgPath := "", byteOffset := 8 }, { name := "Fresh", type := 4, offset := 2, embedded := false, tag := "", pkgPath := "", byteOffset := 16 }], 3, 24, .agg #[.int .i64 0, .int .i64 0, .bool false], true⟩),
  (49, ⟨.slice 42, 1, 24, .slice none 0 0, false⟩),
  (51, ⟨.int .u64, 1, 8, .int .u64 0, false⟩),
  (59, ⟨.slice 3, 1, 24, .slice none 0 0, false⟩)]
theorem inf3 : (Try.prog.info? 3).map (fun i => (i.size, i.bytes, i.zero)) = some (1, 8, some (.int .i64 0)) := by kernel_rfl
theorem inf4 : (Try.prog.info? 4).map (fun i => (i.size, i.bytes, i.zero)) = some (1, 1, some (.bool false)) := by kernel_rfl
theorem inf9 : (Try.prog.info? 9).map (fun i => (i.size, i.bytes, i.zero)) = some (1, 16, some (.string ⟨#[]⟩)) := by kernel_rfl
theorem inf22 : (Try.prog.info? 22).map (fun i => (i.size, i.bytes, i.zero)) = some (1, 24, some (.slice none 0 0)) := by kernel_rfl
theorem inf23 : (Try.prog.info? 23).map (fun i => (i.size, i.bytes, i.zero)) = some (2, 32, some (.agg #[.int .i64 0, .slice none 0 0])) := by kernel_rfl
theorem inf24 : (Try.prog.info? 24).map (fun i => (i.size, i.bytes, i.zero)) = some (2, 32, some (.agg #[.int .i64 0, .slice none 0 0])) := by kernel_rfl
theorem inf26 : (Try.prog.info? 26).map (fun i => (i.size, i.bytes, i.zero)) = some (1, 8, some (.int .i64 0)) := by kernel_rfl
theorem inf33 : (Try.prog.info? 33).map (fun i => (i.size, i.bytes, i.zero)) = some (1, 8, some (.int .u64 0)) := by kernel_rfl
theorem inf34 : (Try.prog.info? 34).map (fun i => (i.size, i.bytes, i.zero)) = some (1, 8, some (.int .u64 0)) := by kernel_rfl
theorem inf41 : (Try.prog.info? 41).map (fun i => (i.size, i.bytes, i.zero)) = some (4, 32, some (.agg #[.int .i64 0, .int .i64 0, .int .i64 0, .bool false])) := by kernel_rfl
theorem inf42 : (Try.prog.info? 42).map (fun i => (i.size, i.bytes, i.zero)) = some (4, 32, some (.agg #[.int .i64 0, .int .i64 0, .int .i64 0, .bool false])) := by kernel_rfl
theorem inf44 : (Try.prog.info? 44).map (fun i => (i.size, i.bytes, i.zero)) = some (3, 24, some (.agg #[.int .i64 0, .int .i64 0, .bool false])) := by kernel_rfl
theorem inf45 : (Try.prog.info? 45).map (fun i => (i.size, i.bytes, i.zero)) = some (3, 24, some (.agg #[.int .i64 0, .int .i64 0, .bool false])) := by kernel_rfl
theorem inf49 : (Try.prog.info? 49).map (fun i => (i.size, i.bytes, i.zero)) = some (1, 24, some (.slice none 0 0)) := by kernel_rfl
theorem inf51 : (Try.prog.info? 51).map (fun i => (i.size, i.bytes, i.zero)) = some (1, 8, some (.int .u64 0)) := by kernel_rfl
theorem inf59 : (Try.prog.info? 59).map (fun i => (i.size, i.bytes, i.zero)) = some (1, 24, some (.slice none 0 0)) := by kernel_rfl
theorem tabOk : TabOk Try.prog tab := TabOk.cons Try.underlying3 inf3 (fun h => by cases h) (TabOk.cons Try.underlying4 inf4 (fun h => by cases h) (TabOk.cons Try.underlying9 inf9 (fun h => by cases h) (TabOk.cons Try.underlying22 inf22 (fun h => by cases h) (TabOk.cons Try.underlying23 inf23 (fun _ => ⟨by kernel_rfl, by kernel_rfl⟩) (TabOk.cons Try.underlying24 inf24 (fun _ => ⟨by kernel_rfl, by kernel_rfl⟩) (TabOk.cons Try.underlying26 inf26 (fun h => by cases h) (TabOk.cons Try.underlying33 inf33 (fun h => by cases h) (TabOk.cons Try.underlying34 inf34 (fun h => by cases h) (TabOk.cons Try.underlying41 inf41 (fun _ => ⟨by kernel_rfl, by kernel_rfl⟩) (TabOk.cons Try.underlying42 inf42 (fun _ => ⟨by kernel_rfl, by kernel_rfl⟩) (TabOk.cons Try.underlying44 inf44 (fun _ => ⟨by kernel_rfl, by kernel_rfl⟩) (TabOk.cons Try.underlying45 inf45 (fun _ => ⟨by kernel_rfl, by kernel_rfl⟩) (TabOk.cons Try.underlying49 inf49 (fun h => by cases h) (TabOk.cons Try.underlying51 inf51 (fun h => by cases h) (TabOk.cons Try.underlying59 inf59 (fun h => by cases h) (TabOk.nil _))))))))))))))))
theorem mixed : Try.prog.follows .mixedOrders = true := by kernel_rfl
theorem lit_cast {k : IntKind} {a b : Int} (h : a = b) : some (AV.pv (.lit (.int k a))) = some (AV.pv (.lit (.int k b))) := by rw [h]
end Go.Proofs.Ytjhphpoihadmkaa
