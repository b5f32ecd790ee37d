import Derived.Test.YtoieegmebadfkaaM1
import Derived.Test.YtoieegmebadfkaaM2
import Derived.Test.YtoieegmebadfkaaM3
/- Values. No conditions. -/
namespace Go.Proofs.Ytoieegmebadfkaa
open Go.Am
def jValues_l0 (recs : (Sl Record)) : List Call → Nat → Bool
  | [], _ => true
  | x :: xs, i => (bif (!(jAnswered x)) then jValues_l0 recs xs (i + 1)  else (bif x.write then (bif (!((mGet kReq (jReq x) ((openB recs).req)).isSome)) then false else (bif ((((mGet kReq (jReq x) ((openB recs).req)).getD zeroR).ver) != x.ver) then false else (bif (!(((((mGet kReq (jReq x) ((openB recs).req)).getD zeroR).key 0) == (x.key 0)) && (((((mGet kReq (jReq x) ((openB recs).req)).getD zeroR).key 1) == (x.key 1)) && (((((mGet kReq (jReq x) ((openB recs).req)).getD zeroR).key 2) == (x.key 2)) && (((((mGet kReq (jReq x) ((openB recs).req)).getD zeroR).key 3) == (x.key 3)) && (((((mGet kReq (jReq x) ((openB recs).req)).getD zeroR).key 4) == (x.key 4)) && (((((mGet kReq (jReq x) ((openB recs).req)).getD zeroR).key 5) == (x.key 5)) && (((((mGet kReq (jReq x) ((openB recs).req)).getD zeroR).key 6) == (x.key 6)) && (((((mGet kReq (jReq x) ((openB recs).req)).getD zeroR).key 7) == (x.key 7)) && true))))))))) then false else (bif (!((((mGet kReq (jReq x) ((openB recs).req)).getD zeroR).value).toList == x.value.toList)) then false else jValues_l0 recs xs (i + 1) )))) else (bif (x.ver == 0) then (bif (!(x.value.toList == (⟨#[]⟩ : ByteArray).toList)) then false else jValues_l0 recs xs (i + 1) ) else (bif (!((mGet kSlot (Slot.mk x.key x.ver) ((openB recs).of_)).isSome)) then false else (bif (!((((mGet kSlot (Slot.mk x.key x.ver) ((openB recs).of_)).getD zeroR).value).toList == x.value.toList)) then false else jValues_l0 recs xs (i + 1) )))))
def jValues (calls : (Sl Call)) (recs : (Sl Record)) : Bool :=
  jValues_l0 recs calls.D 0
theorem jValues_calls (calls : (Sl Call)) (recs : (Sl Record)) (hl1 : recs.D.length ≤ 1000000) (hl2 : calls.D.length ≤ 1000000) : PCalls Try.prog 16 [sS (some calls.nil) eCall calls.D, sS (some recs.nil) eRecord recs.D] (.pv (.lit (.bool (jValues calls recs)))) := by
 generalize hR : jValues calls recs = R
 refine PCalls.of_body tabOk Try.func16 rfl rfl rfl rfl rfl mixed fun E hP C hI => ?_
 refine Awp.consP C ?_
 refine rvP C (.pv (.lit (.bool false))) ?_
 refine rvc_nil ?_
 refine Awp.cons C (fun _ => .quiet) (by kernel_rfl) ?_
 refine rvP C (sS (some recs.nil) eRecord recs.D) ?_
 refine rvc_un (rexec_callMaps hP C 513 rfl rfl rfl rfl rfl rfl (openB_calls recs hl1) ?_)
 refine rvc_un (rexec_prim C (δ := { v := .ptr 5 0, new := [(5, .cells [.pv (.lit (.map none)), .pv (.lit (.map none))])] }) rfl rfl rfl rfl trivial rfl ?_)
 refine rvc_un (rexec_prim C (δ := { v := .undef, wr := [(5, some (.cells [.mp 13, .mp 513]))] }) rfl rfl rfl rfl trivial rfl ?_)
 refine rvc_nil ?_
 refine Awp.seq ?_
 refine Awp.consP C ?_
 refine rvP C (sS (some calls.nil) eCall calls.D) ?_
 refine rvP C (.pv (.lit (.int .i64 (calls.D.length : Int)))) ?_
 refine rvP C (.pv (.lit (.int .i64 0))) ?_
 refine rvc_nil ?_
 refine Awp.block ?_
 refine Awp.forR (σ := Unit) (calls.D.length) (fun i _v => [(5, .ptr 5 0), (14, sS (some calls.nil) eCall calls.D), (15, .pv (.lit (.int .i64 (calls.D.length : Int)))), (16, .pv (.lit (.int .i64 (i : Int))))]) (fun i _v => [(13, mapE kSlot vRecord.enc ((openB recs).of_)), (513, mapE kReq vRecord.enc ((openB recs).req)), (5, .cells [.mp 13, .mp 513])]) [5, 13, 513] (fun i _v => jValues_l0 recs (calls.D.drop i) i  = R) () ?_ ?_ (fun i _v h1 hR => ?_)
 · exact hR
 · exact ⟨fun b => b, WeakerR.ofL (Ks := [5, 13, 513]) hI ⟨⟨rfl, rfl⟩, ⟨rfl, rfl⟩, ⟨rfl, rfl⟩, ⟨rfl, rfl⟩, trivial⟩ (okH_map rfl rfl rfl (okH_map rfl rfl rfl (okH_cons rfl rfl rfl rfl (okH_nil)))) rfl⟩
 refine Awp.consP C ?_
 refine rvP C (.pv (.lit (.bool (decide ((i : Int) < (calls.D.length : Int)))))) ?_
 refine rvc_nil ?_
 refine Awp.seq ?_
 refine Awp.cond (b := (decide ((i : Int) < (calls.D.length : Int)))) rfl (fun h2 => ?_) (fun h2 => ?_)
 ·
  have h3 : i < calls.D.length := by have := of_decide_eq_true h2; omega
  obtain ⟨x, h4⟩ := getX h3
  rw [drop_at h4] at hR
  refine Awp.skip ?_
  refine Awp.seq ?_
  refine Awp.block ?_
  refine Awp.consP C ?_
  refine rvc_un (rexec_idxS C rfl rfl rfl rfl rfl rfl x (Int.natCast_nonneg _) h4 ?_)
  refine rvP C (.agg [.pv (.lit (.int .i64 x.client)), .pv (.lit (.int .i64 x.seq)), .pv (.lit (.bool x.write)), .pv (.lit (.int .u8 (x.key 0))), .pv (.lit (.int .u8 (x.key 1))), .pv (.lit (.int .u8 (x.key 2))), .pv (.lit (.int .u8 (x.key 3))), .pv (.lit (.int .u8 (x.key 4))), .pv (.lit (.int .u8 (x.key 5))), .pv (.lit (.int .u8 (x.key 6))), .pv (.lit (.int .u8 (x.key 7))), .pv (.lit (.string x.value)), .pv (.lit (.int .i64 x.mode)), .pv (.lit (.int .i64 x.bound)), .pv (.lit (.int .i64 x.began)), .pv (.lit (.int .i64 x.ended)), .pv (.lit (.int .i64 x.ver)), .pv (.lit (.int .i64 x.err)), .pv (.lit (.int .i64 x.floor))]) ?_
  refine rvc_un (rexec_prim C (δ := { v := .ptr 7 0, new := [(7, .cells [.pv (.lit (.int .i64 0)), .pv (.lit (.int .i64 0)), .pv (.lit (.bool false)), .pv (.lit (.int .u8 0)), .pv (.lit (.int .u8 0)), .pv (.lit (.int .u8 0)), .pv (.lit (.int .u8 0)), .pv (.lit (.int .u8 0)), .pv (.lit (.int .u8 0)), .pv (.lit (.int .u8 0)), .pv (.lit (.int .u8 0)), .pv (.lit (.string ⟨#[]⟩)), .pv (.lit (.int .i64 0)), .pv (.lit (.int .i64 0)), .pv (.lit (.int .i64 0)), .pv (.lit (.int .i64 0)), .pv (.lit (.int .i64 0)), .pv (.lit (.int .i64 0)), .pv (.lit (.int .i64 0))])] }) rfl rfl rfl rfl trivial rfl ?_)
  refine rvc_un (rexec_prim C (δ := { v := .undef, wr := [(7, some (.cells [.pv (.lit (.int .i64 x.client)), .pv (.lit (.int .i64 x.seq)), .pv (.lit (.bool x.write)), .pv (.lit (.int .u8 (x.key 0))), .pv (.lit (.int .u8 (x.key 1))), .pv (.lit (.int .u8 (x.key 2))), .pv (.lit (.int .u8 (x.key 3))), .pv (.lit (.int .u8 (x.key 4))), .pv (.lit (.int .u8 (x.key 5))), .pv (.lit (.int .u8 (x.key 6))), .pv (.lit (.int .u8 (x.key 7))), .pv (.lit (.string x.value)), .pv (.lit (.int .i64 x.mode)), .pv (.lit (.int .i64 x.bound)), .pv (.lit (.int .i64 x.began)), .pv (.lit (.int .i64 x.ended)), .pv (.lit (.int .i64 x.ver)), .pv (.lit (.int .i64 x.err)), .pv (.lit (.int .i64 x.floor))]))] }) rfl rfl rfl rfl trivial rfl ?_)
  refine rvc_nil ?_
  refine Awp.seq ?_
  refine Awp.consP C ?_
  refine rvP C (.agg [.pv (.lit (.int .i64 x.client)), .pv (.lit (.int .i64 x.seq)), .pv (.lit (.bool x.write)), .pv (.lit (.int .u8 (x.key 0))), .pv (.lit (.int .u8 (x.key 1))), .pv (.lit (.int .u8 (x.key 2))), .pv (.lit (.int .u8 (x.key 3))), .pv (.lit (.int .u8 (x.key 4))), .pv (.lit (.int .u8 (x.key 5))), .pv (.lit (.int .u8 (x.key 6))), .pv (.lit (.int .u8 (x.key 7))), .pv (.lit (.string x.value)), .pv (.lit (.int .i64 x.mode)), .pv (.lit (.int .i64 x.bound)), .pv (.lit (.int .i64 x.began)), .pv (.lit (.int .i64 x.ended)), .pv (.lit (.int .i64 x.ver)), .pv (.lit (.int .i64 x.err)), .pv (.lit (.int .i64 x.floor))]) ?_
  refine rvc_un (rexec_call hP C rfl rfl rfl (jAnswered_calls x) ?_)
  refine rvP C (.pv (.lit (.bool (!(jAnswered x))))) ?_
  refine rvc_nil ?_
  refine Awp.cond (b := (!(jAnswered x))) rfl (fun h5 => ?_) (fun h5 => ?_)
  ·
   replace hR := of_true h5 hR
   refine Awp.exit ?_
   refine Awp.regionP C ?_
   refine rvP C (.pv (.lit (.int .i64 (IntKind.i64.wrap ((i : Int) + 1))))) ?_
   refine rvP C (.pv (.lit (.int .i64 (IntKind.i64.wrap ((i : Int) + 1))))) ?_
   refine rvc_nil ?_
   refine ⟨h3, (), ?_, ?_⟩
   · exact hR
   · exact ⟨fun b => b, WeakerR.ofL (Ks := [5, 13, 513]) hI ⟨⟨rfl, rfl⟩, ⟨rfl, rfl⟩, ⟨rfl, rfl⟩, ⟨lit_cast (wrap_i64 (by omega) (by omega)), rfl⟩, trivial⟩ (okH_map rfl rfl rfl (okH_map rfl rfl rfl (okH_cons rfl rfl rfl rfl (okH_nil)))) rfl⟩
  ·
   replace hR := of_false h5 hR
   refine Awp.skip ?_
   refine Awp.consP C ?_
   refine rvP C (.ptr 5 0) ?_
   refine rvP C (.mp 13) ?_
   refine rvP C (.ptr 7 3) ?_
   refine rvP C (.agg [.pv (.lit (.int .u8 (x.key 0))), .pv (.lit (.int .u8 (x.key 1))), .pv (.lit (.int .u8 (x.key 2))), .pv (.lit (.int .u8 (x.key 3))), .pv (.lit (.int .u8 (x.key 4))), .pv (.lit (.int .u8 (x.key 5))), .pv (.lit (.int .u8 (x.key 6))), .pv (.lit (.int .u8 (x.key 7)))]) ?_
   refine rvP C (.ptr 7 16) ?_
   refine rvP C (.pv (.lit (.int .i64 x.ver))) ?_
   refine rvP C (.agg [.pv (.lit (.int .u8 (x.key 0))), .pv (.lit (.int .u8 (x.key 1))), .pv (.lit (.int .u8 (x.key 2))), .pv (.lit (.int .u8 (x.key 3))), .pv (.lit (.int .u8 (x.key 4))), .pv (.lit (.int .u8 (x.key 5))), .pv (.lit (.int .u8 (x.key 6))), .pv (.lit (.int .u8 (x.key 7))), .pv (.lit (.int .i64 x.ver))]) ?_
   refine rvc_un (rexec_lookup hP C rfl (Slot.mk x.key x.ver) zeroR rfl rfl rfl rfl rfl rfl kSlot_ok rfl (.tup [.agg [.pv (.lit (.int .i64 (((mGet kSlot (Slot.mk x.key x.ver) ((openB recs).of_)).getD zeroR).index))), .pv (.lit (.int .i64 (((mGet kSlot (Slot.mk x.key x.ver) ((openB recs).of_)).getD zeroR).epoch))), .pv (.lit (.int .u8 (((mGet kSlot (Slot.mk x.key x.ver) ((openB recs).of_)).getD zeroR).key 0))), .pv (.lit (.int .u8 (((mGet kSlot (Slot.mk x.key x.ver) ((openB recs).of_)).getD zeroR).key 1))), .pv (.lit (.int .u8 (((mGet kSlot (Slot.mk x.key x.ver) ((openB recs).of_)).getD zeroR).key 2))), .pv (.lit (.int .u8 (((mGet kSlot (Slot.mk x.key x.ver) ((openB recs).of_)).getD zeroR).key 3))), .pv (.lit (.int .u8 (((mGet kSlot (Slot.mk x.key x.ver) ((openB recs).of_)).getD zeroR).key 4))), .pv (.lit (.int .u8 (((mGet kSlot (Slot.mk x.key x.ver) ((openB recs).of_)).getD zeroR).key 5))), .pv (.lit (.int .u8 (((mGet kSlot (Slot.mk x.key x.ver) ((openB recs).of_)).getD zeroR).key 6))), .pv (.lit (.int .u8 (((mGet kSlot (Slot.mk x.key x.ver) ((openB recs).of_)).getD zeroR).key 7))), .pv (.lit (.int .i64 (((mGet kSlot (Slot.mk x.key x.ver) ((openB recs).of_)).getD zeroR).ver))), .pv (.lit (.string (((mGet kSlot (Slot.mk x.key x.ver) ((openB recs).of_)).getD zeroR).value))), .pv (.lit (.int .i64 (((mGet kSlot (Slot.mk x.key x.ver) ((openB recs).of_)).getD zeroR).req.client))), .pv (.lit (.int .i64 (((mGet kSlot (Slot.mk x.key x.ver) ((openB recs).of_)).getD zeroR).req.seq)))], .pv (.lit (.bool ((mGet kSlot (Slot.mk x.key x.ver) ((openB recs).of_)).isSome)))]) rfl ?_)
   refine rvP C (.tup [.agg [.pv (.lit (.int .i64 (((mGet kSlot (Slot.mk x.key x.ver) ((openB recs).of_)).getD zeroR).index))), .pv (.lit (.int .i64 (((mGet kSlot (Slot.mk x.key x.ver) ((openB recs).of_)).getD zeroR).epoch))), .pv (.lit (.int .u8 (((mGet kSlot (Slot.mk x.key x.ver) ((openB recs).of_)).getD zeroR).key 0))), .pv (.lit (.int .u8 (((mGet kSlot (Slot.mk x.key x.ver) ((openB recs).of_)).getD zeroR).key 1))), .pv (.lit (.int .u8 (((mGet kSlot (Slot.mk x.key x.ver) ((openB recs).of_)).getD zeroR).key 2))), .pv (.lit (.int .u8 (((mGet kSlot (Slot.mk x.key x.ver) ((openB recs).of_)).getD zeroR).key 3))), .pv (.lit (.int .u8 (((mGet kSlot (Slot.mk x.key x.ver) ((openB recs).of_)).getD zeroR).key 4))), .pv (.lit (.int .u8 (((mGet kSlot (Slot.mk x.key x.ver) ((openB recs).of_)).getD zeroR).key 5))), .pv (.lit (.int .u8 (((mGet kSlot (Slot.mk x.key x.ver) ((openB recs).of_)).getD zeroR).key 6))), .pv (.lit (.int .u8 (((mGet kSlot (Slot.mk x.key x.ver) ((openB recs).of_)).getD zeroR).key 7))), .pv (.lit (.int .i64 (((mGet kSlot (Slot.mk x.key x.ver) ((openB recs).of_)).getD zeroR).ver))), .pv (.lit (.string (((mGet kSlot (Slot.mk x.key x.ver) ((openB recs).of_)).getD zeroR).value))), .pv (.lit (.int .i64 (((mGet kSlot (Slot.mk x.key x.ver) ((openB recs).of_)).getD zeroR).req.client))), .pv (.lit (.int .i64 (((mGet kSlot (Slot.mk x.key x.ver) ((openB recs).of_)).getD zeroR).req.seq)))], .pv (.lit (.bool ((mGet kSlot (Slot.mk x.key x.ver) ((openB recs).of_)).isSome)))]) ?_
   refine rvP C (.agg [.pv (.lit (.int .i64 (((mGet kSlot (Slot.mk x.key x.ver) ((openB recs).of_)).getD zeroR).index))), .pv (.lit (.int .i64 (((mGet kSlot (Slot.mk x.key x.ver) ((openB recs).of_)).getD zeroR).epoch))), .pv (.lit (.int .u8 (((mGet kSlot (Slot.mk x.key x.ver) ((openB recs).of_)).getD zeroR).key 0))), .pv (.lit (.int .u8 (((mGet kSlot (Slot.mk x.key x.ver) ((openB recs).of_)).getD zeroR).key 1))), .pv (.lit (.int .u8 (((mGet kSlot (Slot.mk x.key x.ver) ((openB recs).of_)).getD zeroR).key 2))), .pv (.lit (.int .u8 (((mGet kSlot (Slot.mk x.key x.ver) ((openB recs).of_)).getD zeroR).key 3))), .pv (.lit (.int .u8 (((mGet kSlot (Slot.mk x.key x.ver) ((openB recs).of_)).getD zeroR).key 4))), .pv (.lit (.int .u8 (((mGet kSlot (Slot.mk x.key x.ver) ((openB recs).of_)).getD zeroR).key 5))), .pv (.lit (.int .u8 (((mGet kSlot (Slot.mk x.key x.ver) ((openB recs).of_)).getD zeroR).key 6))), .pv (.lit (.int .u8 (((mGet kSlot (Slot.mk x.key x.ver) ((openB recs).of_)).getD zeroR).key 7))), .pv (.lit (.int .i64 (((mGet kSlot (Slot.mk x.key x.ver) ((openB recs).of_)).getD zeroR).ver))), .pv (.lit (.string (((mGet kSlot (Slot.mk x.key x.ver) ((openB recs).of_)).getD zeroR).value))), .pv (.lit (.int .i64 (((mGet kSlot (Slot.mk x.key x.ver) ((openB recs).of_)).getD zeroR).req.client))), .pv (.lit (.int .i64 (((mGet kSlot (Slot.mk x.key x.ver) ((openB recs).of_)).getD zeroR).req.seq)))]) ?_
   refine rvP C (.pv (.lit (.bool ((mGet kSlot (Slot.mk x.key x.ver) ((openB recs).of_)).isSome)))) ?_
   refine rvc_un (rexec_prim C (δ := { v := .ptr 8 0, new := [(8, .cells [.pv (.lit (.int .i64 0)), .pv (.lit (.int .i64 0)), .pv (.lit (.int .u8 0)), .pv (.lit (.int .u8 0)), .pv (.lit (.int .u8 0)), .pv (.lit (.int .u8 0)), .pv (.lit (.int .u8 0)), .pv (.lit (.int .u8 0)), .pv (.lit (.int .u8 0)), .pv (.lit (.int .u8 0)), .pv (.lit (.int .i64 0)), .pv (.lit (.string ⟨#[]⟩)), .pv (.lit (.int .i64 0)), .pv (.lit (.int .i64 0))])] }) rfl rfl rfl rfl trivial rfl ?_)
   refine rvc_un (rexec_prim C (δ := { v := .undef, wr := [(8, some (.cells [.pv (.lit (.int .i64 (((mGet kSlot (Slot.mk x.key x.ver) ((openB recs).of_)).getD zeroR).index))), .pv (.lit (.int .i64 (((mGet kSlot (Slot.mk x.key x.ver) ((openB recs).of_)).getD zeroR).epoch))), .pv (.lit (.int .u8 (((mGet kSlot (Slot.mk x.key x.ver) ((openB recs).of_)).getD zeroR).key 0))), .pv (.lit (.int .u8 (((mGet kSlot (Slot.mk x.key x.ver) ((openB recs).of_)).getD zeroR).key 1))), .pv (.lit (.int .u8 (((mGet kSlot (Slot.mk x.key x.ver) ((openB recs).of_)).getD zeroR).key 2))), .pv (.lit (.int .u8 (((mGet kSlot (Slot.mk x.key x.ver) ((openB recs).of_)).getD zeroR).key 3))), .pv (.lit (.int .u8 (((mGet kSlot (Slot.mk x.key x.ver) ((openB recs).of_)).getD zeroR).key 4))), .pv (.lit (.int .u8 (((mGet kSlot (Slot.mk x.key x.ver) ((openB recs).of_)).getD zeroR).key 5))), .pv (.lit (.int .u8 (((mGet kSlot (Slot.mk x.key x.ver) ((openB recs).of_)).getD zeroR).key 6))), .pv (.lit (.int .u8 (((mGet kSlot (Slot.mk x.key x.ver) ((openB recs).of_)).getD zeroR).key 7))), .pv (.lit (.int .i64 (((mGet kSlot (Slot.mk x.key x.ver) ((openB recs).of_)).getD zeroR).ver))), .pv (.lit (.string (((mGet kSlot (Slot.mk x.key x.ver) ((openB recs).of_)).getD zeroR).value))), .pv (.lit (.int .i64 (((mGet kSlot (Slot.mk x.key x.ver) ((openB recs).of_)).getD zeroR).req.client))), .pv (.lit (.int .i64 (((mGet kSlot (Slot.mk x.key x.ver) ((openB recs).of_)).getD zeroR).req.seq)))]))] }) rfl rfl rfl rfl trivial rfl ?_)
   refine rvP C (.pv (.lit (.bool ((mGet kSlot (Slot.mk x.key x.ver) ((openB recs).of_)).isSome)))) ?_
   refine rvc_nil ?_
   refine Awp.block ?_
   refine Awp.consP C ?_
   refine rvP C (.ptr 7 2) ?_
   refine rvP C (.pv (.lit (.bool x.write))) ?_
   refine rvP C (.pv (.lit (.bool x.write))) ?_
   refine rvc_nil ?_
   refine Awp.cond (b := x.write) rfl (fun h6 => ?_) (fun h6 => ?_)
   ·
    replace hR := of_true h6 hR
    refine Awp.cons C (fun o => match o.dst with | some 39 => .reads [5] | some 40 => .reads [7] | some 42 => .reads [513] | some 10 => .writes [10] | none => .writes [10] | _ => .pure) (by kernel_rfl) ?_
    refine rvP C (.ptr 5 1) ?_
    refine rvP C (.mp 513) ?_
    refine rvP C (.agg [.pv (.lit (.int .i64 x.client)), .pv (.lit (.int .i64 x.seq)), .pv (.lit (.bool x.write)), .pv (.lit (.int .u8 (x.key 0))), .pv (.lit (.int .u8 (x.key 1))), .pv (.lit (.int .u8 (x.key 2))), .pv (.lit (.int .u8 (x.key 3))), .pv (.lit (.int .u8 (x.key 4))), .pv (.lit (.int .u8 (x.key 5))), .pv (.lit (.int .u8 (x.key 6))), .pv (.lit (.int .u8 (x.key 7))), .pv (.lit (.string x.value)), .pv (.lit (.int .i64 x.mode)), .pv (.lit (.int .i64 x.bound)), .pv (.lit (.int .i64 x.began)), .pv (.lit (.int .i64 x.ended)), .pv (.lit (.int .i64 x.ver)), .pv (.lit (.int .i64 x.err)), .pv (.lit (.int .i64 x.floor))]) ?_
    refine rvc_un (rexec_call hP C rfl rfl rfl (jReq_calls x) ?_)
    refine rvc_un (rexec_lookup hP C rfl (jReq x) zeroR rfl rfl rfl rfl rfl rfl kReq_ok rfl (.tup [.agg [.pv (.lit (.int .i64 (((mGet kReq (jReq x) ((openB recs).req)).getD zeroR).index))), .pv (.lit (.int .i64 (((mGet kReq (jReq x) ((openB recs).req)).getD zeroR).epoch))), .pv (.lit (.int .u8 (((mGet kReq (jReq x) ((openB recs).req)).getD zeroR).key 0))), .pv (.lit (.int .u8 (((mGet kReq (jReq x) ((openB recs).req)).getD zeroR).key 1))), .pv (.lit (.int .u8 (((mGet kReq (jReq x) ((openB recs).req)).getD zeroR).key 2))), .pv (.lit (.int .u8 (((mGet kReq (jReq x) ((openB recs).req)).getD zeroR).key 3))), .pv (.lit (.int .u8 (((mGet kReq (jReq x) ((openB recs).req)).getD zeroR).key 4))), .pv (.lit (.int .u8 (((mGet kReq (jReq x) ((openB recs).req)).getD zeroR).key 5))), .pv (.lit (.int .u8 (((mGet kReq (jReq x) ((openB recs).req)).getD zeroR).key 6))), .pv (.lit (.int .u8 (((mGet kReq (jReq x) ((openB recs).req)).getD zeroR).key 7))), .pv (.lit (.int .i64 (((mGet kReq (jReq x) ((openB recs).req)).getD zeroR).ver))), .pv (.lit (.string (((mGet kReq (jReq x) ((openB recs).req)).getD zeroR).value))), .pv (.lit (.int .i64 (((mGet kReq (jReq x) ((openB recs).req)).getD zeroR).req.client))), .pv (.lit (.int .i64 (((mGet kReq (jReq x) ((openB recs).req)).getD zeroR).req.seq)))], .pv (.lit (.bool ((mGet kReq (jReq x) ((openB recs).req)).isSome)))]) rfl ?_)
    refine rvP C (.tup [.agg [.pv (.lit (.int .i64 (((mGet kReq (jReq x) ((openB recs).req)).getD zeroR).index))), .pv (.lit (.int .i64 (((mGet kReq (jReq x) ((openB recs).req)).getD zeroR).epoch))), .pv (.lit (.int .u8 (((mGet kReq (jReq x) ((openB recs).req)).getD zeroR).key 0))), .pv (.lit (.int .u8 (((mGet kReq (jReq x) ((openB recs).req)).getD zeroR).key 1))), .pv (.lit (.int .u8 (((mGet kReq (jReq x) ((openB recs).req)).getD zeroR).key 2))), .pv (.lit (.int .u8 (((mGet kReq (jReq x) ((openB recs).req)).getD zeroR).key 3))), .pv (.lit (.int .u8 (((mGet kReq (jReq x) ((openB recs).req)).getD zeroR).key 4))), .pv (.lit (.int .u8 (((mGet kReq (jReq x) ((openB recs).req)).getD zeroR).key 5))), .pv (.lit (.int .u8 (((mGet kReq (jReq x) ((openB recs).req)).getD zeroR).key 6))), .pv (.lit (.int .u8 (((mGet kReq (jReq x) ((openB recs).req)).getD zeroR).key 7))), .pv (.lit (.int .i64 (((mGet kReq (jReq x) ((openB recs).req)).getD zeroR).ver))), .pv (.lit (.string (((mGet kReq (jReq x) ((openB recs).req)).getD zeroR).value))), .pv (.lit (.int .i64 (((mGet kReq (jReq x) ((openB recs).req)).getD zeroR).req.client))), .pv (.lit (.int .i64 (((mGet kReq (jReq x) ((openB recs).req)).getD zeroR).req.seq)))], .pv (.lit (.bool ((mGet kReq (jReq x) ((openB recs).req)).isSome)))]) ?_
    refine rvP C (.agg [.pv (.lit (.int .i64 (((mGet kReq (jReq x) ((openB recs).req)).getD zeroR).index))), .pv (.lit (.int .i64 (((mGet kReq (jReq x) ((openB recs).req)).getD zeroR).epoch))), .pv (.lit (.int .u8 (((mGet kReq (jReq x) ((openB recs).req)).getD zeroR).key 0))), .pv (.lit (.int .u8 (((mGet kReq (jReq x) ((openB recs).req)).getD zeroR).key 1))), .pv (.lit (.int .u8 (((mGet kReq (jReq x) ((openB recs).req)).getD zeroR).key 2))), .pv (.lit (.int .u8 (((mGet kReq (jReq x) ((openB recs).req)).getD zeroR).key 3))), .pv (.lit (.int .u8 (((mGet kReq (jReq x) ((openB recs).req)).getD zeroR).key 4))), .pv (.lit (.int .u8 (((mGet kReq (jReq x) ((openB recs).req)).getD zeroR).key 5))), .pv (.lit (.int .u8 (((mGet kReq (jReq x) ((openB recs).req)).getD zeroR).key 6))), .pv (.lit (.int .u8 (((mGet kReq (jReq x) ((openB recs).req)).getD zeroR).key 7))), .pv (.lit (.int .i64 (((mGet kReq (jReq x) ((openB recs).req)).getD zeroR).ver))), .pv (.lit (.string (((mGet kReq (jReq x) ((openB recs).req)).getD zeroR).value))), .pv (.lit (.int .i64 (((mGet kReq (jReq x) ((openB recs).req)).getD zeroR).req.client))), .pv (.lit (.int .i64 (((mGet kReq (jReq x) ((openB recs).req)).getD zeroR).req.seq)))]) ?_
    refine rvP C (.pv (.lit (.bool ((mGet kReq (jReq x) ((openB recs).req)).isSome)))) ?_
    refine rvc_un (rexec_prim C (δ := { v := .ptr 10 0, new := [(10, .cells [.pv (.lit (.int .i64 0)), .pv (.lit (.int .i64 0)), .pv (.lit (.int .u8 0)), .pv (.lit (.int .u8 0)), .pv (.lit (.int .u8 0)), .pv (.lit (.int .u8 0)), .pv (.lit (.int .u8 0)), .pv (.lit (.int .u8 0)), .pv (.lit (.int .u8 0)), .pv (.lit (.int .u8 0)), .pv (.lit (.int .i64 0)), .pv (.lit (.string ⟨#[]⟩)), .pv (.lit (.int .i64 0)), .pv (.lit (.int .i64 0))])] }) rfl rfl rfl rfl trivial rfl ?_)
    refine rvc_un (rexec_prim C (δ := { v := .undef, wr := [(10, some (.cells [.pv (.lit (.int .i64 (((mGet kReq (jReq x) ((openB recs).req)).getD zeroR).index))), .pv (.lit (.int .i64 (((mGet kReq (jReq x) ((openB recs).req)).getD zeroR).epoch))), .pv (.lit (.int .u8 (((mGet kReq (jReq x) ((openB recs).req)).getD zeroR).key 0))), .pv (.lit (.int .u8 (((mGet kReq (jReq x) ((openB recs).req)).getD zeroR).key 1))), .pv (.lit (.int .u8 (((mGet kReq (jReq x) ((openB recs).req)).getD zeroR).key 2))), .pv (.lit (.int .u8 (((mGet kReq (jReq x) ((openB recs).req)).getD zeroR).key 3))), .pv (.lit (.int .u8 (((mGet kReq (jReq x) ((openB recs).req)).getD zeroR).key 4))), .pv (.lit (.int .u8 (((mGet kReq (jReq x) ((openB recs).req)).getD zeroR).key 5))), .pv (.lit (.int .u8 (((mGet kReq (jReq x) ((openB recs).req)).getD zeroR).key 6))), .pv (.lit (.int .u8 (((mGet kReq (jReq x) ((openB recs).req)).getD zeroR).key 7))), .pv (.lit (.int .i64 (((mGet kReq (jReq x) ((openB recs).req)).getD zeroR).ver))), .pv (.lit (.string (((mGet kReq (jReq x) ((openB recs).req)).getD zeroR).value))), .pv (.lit (.int .i64 (((mGet kReq (jReq x) ((openB recs).req)).getD zeroR).req.client))), .pv (.lit (.int .i64 (((mGet kReq (jReq x) ((openB recs).req)).getD zeroR).req.seq)))]))] }) rfl rfl rfl rfl trivial rfl ?_)
    refine rvP C (.pv (.lit (.bool ((mGet kReq (jReq x) ((openB recs).req)).isSome)))) ?_
    refine rvc_nil ?_
    refine Awp.consP C ?_
    refine rvP C (.pv (.lit (.bool ((mGet kReq (jReq x) ((openB recs).req)).isSome)))) ?_
    refine rvP C (.pv (.lit (.bool (!((mGet kReq (jReq x) ((openB recs).req)).isSome))))) ?_
    refine rvP C (.pv (.lit (.bool (!((mGet kReq (jReq x) ((openB recs).req)).isSome))))) ?_
    refine rvc_case 47 (!((mGet kReq (jReq x) ((openB recs).req)).isSome)) rfl (fun h7 => ?_) (fun h7 => ?_)
    ·
     replace hR := of_true h7 hR
     refine rvS ?_
     refine rvS ?_
     refine rvS ?_
     refine rvS ?_
     refine rvS ?_
     refine rvP C (.pv (.lit (.bool true))) ?_
     refine rvP C (.pv (.lit (.bool true))) ?_
     refine rvS ?_
     refine rvS ?_
     refine rvS ?_
     refine rvS ?_
     refine rvS ?_
     refine rvP C (.pv (.lit (.bool true))) ?_
     refine rvP C (.pv (.lit (.bool true))) ?_
     refine rvS ?_
     refine rvS ?_
     refine rvS ?_
     refine rvS ?_
     refine rvS ?_
     refine rvP C (.pv (.lit (.bool true))) ?_
     refine rvc_nil ?_
     refine Awp.condT (b := true) rfl rfl ?_
     refine Awp.consP C ?_
     refine rvP C (.pv (.lit (.bool false))) ?_
     refine rvc_nil ?_
     refine Awp.ret ?_
     subst hR
     exact ⟨.inl rfl, rfl⟩
    ·
     replace hR := of_false h7 hR
     refine rvO C (.ptr 10 10) ?_
     refine rvO C (.pv (.lit (.int .i64 (((mGet kReq (jReq x) ((openB recs).req)).getD zeroR).ver)))) ?_
     refine rvO C (.ptr 7 16) ?_
     refine rvO C (.pv (.lit (.int .i64 x.ver))) ?_
     refine rvO C (.pv (.lit (.bool ((((mGet kReq (jReq x) ((openB recs).req)).getD zeroR).ver) != x.ver)))) ?_
     refine rvP C (.pv (.lit (.bool ((((mGet kReq (jReq x) ((openB recs).req)).getD zeroR).ver) != x.ver)))) ?_
     refine rvP C (.pv (.lit (.bool ((((mGet kReq (jReq x) ((openB recs).req)).getD zeroR).ver) != x.ver)))) ?_
     refine rvc_case 54 ((((mGet kReq (jReq x) ((openB recs).req)).getD zeroR).ver) != x.ver) rfl (fun h8 => ?_) (fun h8 => ?_)
     ·
      replace hR := of_true h8 hR
      refine rvS ?_
      refine rvS ?_
      refine rvS ?_
      refine rvS ?_
      refine rvS ?_
      refine rvP C (.pv (.lit (.bool true))) ?_
      refine rvP C (.pv (.lit (.bool true))) ?_
      refine rvS ?_
      refine rvS ?_
      refine rvS ?_
      refine rvS ?_
      refine rvS ?_
      refine rvP C (.pv (.lit (.bool true))) ?_
      refine rvc_nil ?_
      refine Awp.condT (b := true) rfl rfl ?_
      refine Awp.consP C ?_
      refine rvP C (.pv (.lit (.bool false))) ?_
      refine rvc_nil ?_
      refine Awp.ret ?_
      subst hR
      exact ⟨.inl rfl, rfl⟩
     ·
      replace hR := of_false h8 hR
      refine rvO C (.ptr 10 2) ?_
      refine rvO C (.agg [.pv (.lit (.int .u8 (((mGet kReq (jReq x) ((openB recs).req)).getD zeroR).key 0))), .pv (.lit (.int .u8 (((mGet kReq (jReq x) ((openB recs).req)).getD zeroR).key 1))), .pv (.lit (.int .u8 (((mGet kReq (jReq x) ((openB recs).req)).getD zeroR).key 2))), .pv (.lit (.int .u8 (((mGet kReq (jReq x) ((openB recs).req)).getD zeroR).key 3))), .pv (.lit (.int .u8 (((mGet kReq (jReq x) ((openB recs).req)).getD zeroR).key 4))), .pv (.lit (.int .u8 (((mGet kReq (jReq x) ((openB recs).req)).getD zeroR).key 5))), .pv (.lit (.int .u8 (((mGet kReq (jReq x) ((openB recs).req)).getD zeroR).key 6))), .pv (.lit (.int .u8 (((mGet kReq (jReq x) ((openB recs).req)).getD zeroR).key 7)))]) ?_
      refine rvO C (.ptr 7 3) ?_
      refine rvO C (.agg [.pv (.lit (.int .u8 (x.key 0))), .pv (.lit (.int .u8 (x.key 1))), .pv (.lit (.int .u8 (x.key 2))), .pv (.lit (.int .u8 (x.key 3))), .pv (.lit (.int .u8 (x.key 4))), .pv (.lit (.int .u8 (x.key 5))), .pv (.lit (.int .u8 (x.key 6))), .pv (.lit (.int .u8 (x.key 7)))]) ?_
      refine rvO C (.pv (.lit (.bool (!(((((mGet kReq (jReq x) ((openB recs).req)).getD zeroR).key 0) == (x.key 0)) && (((((mGet kReq (jReq x) ((openB recs).req)).getD zeroR).key 1) == (x.key 1)) && (((((mGet kReq (jReq x) ((openB recs).req)).getD zeroR).key 2) == (x.key 2)) && (((((mGet kReq (jReq x) ((openB recs).req)).getD zeroR).key 3) == (x.key 3)) && (((((mGet kReq (jReq x) ((openB recs).req)).getD zeroR).key 4) == (x.key 4)) && (((((mGet kReq (jReq x) ((openB recs).req)).getD zeroR).key 5) == (x.key 5)) && (((((mGet kReq (jReq x) ((openB recs).req)).getD zeroR).key 6) == (x.key 6)) && (((((mGet kReq (jReq x) ((openB recs).req)).getD zeroR).key 7) == (x.key 7)) && true)))))))))))) ?_
      refine rvP C (.pv (.lit (.bool (!(((((mGet kReq (jReq x) ((openB recs).req)).getD zeroR).key 0) == (x.key 0)) && (((((mGet kReq (jReq x) ((openB recs).req)).getD zeroR).key 1) == (x.key 1)) && (((((mGet kReq (jReq x) ((openB recs).req)).getD zeroR).key 2) == (x.key 2)) && (((((mGet kReq (jReq x) ((openB recs).req)).getD zeroR).key 3) == (x.key 3)) && (((((mGet kReq (jReq x) ((openB recs).req)).getD zeroR).key 4) == (x.key 4)) && (((((mGet kReq (jReq x) ((openB recs).req)).getD zeroR).key 5) == (x.key 5)) && (((((mGet kReq (jReq x) ((openB recs).req)).getD zeroR).key 6) == (x.key 6)) && (((((mGet kReq (jReq x) ((openB recs).req)).getD zeroR).key 7) == (x.key 7)) && true)))))))))))) ?_
      refine rvP C (.pv (.lit (.bool (!(((((mGet kReq (jReq x) ((openB recs).req)).getD zeroR).key 0) == (x.key 0)) && (((((mGet kReq (jReq x) ((openB recs).req)).getD zeroR).key 1) == (x.key 1)) && (((((mGet kReq (jReq x) ((openB recs).req)).getD zeroR).key 2) == (x.key 2)) && (((((mGet kReq (jReq x) ((openB recs).req)).getD zeroR).key 3) == (x.key 3)) && (((((mGet kReq (jReq x) ((openB recs).req)).getD zeroR).key 4) == (x.key 4)) && (((((mGet kReq (jReq x) ((openB recs).req)).getD zeroR).key 5) == (x.key 5)) && (((((mGet kReq (jReq x) ((openB recs).req)).getD zeroR).key 6) == (x.key 6)) && (((((mGet kReq (jReq x) ((openB recs).req)).getD zeroR).key 7) == (x.key 7)) && true)))))))))))) ?_
      refine rvc_case 61 (!(((((mGet kReq (jReq x) ((openB recs).req)).getD zeroR).key 0) == (x.key 0)) && (((((mGet kReq (jReq x) ((openB recs).req)).getD zeroR).key 1) == (x.key 1)) && (((((mGet kReq (jReq x) ((openB recs).req)).getD zeroR).key 2) == (x.key 2)) && (((((mGet kReq (jReq x) ((openB recs).req)).getD zeroR).key 3) == (x.key 3)) && (((((mGet kReq (jReq x) ((openB recs).req)).getD zeroR).key 4) == (x.key 4)) && (((((mGet kReq (jReq x) ((openB recs).req)).getD zeroR).key 5) == (x.key 5)) && (((((mGet kReq (jReq x) ((openB recs).req)).getD zeroR).key 6) == (x.key 6)) && (((((mGet kReq (jReq x) ((openB recs).req)).getD zeroR).key 7) == (x.key 7)) && true))))))))) rfl (fun h9 => ?_) (fun h9 => ?_)
      ·
       replace hR := of_true h9 hR
       refine rvS ?_
       refine rvS ?_
       refine rvS ?_
       refine rvS ?_
       refine rvS ?_
       refine rvP C (.pv (.lit (.bool true))) ?_
       refine rvc_nil ?_
       refine Awp.condT (b := true) rfl rfl ?_
       refine Awp.consP C ?_
       refine rvP C (.pv (.lit (.bool false))) ?_
       refine rvc_nil ?_
       refine Awp.ret ?_
       subst hR
       exact ⟨.inl rfl, rfl⟩
      ·
       replace hR := of_false h9 hR
       refine rvO C (.ptr 10 11) ?_
       refine rvO C (.pv (.lit (.string (((mGet kReq (jReq x) ((openB recs).req)).getD zeroR).value)))) ?_
       refine rvO C (.ptr 7 11) ?_
       refine rvO C (.pv (.lit (.string x.value))) ?_
       refine rvO C (.pv (.lit (.bool (!((((mGet kReq (jReq x) ((openB recs).req)).getD zeroR).value).toList == x.value.toList))))) ?_
       refine rvP C (.pv (.lit (.bool (!((((mGet kReq (jReq x) ((openB recs).req)).getD zeroR).value).toList == x.value.toList))))) ?_
       refine rvc_nil ?_
       refine Awp.cond (b := (!((((mGet kReq (jReq x) ((openB recs).req)).getD zeroR).value).toList == x.value.toList))) rfl (fun h10 => ?_) (fun h10 => ?_)
       ·
        replace hR := of_true h10 hR
        refine Awp.consP C ?_
        refine rvP C (.pv (.lit (.bool false))) ?_
        refine rvc_nil ?_
        refine Awp.ret ?_
        subst hR
        exact ⟨.inl rfl, rfl⟩
       ·
        replace hR := of_false h10 hR
        refine Awp.skip ?_
        refine Awp.regionP C ?_
        refine rvP C (.pv (.lit (.int .i64 (IntKind.i64.wrap ((i : Int) + 1))))) ?_
        refine rvP C (.pv (.lit (.int .i64 (IntKind.i64.wrap ((i : Int) + 1))))) ?_
        refine rvc_nil ?_
        refine ⟨h3, (), ?_, ?_⟩
        · exact hR
        · exact ⟨fun b => b, WeakerR.ofL (Ks := [5, 13, 513]) hI ⟨⟨rfl, rfl⟩, ⟨rfl, rfl⟩, ⟨rfl, rfl⟩, ⟨lit_cast (wrap_i64 (by omega) (by omega)), rfl⟩, trivial⟩ (okH_map rfl rfl rfl (okH_map rfl rfl rfl (okH_cons rfl rfl rfl rfl (okH_nil)))) rfl⟩
   ·
    replace hR := of_false h6 hR
    refine Awp.consP C ?_
    refine rvP C (.ptr 7 16) ?_
    refine rvP C (.pv (.lit (.int .i64 x.ver))) ?_
    refine rvP C (.pv (.lit (.bool (x.ver == 0)))) ?_
    refine rvP C (.pv (.lit (.bool (x.ver == 0)))) ?_
    refine rvc_nil ?_
    refine Awp.cond (b := (x.ver == 0)) rfl (fun h11 => ?_) (fun h11 => ?_)
    ·
     replace hR := of_true h11 hR
     refine Awp.consP C ?_
     refine rvP C (.ptr 7 11) ?_
     refine rvP C (.pv (.lit (.string x.value))) ?_
     refine rvP C (.pv (.lit (.bool (!(x.value.toList == (⟨#[]⟩ : ByteArray).toList))))) ?_
     refine rvc_nil ?_
     refine Awp.cond (b := (!(x.value.toList == (⟨#[]⟩ : ByteArray).toList))) rfl (fun h12 => ?_) (fun h12 => ?_)
     ·
      replace hR := of_true h12 hR
      refine Awp.consP C ?_
      refine rvP C (.pv (.lit (.bool false))) ?_
      refine rvc_nil ?_
      refine Awp.ret ?_
      subst hR
      exact ⟨.inl rfl, rfl⟩
     ·
      replace hR := of_false h12 hR
      refine Awp.skip ?_
      refine Awp.regionP C ?_
      refine rvP C (.pv (.lit (.int .i64 (IntKind.i64.wrap ((i : Int) + 1))))) ?_
      refine rvP C (.pv (.lit (.int .i64 (IntKind.i64.wrap ((i : Int) + 1))))) ?_
      refine rvc_nil ?_
      refine ⟨h3, (), ?_, ?_⟩
      · exact hR
      · exact ⟨fun b => b, WeakerR.ofL (Ks := [5, 13, 513]) hI ⟨⟨rfl, rfl⟩, ⟨rfl, rfl⟩, ⟨rfl, rfl⟩, ⟨lit_cast (wrap_i64 (by omega) (by omega)), rfl⟩, trivial⟩ (okH_map rfl rfl rfl (okH_map rfl rfl rfl (okH_cons rfl rfl rfl rfl (okH_nil)))) rfl⟩
    ·
     replace hR := of_false h11 hR
     refine Awp.consP C ?_
     refine rvP C (.pv (.lit (.bool ((mGet kSlot (Slot.mk x.key x.ver) ((openB recs).of_)).isSome)))) ?_
     refine rvP C (.pv (.lit (.bool (!((mGet kSlot (Slot.mk x.key x.ver) ((openB recs).of_)).isSome))))) ?_
     refine rvP C (.pv (.lit (.bool (!((mGet kSlot (Slot.mk x.key x.ver) ((openB recs).of_)).isSome))))) ?_
     refine rvc_case 78 (!((mGet kSlot (Slot.mk x.key x.ver) ((openB recs).of_)).isSome)) rfl (fun h13 => ?_) (fun h13 => ?_)
     ·
      replace hR := of_true h13 hR
      refine rvS ?_
      refine rvS ?_
      refine rvS ?_
      refine rvS ?_
      refine rvS ?_
      refine rvP C (.pv (.lit (.bool true))) ?_
      refine rvP C (.pv (.lit (.bool true))) ?_
      refine rvc_nil ?_
      refine Awp.condT (b := true) rfl rfl ?_
      refine Awp.consP C ?_
      refine rvP C (.pv (.lit (.bool false))) ?_
      refine rvc_nil ?_
      refine Awp.ret ?_
      subst hR
      exact ⟨.inl rfl, rfl⟩
     ·
      replace hR := of_false h13 hR
      refine rvO C (.ptr 8 11) ?_
      refine rvO C (.pv (.lit (.string (((mGet kSlot (Slot.mk x.key x.ver) ((openB recs).of_)).getD zeroR).value)))) ?_
      refine rvO C (.ptr 7 11) ?_
      refine rvO C (.pv (.lit (.string x.value))) ?_
      refine rvO C (.pv (.lit (.bool (!((((mGet kSlot (Slot.mk x.key x.ver) ((openB recs).of_)).getD zeroR).value).toList == x.value.toList))))) ?_
      refine rvP C (.pv (.lit (.bool (!((((mGet kSlot (Slot.mk x.key x.ver) ((openB recs).of_)).getD zeroR).value).toList == x.value.toList))))) ?_
      refine rvP C (.pv (.lit (.bool (!((((mGet kSlot (Slot.mk x.key x.ver) ((openB recs).of_)).getD zeroR).value).toList == x.value.toList))))) ?_
      refine rvc_nil ?_
      refine Awp.cond (b := (!((((mGet kSlot (Slot.mk x.key x.ver) ((openB recs).of_)).getD zeroR).value).toList == x.value.toList))) rfl (fun h14 => ?_) (fun h14 => ?_)
      ·
       replace hR := of_true h14 hR
       refine Awp.consP C ?_
       refine rvP C (.pv (.lit (.bool false))) ?_
       refine rvc_nil ?_
       refine Awp.ret ?_
       subst hR
       exact ⟨.inl rfl, rfl⟩
      ·
       replace hR := of_false h14 hR
       refine Awp.skip ?_
       refine Awp.regionP C ?_
       refine rvP C (.pv (.lit (.int .i64 (IntKind.i64.wrap ((i : Int) + 1))))) ?_
       refine rvP C (.pv (.lit (.int .i64 (IntKind.i64.wrap ((i : Int) + 1))))) ?_
       refine rvc_nil ?_
       refine ⟨h3, (), ?_, ?_⟩
       · exact hR
       · exact ⟨fun b => b, WeakerR.ofL (Ks := [5, 13, 513]) hI ⟨⟨rfl, rfl⟩, ⟨rfl, rfl⟩, ⟨rfl, rfl⟩, ⟨lit_cast (wrap_i64 (by omega) (by omega)), rfl⟩, trivial⟩ (okH_map rfl rfl rfl (okH_map rfl rfl rfl (okH_cons rfl rfl rfl rfl (okH_nil)))) rfl⟩
 ·
  have h3 : ¬ i < calls.D.length := by have := of_decide_eq_false h2; omega
  rw [drop_end h3] at hR
  refine Awp.exit ?_
  refine Awp.consP C ?_
  refine rvP C (.pv (.lit (.bool true))) ?_
  refine rvc_nil ?_
  refine Awp.ret ?_
  subst hR
  exact ⟨.inl rfl, rfl⟩
def rOfC_l0 (c : Call) : List Record → Nat → Int → Int → Int → ByteArray → Int → Int → Int → Int → Int → Int → Int → Int → Int → Int → Record
  | [], _, vc, vc1, vc2, vc3, vc4, vc5, vc6, vc7, vc8, vc9, vc10, vc11, vc12, vc13 => (Record.mk vc vc1 (ofL [vc6, vc7, vc8, vc9, vc10, vc11, vc12, vc13]) vc2 vc3 (Req.mk vc4 vc5))
  | x :: xs, i, vc, vc1, vc2, vc3, vc4, vc5, vc6, vc7, vc8, vc9, vc10, vc11, vc12, vc13 => (bif (x.req.client == c.client) then (bif (x.req.seq == c.seq) then rOfC_l0 c xs (i + 1) x.index x.epoch x.ver x.value x.req.client x.req.seq (x.key 0) (x.key 1) (x.key 2) (x.key 3) (x.key 4) (x.key 5) (x.key 6) (x.key 7) else rOfC_l0 c xs (i + 1) vc vc1 vc2 vc3 vc4 vc5 vc6 vc7 vc8 vc9 vc10 vc11 vc12 vc13) else rOfC_l0 c xs (i + 1) vc vc1 vc2 vc3 vc4 vc5 vc6 vc7 vc8 vc9 vc10 vc11 vc12 vc13)
def rOfC (c : Call) (recs : (Sl Record)) : Record :=
  rOfC_l0 c recs.D 0 0 0 0 ⟨#[]⟩ 0 0 0 0 0 0 0 0 0 0
theorem rOfC_calls (c : Call) (recs : (Sl Record)) (hl1 : recs.D.length ≤ 1000000) : PCalls Try.prog 35 [.agg [.pv (.lit (.int .i64 c.client)), .pv (.lit (.int .i64 c.seq)), .pv (.lit (.bool c.write)), .pv (.lit (.int .u8 (c.key 0))), .pv (.lit (.int .u8 (c.key 1))), .pv (.lit (.int .u8 (c.key 2))), .pv (.lit (.int .u8 (c.key 3))), .pv (.lit (.int .u8 (c.key 4))), .pv (.lit (.int .u8 (c.key 5))), .pv (.lit (.int .u8 (c.key 6))), .pv (.lit (.int .u8 (c.key 7))), .pv (.lit (.string c.value)), .pv (.lit (.int .i64 c.mode)), .pv (.lit (.int .i64 c.bound)), .pv (.lit (.int .i64 c.began)), .pv (.lit (.int .i64 c.ended)), .pv (.lit (.int .i64 c.ver)), .pv (.lit (.int .i64 c.err)), .pv (.lit (.int .i64 c.floor))], sS (some recs.nil) eRecord recs.D] (.agg [.pv (.lit (.int .i64 ((rOfC c recs).index))), .pv (.lit (.int .i64 ((rOfC c recs).epoch))), .pv (.lit (.int .u8 ((rOfC c recs).key 0))), .pv (.lit (.int .u8 ((rOfC c recs).key 1))), .pv (.lit (.int .u8 ((rOfC c recs).key 2))), .pv (.lit (.int .u8 ((rOfC c recs).key 3))), .pv (.lit (.int .u8 ((rOfC c recs).key 4))), .pv (.lit (.int .u8 ((rOfC c recs).key 5))), .pv (.lit (.int .u8 ((rOfC c recs).key 6))), .pv (.lit (.int .u8 ((rOfC c recs).key 7))), .pv (.lit (.int .i64 ((rOfC c recs).ver))), .pv (.lit (.string ((rOfC c recs).value))), .pv (.lit (.int .i64 ((rOfC c recs).req.client))), .pv (.lit (.int .i64 ((rOfC c recs).req.seq)))]) := by
 generalize hR : rOfC c recs = R
 refine PCalls.of_body tabOk Try.func35 rfl rfl rfl rfl rfl mixed fun E hP C hI => ?_
 refine Awp.consP C ?_
 refine rvc_un (rexec_prim C (δ := { v := .ptr 2 0, new := [(2, .cells [.pv (.lit (.int .i64 c.client)), .pv (.lit (.int .i64 c.seq)), .pv (.lit (.bool c.write)), .pv (.lit (.int .u8 (c.key 0))), .pv (.lit (.int .u8 (c.key 1))), .pv (.lit (.int .u8 (c.key 2))), .pv (.lit (.int .u8 (c.key 3))), .pv (.lit (.int .u8 (c.key 4))), .pv (.lit (.int .u8 (c.key 5))), .pv (.lit (.int .u8 (c.key 6))), .pv (.lit (.int .u8 (c.key 7))), .pv (.lit (.string c.value)), .pv (.lit (.int .i64 c.mode)), .pv (.lit (.int .i64 c.bound)), .pv (.lit (.int .i64 c.began)), .pv (.lit (.int .i64 c.ended)), .pv (.lit (.int .i64 c.ver)), .pv (.lit (.int .i64 c.err)), .pv (.lit (.int .i64 c.floor))])] }) rfl rfl rfl rfl trivial rfl ?_)
 refine rvc_un (rexec_prim C (δ := { v := .ptr 4 0, new := [(4, .cells [.pv (.lit (.int .i64 0)), .pv (.lit (.int .i64 0)), .pv (.lit (.int .u8 0)), .pv (.lit (.int .u8 0)), .pv (.lit (.int .u8 0)), .pv (.lit (.int .u8 0)), .pv (.lit (.int .u8 0)), .pv (.lit (.int .u8 0)), .pv (.lit (.int .u8 0)), .pv (.lit (.int .u8 0)), .pv (.lit (.int .i64 0)), .pv (.lit (.string ⟨#[]⟩)), .pv (.lit (.int .i64 0)), .pv (.lit (.int .i64 0))])] }) rfl rfl rfl rfl trivial rfl ?_)
 refine rvc_nil ?_
 refine Awp.consP C ?_
 refine rvP C (.agg [.pv (.lit (.int .i64 0)), .pv (.lit (.int .i64 0)), .pv (.lit (.int .u8 0)), .pv (.lit (.int .u8 0)), .pv (.lit (.int .u8 0)), .pv (.lit (.int .u8 0)), .pv (.lit (.int .u8 0)), .pv (.lit (.int .u8 0)), .pv (.lit (.int .u8 0)), .pv (.lit (.int .u8 0)), .pv (.lit (.int .i64 0)), .pv (.lit (.string ⟨#[]⟩)), .pv (.lit (.int .i64 0)), .pv (.lit (.int .i64 0))]) ?_
 refine rvc_un (rexec_prim C (δ := { v := .ptr 5 0, new := [(5, .cells [.pv (.lit (.int .i64 0)), .pv (.lit (.int .i64 0)), .pv (.lit (.int .u8 0)), .pv (.lit (.int .u8 0)), .pv (.lit (.int .u8 0)), .pv (.lit (.int .u8 0)), .pv (.lit (.int .u8 0)), .pv (.lit (.int .u8 0)), .pv (.lit (.int .u8 0)), .pv (.lit (.int .u8 0)), .pv (.lit (.int .i64 0)), .pv (.lit (.string ⟨#[]⟩)), .pv (.lit (.int .i64 0)), .pv (.lit (.int .i64 0))])] }) rfl rfl rfl rfl trivial rfl ?_)
 refine rvc_un (rexec_prim C (δ := { v := .undef, wr := [(5, some (.cells [.pv (.lit (.int .i64 0)), .pv (.lit (.int .i64 0)), .pv (.lit (.int .u8 0)), .pv (.lit (.int .u8 0)), .pv (.lit (.int .u8 0)), .pv (.lit (.int .u8 0)), .pv (.lit (.int .u8 0)), .pv (.lit (.int .u8 0)), .pv (.lit (.int .u8 0)), .pv (.lit (.int .u8 0)), .pv (.lit (.int .i64 0)), .pv (.lit (.string ⟨#[]⟩)), .pv (.lit (.int .i64 0)), .pv (.lit (.int .i64 0))]))] }) rfl rfl rfl rfl trivial rfl ?_)
 refine rvc_nil ?_
 refine Awp.seq ?_
 refine Awp.consP C ?_
 refine rvP C (sS (some recs.nil) eRecord recs.D) ?_
 refine rvP C (.pv (.lit (.int .i64 (recs.D.length : Int)))) ?_
 refine rvP C (.pv (.lit (.int .i64 0))) ?_
 refine rvc_nil ?_
 refine Awp.block ?_
 refine Awp.forR (σ := Int × Int × Int × ByteArray × Int × Int × Int × Int × Int × Int × Int × Int × Int × Int) (recs.D.length) (fun i v => [(2, .ptr 2 0), (4, .ptr 4 0), (5, .ptr 5 0), (9, sS (some recs.nil) eRecord recs.D), (10, .pv (.lit (.int .i64 (recs.D.length : Int)))), (11, .pv (.lit (.int .i64 (i : Int))))]) (fun i v => [(2, .cells [.pv (.lit (.int .i64 c.client)), .pv (.lit (.int .i64 c.seq)), .pv (.lit (.bool c.write)), .pv (.lit (.int .u8 (c.key 0))), .pv (.lit (.int .u8 (c.key 1))), .pv (.lit (.int .u8 (c.key 2))), .pv (.lit (.int .u8 (c.key 3))), .pv (.lit (.int .u8 (c.key 4))), .pv (.lit (.int .u8 (c.key 5))), .pv (.lit (.int .u8 (c.key 6))), .pv (.lit (.int .u8 (c.key 7))), .pv (.lit (.string c.value)), .pv (.lit (.int .i64 c.mode)), .pv (.lit (.int .i64 c.bound)), .pv (.lit (.int .i64 c.began)), .pv (.lit (.int .i64 c.ended)), .pv (.lit (.int .i64 c.ver)), .pv (.lit (.int .i64 c.err)), .pv (.lit (.int .i64 c.floor))]), (4, .cells [.pv (.lit (.int .i64 0)), .pv (.lit (.int .i64 0)), .pv (.lit (.int .u8 0)), .pv (.lit (.int .u8 0)), .pv (.lit (.int .u8 0)), .pv (.lit (.int .u8 0)), .pv (.lit (.int .u8 0)), .pv (.lit (.int .u8 0)), .pv (.lit (.int .u8 0)), .pv (.lit (.int .u8 0)), .pv (.lit (.int .i64 0)), .pv (.lit (.string ⟨#[]⟩)), .pv (.lit (.int .i64 0)), .pv (.lit (.int .i64 0))]), (5, .cells [.pv (.lit (.int .i64 v.1)), .pv (.lit (.int .i64 v.2.1)), .pv (.lit (.int .u8 v.2.2.2.2.2.2.1)), .pv (.lit (.int .u8 v.2.2.2.2.2.2.2.1)), .pv (.lit (.int .u8 v.2.2.2.2.2.2.2.2.1)), .pv (.lit (.int .u8 v.2.2.2.2.2.2.2.2.2.1)), .pv (.lit (.int .u8 v.2.2.2.2.2.2.2.2.2.2.1)), .pv (.lit (.int .u8 v.2.2.2.2.2.2.2.2.2.2.2.1)), .pv (.lit (.int .u8 v.2.2.2.2.2.2.2.2.2.2.2.2.1)), .pv (.lit (.int .u8 v.2.2.2.2.2.2.2.2.2.2.2.2.2)), .pv (.lit (.int .i64 v.2.2.1)), .pv (.lit (.string v.2.2.2.1)), .pv (.lit (.int .i64 v.2.2.2.2.1)), .pv (.lit (.int .i64 v.2.2.2.2.2.1))])]) [2, 4, 5] (fun i v => rOfC_l0 c (recs.D.drop i) i v.1 v.2.1 v.2.2.1 v.2.2.2.1 v.2.2.2.2.1 v.2.2.2.2.2.1 v.2.2.2.2.2.2.1 v.2.2.2.2.2.2.2.1 v.2.2.2.2.2.2.2.2.1 v.2.2.2.2.2.2.2.2.2.1 v.2.2.2.2.2.2.2.2.2.2.1 v.2.2.2.2.2.2.2.2.2.2.2.1 v.2.2.2.2.2.2.2.2.2.2.2.2.1 v.2.2.2.2.2.2.2.2.2.2.2.2.2 = R) (0, 0, 0, ⟨#[]⟩, 0, 0, 0, 0, 0, 0, 0, 0, 0, 0) ?_ ?_ (fun i v h1 hR => ?_)
 · exact hR
 · exact ⟨fun b => b, WeakerR.ofL (Ks := [2, 4, 5]) hI ⟨⟨rfl, rfl⟩, ⟨rfl, rfl⟩, ⟨rfl, rfl⟩, ⟨rfl, rfl⟩, ⟨rfl, rfl⟩, ⟨rfl, rfl⟩, trivial⟩ (okH_cons rfl rfl rfl rfl (okH_cons rfl rfl rfl rfl (okH_cons rfl rfl rfl rfl (okH_nil)))) rfl⟩
 obtain ⟨vc, vc1, vc2, vc3, vc4, vc5, vc6, vc7, vc8, vc9, vc10, vc11, vc12, vc13⟩ := v
 refine Awp.consP C ?_
 refine rvP C (.pv (.lit (.bool (decide ((i : Int) < (recs.D.length : Int)))))) ?_
 refine rvc_nil ?_
 refine Awp.seq ?_
 refine Awp.cond (b := (decide ((i : Int) < (recs.D.length : Int)))) rfl (fun h2 => ?_) (fun h2 => ?_)
 ·
  have h3 : i < recs.D.length := by have := of_decide_eq_true h2; omega
  obtain ⟨x, h4⟩ := getX h3
  rw [drop_at h4] at hR
  refine Awp.skip ?_
  refine Awp.seq ?_
  refine Awp.block ?_
  refine Awp.consP C ?_
  refine rvc_un (rexec_idxS C rfl rfl rfl rfl rfl rfl x (Int.natCast_nonneg _) h4 ?_)
  refine rvP C (.agg [.pv (.lit (.int .i64 x.index)), .pv (.lit (.int .i64 x.epoch)), .pv (.lit (.int .u8 (x.key 0))), .pv (.lit (.int .u8 (x.key 1))), .pv (.lit (.int .u8 (x.key 2))), .pv (.lit (.int .u8 (x.key 3))), .pv (.lit (.int .u8 (x.key 4))), .pv (.lit (.int .u8 (x.key 5))), .pv (.lit (.int .u8 (x.key 6))), .pv (.lit (.int .u8 (x.key 7))), .pv (.lit (.int .i64 x.ver)), .pv (.lit (.string x.value)), .pv (.lit (.int .i64 x.req.client)), .pv (.lit (.int .i64 x.req.seq))]) ?_
  refine rvc_un (rexec_prim C (δ := { v := .ptr 7 0, new := [(7, .cells [.pv (.lit (.int .i64 0)), .pv (.lit (.int .i64 0)), .pv (.lit (.int .u8 0)), .pv (.lit (.int .u8 0)), .pv (.lit (.int .u8 0)), .pv (.lit (.int .u8 0)), .pv (.lit (.int .u8 0)), .pv (.lit (.int .u8 0)), .pv (.lit (.int .u8 0)), .pv (.lit (.int .u8 0)), .pv (.lit (.int .i64 0)), .pv (.lit (.string ⟨#[]⟩)), .pv (.lit (.int .i64 0)), .pv (.lit (.int .i64 0))])] }) rfl rfl rfl rfl trivial rfl ?_)
  refine rvc_un (rexec_prim C (δ := { v := .undef, wr := [(7, some (.cells [.pv (.lit (.int .i64 x.index)), .pv (.lit (.int .i64 x.epoch)), .pv (.lit (.int .u8 (x.key 0))), .pv (.lit (.int .u8 (x.key 1))), .pv (.lit (.int .u8 (x.key 2))), .pv (.lit (.int .u8 (x.key 3))), .pv (.lit (.int .u8 (x.key 4))), .pv (.lit (.int .u8 (x.key 5))), .pv (.lit (.int .u8 (x.key 6))), .pv (.lit (.int .u8 (x.key 7))), .pv (.lit (.int .i64 x.ver)), .pv (.lit (.string x.value)), .pv (.lit (.int .i64 x.req.client)), .pv (.lit (.int .i64 x.req.seq))]))] }) rfl rfl rfl rfl trivial rfl ?_)
  refine rvc_nil ?_
  refine Awp.consP C ?_
  refine rvP C (.ptr 7 12) ?_
  refine rvP C (.ptr 7 12) ?_
  refine rvP C (.pv (.lit (.int .i64 x.req.client))) ?_
  refine rvP C (.ptr 2 0) ?_
  refine rvP C (.pv (.lit (.int .i64 c.client))) ?_
  refine rvP C (.pv (.lit (.bool (x.req.client == c.client)))) ?_
  refine rvP C (.pv (.lit (.bool (x.req.client == c.client)))) ?_
  refine rvc_case 21 (x.req.client == c.client) rfl (fun h5 => ?_) (fun h5 => ?_)
  ·
   replace hR := of_true h5 hR
   refine rvO C (.ptr 7 12) ?_
   refine rvO C (.ptr 7 13) ?_
   refine rvO C (.pv (.lit (.int .i64 x.req.seq))) ?_
   refine rvO C (.ptr 2 1) ?_
   refine rvO C (.pv (.lit (.int .i64 c.seq))) ?_
   refine rvO C (.pv (.lit (.bool (x.req.seq == c.seq)))) ?_
   refine rvP C (.pv (.lit (.bool (x.req.seq == c.seq)))) ?_
   refine rvc_nil ?_
   refine Awp.cond (b := (x.req.seq == c.seq)) rfl (fun h6 => ?_) (fun h6 => ?_)
   ·
    replace hR := of_true h6 hR
    refine Awp.regionP C ?_
    refine rvP C (.agg [.pv (.lit (.int .i64 x.index)), .pv (.lit (.int .i64 x.epoch)), .pv (.lit (.int .u8 (x.key 0))), .pv (.lit (.int .u8 (x.key 1))), .pv (.lit (.int .u8 (x.key 2))), .pv (.lit (.int .u8 (x.key 3))), .pv (.lit (.int .u8 (x.key 4))), .pv (.lit (.int .u8 (x.key 5))), .pv (.lit (.int .u8 (x.key 6))), .pv (.lit (.int .u8 (x.key 7))), .pv (.lit (.int .i64 x.ver)), .pv (.lit (.string x.value)), .pv (.lit (.int .i64 x.req.client)), .pv (.lit (.int .i64 x.req.seq))]) ?_
    refine rvc_un (rexec_prim C (δ := { v := .undef, wr := [(5, some (.cells [.pv (.lit (.int .i64 x.index)), .pv (.lit (.int .i64 x.epoch)), .pv (.lit (.int .u8 (x.key 0))), .pv (.lit (.int .u8 (x.key 1))), .pv (.lit (.int .u8 (x.key 2))), .pv (.lit (.int .u8 (x.key 3))), .pv (.lit (.int .u8 (x.key 4))), .pv (.lit (.int .u8 (x.key 5))), .pv (.lit (.int .u8 (x.key 6))), .pv (.lit (.int .u8 (x.key 7))), .pv (.lit (.int .i64 x.ver)), .pv (.lit (.string x.value)), .pv (.lit (.int .i64 x.req.client)), .pv (.lit (.int .i64 x.req.seq))]))] }) rfl rfl rfl rfl trivial rfl ?_)
    refine rvc_nil ?_
    refine Awp.regionP C ?_
    refine rvP C (.pv (.lit (.int .i64 (IntKind.i64.wrap ((i : Int) + 1))))) ?_
    refine rvP C (.pv (.lit (.int .i64 (IntKind.i64.wrap ((i : Int) + 1))))) ?_
    refine rvc_nil ?_
    refine ⟨h3, (x.index, x.epoch, x.ver, x.value, x.req.client, x.req.seq, (x.key 0), (x.key 1), (x.key 2), (x.key 3), (x.key 4), (x.key 5), (x.key 6), (x.key 7)), ?_, ?_⟩
    · exact hR
    · exact ⟨fun b => b, WeakerR.ofL (Ks := [2, 4, 5]) hI ⟨⟨rfl, rfl⟩, ⟨rfl, rfl⟩, ⟨rfl, rfl⟩, ⟨rfl, rfl⟩, ⟨rfl, rfl⟩, ⟨lit_cast (wrap_i64 (by omega) (by omega)), rfl⟩, trivial⟩ (okH_cons rfl rfl rfl rfl (okH_cons rfl rfl rfl rfl (okH_cons rfl rfl rfl rfl (okH_nil)))) rfl⟩
   ·
    replace hR := of_false h6 hR
    refine Awp.skip ?_
    refine Awp.regionP C ?_
    refine rvP C (.pv (.lit (.int .i64 (IntKind.i64.wrap ((i : Int) + 1))))) ?_
    refine rvP C (.pv (.lit (.int .i64 (IntKind.i64.wrap ((i : Int) + 1))))) ?_
    refine rvc_nil ?_
    refine ⟨h3, (vc, vc1, vc2, vc3, vc4, vc5, vc6, vc7, vc8, vc9, vc10, vc11, vc12, vc13), ?_, ?_⟩
    · exact hR
    · exact ⟨fun b => b, WeakerR.ofL (Ks := [2, 4, 5]) hI ⟨⟨rfl, rfl⟩, ⟨rfl, rfl⟩, ⟨rfl, rfl⟩, ⟨rfl, rfl⟩, ⟨rfl, rfl⟩, ⟨lit_cast (wrap_i64 (by omega) (by omega)), rfl⟩, trivial⟩ (okH_cons rfl rfl rfl rfl (okH_cons rfl rfl rfl rfl (okH_cons rfl rfl rfl rfl (okH_nil)))) rfl⟩
  ·
   replace hR := of_false h5 hR
   refine rvS ?_
   refine rvS ?_
   refine rvS ?_
   refine rvS ?_
   refine rvS ?_
   refine rvS ?_
   refine rvP C (.pv (.lit (.bool false))) ?_
   refine rvc_nil ?_
   refine Awp.condF (b := false) rfl rfl ?_
   refine Awp.skip ?_
   refine Awp.regionP C ?_
   refine rvP C (.pv (.lit (.int .i64 (IntKind.i64.wrap ((i : Int) + 1))))) ?_
   refine rvP C (.pv (.lit (.int .i64 (IntKind.i64.wrap ((i : Int) + 1))))) ?_
   refine rvc_nil ?_
   refine ⟨h3, (vc, vc1, vc2, vc3, vc4, vc5, vc6, vc7, vc8, vc9, vc10, vc11, vc12, vc13), ?_, ?_⟩
   · exact hR
   · exact ⟨fun b => b, WeakerR.ofL (Ks := [2, 4, 5]) hI ⟨⟨rfl, rfl⟩, ⟨rfl, rfl⟩, ⟨rfl, rfl⟩, ⟨rfl, rfl⟩, ⟨rfl, rfl⟩, ⟨lit_cast (wrap_i64 (by omega) (by omega)), rfl⟩, trivial⟩ (okH_cons rfl rfl rfl rfl (okH_cons rfl rfl rfl rfl (okH_cons rfl rfl rfl rfl (okH_nil)))) rfl⟩
 ·
  have h3 : ¬ i < recs.D.length := by have := of_decide_eq_false h2; omega
  rw [drop_end h3] at hR
  refine Awp.exit ?_
  refine Awp.consP C ?_
  refine rvP C (.agg [.pv (.lit (.int .i64 vc)), .pv (.lit (.int .i64 vc1)), .pv (.lit (.int .u8 vc6)), .pv (.lit (.int .u8 vc7)), .pv (.lit (.int .u8 vc8)), .pv (.lit (.int .u8 vc9)), .pv (.lit (.int .u8 vc10)), .pv (.lit (.int .u8 vc11)), .pv (.lit (.int .u8 vc12)), .pv (.lit (.int .u8 vc13)), .pv (.lit (.int .i64 vc2)), .pv (.lit (.string vc3)), .pv (.lit (.int .i64 vc4)), .pv (.lit (.int .i64 vc5))]) ?_
  refine rvc_un (rexec_prim C (δ := { v := .undef, wr := [(4, some (.cells [.pv (.lit (.int .i64 vc)), .pv (.lit (.int .i64 vc1)), .pv (.lit (.int .u8 vc6)), .pv (.lit (.int .u8 vc7)), .pv (.lit (.int .u8 vc8)), .pv (.lit (.int .u8 vc9)), .pv (.lit (.int .u8 vc10)), .pv (.lit (.int .u8 vc11)), .pv (.lit (.int .u8 vc12)), .pv (.lit (.int .u8 vc13)), .pv (.lit (.int .i64 vc2)), .pv (.lit (.string vc3)), .pv (.lit (.int .i64 vc4)), .pv (.lit (.int .i64 vc5))]))] }) rfl rfl rfl rfl trivial rfl ?_)
  refine rvc_nil ?_
  refine Awp.ret ?_
  subst hR
  exact ⟨.inl rfl, rfl⟩
def jAhead_l0 (k : (Nat → Int)) (time : Int) : List Call → Nat → Int → Int
  | [], _, most => most
  | x :: xs, i, most => (bif x.write then (bif (jAnswered x) then (bif (((x.key 0) == (k 0)) && (((x.key 1) == (k 1)) && (((x.key 2) == (k 2)) && (((x.key 3) == (k 3)) && (((x.key 4) == (k 4)) && (((x.key 5) == (k 5)) && (((x.key 6) == (k 6)) && (((x.key 7) == (k 7)) && true)))))))) then (bif (decide (x.ended < time)) then jAhead_l0 k time xs (i + 1) (bif (decide (most < x.ver)) then x.ver else most) else jAhead_l0 k time xs (i + 1) most) else jAhead_l0 k time xs (i + 1) most) else jAhead_l0 k time xs (i + 1) most) else jAhead_l0 k time xs (i + 1) most)
def jAhead (k : (Nat → Int)) (time : Int) (calls : (Sl Call)) : Int :=
  jAhead_l0 k time calls.D 0 0
theorem jAhead_calls (k : (Nat → Int)) (time : Int) (calls : (Sl Call)) (hl1 : calls.D.length ≤ 1000000) : PCalls Try.prog 41 [.agg [.pv (.lit (.int .u8 (k 0))), .pv (.lit (.int .u8 (k 1))), .pv (.lit (.int .u8 (k 2))), .pv (.lit (.int .u8 (k 3))), .pv (.lit (.int .u8 (k 4))), .pv (.lit (.int .u8 (k 5))), .pv (.lit (.int .u8 (k 6))), .pv (.lit (.int .u8 (k 7)))], .pv (.lit (.int .i64 time)), sS (some calls.nil) eCall calls.D] (.pv (.lit (.int .i64 (jAhead k time calls)))) := by
 generalize hR : jAhead k time calls = R
 refine PCalls.of_body tabOk Try.func41 rfl rfl rfl rfl rfl mixed fun E hP C hI => ?_
 refine Awp.consP C ?_
 refine rvc_un (rexec_prim C (δ := { v := .ptr 3 0, new := [(3, .cells [.pv (.lit (.int .u8 (k 0))), .pv (.lit (.int .u8 (k 1))), .pv (.lit (.int .u8 (k 2))), .pv (.lit (.int .u8 (k 3))), .pv (.lit (.int .u8 (k 4))), .pv (.lit (.int .u8 (k 5))), .pv (.lit (.int .u8 (k 6))), .pv (.lit (.int .u8 (k 7)))])] }) rfl rfl rfl rfl trivial rfl ?_)
 refine rvP C (.pv (.lit (.int .i64 0))) ?_
 refine rvc_nil ?_
 refine Awp.consP C ?_
 refine rvP C (.pv (.lit (.int .i64 0))) ?_
 refine rvc_nil ?_
 refine Awp.seq ?_
 refine Awp.consP C ?_
 refine rvP C (sS (some calls.nil) eCall calls.D) ?_
 refine rvP C (.pv (.lit (.int .i64 (calls.D.length : Int)))) ?_
 refine rvP C (.pv (.lit (.int .i64 0))) ?_
 refine rvc_nil ?_
 refine Awp.block ?_
 refine Awp.forR (σ := Int) (calls.D.length) (fun i v => [(1, .pv (.lit (.int .i64 time))), (3, .ptr 3 0), (7, .pv (.lit (.int .i64 v))), (10, sS (some calls.nil) eCall calls.D), (11, .pv (.lit (.int .i64 (calls.D.length : Int)))), (12, .pv (.lit (.int .i64 (i : Int))))]) (fun i v => [(3, .cells [.pv (.lit (.int .u8 (k 0))), .pv (.lit (.int .u8 (k 1))), .pv (.lit (.int .u8 (k 2))), .pv (.lit (.int .u8 (k 3))), .pv (.lit (.int .u8 (k 4))), .pv (.lit (.int .u8 (k 5))), .pv (.lit (.int .u8 (k 6))), .pv (.lit (.int .u8 (k 7)))])]) [3] (fun i v => jAhead_l0 k time (calls.D.drop i) i v = R) 0 ?_ ?_ (fun i most h1 hR => ?_)
 · exact hR
 · exact ⟨fun b => b, WeakerR.ofL (Ks := [3]) hI ⟨⟨rfl, rfl⟩, ⟨rfl, rfl⟩, ⟨rfl, rfl⟩, ⟨rfl, rfl⟩, ⟨rfl, rfl⟩, ⟨rfl, rfl⟩, trivial⟩ (okH_cons rfl rfl rfl rfl (okH_nil)) rfl⟩
 refine Awp.consP C ?_
 refine rvP C (.pv (.lit (.bool (decide ((i : Int) < (calls.D.length : Int)))))) ?_
 refine rvc_nil ?_
 refine Awp.seq ?_
 refine Awp.cond (b := (decide ((i : Int) < (calls.D.length : Int)))) rfl (fun h2 => ?_) (fun h2 => ?_)
 ·
  have h3 : i < calls.D.length := by have := of_decide_eq_true h2; omega
  obtain ⟨x, h4⟩ := getX h3
  rw [drop_at h4] at hR
  refine Awp.skip ?_
  refine Awp.seq ?_
  refine Awp.block ?_
  refine Awp.consP C ?_
  refine rvc_un (rexec_idxS C rfl rfl rfl rfl rfl rfl x (Int.natCast_nonneg _) h4 ?_)
  refine rvP C (.agg [.pv (.lit (.int .i64 x.client)), .pv (.lit (.int .i64 x.seq)), .pv (.lit (.bool x.write)), .pv (.lit (.int .u8 (x.key 0))), .pv (.lit (.int .u8 (x.key 1))), .pv (.lit (.int .u8 (x.key 2))), .pv (.lit (.int .u8 (x.key 3))), .pv (.lit (.int .u8 (x.key 4))), .pv (.lit (.int .u8 (x.key 5))), .pv (.lit (.int .u8 (x.key 6))), .pv (.lit (.int .u8 (x.key 7))), .pv (.lit (.string x.value)), .pv (.lit (.int .i64 x.mode)), .pv (.lit (.int .i64 x.bound)), .pv (.lit (.int .i64 x.began)), .pv (.lit (.int .i64 x.ended)), .pv (.lit (.int .i64 x.ver)), .pv (.lit (.int .i64 x.err)), .pv (.lit (.int .i64 x.floor))]) ?_
  refine rvc_un (rexec_prim C (δ := { v := .ptr 9 0, new := [(9, .cells [.pv (.lit (.int .i64 0)), .pv (.lit (.int .i64 0)), .pv (.lit (.bool false)), .pv (.lit (.int .u8 0)), .pv (.lit (.int .u8 0)), .pv (.lit (.int .u8 0)), .pv (.lit (.int .u8 0)), .pv (.lit (.int .u8 0)), .pv (.lit (.int .u8 0)), .pv (.lit (.int .u8 0)), .pv (.lit (.int .u8 0)), .pv (.lit (.string ⟨#[]⟩)), .pv (.lit (.int .i64 0)), .pv (.lit (.int .i64 0)), .pv (.lit (.int .i64 0)), .pv (.lit (.int .i64 0)), .pv (.lit (.int .i64 0)), .pv (.lit (.int .i64 0)), .pv (.lit (.int .i64 0))])] }) rfl rfl rfl rfl trivial rfl ?_)
  refine rvc_un (rexec_prim C (δ := { v := .undef, wr := [(9, some (.cells [.pv (.lit (.int .i64 x.client)), .pv (.lit (.int .i64 x.seq)), .pv (.lit (.bool x.write)), .pv (.lit (.int .u8 (x.key 0))), .pv (.lit (.int .u8 (x.key 1))), .pv (.lit (.int .u8 (x.key 2))), .pv (.lit (.int .u8 (x.key 3))), .pv (.lit (.int .u8 (x.key 4))), .pv (.lit (.int .u8 (x.key 5))), .pv (.lit (.int .u8 (x.key 6))), .pv (.lit (.int .u8 (x.key 7))), .pv (.lit (.string x.value)), .pv (.lit (.int .i64 x.mode)), .pv (.lit (.int .i64 x.bound)), .pv (.lit (.int .i64 x.began)), .pv (.lit (.int .i64 x.ended)), .pv (.lit (.int .i64 x.ver)), .pv (.lit (.int .i64 x.err)), .pv (.lit (.int .i64 x.floor))]))] }) rfl rfl rfl rfl trivial rfl ?_)
  refine rvc_nil ?_
  refine Awp.consP C ?_
  refine rvP C (.ptr 9 2) ?_
  refine rvP C (.pv (.lit (.bool x.write))) ?_
  refine rvP C (.pv (.lit (.bool x.write))) ?_
  refine rvc_case 18 x.write rfl (fun h5 => ?_) (fun h5 => ?_)
  ·
   replace hR := of_true h5 hR
   refine rvO C (.agg [.pv (.lit (.int .i64 x.client)), .pv (.lit (.int .i64 x.seq)), .pv (.lit (.bool x.write)), .pv (.lit (.int .u8 (x.key 0))), .pv (.lit (.int .u8 (x.key 1))), .pv (.lit (.int .u8 (x.key 2))), .pv (.lit (.int .u8 (x.key 3))), .pv (.lit (.int .u8 (x.key 4))), .pv (.lit (.int .u8 (x.key 5))), .pv (.lit (.int .u8 (x.key 6))), .pv (.lit (.int .u8 (x.key 7))), .pv (.lit (.string x.value)), .pv (.lit (.int .i64 x.mode)), .pv (.lit (.int .i64 x.bound)), .pv (.lit (.int .i64 x.began)), .pv (.lit (.int .i64 x.ended)), .pv (.lit (.int .i64 x.ver)), .pv (.lit (.int .i64 x.err)), .pv (.lit (.int .i64 x.floor))]) ?_
   refine rvc_open rfl rfl rfl (rexec_call hP C rfl rfl rfl (jAnswered_calls x) ?_)
   refine rvP C (.pv (.lit (.bool (jAnswered x)))) ?_
   refine rvP C (.pv (.lit (.bool (jAnswered x)))) ?_
   refine rvc_case 22 (jAnswered x) rfl (fun h6 => ?_) (fun h6 => ?_)
   ·
    replace hR := of_true h6 hR
    refine rvO C (.ptr 9 3) ?_
    refine rvO C (.agg [.pv (.lit (.int .u8 (x.key 0))), .pv (.lit (.int .u8 (x.key 1))), .pv (.lit (.int .u8 (x.key 2))), .pv (.lit (.int .u8 (x.key 3))), .pv (.lit (.int .u8 (x.key 4))), .pv (.lit (.int .u8 (x.key 5))), .pv (.lit (.int .u8 (x.key 6))), .pv (.lit (.int .u8 (x.key 7)))]) ?_
    refine rvO C (.agg [.pv (.lit (.int .u8 (k 0))), .pv (.lit (.int .u8 (k 1))), .pv (.lit (.int .u8 (k 2))), .pv (.lit (.int .u8 (k 3))), .pv (.lit (.int .u8 (k 4))), .pv (.lit (.int .u8 (k 5))), .pv (.lit (.int .u8 (k 6))), .pv (.lit (.int .u8 (k 7)))]) ?_
    refine rvO C (.pv (.lit (.bool (((x.key 0) == (k 0)) && (((x.key 1) == (k 1)) && (((x.key 2) == (k 2)) && (((x.key 3) == (k 3)) && (((x.key 4) == (k 4)) && (((x.key 5) == (k 5)) && (((x.key 6) == (k 6)) && (((x.key 7) == (k 7)) && true))))))))))) ?_
    refine rvP C (.pv (.lit (.bool (((x.key 0) == (k 0)) && (((x.key 1) == (k 1)) && (((x.key 2) == (k 2)) && (((x.key 3) == (k 3)) && (((x.key 4) == (k 4)) && (((x.key 5) == (k 5)) && (((x.key 6) == (k 6)) && (((x.key 7) == (k 7)) && true))))))))))) ?_
    refine rvP C (.pv (.lit (.bool (((x.key 0) == (k 0)) && (((x.key 1) == (k 1)) && (((x.key 2) == (k 2)) && (((x.key 3) == (k 3)) && (((x.key 4) == (k 4)) && (((x.key 5) == (k 5)) && (((x.key 6) == (k 6)) && (((x.key 7) == (k 7)) && true))))))))))) ?_
    refine rvc_case 28 (((x.key 0) == (k 0)) && (((x.key 1) == (k 1)) && (((x.key 2) == (k 2)) && (((x.key 3) == (k 3)) && (((x.key 4) == (k 4)) && (((x.key 5) == (k 5)) && (((x.key 6) == (k 6)) && (((x.key 7) == (k 7)) && true)))))))) rfl (fun h7 => ?_) (fun h7 => ?_)
    ·
     replace hR := of_true h7 hR
     refine rvO C (.ptr 9 15) ?_
     refine rvO C (.pv (.lit (.int .i64 x.ended))) ?_
     refine rvO C (.pv (.lit (.int .i64 time))) ?_
     refine rvO C (.pv (.lit (.bool (decide (x.ended < time))))) ?_
     refine rvP C (.pv (.lit (.bool (decide (x.ended < time))))) ?_
     refine rvc_nil ?_
     refine Awp.cond (b := (decide (x.ended < time))) rfl (fun h8 => ?_) (fun h8 => ?_)
     ·
      replace hR := of_true h8 hR
      refine Awp.regionP C ?_
      refine rvP C (.pv (.lit (.int .i64 most))) ?_
      refine rvP C (.ptr 9 16) ?_
      refine rvP C (.pv (.lit (.int .i64 x.ver))) ?_
      refine rvc_un (rexec_max C rfl rfl rfl ?_)
      refine rvP C (.pv (.lit (.int .i64 (bif (decide (most < x.ver)) then x.ver else most)))) ?_
      refine rvc_nil ?_
      refine Awp.regionP C ?_
      refine rvP C (.pv (.lit (.int .i64 (IntKind.i64.wrap ((i : Int) + 1))))) ?_
      refine rvP C (.pv (.lit (.int .i64 (IntKind.i64.wrap ((i : Int) + 1))))) ?_
      refine rvc_nil ?_
      refine ⟨h3, (bif (decide (most < x.ver)) then x.ver else most), ?_, ?_⟩
      · exact hR
      · exact ⟨fun b => b, WeakerR.ofL (Ks := [3]) hI ⟨⟨rfl, rfl⟩, ⟨rfl, rfl⟩, ⟨rfl, rfl⟩, ⟨rfl, rfl⟩, ⟨rfl, rfl⟩, ⟨lit_cast (wrap_i64 (by omega) (by omega)), rfl⟩, trivial⟩ (okH_cons rfl rfl rfl rfl (okH_nil)) rfl⟩
     ·
      replace hR := of_false h8 hR
      refine Awp.skip ?_
      refine Awp.regionP C ?_
      refine rvP C (.pv (.lit (.int .i64 (IntKind.i64.wrap ((i : Int) + 1))))) ?_
      refine rvP C (.pv (.lit (.int .i64 (IntKind.i64.wrap ((i : Int) + 1))))) ?_
      refine rvc_nil ?_
      refine ⟨h3, most, ?_, ?_⟩
      · exact hR
      · exact ⟨fun b => b, WeakerR.ofL (Ks := [3]) hI ⟨⟨rfl, rfl⟩, ⟨rfl, rfl⟩, ⟨rfl, rfl⟩, ⟨rfl, rfl⟩, ⟨rfl, rfl⟩, ⟨lit_cast (wrap_i64 (by omega) (by omega)), rfl⟩, trivial⟩ (okH_cons rfl rfl rfl rfl (okH_nil)) rfl⟩
    ·
     replace hR := of_false h7 hR
     refine rvS ?_
     refine rvS ?_
     refine rvS ?_
     refine rvS ?_
     refine rvP C (.pv (.lit (.bool false))) ?_
     refine rvc_nil ?_
     refine Awp.condF (b := false) rfl rfl ?_
     refine Awp.skip ?_
     refine Awp.regionP C ?_
     refine rvP C (.pv (.lit (.int .i64 (IntKind.i64.wrap ((i : Int) + 1))))) ?_
     refine rvP C (.pv (.lit (.int .i64 (IntKind.i64.wrap ((i : Int) + 1))))) ?_
     refine rvc_nil ?_
     refine ⟨h3, most, ?_, ?_⟩
     · exact hR
     · exact ⟨fun b => b, WeakerR.ofL (Ks := [3]) hI ⟨⟨rfl, rfl⟩, ⟨rfl, rfl⟩, ⟨rfl, rfl⟩, ⟨rfl, rfl⟩, ⟨rfl, rfl⟩, ⟨lit_cast (wrap_i64 (by omega) (by omega)), rfl⟩, trivial⟩ (okH_cons rfl rfl rfl rfl (okH_nil)) rfl⟩
   ·
    replace hR := of_false h6 hR
    refine rvS ?_
    refine rvS ?_
    refine rvS ?_
    refine rvS ?_
    refine rvP C (.pv (.lit (.bool false))) ?_
    refine rvP C (.pv (.lit (.bool false))) ?_
    refine rvS ?_
    refine rvS ?_
    refine rvS ?_
    refine rvS ?_
    refine rvP C (.pv (.lit (.bool false))) ?_
    refine rvc_nil ?_
    refine Awp.condF (b := false) rfl rfl ?_
    refine Awp.skip ?_
    refine Awp.regionP C ?_
    refine rvP C (.pv (.lit (.int .i64 (IntKind.i64.wrap ((i : Int) + 1))))) ?_
    refine rvP C (.pv (.lit (.int .i64 (IntKind.i64.wrap ((i : Int) + 1))))) ?_
    refine rvc_nil ?_
    refine ⟨h3, most, ?_, ?_⟩
    · exact hR
    · exact ⟨fun b => b, WeakerR.ofL (Ks := [3]) hI ⟨⟨rfl, rfl⟩, ⟨rfl, rfl⟩, ⟨rfl, rfl⟩, ⟨rfl, rfl⟩, ⟨rfl, rfl⟩, ⟨lit_cast (wrap_i64 (by omega) (by omega)), rfl⟩, trivial⟩ (okH_cons rfl rfl rfl rfl (okH_nil)) rfl⟩
  ·
   replace hR := of_false h5 hR
   refine rvS ?_
   refine rvS ?_
   refine rvP C (.pv (.lit (.bool false))) ?_
   refine rvP C (.pv (.lit (.bool false))) ?_
   refine rvS ?_
   refine rvS ?_
   refine rvS ?_
   refine rvS ?_
   refine rvP C (.pv (.lit (.bool false))) ?_
   refine rvP C (.pv (.lit (.bool false))) ?_
   refine rvS ?_
   refine rvS ?_
   refine rvS ?_
   refine rvS ?_
   refine rvP C (.pv (.lit (.bool false))) ?_
   refine rvc_nil ?_
   refine Awp.condF (b := false) rfl rfl ?_
   refine Awp.skip ?_
   refine Awp.regionP C ?_
   refine rvP C (.pv (.lit (.int .i64 (IntKind.i64.wrap ((i : Int) + 1))))) ?_
   refine rvP C (.pv (.lit (.int .i64 (IntKind.i64.wrap ((i : Int) + 1))))) ?_
   refine rvc_nil ?_
   refine ⟨h3, most, ?_, ?_⟩
   · exact hR
   · exact ⟨fun b => b, WeakerR.ofL (Ks := [3]) hI ⟨⟨rfl, rfl⟩, ⟨rfl, rfl⟩, ⟨rfl, rfl⟩, ⟨rfl, rfl⟩, ⟨rfl, rfl⟩, ⟨lit_cast (wrap_i64 (by omega) (by omega)), rfl⟩, trivial⟩ (okH_cons rfl rfl rfl rfl (okH_nil)) rfl⟩
 ·
  have h3 : ¬ i < calls.D.length := by have := of_decide_eq_false h2; omega
  rw [drop_end h3] at hR
  refine Awp.exit ?_
  refine Awp.consP C ?_
  refine rvP C (.pv (.lit (.int .i64 most))) ?_
  refine rvP C (.pv (.lit (.int .i64 most))) ?_
  refine rvc_nil ?_
  refine Awp.ret ?_
  subst hR
  exact ⟨.inl rfl, rfl⟩
def boundsF (c : Call) (c0 : (Sl Call)) : Bool :=
  (bif (!c.write) then (bif (c.mode == 1) then (bif (jAnswered c) then (bif (decide ((jAhead c.key c.began c0) > c.ver)) then (bif (decide (c.bound < 0)) then true else (decide ((IntKind.u64.wrap ((IntKind.u64.wrap (jAhead c.key c.began c0)) - (IntKind.u64.wrap c.ver))) > (IntKind.u64.wrap c.bound)))) else false) else false) else false) else false)
theorem boundsF_calls (c : Call) (c0 : (Sl Call)) (hc : c0.D.length ≤ 1000000) : PCalls Try.prog 40 [.agg [.pv (.lit (.int .i64 c.client)), .pv (.lit (.int .i64 c.seq)), .pv (.lit (.bool c.write)), .pv (.lit (.int .u8 (c.key 0))), .pv (.lit (.int .u8 (c.key 1))), .pv (.lit (.int .u8 (c.key 2))), .pv (.lit (.int .u8 (c.key 3))), .pv (.lit (.int .u8 (c.key 4))), .pv (.lit (.int .u8 (c.key 5))), .pv (.lit (.int .u8 (c.key 6))), .pv (.lit (.int .u8 (c.key 7))), .pv (.lit (.string c.value)), .pv (.lit (.int .i64 c.mode)), .pv (.lit (.int .i64 c.bound)), .pv (.lit (.int .i64 c.began)), .pv (.lit (.int .i64 c.ended)), .pv (.lit (.int .i64 c.ver)), .pv (.lit (.int .i64 c.err)), .pv (.lit (.int .i64 c.floor))], .rp [.sl (some c0.nil) c0.D.length (encL eCall c0.D)]] (.pv (.lit (.bool (boundsF c c0)))) := by
 generalize hR : boundsF c c0 = R
 refine PCalls.of_body tabOk Try.func40 rfl rfl rfl rfl rfl mixed fun E hP C hI => ?_
 refine Awp.consP C ?_
 refine rvc_un (rexec_prim C (δ := { v := .ptr 2 0, new := [(2, .cells [.pv (.lit (.int .i64 c.client)), .pv (.lit (.int .i64 c.seq)), .pv (.lit (.bool c.write)), .pv (.lit (.int .u8 (c.key 0))), .pv (.lit (.int .u8 (c.key 1))), .pv (.lit (.int .u8 (c.key 2))), .pv (.lit (.int .u8 (c.key 3))), .pv (.lit (.int .u8 (c.key 4))), .pv (.lit (.int .u8 (c.key 5))), .pv (.lit (.int .u8 (c.key 6))), .pv (.lit (.int .u8 (c.key 7))), .pv (.lit (.string c.value)), .pv (.lit (.int .i64 c.mode)), .pv (.lit (.int .i64 c.bound)), .pv (.lit (.int .i64 c.began)), .pv (.lit (.int .i64 c.ended)), .pv (.lit (.int .i64 c.ver)), .pv (.lit (.int .i64 c.err)), .pv (.lit (.int .i64 c.floor))])] }) rfl rfl rfl rfl trivial rfl ?_)
 refine rvP C (.pv (.lit (.bool false))) ?_
 refine rvc_nil ?_
 refine Awp.consP C ?_
 refine rvP C (.ptr 2 3) ?_
 refine rvP C (.agg [.pv (.lit (.int .u8 (c.key 0))), .pv (.lit (.int .u8 (c.key 1))), .pv (.lit (.int .u8 (c.key 2))), .pv (.lit (.int .u8 (c.key 3))), .pv (.lit (.int .u8 (c.key 4))), .pv (.lit (.int .u8 (c.key 5))), .pv (.lit (.int .u8 (c.key 6))), .pv (.lit (.int .u8 (c.key 7)))]) ?_
 refine rvP C (.ptr 2 14) ?_
 refine rvP C (.pv (.lit (.int .i64 c.began))) ?_
 refine rvP C (sS (some c0.nil) eCall c0.D) ?_
 refine rvc_un (rexec_call hP C rfl rfl rfl (jAhead_calls c.key c.began c0 (by show c0.D.length ≤ 1000000; omega)) ?_)
 refine rvP C (.pv (.lit (.int .i64 (jAhead c.key c.began c0)))) ?_
 refine rvc_nil ?_
 refine Awp.consP C ?_
 refine rvP C (.ptr 2 2) ?_
 refine rvP C (.pv (.lit (.bool c.write))) ?_
 refine rvP C (.pv (.lit (.bool (!c.write)))) ?_
 refine rvP C (.pv (.lit (.bool (!c.write)))) ?_
 refine rvc_case 14 (!c.write) rfl (fun h1 => ?_) (fun h1 => ?_)
 ·
  replace hR := of_true h1 hR
  refine rvO C (.ptr 2 12) ?_
  refine rvO C (.pv (.lit (.int .i64 c.mode))) ?_
  refine rvO C (.pv (.lit (.bool (c.mode == 1)))) ?_
  refine rvP C (.pv (.lit (.bool (c.mode == 1)))) ?_
  refine rvP C (.pv (.lit (.bool (c.mode == 1)))) ?_
  refine rvc_case 19 (c.mode == 1) rfl (fun h2 => ?_) (fun h2 => ?_)
  ·
   replace hR := of_true h2 hR
   refine rvO C (.agg [.pv (.lit (.int .i64 c.client)), .pv (.lit (.int .i64 c.seq)), .pv (.lit (.bool c.write)), .pv (.lit (.int .u8 (c.key 0))), .pv (.lit (.int .u8 (c.key 1))), .pv (.lit (.int .u8 (c.key 2))), .pv (.lit (.int .u8 (c.key 3))), .pv (.lit (.int .u8 (c.key 4))), .pv (.lit (.int .u8 (c.key 5))), .pv (.lit (.int .u8 (c.key 6))), .pv (.lit (.int .u8 (c.key 7))), .pv (.lit (.string c.value)), .pv (.lit (.int .i64 c.mode)), .pv (.lit (.int .i64 c.bound)), .pv (.lit (.int .i64 c.began)), .pv (.lit (.int .i64 c.ended)), .pv (.lit (.int .i64 c.ver)), .pv (.lit (.int .i64 c.err)), .pv (.lit (.int .i64 c.floor))]) ?_
   refine rvc_open rfl rfl rfl (rexec_call hP C rfl rfl rfl (jAnswered_calls c) ?_)
   refine rvP C (.pv (.lit (.bool (jAnswered c)))) ?_
   refine rvP C (.pv (.lit (.bool (jAnswered c)))) ?_
   refine rvc_case 23 (jAnswered c) rfl (fun h3 => ?_) (fun h3 => ?_)
   ·
    replace hR := of_true h3 hR
    refine rvO C (.pv (.lit (.int .i64 (jAhead c.key c.began c0)))) ?_
    refine rvO C (.ptr 2 16) ?_
    refine rvO C (.pv (.lit (.int .i64 c.ver))) ?_
    refine rvO C (.pv (.lit (.bool (decide ((jAhead c.key c.began c0) > c.ver))))) ?_
    refine rvP C (.pv (.lit (.bool (decide ((jAhead c.key c.began c0) > c.ver))))) ?_
    refine rvP C (.pv (.lit (.bool (decide ((jAhead c.key c.began c0) > c.ver))))) ?_
    refine rvc_case 29 (decide ((jAhead c.key c.began c0) > c.ver)) rfl (fun h4 => ?_) (fun h4 => ?_)
    ·
     replace hR := of_true h4 hR
     refine rvO C (.ptr 2 13) ?_
     refine rvO C (.pv (.lit (.int .i64 c.bound))) ?_
     refine rvO C (.pv (.lit (.bool (decide (c.bound < 0))))) ?_
     refine rvO C (.pv (.lit (.bool (decide (c.bound < 0))))) ?_
     refine rvc_case 33 (decide (c.bound < 0)) rfl (fun h5 => ?_) (fun h5 => ?_)
     ·
      replace hR := of_true h5 hR
      refine rvS ?_
      refine rvS ?_
      refine rvS ?_
      refine rvS ?_
      refine rvS ?_
      refine rvS ?_
      refine rvS ?_
      refine rvS ?_
      refine rvS ?_
      refine rvS ?_
      refine rvO C (.pv (.lit (.bool true))) ?_
      refine rvP C (.pv (.lit (.bool true))) ?_
      refine rvP C (.pv (.lit (.bool true))) ?_
      refine rvc_nil ?_
      refine Awp.ret ?_
      subst hR
      exact ⟨.inl rfl, rfl⟩
     ·
      replace hR := of_false h5 hR
      refine rvO C (.pv (.lit (.int .i64 (jAhead c.key c.began c0)))) ?_
      refine rvO C (.pv (.lit (.int .u64 (IntKind.u64.wrap (jAhead c.key c.began c0))))) ?_
      refine rvO C (.ptr 2 16) ?_
      refine rvO C (.pv (.lit (.int .i64 c.ver))) ?_
      refine rvO C (.pv (.lit (.int .u64 (IntKind.u64.wrap c.ver)))) ?_
      refine rvO C (.pv (.lit (.int .u64 (IntKind.u64.wrap ((IntKind.u64.wrap (jAhead c.key c.began c0)) - (IntKind.u64.wrap c.ver)))))) ?_
      refine rvO C (.ptr 2 13) ?_
      refine rvO C (.pv (.lit (.int .i64 c.bound))) ?_
      refine rvO C (.pv (.lit (.int .u64 (IntKind.u64.wrap c.bound)))) ?_
      refine rvO C (.pv (.lit (.bool (decide ((IntKind.u64.wrap ((IntKind.u64.wrap (jAhead c.key c.began c0)) - (IntKind.u64.wrap c.ver))) > (IntKind.u64.wrap c.bound)))))) ?_
      refine rvO C (.pv (.lit (.bool (decide ((IntKind.u64.wrap ((IntKind.u64.wrap (jAhead c.key c.began c0)) - (IntKind.u64.wrap c.ver))) > (IntKind.u64.wrap c.bound)))))) ?_
      refine rvP C (.pv (.lit (.bool (decide ((IntKind.u64.wrap ((IntKind.u64.wrap (jAhead c.key c.began c0)) - (IntKind.u64.wrap c.ver))) > (IntKind.u64.wrap c.bound)))))) ?_
      refine rvP C (.pv (.lit (.bool (decide ((IntKind.u64.wrap ((IntKind.u64.wrap (jAhead c.key c.began c0)) - (IntKind.u64.wrap c.ver))) > (IntKind.u64.wrap c.bound)))))) ?_
      refine rvc_nil ?_
      refine Awp.ret ?_
      subst hR
      exact ⟨.inl rfl, rfl⟩
    ·
     replace hR := of_false h4 hR
     refine rvS ?_
     refine rvS ?_
     refine rvS ?_
     refine rvS ?_
     refine rvc_shutU rfl rfl rfl ?_
     refine rvc_shutU rfl rfl rfl ?_
     refine rvc_shutU rfl rfl rfl ?_
     refine rvc_shutU rfl rfl rfl ?_
     refine rvc_shutU rfl rfl rfl ?_
     refine rvc_shutU rfl rfl rfl ?_
     refine rvc_shutU rfl rfl rfl ?_
     refine rvc_shutU rfl rfl rfl ?_
     refine rvc_shutU rfl rfl rfl ?_
     refine rvc_shutU rfl rfl rfl ?_
     refine rvS ?_
     refine rvP C (.pv (.lit (.bool false))) ?_
     refine rvP C (.pv (.lit (.bool false))) ?_
     refine rvc_nil ?_
     refine Awp.ret ?_
     subst hR
     exact ⟨.inl rfl, rfl⟩
   ·
    replace hR := of_false h3 hR
    refine rvS ?_
    refine rvS ?_
    refine rvS ?_
    refine rvS ?_
    refine rvP C (.pv (.lit (.bool false))) ?_
    refine rvP C (.pv (.lit (.bool false))) ?_
    refine rvS ?_
    refine rvS ?_
    refine rvS ?_
    refine rvS ?_
    refine rvc_shutU rfl rfl rfl ?_
    refine rvc_shutU rfl rfl rfl ?_
    refine rvc_shutU rfl rfl rfl ?_
    refine rvc_shutU rfl rfl rfl ?_
    refine rvc_shutU rfl rfl rfl ?_
    refine rvc_shutU rfl rfl rfl ?_
    refine rvc_shutU rfl rfl rfl ?_
    refine rvc_shutU rfl rfl rfl ?_
    refine rvc_shutU rfl rfl rfl ?_
    refine rvc_shutU rfl rfl rfl ?_
    refine rvS ?_
    refine rvP C (.pv (.lit (.bool false))) ?_
    refine rvP C (.pv (.lit (.bool false))) ?_
    refine rvc_nil ?_
    refine Awp.ret ?_
    subst hR
    exact ⟨.inl rfl, rfl⟩
  ·
   replace hR := of_false h2 hR
   refine rvS ?_
   refine rvS ?_
   refine rvP C (.pv (.lit (.bool false))) ?_
   refine rvP C (.pv (.lit (.bool false))) ?_
   refine rvS ?_
   refine rvS ?_
   refine rvS ?_
   refine rvS ?_
   refine rvP C (.pv (.lit (.bool false))) ?_
   refine rvP C (.pv (.lit (.bool false))) ?_
   refine rvS ?_
   refine rvS ?_
   refine rvS ?_
   refine rvS ?_
   refine rvc_shutU rfl rfl rfl ?_
   refine rvc_shutU rfl rfl rfl ?_
   refine rvc_shutU rfl rfl rfl ?_
   refine rvc_shutU rfl rfl rfl ?_
   refine rvc_shutU rfl rfl rfl ?_
   refine rvc_shutU rfl rfl rfl ?_
   refine rvc_shutU rfl rfl rfl ?_
   refine rvc_shutU rfl rfl rfl ?_
   refine rvc_shutU rfl rfl rfl ?_
   refine rvc_shutU rfl rfl rfl ?_
   refine rvS ?_
   refine rvP C (.pv (.lit (.bool false))) ?_
   refine rvP C (.pv (.lit (.bool false))) ?_
   refine rvc_nil ?_
   refine Awp.ret ?_
   subst hR
   exact ⟨.inl rfl, rfl⟩
 ·
  replace hR := of_false h1 hR
  refine rvS ?_
  refine rvS ?_
  refine rvS ?_
  refine rvP C (.pv (.lit (.bool false))) ?_
  refine rvP C (.pv (.lit (.bool false))) ?_
  refine rvS ?_
  refine rvS ?_
  refine rvP C (.pv (.lit (.bool false))) ?_
  refine rvP C (.pv (.lit (.bool false))) ?_
  refine rvS ?_
  refine rvS ?_
  refine rvS ?_
  refine rvS ?_
  refine rvP C (.pv (.lit (.bool false))) ?_
  refine rvP C (.pv (.lit (.bool false))) ?_
  refine rvS ?_
  refine rvS ?_
  refine rvS ?_
  refine rvS ?_
  refine rvc_shutU rfl rfl rfl ?_
  refine rvc_shutU rfl rfl rfl ?_
  refine rvc_shutU rfl rfl rfl ?_
  refine rvc_shutU rfl rfl rfl ?_
  refine rvc_shutU rfl rfl rfl ?_
  refine rvc_shutU rfl rfl rfl ?_
  refine rvc_shutU rfl rfl rfl ?_
  refine rvc_shutU rfl rfl rfl ?_
  refine rvc_shutU rfl rfl rfl ?_
  refine rvc_shutU rfl rfl rfl ?_
  refine rvS ?_
  refine rvP C (.pv (.lit (.bool false))) ?_
  refine rvP C (.pv (.lit (.bool false))) ?_
  refine rvc_nil ?_
  refine Awp.ret ?_
  subst hR
  exact ⟨.inl rfl, rfl⟩
def sessF (c : Call) : Bool :=
  (bif (!c.write) then (bif (c.mode == 2) then (bif (jAnswered c) then (decide (c.ver < c.floor)) else false) else false) else false)
theorem sessF_calls (c : Call)  : PCalls Try.prog 42 [.agg [.pv (.lit (.int .i64 c.client)), .pv (.lit (.int .i64 c.seq)), .pv (.lit (.bool c.write)), .pv (.lit (.int .u8 (c.key 0))), .pv (.lit (.int .u8 (c.key 1))), .pv (.lit (.int .u8 (c.key 2))), .pv (.lit (.int .u8 (c.key 3))), .pv (.lit (.int .u8 (c.key 4))), .pv (.lit (.int .u8 (c.key 5))), .pv (.lit (.int .u8 (c.key 6))), .pv (.lit (.int .u8 (c.key 7))), .pv (.lit (.string c.value)), .pv (.lit (.int .i64 c.mode)), .pv (.lit (.int .i64 c.bound)), .pv (.lit (.int .i64 c.began)), .pv (.lit (.int .i64 c.ended)), .pv (.lit (.int .i64 c.ver)), .pv (.lit (.int .i64 c.err)), .pv (.lit (.int .i64 c.floor))]] (.pv (.lit (.bool (sessF c)))) := by
 generalize hR : sessF c = R
 refine PCalls.of_body tabOk Try.func42 rfl rfl rfl rfl rfl mixed fun E hP C hI => ?_
 refine Awp.consP C ?_
 refine rvc_un (rexec_prim C (δ := { v := .ptr 1 0, new := [(1, .cells [.pv (.lit (.int .i64 c.client)), .pv (.lit (.int .i64 c.seq)), .pv (.lit (.bool c.write)), .pv (.lit (.int .u8 (c.key 0))), .pv (.lit (.int .u8 (c.key 1))), .pv (.lit (.int .u8 (c.key 2))), .pv (.lit (.int .u8 (c.key 3))), .pv (.lit (.int .u8 (c.key 4))), .pv (.lit (.int .u8 (c.key 5))), .pv (.lit (.int .u8 (c.key 6))), .pv (.lit (.int .u8 (c.key 7))), .pv (.lit (.string c.value)), .pv (.lit (.int .i64 c.mode)), .pv (.lit (.int .i64 c.bound)), .pv (.lit (.int .i64 c.began)), .pv (.lit (.int .i64 c.ended)), .pv (.lit (.int .i64 c.ver)), .pv (.lit (.int .i64 c.err)), .pv (.lit (.int .i64 c.floor))])] }) rfl rfl rfl rfl trivial rfl ?_)
 refine rvP C (.pv (.lit (.bool false))) ?_
 refine rvc_nil ?_
 refine Awp.consP C ?_
 refine rvP C (.ptr 1 2) ?_
 refine rvP C (.pv (.lit (.bool c.write))) ?_
 refine rvP C (.pv (.lit (.bool (!c.write)))) ?_
 refine rvP C (.pv (.lit (.bool (!c.write)))) ?_
 refine rvc_case 6 (!c.write) rfl (fun h1 => ?_) (fun h1 => ?_)
 ·
  replace hR := of_true h1 hR
  refine rvO C (.ptr 1 12) ?_
  refine rvO C (.pv (.lit (.int .i64 c.mode))) ?_
  refine rvO C (.pv (.lit (.bool (c.mode == 2)))) ?_
  refine rvP C (.pv (.lit (.bool (c.mode == 2)))) ?_
  refine rvP C (.pv (.lit (.bool (c.mode == 2)))) ?_
  refine rvc_case 11 (c.mode == 2) rfl (fun h2 => ?_) (fun h2 => ?_)
  ·
   replace hR := of_true h2 hR
   refine rvO C (.agg [.pv (.lit (.int .i64 c.client)), .pv (.lit (.int .i64 c.seq)), .pv (.lit (.bool c.write)), .pv (.lit (.int .u8 (c.key 0))), .pv (.lit (.int .u8 (c.key 1))), .pv (.lit (.int .u8 (c.key 2))), .pv (.lit (.int .u8 (c.key 3))), .pv (.lit (.int .u8 (c.key 4))), .pv (.lit (.int .u8 (c.key 5))), .pv (.lit (.int .u8 (c.key 6))), .pv (.lit (.int .u8 (c.key 7))), .pv (.lit (.string c.value)), .pv (.lit (.int .i64 c.mode)), .pv (.lit (.int .i64 c.bound)), .pv (.lit (.int .i64 c.began)), .pv (.lit (.int .i64 c.ended)), .pv (.lit (.int .i64 c.ver)), .pv (.lit (.int .i64 c.err)), .pv (.lit (.int .i64 c.floor))]) ?_
   refine rvc_open rfl rfl rfl (rexec_call hP C rfl rfl rfl (jAnswered_calls c) ?_)
   refine rvP C (.pv (.lit (.bool (jAnswered c)))) ?_
   refine rvP C (.pv (.lit (.bool (jAnswered c)))) ?_
   refine rvc_case 15 (jAnswered c) rfl (fun h3 => ?_) (fun h3 => ?_)
   ·
    replace hR := of_true h3 hR
    refine rvO C (.ptr 1 16) ?_
    refine rvO C (.pv (.lit (.int .i64 c.ver))) ?_
    refine rvO C (.ptr 1 18) ?_
    refine rvO C (.pv (.lit (.int .i64 c.floor))) ?_
    refine rvO C (.pv (.lit (.bool (decide (c.ver < c.floor))))) ?_
    refine rvP C (.pv (.lit (.bool (decide (c.ver < c.floor))))) ?_
    refine rvP C (.pv (.lit (.bool (decide (c.ver < c.floor))))) ?_
    refine rvc_nil ?_
    refine Awp.ret ?_
    subst hR
    exact ⟨.inl rfl, rfl⟩
   ·
    replace hR := of_false h3 hR
    refine rvS ?_
    refine rvS ?_
    refine rvS ?_
    refine rvS ?_
    refine rvS ?_
    refine rvP C (.pv (.lit (.bool false))) ?_
    refine rvP C (.pv (.lit (.bool false))) ?_
    refine rvc_nil ?_
    refine Awp.ret ?_
    subst hR
    exact ⟨.inl rfl, rfl⟩
  ·
   replace hR := of_false h2 hR
   refine rvS ?_
   refine rvS ?_
   refine rvP C (.pv (.lit (.bool false))) ?_
   refine rvP C (.pv (.lit (.bool false))) ?_
   refine rvS ?_
   refine rvS ?_
   refine rvS ?_
   refine rvS ?_
   refine rvS ?_
   refine rvP C (.pv (.lit (.bool false))) ?_
   refine rvP C (.pv (.lit (.bool false))) ?_
   refine rvc_nil ?_
   refine Awp.ret ?_
   subst hR
   exact ⟨.inl rfl, rfl⟩
 ·
  replace hR := of_false h1 hR
  refine rvS ?_
  refine rvS ?_
  refine rvS ?_
  refine rvP C (.pv (.lit (.bool false))) ?_
  refine rvP C (.pv (.lit (.bool false))) ?_
  refine rvS ?_
  refine rvS ?_
  refine rvP C (.pv (.lit (.bool false))) ?_
  refine rvP C (.pv (.lit (.bool false))) ?_
  refine rvS ?_
  refine rvS ?_
  refine rvS ?_
  refine rvS ?_
  refine rvS ?_
  refine rvP C (.pv (.lit (.bool false))) ?_
  refine rvP C (.pv (.lit (.bool false))) ?_
  refine rvc_nil ?_
  refine Awp.ret ?_
  subst hR
  exact ⟨.inl rfl, rfl⟩
structure Op where
  write : Bool
  value : ByteArray
  ver : Int
  began : Int
  ended : Int
  deriving Inhabited
def eOp : Enc Op := ⟨5, fun x => [.lit (.bool x.write), .lit (.string x.value), .lit (.int .i64 x.ver), .lit (.int .i64 x.began), .lit (.int .i64 x.ended)], fun _ => rfl⟩
def jOps_l0 (k : (Nat → Int)) (recs : (Sl Record)) : List Call → Nat → (List Op) → (Sl Op)
  | [], _, l => (Sl.mk l.isEmpty l)
  | x :: xs, i, l => (bif (!(((x.key 0) == (k 0)) && (((x.key 1) == (k 1)) && (((x.key 2) == (k 2)) && (((x.key 3) == (k 3)) && (((x.key 4) == (k 4)) && (((x.key 5) == (k 5)) && (((x.key 6) == (k 6)) && (((x.key 7) == (k 7)) && true))))))))) then jOps_l0 k recs xs (i + 1) l else (bif (!(jCounts x)) then jOps_l0 k recs xs (i + 1) l else (bif (!x.write) then (bif (!(jAnswered x)) then jOps_l0 k recs xs (i + 1) l else (bif x.write then jOps_l0 k recs xs (i + 1) (l ++ [(Op.mk x.write x.value x.ver x.began x.ended)]) else jOps_l0 k recs xs (i + 1) (l ++ [(Op.mk x.write x.value x.ver x.began x.ended)]))) else (bif x.write then (bif (!(jAnswered x)) then jOps_l0 k recs xs (i + 1) (l ++ [(Op.mk x.write x.value (((mGet kReq (jReq x) ((openB recs).req)).getD zeroR).ver) x.began 0)]) else jOps_l0 k recs xs (i + 1) (l ++ [(Op.mk x.write x.value x.ver x.began x.ended)])) else jOps_l0 k recs xs (i + 1) (l ++ [(Op.mk x.write x.value x.ver x.began x.ended)])))))
def jOps (k : (Nat → Int)) (calls : (Sl Call)) (recs : (Sl Record)) : (Sl Op) :=
  jOps_l0 k recs calls.D 0 []
theorem jOps_calls (k : (Nat → Int)) (calls : (Sl Call)) (recs : (Sl Record)) (hl1 : recs.D.length ≤ 1000000) (hl2 : calls.D.length ≤ 1000000) : PCalls Try.prog 25 [.agg [.pv (.lit (.int .u8 (k 0))), .pv (.lit (.int .u8 (k 1))), .pv (.lit (.int .u8 (k 2))), .pv (.lit (.int .u8 (k 3))), .pv (.lit (.int .u8 (k 4))), .pv (.lit (.int .u8 (k 5))), .pv (.lit (.int .u8 (k 6))), .pv (.lit (.int .u8 (k 7)))], sS (some calls.nil) eCall calls.D, sS (some recs.nil) eRecord recs.D] (sS (some (jOps k calls recs).nil) eOp ((jOps k calls recs).D)) := by
 generalize hR : jOps k calls recs = R
 refine PCalls.of_body tabOk Try.func25 rfl rfl rfl rfl rfl mixed fun E hP C hI => ?_
 refine Awp.consP C ?_
 refine rvc_un (rexec_prim C (δ := { v := .ptr 3 0, new := [(3, .cells [.pv (.lit (.int .u8 (k 0))), .pv (.lit (.int .u8 (k 1))), .pv (.lit (.int .u8 (k 2))), .pv (.lit (.int .u8 (k 3))), .pv (.lit (.int .u8 (k 4))), .pv (.lit (.int .u8 (k 5))), .pv (.lit (.int .u8 (k 6))), .pv (.lit (.int .u8 (k 7)))])] }) rfl rfl rfl rfl trivial rfl ?_)
 refine rvP C (sS (some true) eOp []) ?_
 refine rvc_nil ?_
 refine Awp.cons C (fun _ => .quiet) (by kernel_rfl) ?_
 refine rvP C (sS (some recs.nil) eRecord recs.D) ?_
 refine rvc_un (rexec_callMaps hP C 513 rfl rfl rfl rfl rfl rfl (openB_calls recs hl1) ?_)
 refine rvc_un (rexec_prim C (δ := { v := .ptr 7 0, new := [(7, .cells [.pv (.lit (.map none)), .pv (.lit (.map none))])] }) rfl rfl rfl rfl trivial rfl ?_)
 refine rvc_un (rexec_prim C (δ := { v := .undef, wr := [(7, some (.cells [.mp 13, .mp 513]))] }) rfl rfl rfl rfl trivial rfl ?_)
 refine rvc_nil ?_
 refine Awp.consP C ?_
 refine rvP C (sS (some true) eOp []) ?_
 refine rvc_nil ?_
 refine Awp.seq ?_
 refine Awp.consP C ?_
 refine rvP C (sS (some calls.nil) eCall calls.D) ?_
 refine rvP C (.pv (.lit (.int .i64 (calls.D.length : Int)))) ?_
 refine rvP C (.pv (.lit (.int .i64 0))) ?_
 refine rvc_nil ?_
 refine Awp.block ?_
 refine Awp.forR (σ := ((List Op))) (calls.D.length) (fun i v => [(3, .ptr 3 0), (7, .ptr 7 0), (8, grow 900 eOp v), (14, sS (some calls.nil) eCall calls.D), (15, .pv (.lit (.int .i64 (calls.D.length : Int)))), (16, .pv (.lit (.int .i64 (i : Int))))]) (fun i v => (growH 900 eOp v ++ ([(3, .cells [.pv (.lit (.int .u8 (k 0))), .pv (.lit (.int .u8 (k 1))), .pv (.lit (.int .u8 (k 2))), .pv (.lit (.int .u8 (k 3))), .pv (.lit (.int .u8 (k 4))), .pv (.lit (.int .u8 (k 5))), .pv (.lit (.int .u8 (k 6))), .pv (.lit (.int .u8 (k 7)))]), (13, mapE kSlot vRecord.enc ((openB recs).of_)), (513, mapE kReq vRecord.enc ((openB recs).req)), (7, .cells [.mp 13, .mp 513])]))) [3, 7, 13, 513, 900] (fun i v => (jOps_l0 k recs (calls.D.drop i) i v = R) ∧ (v.length ≤ i)) [] ?_ ?_ (fun i l h1 hR => ?_)
 · exact ⟨hR, (by first | omega | (simp <;> omega))⟩
 · exact ⟨fun b => b, WeakerR.ofL (Ks := [3, 7, 13, 513, 900]) hI ⟨⟨rfl, rfl⟩, ⟨rfl, rfl⟩, ⟨rfl, rfl⟩, ⟨rfl, rfl⟩, ⟨rfl, rfl⟩, ⟨rfl, rfl⟩, trivial⟩ (okH_grow (fun hne => absurd rfl hne) rfl rfl (okH_cons rfl rfl rfl rfl (okH_map rfl rfl rfl (okH_map rfl rfl rfl (okH_cons rfl rfl rfl rfl (okH_nil)))))) rfl⟩
 obtain ⟨hR, hi_l⟩ := hR
 replace hi_l : l.length ≤ i := hi_l
 by_cases h2 : l = []
 ·
  refine Awp.wordsR [(3, .ptr 3 0), (7, .ptr 7 0), (8, sS (some l.isEmpty) eOp l), (14, sS (some calls.nil) eCall calls.D), (15, .pv (.lit (.int .i64 (calls.D.length : Int)))), (16, .pv (.lit (.int .i64 (i : Int))))] [(3, .cells [.pv (.lit (.int .u8 (k 0))), .pv (.lit (.int .u8 (k 1))), .pv (.lit (.int .u8 (k 2))), .pv (.lit (.int .u8 (k 3))), .pv (.lit (.int .u8 (k 4))), .pv (.lit (.int .u8 (k 5))), .pv (.lit (.int .u8 (k 6))), .pv (.lit (.int .u8 (k 7)))]), (13, mapE kSlot vRecord.enc ((openB recs).of_)), (513, mapE kReq vRecord.enc ((openB recs).req)), (7, .cells [.mp 13, .mp 513])] [3, 7, 13, 513] (WeakerR.ofL (Ks := [3, 7, 13, 513]) hI ⟨⟨rfl, rfl⟩, ⟨rfl, rfl⟩, ⟨(by exact grow_at_nil (b := 900) (e := eOp) (l := l) rfl h2), rfl⟩, ⟨rfl, rfl⟩, ⟨rfl, rfl⟩, ⟨rfl, rfl⟩, trivial⟩ (okH_cons (look_nil h2 rfl) rfl rfl rfl (okH_map (look_nil h2 rfl) rfl rfl (okH_map (look_nil h2 rfl) rfl rfl (okH_cons (look_nil h2 rfl) rfl rfl rfl (okH_nil))))) rfl) ?_
  refine Awp.consP C ?_
  refine rvP C (.pv (.lit (.bool (decide ((i : Int) < (calls.D.length : Int)))))) ?_
  refine rvc_nil ?_
  refine Awp.seq ?_
  refine Awp.cond (b := (decide ((i : Int) < (calls.D.length : Int)))) rfl (fun h3 => ?_) (fun h3 => ?_)
  ·
   have h4 : i < calls.D.length := by have := of_decide_eq_true h3; omega
   obtain ⟨x, h5⟩ := getX h4
   rw [drop_at h5] at hR
   refine Awp.skip ?_
   refine Awp.seq ?_
   refine Awp.block ?_
   refine Awp.consP C ?_
   refine rvc_un (rexec_idxS C rfl rfl rfl rfl rfl rfl x (Int.natCast_nonneg _) h5 ?_)
   refine rvP C (.agg [.pv (.lit (.int .i64 x.client)), .pv (.lit (.int .i64 x.seq)), .pv (.lit (.bool x.write)), .pv (.lit (.int .u8 (x.key 0))), .pv (.lit (.int .u8 (x.key 1))), .pv (.lit (.int .u8 (x.key 2))), .pv (.lit (.int .u8 (x.key 3))), .pv (.lit (.int .u8 (x.key 4))), .pv (.lit (.int .u8 (x.key 5))), .pv (.lit (.int .u8 (x.key 6))), .pv (.lit (.int .u8 (x.key 7))), .pv (.lit (.string x.value)), .pv (.lit (.int .i64 x.mode)), .pv (.lit (.int .i64 x.bound)), .pv (.lit (.int .i64 x.began)), .pv (.lit (.int .i64 x.ended)), .pv (.lit (.int .i64 x.ver)), .pv (.lit (.int .i64 x.err)), .pv (.lit (.int .i64 x.floor))]) ?_
   refine rvc_un (rexec_prim C (δ := { v := .ptr 10 0, new := [(10, .cells [.pv (.lit (.int .i64 0)), .pv (.lit (.int .i64 0)), .pv (.lit (.bool false)), .pv (.lit (.int .u8 0)), .pv (.lit (.int .u8 0)), .pv (.lit (.int .u8 0)), .pv (.lit (.int .u8 0)), .pv (.lit (.int .u8 0)), .pv (.lit (.int .u8 0)), .pv (.lit (.int .u8 0)), .pv (.lit (.int .u8 0)), .pv (.lit (.string ⟨#[]⟩)), .pv (.lit (.int .i64 0)), .pv (.lit (.int .i64 0)), .pv (.lit (.int .i64 0)), .pv (.lit (.int .i64 0)), .pv (.lit (.int .i64 0)), .pv (.lit (.int .i64 0)), .pv (.lit (.int .i64 0))])] }) rfl rfl rfl rfl trivial rfl ?_)
   refine rvc_un (rexec_prim C (δ := { v := .undef, wr := [(10, some (.cells [.pv (.lit (.int .i64 x.client)), .pv (.lit (.int .i64 x.seq)), .pv (.lit (.bool x.write)), .pv (.lit (.int .u8 (x.key 0))), .pv (.lit (.int .u8 (x.key 1))), .pv (.lit (.int .u8 (x.key 2))), .pv (.lit (.int .u8 (x.key 3))), .pv (.lit (.int .u8 (x.key 4))), .pv (.lit (.int .u8 (x.key 5))), .pv (.lit (.int .u8 (x.key 6))), .pv (.lit (.int .u8 (x.key 7))), .pv (.lit (.string x.value)), .pv (.lit (.int .i64 x.mode)), .pv (.lit (.int .i64 x.bound)), .pv (.lit (.int .i64 x.began)), .pv (.lit (.int .i64 x.ended)), .pv (.lit (.int .i64 x.ver)), .pv (.lit (.int .i64 x.err)), .pv (.lit (.int .i64 x.floor))]))] }) rfl rfl rfl rfl trivial rfl ?_)
   refine rvc_nil ?_
   refine Awp.seq ?_
   refine Awp.consP C ?_
   refine rvP C (.ptr 10 3) ?_
   refine rvP C (.agg [.pv (.lit (.int .u8 (x.key 0))), .pv (.lit (.int .u8 (x.key 1))), .pv (.lit (.int .u8 (x.key 2))), .pv (.lit (.int .u8 (x.key 3))), .pv (.lit (.int .u8 (x.key 4))), .pv (.lit (.int .u8 (x.key 5))), .pv (.lit (.int .u8 (x.key 6))), .pv (.lit (.int .u8 (x.key 7)))]) ?_
   refine rvP C (.agg [.pv (.lit (.int .u8 (k 0))), .pv (.lit (.int .u8 (k 1))), .pv (.lit (.int .u8 (k 2))), .pv (.lit (.int .u8 (k 3))), .pv (.lit (.int .u8 (k 4))), .pv (.lit (.int .u8 (k 5))), .pv (.lit (.int .u8 (k 6))), .pv (.lit (.int .u8 (k 7)))]) ?_
   refine rvP C (.pv (.lit (.bool (!(((x.key 0) == (k 0)) && (((x.key 1) == (k 1)) && (((x.key 2) == (k 2)) && (((x.key 3) == (k 3)) && (((x.key 4) == (k 4)) && (((x.key 5) == (k 5)) && (((x.key 6) == (k 6)) && (((x.key 7) == (k 7)) && true)))))))))))) ?_
   refine rvP C (.pv (.lit (.bool (!(((x.key 0) == (k 0)) && (((x.key 1) == (k 1)) && (((x.key 2) == (k 2)) && (((x.key 3) == (k 3)) && (((x.key 4) == (k 4)) && (((x.key 5) == (k 5)) && (((x.key 6) == (k 6)) && (((x.key 7) == (k 7)) && true)))))))))))) ?_
   refine rvc_case 24 (!(((x.key 0) == (k 0)) && (((x.key 1) == (k 1)) && (((x.key 2) == (k 2)) && (((x.key 3) == (k 3)) && (((x.key 4) == (k 4)) && (((x.key 5) == (k 5)) && (((x.key 6) == (k 6)) && (((x.key 7) == (k 7)) && true))))))))) rfl (fun h6 => ?_) (fun h6 => ?_)
   ·
    replace hR := of_true h6 hR
    refine rvS ?_
    refine rvS ?_
    refine rvS ?_
    refine rvP C (.pv (.lit (.bool true))) ?_
    refine rvP C (.pv (.lit (.bool true))) ?_
    refine rvS ?_
    refine rvS ?_
    refine rvS ?_
    refine rvS ?_
    refine rvc_shutU rfl rfl rfl ?_
    refine rvc_shutU rfl rfl rfl ?_
    refine rvc_shutU rfl rfl rfl ?_
    refine rvS ?_
    refine rvP C (.pv (.lit (.bool true))) ?_
    refine rvc_nil ?_
    refine Awp.condT (b := true) rfl rfl ?_
    refine Awp.exit ?_
    refine Awp.regionP C ?_
    refine rvP C (.pv (.lit (.int .i64 (IntKind.i64.wrap ((i : Int) + 1))))) ?_
    refine rvP C (.pv (.lit (.int .i64 (IntKind.i64.wrap ((i : Int) + 1))))) ?_
    refine rvc_nil ?_
    refine ⟨h4, l, ?_, ?_⟩
    · exact ⟨hR, (by first | omega | (simp <;> omega))⟩
    · exact ⟨fun b => b, WeakerR.ofL (Ks := [3, 7, 13, 513, 900]) hI ⟨⟨rfl, rfl⟩, ⟨rfl, rfl⟩, ⟨grow_to_nil rfl h2 (.inr rfl), grow_within rfl⟩, ⟨rfl, rfl⟩, ⟨rfl, rfl⟩, ⟨lit_cast (wrap_i64 (by omega) (by omega)), rfl⟩, trivial⟩ (okH_grow (fun hne => absurd h2 hne) rfl rfl (okH_cons rfl rfl rfl rfl (okH_map rfl rfl rfl (okH_map rfl rfl rfl (okH_cons rfl rfl rfl rfl (okH_nil)))))) rfl⟩
   ·
    replace hR := of_false h6 hR
    refine rvO C (.agg [.pv (.lit (.int .i64 x.client)), .pv (.lit (.int .i64 x.seq)), .pv (.lit (.bool x.write)), .pv (.lit (.int .u8 (x.key 0))), .pv (.lit (.int .u8 (x.key 1))), .pv (.lit (.int .u8 (x.key 2))), .pv (.lit (.int .u8 (x.key 3))), .pv (.lit (.int .u8 (x.key 4))), .pv (.lit (.int .u8 (x.key 5))), .pv (.lit (.int .u8 (x.key 6))), .pv (.lit (.int .u8 (x.key 7))), .pv (.lit (.string x.value)), .pv (.lit (.int .i64 x.mode)), .pv (.lit (.int .i64 x.bound)), .pv (.lit (.int .i64 x.began)), .pv (.lit (.int .i64 x.ended)), .pv (.lit (.int .i64 x.ver)), .pv (.lit (.int .i64 x.err)), .pv (.lit (.int .i64 x.floor))]) ?_
    refine rvc_open rfl rfl rfl (rexec_call hP C rfl rfl rfl (jCounts_calls x) ?_)
    refine rvO C (.pv (.lit (.bool (!(jCounts x))))) ?_
    refine rvP C (.pv (.lit (.bool (!(jCounts x))))) ?_
    refine rvP C (.pv (.lit (.bool (!(jCounts x))))) ?_
    refine rvc_case 29 (!(jCounts x)) rfl (fun h7 => ?_) (fun h7 => ?_)
    ·
     replace hR := of_true h7 hR
     refine rvS ?_
     refine rvS ?_
     refine rvS ?_
     refine rvS ?_
     refine rvc_shutU rfl rfl rfl ?_
     refine rvc_shutU rfl rfl rfl ?_
     refine rvc_shutU rfl rfl rfl ?_
     refine rvS ?_
     refine rvP C (.pv (.lit (.bool true))) ?_
     refine rvc_nil ?_
     refine Awp.condT (b := true) rfl rfl ?_
     refine Awp.exit ?_
     refine Awp.regionP C ?_
     refine rvP C (.pv (.lit (.int .i64 (IntKind.i64.wrap ((i : Int) + 1))))) ?_
     refine rvP C (.pv (.lit (.int .i64 (IntKind.i64.wrap ((i : Int) + 1))))) ?_
     refine rvc_nil ?_
     refine ⟨h4, l, ?_, ?_⟩
     · exact ⟨hR, (by first | omega | (simp <;> omega))⟩
     · exact ⟨fun b => b, WeakerR.ofL (Ks := [3, 7, 13, 513, 900]) hI ⟨⟨rfl, rfl⟩, ⟨rfl, rfl⟩, ⟨grow_to_nil rfl h2 (.inr rfl), grow_within rfl⟩, ⟨rfl, rfl⟩, ⟨rfl, rfl⟩, ⟨lit_cast (wrap_i64 (by omega) (by omega)), rfl⟩, trivial⟩ (okH_grow (fun hne => absurd h2 hne) rfl rfl (okH_cons rfl rfl rfl rfl (okH_map rfl rfl rfl (okH_map rfl rfl rfl (okH_cons rfl rfl rfl rfl (okH_nil)))))) rfl⟩
    ·
     replace hR := of_false h7 hR
     refine rvO C (.ptr 10 2) ?_
     refine rvO C (.pv (.lit (.bool x.write))) ?_
     refine rvO C (.pv (.lit (.bool (!x.write)))) ?_
     refine rvO C (.pv (.lit (.bool (!x.write)))) ?_
     refine rvc_case 33 (!x.write) rfl (fun h8 => ?_) (fun h8 => ?_)
     ·
      replace hR := of_true h8 hR
      refine rvO C (.agg [.pv (.lit (.int .i64 x.client)), .pv (.lit (.int .i64 x.seq)), .pv (.lit (.bool x.write)), .pv (.lit (.int .u8 (x.key 0))), .pv (.lit (.int .u8 (x.key 1))), .pv (.lit (.int .u8 (x.key 2))), .pv (.lit (.int .u8 (x.key 3))), .pv (.lit (.int .u8 (x.key 4))), .pv (.lit (.int .u8 (x.key 5))), .pv (.lit (.int .u8 (x.key 6))), .pv (.lit (.int .u8 (x.key 7))), .pv (.lit (.string x.value)), .pv (.lit (.int .i64 x.mode)), .pv (.lit (.int .i64 x.bound)), .pv (.lit (.int .i64 x.began)), .pv (.lit (.int .i64 x.ended)), .pv (.lit (.int .i64 x.ver)), .pv (.lit (.int .i64 x.err)), .pv (.lit (.int .i64 x.floor))]) ?_
      refine rvc_open rfl rfl rfl (rexec_call hP C rfl rfl rfl (jAnswered_calls x) ?_)
      refine rvO C (.pv (.lit (.bool (!(jAnswered x))))) ?_
      refine rvO C (.pv (.lit (.bool (!(jAnswered x))))) ?_
      refine rvP C (.pv (.lit (.bool (!(jAnswered x))))) ?_
      refine rvc_nil ?_
      refine Awp.cond (b := (!(jAnswered x))) rfl (fun h9 => ?_) (fun h9 => ?_)
      ·
       replace hR := of_true h9 hR
       refine Awp.exit ?_
       refine Awp.regionP C ?_
       refine rvP C (.pv (.lit (.int .i64 (IntKind.i64.wrap ((i : Int) + 1))))) ?_
       refine rvP C (.pv (.lit (.int .i64 (IntKind.i64.wrap ((i : Int) + 1))))) ?_
       refine rvc_nil ?_
       refine ⟨h4, l, ?_, ?_⟩
       · exact ⟨hR, (by first | omega | (simp <;> omega))⟩
       · exact ⟨fun b => b, WeakerR.ofL (Ks := [3, 7, 13, 513, 900]) hI ⟨⟨rfl, rfl⟩, ⟨rfl, rfl⟩, ⟨grow_to_nil rfl h2 (.inr rfl), grow_within rfl⟩, ⟨rfl, rfl⟩, ⟨rfl, rfl⟩, ⟨lit_cast (wrap_i64 (by omega) (by omega)), rfl⟩, trivial⟩ (okH_grow (fun hne => absurd h2 hne) rfl rfl (okH_cons rfl rfl rfl rfl (okH_map rfl rfl rfl (okH_map rfl rfl rfl (okH_cons rfl rfl rfl rfl (okH_nil)))))) rfl⟩
      ·
       replace hR := of_false h9 hR
       refine Awp.skip ?_
       refine Awp.consP C ?_
       refine rvP C (.ptr 10 2) ?_
       refine rvP C (.pv (.lit (.bool x.write))) ?_
       refine rvP C (.ptr 10 11) ?_
       refine rvP C (.pv (.lit (.string x.value))) ?_
       refine rvP C (.ptr 10 16) ?_
       refine rvP C (.pv (.lit (.int .i64 x.ver))) ?_
       refine rvP C (.ptr 10 14) ?_
       refine rvP C (.pv (.lit (.int .i64 x.began))) ?_
       refine rvP C (.ptr 10 15) ?_
       refine rvP C (.pv (.lit (.int .i64 x.ended))) ?_
       refine rvP C (.agg [.pv (.lit (.bool x.write)), .pv (.lit (.string x.value)), .pv (.lit (.int .i64 x.ver)), .pv (.lit (.int .i64 x.began)), .pv (.lit (.int .i64 x.ended))]) ?_
       refine rvc_un (rexec_prim C (δ := { v := .ptr 11 0, new := [(11, .cells [.pv (.lit (.bool false)), .pv (.lit (.string ⟨#[]⟩)), .pv (.lit (.int .i64 0)), .pv (.lit (.int .i64 0)), .pv (.lit (.int .i64 0))])] }) rfl rfl rfl rfl trivial rfl ?_)
       refine rvc_un (rexec_prim C (δ := { v := .undef, wr := [(11, some (.cells [.pv (.lit (.bool x.write)), .pv (.lit (.string x.value)), .pv (.lit (.int .i64 x.ver)), .pv (.lit (.int .i64 x.began)), .pv (.lit (.int .i64 x.ended))]))] }) rfl rfl rfl rfl trivial rfl ?_)
       refine rvc_nil ?_
       refine Awp.seq ?_
       refine Awp.consP C ?_
       refine rvP C (.ptr 10 2) ?_
       refine rvP C (.pv (.lit (.bool x.write))) ?_
       refine rvP C (.pv (.lit (.bool x.write))) ?_
       refine rvc_case 52 x.write rfl (fun h10 => ?_) (fun h10 => ?_)
       ·
        replace hR := of_true h10 hR
        refine rvO C (.agg [.pv (.lit (.int .i64 x.client)), .pv (.lit (.int .i64 x.seq)), .pv (.lit (.bool x.write)), .pv (.lit (.int .u8 (x.key 0))), .pv (.lit (.int .u8 (x.key 1))), .pv (.lit (.int .u8 (x.key 2))), .pv (.lit (.int .u8 (x.key 3))), .pv (.lit (.int .u8 (x.key 4))), .pv (.lit (.int .u8 (x.key 5))), .pv (.lit (.int .u8 (x.key 6))), .pv (.lit (.int .u8 (x.key 7))), .pv (.lit (.string x.value)), .pv (.lit (.int .i64 x.mode)), .pv (.lit (.int .i64 x.bound)), .pv (.lit (.int .i64 x.began)), .pv (.lit (.int .i64 x.ended)), .pv (.lit (.int .i64 x.ver)), .pv (.lit (.int .i64 x.err)), .pv (.lit (.int .i64 x.floor))]) ?_
        refine rvc_open rfl rfl rfl (rexec_call hP C rfl rfl rfl (jAnswered_calls x) ?_)
        refine rvO C (.pv (.lit (.bool (!(jAnswered x))))) ?_
        refine rvP C (.pv (.lit (.bool (!(jAnswered x))))) ?_
        refine rvc_nil ?_
        refine Awp.condF (b := (!(jAnswered x))) rfl h9 ?_
        refine Awp.skip ?_
        refine Awp.regionP C ?_
        refine rvP C (sS (some l.isEmpty) eOp l) ?_
        refine rvP C (.agg [.pv (.lit (.bool x.write)), .pv (.lit (.string x.value)), .pv (.lit (.int .i64 x.ver)), .pv (.lit (.int .i64 x.began)), .pv (.lit (.int .i64 x.ended))]) ?_
        refine rvc_un (rexec_buildSliceF C eOp [(Op.mk x.write x.value x.ver x.began x.ended)] rfl rfl rfl rfl rfl rfl rfl (by decide) rfl ?_)
        refine rvc_un (rexec_appendG C rfl rfl rfl rfl rfl rfl rfl rfl (fun _ h => by cases h) rfl (en := eOp) (l := l) (D := [(Op.mk x.write x.value x.ver x.began x.ended)]) rfl rfl h2 (by rw [h2]; rfl) (by simp) (by have := of_decide_eq_true h3; first | omega | (simp <;> omega)) (by decide) (nn := (l ++ [(Op.mk x.write x.value x.ver x.began x.ended)]).length) (by simp <;> omega) ?_)
        refine rvP C (.sl 68 0 ((l ++ [(Op.mk x.write x.value x.ver x.began x.ended)]).length) 5 false) ?_
        refine rvc_nil ?_
        refine Awp.regionP C ?_
        refine rvP C (.pv (.lit (.int .i64 (IntKind.i64.wrap ((i : Int) + 1))))) ?_
        refine rvP C (.pv (.lit (.int .i64 (IntKind.i64.wrap ((i : Int) + 1))))) ?_
        refine rvc_nil ?_
        refine ⟨h4, (l ++ [(Op.mk x.write x.value x.ver x.began x.ended)]), ?_, ?_⟩
        · exact ⟨hR, (by first | omega | (simp <;> omega))⟩
        · exact ⟨fun b => bif b == 900 then 68 else (fun b => b) b, WeakerR.ofL (Ks := [3, 7, 13, 513, 900]) hI ⟨⟨rfl, rfl⟩, ⟨rfl, rfl⟩, ⟨grow_to rfl rfl app_ne rfl rfl, grow_within rfl⟩, ⟨rfl, rfl⟩, ⟨rfl, rfl⟩, ⟨lit_cast (wrap_i64 (by omega) (by omega)), rfl⟩, trivial⟩ (okH_grow (fun _ => rfl) rfl rfl (okH_cons rfl rfl rfl rfl (okH_map rfl rfl rfl (okH_map rfl rfl rfl (okH_cons rfl rfl rfl rfl (okH_nil)))))) rfl⟩
       ·
        replace hR := of_false h10 hR
        refine rvS ?_
        refine rvS ?_
        refine rvS ?_
        refine rvP C (.pv (.lit (.bool false))) ?_
        refine rvc_nil ?_
        refine Awp.condF (b := false) rfl rfl ?_
        refine Awp.skip ?_
        refine Awp.regionP C ?_
        refine rvP C (sS (some l.isEmpty) eOp l) ?_
        refine rvP C (.agg [.pv (.lit (.bool x.write)), .pv (.lit (.string x.value)), .pv (.lit (.int .i64 x.ver)), .pv (.lit (.int .i64 x.began)), .pv (.lit (.int .i64 x.ended))]) ?_
        refine rvc_un (rexec_buildSliceF C eOp [(Op.mk x.write x.value x.ver x.began x.ended)] rfl rfl rfl rfl rfl rfl rfl (by decide) rfl ?_)
        refine rvc_un (rexec_appendG C rfl rfl rfl rfl rfl rfl rfl rfl (fun _ h => by cases h) rfl (en := eOp) (l := l) (D := [(Op.mk x.write x.value x.ver x.began x.ended)]) rfl rfl h2 (by rw [h2]; rfl) (by simp) (by have := of_decide_eq_true h3; first | omega | (simp <;> omega)) (by decide) (nn := (l ++ [(Op.mk x.write x.value x.ver x.began x.ended)]).length) (by simp <;> omega) ?_)
        refine rvP C (.sl 68 0 ((l ++ [(Op.mk x.write x.value x.ver x.began x.ended)]).length) 5 false) ?_
        refine rvc_nil ?_
        refine Awp.regionP C ?_
        refine rvP C (.pv (.lit (.int .i64 (IntKind.i64.wrap ((i : Int) + 1))))) ?_
        refine rvP C (.pv (.lit (.int .i64 (IntKind.i64.wrap ((i : Int) + 1))))) ?_
        refine rvc_nil ?_
        refine ⟨h4, (l ++ [(Op.mk x.write x.value x.ver x.began x.ended)]), ?_, ?_⟩
        · exact ⟨hR, (by first | omega | (simp <;> omega))⟩
        · exact ⟨fun b => bif b == 900 then 68 else (fun b => b) b, WeakerR.ofL (Ks := [3, 7, 13, 513, 900]) hI ⟨⟨rfl, rfl⟩, ⟨rfl, rfl⟩, ⟨grow_to rfl rfl app_ne rfl rfl, grow_within rfl⟩, ⟨rfl, rfl⟩, ⟨rfl, rfl⟩, ⟨lit_cast (wrap_i64 (by omega) (by omega)), rfl⟩, trivial⟩ (okH_grow (fun _ => rfl) rfl rfl (okH_cons rfl rfl rfl rfl (okH_map rfl rfl rfl (okH_map rfl rfl rfl (okH_cons rfl rfl rfl rfl (okH_nil)))))) rfl⟩
     ·
      replace hR := of_false h8 hR
      refine rvS ?_
      refine rvS ?_
      refine rvS ?_
      refine rvO C (.pv (.lit (.bool false))) ?_
      refine rvP C (.pv (.lit (.bool false))) ?_
      refine rvc_nil ?_
      refine Awp.condF (b := false) rfl rfl ?_
      refine Awp.skip ?_
      refine Awp.consP C ?_
      refine rvP C (.ptr 10 2) ?_
      refine rvP C (.pv (.lit (.bool x.write))) ?_
      refine rvP C (.ptr 10 11) ?_
      refine rvP C (.pv (.lit (.string x.value))) ?_
      refine rvP C (.ptr 10 16) ?_
      refine rvP C (.pv (.lit (.int .i64 x.ver))) ?_
      refine rvP C (.ptr 10 14) ?_
      refine rvP C (.pv (.lit (.int .i64 x.began))) ?_
      refine rvP C (.ptr 10 15) ?_
      refine rvP C (.pv (.lit (.int .i64 x.ended))) ?_
      refine rvP C (.agg [.pv (.lit (.bool x.write)), .pv (.lit (.string x.value)), .pv (.lit (.int .i64 x.ver)), .pv (.lit (.int .i64 x.began)), .pv (.lit (.int .i64 x.ended))]) ?_
      refine rvc_un (rexec_prim C (δ := { v := .ptr 11 0, new := [(11, .cells [.pv (.lit (.bool false)), .pv (.lit (.string ⟨#[]⟩)), .pv (.lit (.int .i64 0)), .pv (.lit (.int .i64 0)), .pv (.lit (.int .i64 0))])] }) rfl rfl rfl rfl trivial rfl ?_)
      refine rvc_un (rexec_prim C (δ := { v := .undef, wr := [(11, some (.cells [.pv (.lit (.bool x.write)), .pv (.lit (.string x.value)), .pv (.lit (.int .i64 x.ver)), .pv (.lit (.int .i64 x.began)), .pv (.lit (.int .i64 x.ended))]))] }) rfl rfl rfl rfl trivial rfl ?_)
      refine rvc_nil ?_
      refine Awp.seq ?_
      refine Awp.consP C ?_
      refine rvP C (.ptr 10 2) ?_
      refine rvP C (.pv (.lit (.bool x.write))) ?_
      refine rvP C (.pv (.lit (.bool x.write))) ?_
      refine rvc_case 52 x.write rfl (fun h11 => ?_) (fun h11 => ?_)
      ·
       replace hR := of_true h11 hR
       refine rvO C (.agg [.pv (.lit (.int .i64 x.client)), .pv (.lit (.int .i64 x.seq)), .pv (.lit (.bool x.write)), .pv (.lit (.int .u8 (x.key 0))), .pv (.lit (.int .u8 (x.key 1))), .pv (.lit (.int .u8 (x.key 2))), .pv (.lit (.int .u8 (x.key 3))), .pv (.lit (.int .u8 (x.key 4))), .pv (.lit (.int .u8 (x.key 5))), .pv (.lit (.int .u8 (x.key 6))), .pv (.lit (.int .u8 (x.key 7))), .pv (.lit (.string x.value)), .pv (.lit (.int .i64 x.mode)), .pv (.lit (.int .i64 x.bound)), .pv (.lit (.int .i64 x.began)), .pv (.lit (.int .i64 x.ended)), .pv (.lit (.int .i64 x.ver)), .pv (.lit (.int .i64 x.err)), .pv (.lit (.int .i64 x.floor))]) ?_
       refine rvc_open rfl rfl rfl (rexec_call hP C rfl rfl rfl (jAnswered_calls x) ?_)
       refine rvO C (.pv (.lit (.bool (!(jAnswered x))))) ?_
       refine rvP C (.pv (.lit (.bool (!(jAnswered x))))) ?_
       refine rvc_nil ?_
       refine Awp.cond (b := (!(jAnswered x))) rfl (fun h12 => ?_) (fun h12 => ?_)
       ·
        replace hR := of_true h12 hR
        refine Awp.region C (fun o => match o.dst with | some 58 => .reads [7] | some 59 => .reads [10] | some 61 => .reads [513] | none => .writes [11] | _ => .pure) (by kernel_rfl) ?_
        refine rvP C (.ptr 7 1) ?_
        refine rvP C (.mp 513) ?_
        refine rvP C (.agg [.pv (.lit (.int .i64 x.client)), .pv (.lit (.int .i64 x.seq)), .pv (.lit (.bool x.write)), .pv (.lit (.int .u8 (x.key 0))), .pv (.lit (.int .u8 (x.key 1))), .pv (.lit (.int .u8 (x.key 2))), .pv (.lit (.int .u8 (x.key 3))), .pv (.lit (.int .u8 (x.key 4))), .pv (.lit (.int .u8 (x.key 5))), .pv (.lit (.int .u8 (x.key 6))), .pv (.lit (.int .u8 (x.key 7))), .pv (.lit (.string x.value)), .pv (.lit (.int .i64 x.mode)), .pv (.lit (.int .i64 x.bound)), .pv (.lit (.int .i64 x.began)), .pv (.lit (.int .i64 x.ended)), .pv (.lit (.int .i64 x.ver)), .pv (.lit (.int .i64 x.err)), .pv (.lit (.int .i64 x.floor))]) ?_
        refine rvc_un (rexec_call hP C rfl rfl rfl (jReq_calls x) ?_)
        refine rvc_un (rexec_lookup hP C rfl (jReq x) zeroR rfl rfl rfl rfl rfl rfl kReq_ok rfl (.agg [.pv (.lit (.int .i64 (((mGet kReq (jReq x) ((openB recs).req)).getD zeroR).index))), .pv (.lit (.int .i64 (((mGet kReq (jReq x) ((openB recs).req)).getD zeroR).epoch))), .pv (.lit (.int .u8 (((mGet kReq (jReq x) ((openB recs).req)).getD zeroR).key 0))), .pv (.lit (.int .u8 (((mGet kReq (jReq x) ((openB recs).req)).getD zeroR).key 1))), .pv (.lit (.int .u8 (((mGet kReq (jReq x) ((openB recs).req)).getD zeroR).key 2))), .pv (.lit (.int .u8 (((mGet kReq (jReq x) ((openB recs).req)).getD zeroR).key 3))), .pv (.lit (.int .u8 (((mGet kReq (jReq x) ((openB recs).req)).getD zeroR).key 4))), .pv (.lit (.int .u8 (((mGet kReq (jReq x) ((openB recs).req)).getD zeroR).key 5))), .pv (.lit (.int .u8 (((mGet kReq (jReq x) ((openB recs).req)).getD zeroR).key 6))), .pv (.lit (.int .u8 (((mGet kReq (jReq x) ((openB recs).req)).getD zeroR).key 7))), .pv (.lit (.int .i64 (((mGet kReq (jReq x) ((openB recs).req)).getD zeroR).ver))), .pv (.lit (.string (((mGet kReq (jReq x) ((openB recs).req)).getD zeroR).value))), .pv (.lit (.int .i64 (((mGet kReq (jReq x) ((openB recs).req)).getD zeroR).req.client))), .pv (.lit (.int .i64 (((mGet kReq (jReq x) ((openB recs).req)).getD zeroR).req.seq)))]) rfl ?_)
        refine rvP C (.pv (.lit (.int .i64 (((mGet kReq (jReq x) ((openB recs).req)).getD zeroR).ver)))) ?_
        refine rvP C (.ptr 11 4) ?_
        refine rvc_un (rexec_prim C (δ := { v := .undef, wr := [(11, some (.cells [.pv (.lit (.bool x.write)), .pv (.lit (.string x.value)), .pv (.lit (.int .i64 x.ver)), .pv (.lit (.int .i64 x.began)), .pv (.lit (.int .i64 0))]))] }) rfl rfl rfl rfl trivial rfl ?_)
        refine rvP C (.ptr 11 2) ?_
        refine rvc_un (rexec_prim C (δ := { v := .undef, wr := [(11, some (.cells [.pv (.lit (.bool x.write)), .pv (.lit (.string x.value)), .pv (.lit (.int .i64 (((mGet kReq (jReq x) ((openB recs).req)).getD zeroR).ver))), .pv (.lit (.int .i64 x.began)), .pv (.lit (.int .i64 0))]))] }) rfl rfl rfl rfl trivial rfl ?_)
        refine rvc_nil ?_
        refine Awp.regionP C ?_
        refine rvP C (sS (some l.isEmpty) eOp l) ?_
        refine rvP C (.agg [.pv (.lit (.bool x.write)), .pv (.lit (.string x.value)), .pv (.lit (.int .i64 (((mGet kReq (jReq x) ((openB recs).req)).getD zeroR).ver))), .pv (.lit (.int .i64 x.began)), .pv (.lit (.int .i64 0))]) ?_
        refine rvc_un (rexec_buildSliceF C eOp [(Op.mk x.write x.value (((mGet kReq (jReq x) ((openB recs).req)).getD zeroR).ver) x.began 0)] rfl rfl rfl rfl rfl rfl rfl (by decide) rfl ?_)
        refine rvc_un (rexec_appendG C rfl rfl rfl rfl rfl rfl rfl rfl (fun _ h => by cases h) rfl (en := eOp) (l := l) (D := [(Op.mk x.write x.value (((mGet kReq (jReq x) ((openB recs).req)).getD zeroR).ver) x.began 0)]) rfl rfl h2 (by rw [h2]; rfl) (by simp) (by have := of_decide_eq_true h3; first | omega | (simp <;> omega)) (by decide) (nn := (l ++ [(Op.mk x.write x.value (((mGet kReq (jReq x) ((openB recs).req)).getD zeroR).ver) x.began 0)]).length) (by simp <;> omega) ?_)
        refine rvP C (.sl 68 0 ((l ++ [(Op.mk x.write x.value (((mGet kReq (jReq x) ((openB recs).req)).getD zeroR).ver) x.began 0)]).length) 5 false) ?_
        refine rvc_nil ?_
        refine Awp.regionP C ?_
        refine rvP C (.pv (.lit (.int .i64 (IntKind.i64.wrap ((i : Int) + 1))))) ?_
        refine rvP C (.pv (.lit (.int .i64 (IntKind.i64.wrap ((i : Int) + 1))))) ?_
        refine rvc_nil ?_
        refine ⟨h4, (l ++ [(Op.mk x.write x.value (((mGet kReq (jReq x) ((openB recs).req)).getD zeroR).ver) x.began 0)]), ?_, ?_⟩
        · exact ⟨hR, (by first | omega | (simp <;> omega))⟩
        · exact ⟨fun b => bif b == 900 then 68 else (fun b => b) b, WeakerR.ofL (Ks := [3, 7, 13, 513, 900]) hI ⟨⟨rfl, rfl⟩, ⟨rfl, rfl⟩, ⟨grow_to rfl rfl app_ne rfl rfl, grow_within rfl⟩, ⟨rfl, rfl⟩, ⟨rfl, rfl⟩, ⟨lit_cast (wrap_i64 (by omega) (by omega)), rfl⟩, trivial⟩ (okH_grow (fun _ => rfl) rfl rfl (okH_cons rfl rfl rfl rfl (okH_map rfl rfl rfl (okH_map rfl rfl rfl (okH_cons rfl rfl rfl rfl (okH_nil)))))) rfl⟩
       ·
        replace hR := of_false h12 hR
        refine Awp.skip ?_
        refine Awp.regionP C ?_
        refine rvP C (sS (some l.isEmpty) eOp l) ?_
        refine rvP C (.agg [.pv (.lit (.bool x.write)), .pv (.lit (.string x.value)), .pv (.lit (.int .i64 x.ver)), .pv (.lit (.int .i64 x.began)), .pv (.lit (.int .i64 x.ended))]) ?_
        refine rvc_un (rexec_buildSliceF C eOp [(Op.mk x.write x.value x.ver x.began x.ended)] rfl rfl rfl rfl rfl rfl rfl (by decide) rfl ?_)
        refine rvc_un (rexec_appendG C rfl rfl rfl rfl rfl rfl rfl rfl (fun _ h => by cases h) rfl (en := eOp) (l := l) (D := [(Op.mk x.write x.value x.ver x.began x.ended)]) rfl rfl h2 (by rw [h2]; rfl) (by simp) (by have := of_decide_eq_true h3; first | omega | (simp <;> omega)) (by decide) (nn := (l ++ [(Op.mk x.write x.value x.ver x.began x.ended)]).length) (by simp <;> omega) ?_)
        refine rvP C (.sl 68 0 ((l ++ [(Op.mk x.write x.value x.ver x.began x.ended)]).length) 5 false) ?_
        refine rvc_nil ?_
        refine Awp.regionP C ?_
        refine rvP C (.pv (.lit (.int .i64 (IntKind.i64.wrap ((i : Int) + 1))))) ?_
        refine rvP C (.pv (.lit (.int .i64 (IntKind.i64.wrap ((i : Int) + 1))))) ?_
        refine rvc_nil ?_
        refine ⟨h4, (l ++ [(Op.mk x.write x.value x.ver x.began x.ended)]), ?_, ?_⟩
        · exact ⟨hR, (by first | omega | (simp <;> omega))⟩
        · exact ⟨fun b => bif b == 900 then 68 else (fun b => b) b, WeakerR.ofL (Ks := [3, 7, 13, 513, 900]) hI ⟨⟨rfl, rfl⟩, ⟨rfl, rfl⟩, ⟨grow_to rfl rfl app_ne rfl rfl, grow_within rfl⟩, ⟨rfl, rfl⟩, ⟨rfl, rfl⟩, ⟨lit_cast (wrap_i64 (by omega) (by omega)), rfl⟩, trivial⟩ (okH_grow (fun _ => rfl) rfl rfl (okH_cons rfl rfl rfl rfl (okH_map rfl rfl rfl (okH_map rfl rfl rfl (okH_cons rfl rfl rfl rfl (okH_nil)))))) rfl⟩
      ·
       replace hR := of_false h11 hR
       refine rvS ?_
       refine rvS ?_
       refine rvS ?_
       refine rvP C (.pv (.lit (.bool false))) ?_
       refine rvc_nil ?_
       refine Awp.condF (b := false) rfl rfl ?_
       refine Awp.skip ?_
       refine Awp.regionP C ?_
       refine rvP C (sS (some l.isEmpty) eOp l) ?_
       refine rvP C (.agg [.pv (.lit (.bool x.write)), .pv (.lit (.string x.value)), .pv (.lit (.int .i64 x.ver)), .pv (.lit (.int .i64 x.began)), .pv (.lit (.int .i64 x.ended))]) ?_
       refine rvc_un (rexec_buildSliceF C eOp [(Op.mk x.write x.value x.ver x.began x.ended)] rfl rfl rfl rfl rfl rfl rfl (by decide) rfl ?_)
       refine rvc_un (rexec_appendG C rfl rfl rfl rfl rfl rfl rfl rfl (fun _ h => by cases h) rfl (en := eOp) (l := l) (D := [(Op.mk x.write x.value x.ver x.began x.ended)]) rfl rfl h2 (by rw [h2]; rfl) (by simp) (by have := of_decide_eq_true h3; first | omega | (simp <;> omega)) (by decide) (nn := (l ++ [(Op.mk x.write x.value x.ver x.began x.ended)]).length) (by simp <;> omega) ?_)
       refine rvP C (.sl 68 0 ((l ++ [(Op.mk x.write x.value x.ver x.began x.ended)]).length) 5 false) ?_
       refine rvc_nil ?_
       refine Awp.regionP C ?_
       refine rvP C (.pv (.lit (.int .i64 (IntKind.i64.wrap ((i : Int) + 1))))) ?_
       refine rvP C (.pv (.lit (.int .i64 (IntKind.i64.wrap ((i : Int) + 1))))) ?_
       refine rvc_nil ?_
       refine ⟨h4, (l ++ [(Op.mk x.write x.value x.ver x.began x.ended)]), ?_, ?_⟩
       · exact ⟨hR, (by first | omega | (simp <;> omega))⟩
       · exact ⟨fun b => bif b == 900 then 68 else (fun b => b) b, WeakerR.ofL (Ks := [3, 7, 13, 513, 900]) hI ⟨⟨rfl, rfl⟩, ⟨rfl, rfl⟩, ⟨grow_to rfl rfl app_ne rfl rfl, grow_within rfl⟩, ⟨rfl, rfl⟩, ⟨rfl, rfl⟩, ⟨lit_cast (wrap_i64 (by omega) (by omega)), rfl⟩, trivial⟩ (okH_grow (fun _ => rfl) rfl rfl (okH_cons rfl rfl rfl rfl (okH_map rfl rfl rfl (okH_map rfl rfl rfl (okH_cons rfl rfl rfl rfl (okH_nil)))))) rfl⟩
  ·
   have h4 : ¬ i < calls.D.length := by have := of_decide_eq_false h3; omega
   rw [drop_end h4] at hR
   refine Awp.exit ?_
   refine Awp.consP C ?_
   refine rvP C (sS (some l.isEmpty) eOp l) ?_
   refine rvP C (sS (some l.isEmpty) eOp l) ?_
   refine rvc_nil ?_
   refine Awp.ret ?_
   subst hR
   exact ⟨.inl rfl, rfl⟩
 ·
  refine Awp.wordsR [(3, .ptr 3 0), (7, .ptr 7 0), (8, .sl 900 0 l.length 5 false), (14, sS (some calls.nil) eCall calls.D), (15, .pv (.lit (.int .i64 (calls.D.length : Int)))), (16, .pv (.lit (.int .i64 (i : Int))))] [(900, .cells (encC eOp l)), (3, .cells [.pv (.lit (.int .u8 (k 0))), .pv (.lit (.int .u8 (k 1))), .pv (.lit (.int .u8 (k 2))), .pv (.lit (.int .u8 (k 3))), .pv (.lit (.int .u8 (k 4))), .pv (.lit (.int .u8 (k 5))), .pv (.lit (.int .u8 (k 6))), .pv (.lit (.int .u8 (k 7)))]), (13, mapE kSlot vRecord.enc ((openB recs).of_)), (513, mapE kReq vRecord.enc ((openB recs).req)), (7, .cells [.mp 13, .mp 513])] [3, 7, 13, 513, 900] (WeakerR.ofL (Ks := [3, 7, 13, 513, 900]) hI ⟨⟨rfl, rfl⟩, ⟨rfl, rfl⟩, ⟨(by exact grow_at_cons (b := 900) (b' := 900) (e := eOp) (l := l) rfl h2 rfl rfl rfl), rfl⟩, ⟨rfl, rfl⟩, ⟨rfl, rfl⟩, ⟨rfl, rfl⟩, trivial⟩ (okH_list (look_cons h2 rfl) rfl rfl (okH_cons (look_cons h2 rfl) rfl rfl rfl (okH_map (look_cons h2 rfl) rfl rfl (okH_map (look_cons h2 rfl) rfl rfl (okH_cons (look_cons h2 rfl) rfl rfl rfl (okH_nil)))))) rfl) ?_
  refine Awp.consP C ?_
  refine rvP C (.pv (.lit (.bool (decide ((i : Int) < (calls.D.length : Int)))))) ?_
  refine rvc_nil ?_
  refine Awp.seq ?_
  refine Awp.cond (b := (decide ((i : Int) < (calls.D.length : Int)))) rfl (fun h13 => ?_) (fun h13 => ?_)
  ·
   have h14 : i < calls.D.length := by have := of_decide_eq_true h13; omega
   obtain ⟨x, h15⟩ := getX h14
   rw [drop_at h15] at hR
   refine Awp.skip ?_
   refine Awp.seq ?_
   refine Awp.block ?_
   refine Awp.consP C ?_
   refine rvc_un (rexec_idxS C rfl rfl rfl rfl rfl rfl x (Int.natCast_nonneg _) h15 ?_)
   refine rvP C (.agg [.pv (.lit (.int .i64 x.client)), .pv (.lit (.int .i64 x.seq)), .pv (.lit (.bool x.write)), .pv (.lit (.int .u8 (x.key 0))), .pv (.lit (.int .u8 (x.key 1))), .pv (.lit (.int .u8 (x.key 2))), .pv (.lit (.int .u8 (x.key 3))), .pv (.lit (.int .u8 (x.key 4))), .pv (.lit (.int .u8 (x.key 5))), .pv (.lit (.int .u8 (x.key 6))), .pv (.lit (.int .u8 (x.key 7))), .pv (.lit (.string x.value)), .pv (.lit (.int .i64 x.mode)), .pv (.lit (.int .i64 x.bound)), .pv (.lit (.int .i64 x.began)), .pv (.lit (.int .i64 x.ended)), .pv (.lit (.int .i64 x.ver)), .pv (.lit (.int .i64 x.err)), .pv (.lit (.int .i64 x.floor))]) ?_
   refine rvc_un (rexec_prim C (δ := { v := .ptr 10 0, new := [(10, .cells [.pv (.lit (.int .i64 0)), .pv (.lit (.int .i64 0)), .pv (.lit (.bool false)), .pv (.lit (.int .u8 0)), .pv (.lit (.int .u8 0)), .pv (.lit (.int .u8 0)), .pv (.lit (.int .u8 0)), .pv (.lit (.int .u8 0)), .pv (.lit (.int .u8 0)), .pv (.lit (.int .u8 0)), .pv (.lit (.int .u8 0)), .pv (.lit (.string ⟨#[]⟩)), .pv (.lit (.int .i64 0)), .pv (.lit (.int .i64 0)), .pv (.lit (.int .i64 0)), .pv (.lit (.int .i64 0)), .pv (.lit (.int .i64 0)), .pv (.lit (.int .i64 0)), .pv (.lit (.int .i64 0))])] }) rfl rfl rfl rfl trivial rfl ?_)
   refine rvc_un (rexec_prim C (δ := { v := .undef, wr := [(10, some (.cells [.pv (.lit (.int .i64 x.client)), .pv (.lit (.int .i64 x.seq)), .pv (.lit (.bool x.write)), .pv (.lit (.int .u8 (x.key 0))), .pv (.lit (.int .u8 (x.key 1))), .pv (.lit (.int .u8 (x.key 2))), .pv (.lit (.int .u8 (x.key 3))), .pv (.lit (.int .u8 (x.key 4))), .pv (.lit (.int .u8 (x.key 5))), .pv (.lit (.int .u8 (x.key 6))), .pv (.lit (.int .u8 (x.key 7))), .pv (.lit (.string x.value)), .pv (.lit (.int .i64 x.mode)), .pv (.lit (.int .i64 x.bound)), .pv (.lit (.int .i64 x.began)), .pv (.lit (.int .i64 x.ended)), .pv (.lit (.int .i64 x.ver)), .pv (.lit (.int .i64 x.err)), .pv (.lit (.int .i64 x.floor))]))] }) rfl rfl rfl rfl trivial rfl ?_)
   refine rvc_nil ?_
   refine Awp.seq ?_
   refine Awp.consP C ?_
   refine rvP C (.ptr 10 3) ?_
   refine rvP C (.agg [.pv (.lit (.int .u8 (x.key 0))), .pv (.lit (.int .u8 (x.key 1))), .pv (.lit (.int .u8 (x.key 2))), .pv (.lit (.int .u8 (x.key 3))), .pv (.lit (.int .u8 (x.key 4))), .pv (.lit (.int .u8 (x.key 5))), .pv (.lit (.int .u8 (x.key 6))), .pv (.lit (.int .u8 (x.key 7)))]) ?_
   refine rvP C (.agg [.pv (.lit (.int .u8 (k 0))), .pv (.lit (.int .u8 (k 1))), .pv (.lit (.int .u8 (k 2))), .pv (.lit (.int .u8 (k 3))), .pv (.lit (.int .u8 (k 4))), .pv (.lit (.int .u8 (k 5))), .pv (.lit (.int .u8 (k 6))), .pv (.lit (.int .u8 (k 7)))]) ?_
   refine rvP C (.pv (.lit (.bool (!(((x.key 0) == (k 0)) && (((x.key 1) == (k 1)) && (((x.key 2) == (k 2)) && (((x.key 3) == (k 3)) && (((x.key 4) == (k 4)) && (((x.key 5) == (k 5)) && (((x.key 6) == (k 6)) && (((x.key 7) == (k 7)) && true)))))))))))) ?_
   refine rvP C (.pv (.lit (.bool (!(((x.key 0) == (k 0)) && (((x.key 1) == (k 1)) && (((x.key 2) == (k 2)) && (((x.key 3) == (k 3)) && (((x.key 4) == (k 4)) && (((x.key 5) == (k 5)) && (((x.key 6) == (k 6)) && (((x.key 7) == (k 7)) && true)))))))))))) ?_
   refine rvc_case 24 (!(((x.key 0) == (k 0)) && (((x.key 1) == (k 1)) && (((x.key 2) == (k 2)) && (((x.key 3) == (k 3)) && (((x.key 4) == (k 4)) && (((x.key 5) == (k 5)) && (((x.key 6) == (k 6)) && (((x.key 7) == (k 7)) && true))))))))) rfl (fun h16 => ?_) (fun h16 => ?_)
   ·
    replace hR := of_true h16 hR
    refine rvS ?_
    refine rvS ?_
    refine rvS ?_
    refine rvP C (.pv (.lit (.bool true))) ?_
    refine rvP C (.pv (.lit (.bool true))) ?_
    refine rvS ?_
    refine rvS ?_
    refine rvS ?_
    refine rvS ?_
    refine rvc_shutU rfl rfl rfl ?_
    refine rvc_shutU rfl rfl rfl ?_
    refine rvc_shutU rfl rfl rfl ?_
    refine rvS ?_
    refine rvP C (.pv (.lit (.bool true))) ?_
    refine rvc_nil ?_
    refine Awp.condT (b := true) rfl rfl ?_
    refine Awp.exit ?_
    refine Awp.regionP C ?_
    refine rvP C (.pv (.lit (.int .i64 (IntKind.i64.wrap ((i : Int) + 1))))) ?_
    refine rvP C (.pv (.lit (.int .i64 (IntKind.i64.wrap ((i : Int) + 1))))) ?_
    refine rvc_nil ?_
    refine ⟨h14, l, ?_, ?_⟩
    · exact ⟨hR, (by first | omega | (simp <;> omega))⟩
    · exact ⟨fun b => b, WeakerR.ofL (Ks := [3, 7, 13, 513, 900]) hI ⟨⟨rfl, rfl⟩, ⟨rfl, rfl⟩, ⟨grow_to rfl rfl h2 rfl rfl, grow_within rfl⟩, ⟨rfl, rfl⟩, ⟨rfl, rfl⟩, ⟨lit_cast (wrap_i64 (by omega) (by omega)), rfl⟩, trivial⟩ (okH_grow (fun _ => rfl) rfl rfl (okH_cons rfl rfl rfl rfl (okH_map rfl rfl rfl (okH_map rfl rfl rfl (okH_cons rfl rfl rfl rfl (okH_nil)))))) rfl⟩
   ·
    replace hR := of_false h16 hR
    refine rvO C (.agg [.pv (.lit (.int .i64 x.client)), .pv (.lit (.int .i64 x.seq)), .pv (.lit (.bool x.write)), .pv (.lit (.int .u8 (x.key 0))), .pv (.lit (.int .u8 (x.key 1))), .pv (.lit (.int .u8 (x.key 2))), .pv (.lit (.int .u8 (x.key 3))), .pv (.lit (.int .u8 (x.key 4))), .pv (.lit (.int .u8 (x.key 5))), .pv (.lit (.int .u8 (x.key 6))), .pv (.lit (.int .u8 (x.key 7))), .pv (.lit (.string x.value)), .pv (.lit (.int .i64 x.mode)), .pv (.lit (.int .i64 x.bound)), .pv (.lit (.int .i64 x.began)), .pv (.lit (.int .i64 x.ended)), .pv (.lit (.int .i64 x.ver)), .pv (.lit (.int .i64 x.err)), .pv (.lit (.int .i64 x.floor))]) ?_
    refine rvc_open rfl rfl rfl (rexec_call hP C rfl rfl rfl (jCounts_calls x) ?_)
    refine rvO C (.pv (.lit (.bool (!(jCounts x))))) ?_
    refine rvP C (.pv (.lit (.bool (!(jCounts x))))) ?_
    refine rvP C (.pv (.lit (.bool (!(jCounts x))))) ?_
    refine rvc_case 29 (!(jCounts x)) rfl (fun h17 => ?_) (fun h17 => ?_)
    ·
     replace hR := of_true h17 hR
     refine rvS ?_
     refine rvS ?_
     refine rvS ?_
     refine rvS ?_
     refine rvc_shutU rfl rfl rfl ?_
     refine rvc_shutU rfl rfl rfl ?_
     refine rvc_shutU rfl rfl rfl ?_
     refine rvS ?_
     refine rvP C (.pv (.lit (.bool true))) ?_
     refine rvc_nil ?_
     refine Awp.condT (b := true) rfl rfl ?_
     refine Awp.exit ?_
     refine Awp.regionP C ?_
     refine rvP C (.pv (.lit (.int .i64 (IntKind.i64.wrap ((i : Int) + 1))))) ?_
     refine rvP C (.pv (.lit (.int .i64 (IntKind.i64.wrap ((i : Int) + 1))))) ?_
     refine rvc_nil ?_
     refine ⟨h14, l, ?_, ?_⟩
     · exact ⟨hR, (by first | omega | (simp <;> omega))⟩
     · exact ⟨fun b => b, WeakerR.ofL (Ks := [3, 7, 13, 513, 900]) hI ⟨⟨rfl, rfl⟩, ⟨rfl, rfl⟩, ⟨grow_to rfl rfl h2 rfl rfl, grow_within rfl⟩, ⟨rfl, rfl⟩, ⟨rfl, rfl⟩, ⟨lit_cast (wrap_i64 (by omega) (by omega)), rfl⟩, trivial⟩ (okH_grow (fun _ => rfl) rfl rfl (okH_cons rfl rfl rfl rfl (okH_map rfl rfl rfl (okH_map rfl rfl rfl (okH_cons rfl rfl rfl rfl (okH_nil)))))) rfl⟩
    ·
     replace hR := of_false h17 hR
     refine rvO C (.ptr 10 2) ?_
     refine rvO C (.pv (.lit (.bool x.write))) ?_
     refine rvO C (.pv (.lit (.bool (!x.write)))) ?_
     refine rvO C (.pv (.lit (.bool (!x.write)))) ?_
     refine rvc_case 33 (!x.write) rfl (fun h18 => ?_) (fun h18 => ?_)
     ·
      replace hR := of_true h18 hR
      refine rvO C (.agg [.pv (.lit (.int .i64 x.client)), .pv (.lit (.int .i64 x.seq)), .pv (.lit (.bool x.write)), .pv (.lit (.int .u8 (x.key 0))), .pv (.lit (.int .u8 (x.key 1))), .pv (.lit (.int .u8 (x.key 2))), .pv (.lit (.int .u8 (x.key 3))), .pv (.lit (.int .u8 (x.key 4))), .pv (.lit (.int .u8 (x.key 5))), .pv (.lit (.int .u8 (x.key 6))), .pv (.lit (.int .u8 (x.key 7))), .pv (.lit (.string x.value)), .pv (.lit (.int .i64 x.mode)), .pv (.lit (.int .i64 x.bound)), .pv (.lit (.int .i64 x.began)), .pv (.lit (.int .i64 x.ended)), .pv (.lit (.int .i64 x.ver)), .pv (.lit (.int .i64 x.err)), .pv (.lit (.int .i64 x.floor))]) ?_
      refine rvc_open rfl rfl rfl (rexec_call hP C rfl rfl rfl (jAnswered_calls x) ?_)
      refine rvO C (.pv (.lit (.bool (!(jAnswered x))))) ?_
      refine rvO C (.pv (.lit (.bool (!(jAnswered x))))) ?_
      refine rvP C (.pv (.lit (.bool (!(jAnswered x))))) ?_
      refine rvc_nil ?_
      refine Awp.cond (b := (!(jAnswered x))) rfl (fun h19 => ?_) (fun h19 => ?_)
      ·
       replace hR := of_true h19 hR
       refine Awp.exit ?_
       refine Awp.regionP C ?_
       refine rvP C (.pv (.lit (.int .i64 (IntKind.i64.wrap ((i : Int) + 1))))) ?_
       refine rvP C (.pv (.lit (.int .i64 (IntKind.i64.wrap ((i : Int) + 1))))) ?_
       refine rvc_nil ?_
       refine ⟨h14, l, ?_, ?_⟩
       · exact ⟨hR, (by first | omega | (simp <;> omega))⟩
       · exact ⟨fun b => b, WeakerR.ofL (Ks := [3, 7, 13, 513, 900]) hI ⟨⟨rfl, rfl⟩, ⟨rfl, rfl⟩, ⟨grow_to rfl rfl h2 rfl rfl, grow_within rfl⟩, ⟨rfl, rfl⟩, ⟨rfl, rfl⟩, ⟨lit_cast (wrap_i64 (by omega) (by omega)), rfl⟩, trivial⟩ (okH_grow (fun _ => rfl) rfl rfl (okH_cons rfl rfl rfl rfl (okH_map rfl rfl rfl (okH_map rfl rfl rfl (okH_cons rfl rfl rfl rfl (okH_nil)))))) rfl⟩
      ·
       replace hR := of_false h19 hR
       refine Awp.skip ?_
       refine Awp.consP C ?_
       refine rvP C (.ptr 10 2) ?_
       refine rvP C (.pv (.lit (.bool x.write))) ?_
       refine rvP C (.ptr 10 11) ?_
       refine rvP C (.pv (.lit (.string x.value))) ?_
       refine rvP C (.ptr 10 16) ?_
       refine rvP C (.pv (.lit (.int .i64 x.ver))) ?_
       refine rvP C (.ptr 10 14) ?_
       refine rvP C (.pv (.lit (.int .i64 x.began))) ?_
       refine rvP C (.ptr 10 15) ?_
       refine rvP C (.pv (.lit (.int .i64 x.ended))) ?_
       refine rvP C (.agg [.pv (.lit (.bool x.write)), .pv (.lit (.string x.value)), .pv (.lit (.int .i64 x.ver)), .pv (.lit (.int .i64 x.began)), .pv (.lit (.int .i64 x.ended))]) ?_
       refine rvc_un (rexec_prim C (δ := { v := .ptr 11 0, new := [(11, .cells [.pv (.lit (.bool false)), .pv (.lit (.string ⟨#[]⟩)), .pv (.lit (.int .i64 0)), .pv (.lit (.int .i64 0)), .pv (.lit (.int .i64 0))])] }) rfl rfl rfl rfl trivial rfl ?_)
       refine rvc_un (rexec_prim C (δ := { v := .undef, wr := [(11, some (.cells [.pv (.lit (.bool x.write)), .pv (.lit (.string x.value)), .pv (.lit (.int .i64 x.ver)), .pv (.lit (.int .i64 x.began)), .pv (.lit (.int .i64 x.ended))]))] }) rfl rfl rfl rfl trivial rfl ?_)
       refine rvc_nil ?_
       refine Awp.seq ?_
       refine Awp.consP C ?_
       refine rvP C (.ptr 10 2) ?_
       refine rvP C (.pv (.lit (.bool x.write))) ?_
       refine rvP C (.pv (.lit (.bool x.write))) ?_
       refine rvc_case 52 x.write rfl (fun h20 => ?_) (fun h20 => ?_)
       ·
        replace hR := of_true h20 hR
        refine rvO C (.agg [.pv (.lit (.int .i64 x.client)), .pv (.lit (.int .i64 x.seq)), .pv (.lit (.bool x.write)), .pv (.lit (.int .u8 (x.key 0))), .pv (.lit (.int .u8 (x.key 1))), .pv (.lit (.int .u8 (x.key 2))), .pv (.lit (.int .u8 (x.key 3))), .pv (.lit (.int .u8 (x.key 4))), .pv (.lit (.int .u8 (x.key 5))), .pv (.lit (.int .u8 (x.key 6))), .pv (.lit (.int .u8 (x.key 7))), .pv (.lit (.string x.value)), .pv (.lit (.int .i64 x.mode)), .pv (.lit (.int .i64 x.bound)), .pv (.lit (.int .i64 x.began)), .pv (.lit (.int .i64 x.ended)), .pv (.lit (.int .i64 x.ver)), .pv (.lit (.int .i64 x.err)), .pv (.lit (.int .i64 x.floor))]) ?_
        refine rvc_open rfl rfl rfl (rexec_call hP C rfl rfl rfl (jAnswered_calls x) ?_)
        refine rvO C (.pv (.lit (.bool (!(jAnswered x))))) ?_
        refine rvP C (.pv (.lit (.bool (!(jAnswered x))))) ?_
        refine rvc_nil ?_
        refine Awp.condF (b := (!(jAnswered x))) rfl h19 ?_
        refine Awp.skip ?_
        refine Awp.regionP C ?_
        refine rvP C (.sl 900 0 l.length 5 false) ?_
        refine rvP C (.agg [.pv (.lit (.bool x.write)), .pv (.lit (.string x.value)), .pv (.lit (.int .i64 x.ver)), .pv (.lit (.int .i64 x.began)), .pv (.lit (.int .i64 x.ended))]) ?_
        refine rvc_un (rexec_buildSliceF C eOp [(Op.mk x.write x.value x.ver x.began x.ended)] rfl rfl rfl rfl rfl rfl rfl (by decide) rfl ?_)
        refine rvc_un (rexec_append C rfl rfl rfl rfl rfl rfl rfl rfl (fun _ h => by cases h) rfl (en := eOp) (D0 := l) (D := [(Op.mk x.write x.value x.ver x.began x.ended)]) rfl rfl rfl rfl (by have := of_decide_eq_true h13; first | omega | (simp <;> omega)) (by decide) (nn := (l ++ [(Op.mk x.write x.value x.ver x.began x.ended)]).length) (by simp <;> omega) ?_)
        refine rvP C (.sl 68 0 ((l ++ [(Op.mk x.write x.value x.ver x.began x.ended)]).length) 5 false) ?_
        refine rvc_nil ?_
        refine Awp.regionP C ?_
        refine rvP C (.pv (.lit (.int .i64 (IntKind.i64.wrap ((i : Int) + 1))))) ?_
        refine rvP C (.pv (.lit (.int .i64 (IntKind.i64.wrap ((i : Int) + 1))))) ?_
        refine rvc_nil ?_
        refine ⟨h14, (l ++ [(Op.mk x.write x.value x.ver x.began x.ended)]), ?_, ?_⟩
        · exact ⟨hR, (by first | omega | (simp <;> omega))⟩
        · exact ⟨fun b => bif b == 900 then 68 else (fun b => b) b, WeakerR.ofL (Ks := [3, 7, 13, 513, 900]) hI ⟨⟨rfl, rfl⟩, ⟨rfl, rfl⟩, ⟨grow_to rfl rfl app_ne rfl rfl, grow_within rfl⟩, ⟨rfl, rfl⟩, ⟨rfl, rfl⟩, ⟨lit_cast (wrap_i64 (by omega) (by omega)), rfl⟩, trivial⟩ (okH_grow (fun _ => rfl) rfl rfl (okH_cons rfl rfl rfl rfl (okH_map rfl rfl rfl (okH_map rfl rfl rfl (okH_cons rfl rfl rfl rfl (okH_nil)))))) rfl⟩
       ·
        replace hR := of_false h20 hR
        refine rvS ?_
        refine rvS ?_
        refine rvS ?_
        refine rvP C (.pv (.lit (.bool false))) ?_
        refine rvc_nil ?_
        refine Awp.condF (b := false) rfl rfl ?_
        refine Awp.skip ?_
        refine Awp.regionP C ?_
        refine rvP C (.sl 900 0 l.length 5 false) ?_
        refine rvP C (.agg [.pv (.lit (.bool x.write)), .pv (.lit (.string x.value)), .pv (.lit (.int .i64 x.ver)), .pv (.lit (.int .i64 x.began)), .pv (.lit (.int .i64 x.ended))]) ?_
        refine rvc_un (rexec_buildSliceF C eOp [(Op.mk x.write x.value x.ver x.began x.ended)] rfl rfl rfl rfl rfl rfl rfl (by decide) rfl ?_)
        refine rvc_un (rexec_append C rfl rfl rfl rfl rfl rfl rfl rfl (fun _ h => by cases h) rfl (en := eOp) (D0 := l) (D := [(Op.mk x.write x.value x.ver x.began x.ended)]) rfl rfl rfl rfl (by have := of_decide_eq_true h13; first | omega | (simp <;> omega)) (by decide) (nn := (l ++ [(Op.mk x.write x.value x.ver x.began x.ended)]).length) (by simp <;> omega) ?_)
        refine rvP C (.sl 68 0 ((l ++ [(Op.mk x.write x.value x.ver x.began x.ended)]).length) 5 false) ?_
        refine rvc_nil ?_
        refine Awp.regionP C ?_
        refine rvP C (.pv (.lit (.int .i64 (IntKind.i64.wrap ((i : Int) + 1))))) ?_
        refine rvP C (.pv (.lit (.int .i64 (IntKind.i64.wrap ((i : Int) + 1))))) ?_
        refine rvc_nil ?_
        refine ⟨h14, (l ++ [(Op.mk x.write x.value x.ver x.began x.ended)]), ?_, ?_⟩
        · exact ⟨hR, (by first | omega | (simp <;> omega))⟩
        · exact ⟨fun b => bif b == 900 then 68 else (fun b => b) b, WeakerR.ofL (Ks := [3, 7, 13, 513, 900]) hI ⟨⟨rfl, rfl⟩, ⟨rfl, rfl⟩, ⟨grow_to rfl rfl app_ne rfl rfl, grow_within rfl⟩, ⟨rfl, rfl⟩, ⟨rfl, rfl⟩, ⟨lit_cast (wrap_i64 (by omega) (by omega)), rfl⟩, trivial⟩ (okH_grow (fun _ => rfl) rfl rfl (okH_cons rfl rfl rfl rfl (okH_map rfl rfl rfl (okH_map rfl rfl rfl (okH_cons rfl rfl rfl rfl (okH_nil)))))) rfl⟩
     ·
      replace hR := of_false h18 hR
      refine rvS ?_
      refine rvS ?_
      refine rvS ?_
      refine rvO C (.pv (.lit (.bool false))) ?_
      refine rvP C (.pv (.lit (.bool false))) ?_
      refine rvc_nil ?_
      refine Awp.condF (b := false) rfl rfl ?_
      refine Awp.skip ?_
      refine Awp.consP C ?_
      refine rvP C (.ptr 10 2) ?_
      refine rvP C (.pv (.lit (.bool x.write))) ?_
      refine rvP C (.ptr 10 11) ?_
      refine rvP C (.pv (.lit (.string x.value))) ?_
      refine rvP C (.ptr 10 16) ?_
      refine rvP C (.pv (.lit (.int .i64 x.ver))) ?_
      refine rvP C (.ptr 10 14) ?_
      refine rvP C (.pv (.lit (.int .i64 x.began))) ?_
      refine rvP C (.ptr 10 15) ?_
      refine rvP C (.pv (.lit (.int .i64 x.ended))) ?_
      refine rvP C (.agg [.pv (.lit (.bool x.write)), .pv (.lit (.string x.value)), .pv (.lit (.int .i64 x.ver)), .pv (.lit (.int .i64 x.began)), .pv (.lit (.int .i64 x.ended))]) ?_
      refine rvc_un (rexec_prim C (δ := { v := .ptr 11 0, new := [(11, .cells [.pv (.lit (.bool false)), .pv (.lit (.string ⟨#[]⟩)), .pv (.lit (.int .i64 0)), .pv (.lit (.int .i64 0)), .pv (.lit (.int .i64 0))])] }) rfl rfl rfl rfl trivial rfl ?_)
      refine rvc_un (rexec_prim C (δ := { v := .undef, wr := [(11, some (.cells [.pv (.lit (.bool x.write)), .pv (.lit (.string x.value)), .pv (.lit (.int .i64 x.ver)), .pv (.lit (.int .i64 x.began)), .pv (.lit (.int .i64 x.ended))]))] }) rfl rfl rfl rfl trivial rfl ?_)
      refine rvc_nil ?_
      refine Awp.seq ?_
      refine Awp.consP C ?_
      refine rvP C (.ptr 10 2) ?_
      refine rvP C (.pv (.lit (.bool x.write))) ?_
      refine rvP C (.pv (.lit (.bool x.write))) ?_
      refine rvc_case 52 x.write rfl (fun h21 => ?_) (fun h21 => ?_)
      ·
       replace hR := of_true h21 hR
       refine rvO C (.agg [.pv (.lit (.int .i64 x.client)), .pv (.lit (.int .i64 x.seq)), .pv (.lit (.bool x.write)), .pv (.lit (.int .u8 (x.key 0))), .pv (.lit (.int .u8 (x.key 1))), .pv (.lit (.int .u8 (x.key 2))), .pv (.lit (.int .u8 (x.key 3))), .pv (.lit (.int .u8 (x.key 4))), .pv (.lit (.int .u8 (x.key 5))), .pv (.lit (.int .u8 (x.key 6))), .pv (.lit (.int .u8 (x.key 7))), .pv (.lit (.string x.value)), .pv (.lit (.int .i64 x.mode)), .pv (.lit (.int .i64 x.bound)), .pv (.lit (.int .i64 x.began)), .pv (.lit (.int .i64 x.ended)), .pv (.lit (.int .i64 x.ver)), .pv (.lit (.int .i64 x.err)), .pv (.lit (.int .i64 x.floor))]) ?_
       refine rvc_open rfl rfl rfl (rexec_call hP C rfl rfl rfl (jAnswered_calls x) ?_)
       refine rvO C (.pv (.lit (.bool (!(jAnswered x))))) ?_
       refine rvP C (.pv (.lit (.bool (!(jAnswered x))))) ?_
       refine rvc_nil ?_
       refine Awp.cond (b := (!(jAnswered x))) rfl (fun h22 => ?_) (fun h22 => ?_)
       ·
        replace hR := of_true h22 hR
        refine Awp.region C (fun o => match o.dst with | some 58 => .reads [7] | some 59 => .reads [10] | some 61 => .reads [513] | none => .writes [11] | _ => .pure) (by kernel_rfl) ?_
        refine rvP C (.ptr 7 1) ?_
        refine rvP C (.mp 513) ?_
        refine rvP C (.agg [.pv (.lit (.int .i64 x.client)), .pv (.lit (.int .i64 x.seq)), .pv (.lit (.bool x.write)), .pv (.lit (.int .u8 (x.key 0))), .pv (.lit (.int .u8 (x.key 1))), .pv (.lit (.int .u8 (x.key 2))), .pv (.lit (.int .u8 (x.key 3))), .pv (.lit (.int .u8 (x.key 4))), .pv (.lit (.int .u8 (x.key 5))), .pv (.lit (.int .u8 (x.key 6))), .pv (.lit (.int .u8 (x.key 7))), .pv (.lit (.string x.value)), .pv (.lit (.int .i64 x.mode)), .pv (.lit (.int .i64 x.bound)), .pv (.lit (.int .i64 x.began)), .pv (.lit (.int .i64 x.ended)), .pv (.lit (.int .i64 x.ver)), .pv (.lit (.int .i64 x.err)), .pv (.lit (.int .i64 x.floor))]) ?_
        refine rvc_un (rexec_call hP C rfl rfl rfl (jReq_calls x) ?_)
        refine rvc_un (rexec_lookup hP C rfl (jReq x) zeroR rfl rfl rfl rfl rfl rfl kReq_ok rfl (.agg [.pv (.lit (.int .i64 (((mGet kReq (jReq x) ((openB recs).req)).getD zeroR).index))), .pv (.lit (.int .i64 (((mGet kReq (jReq x) ((openB recs).req)).getD zeroR).epoch))), .pv (.lit (.int .u8 (((mGet kReq (jReq x) ((openB recs).req)).getD zeroR).key 0))), .pv (.lit (.int .u8 (((mGet kReq (jReq x) ((openB recs).req)).getD zeroR).key 1))), .pv (.lit (.int .u8 (((mGet kReq (jReq x) ((openB recs).req)).getD zeroR).key 2))), .pv (.lit (.int .u8 (((mGet kReq (jReq x) ((openB recs).req)).getD zeroR).key 3))), .pv (.lit (.int .u8 (((mGet kReq (jReq x) ((openB recs).req)).getD zeroR).key 4))), .pv (.lit (.int .u8 (((mGet kReq (jReq x) ((openB recs).req)).getD zeroR).key 5))), .pv (.lit (.int .u8 (((mGet kReq (jReq x) ((openB recs).req)).getD zeroR).key 6))), .pv (.lit (.int .u8 (((mGet kReq (jReq x) ((openB recs).req)).getD zeroR).key 7))), .pv (.lit (.int .i64 (((mGet kReq (jReq x) ((openB recs).req)).getD zeroR).ver))), .pv (.lit (.string (((mGet kReq (jReq x) ((openB recs).req)).getD zeroR).value))), .pv (.lit (.int .i64 (((mGet kReq (jReq x) ((openB recs).req)).getD zeroR).req.client))), .pv (.lit (.int .i64 (((mGet kReq (jReq x) ((openB recs).req)).getD zeroR).req.seq)))]) rfl ?_)
        refine rvP C (.pv (.lit (.int .i64 (((mGet kReq (jReq x) ((openB recs).req)).getD zeroR).ver)))) ?_
        refine rvP C (.ptr 11 4) ?_
        refine rvc_un (rexec_prim C (δ := { v := .undef, wr := [(11, some (.cells [.pv (.lit (.bool x.write)), .pv (.lit (.string x.value)), .pv (.lit (.int .i64 x.ver)), .pv (.lit (.int .i64 x.began)), .pv (.lit (.int .i64 0))]))] }) rfl rfl rfl rfl trivial rfl ?_)
        refine rvP C (.ptr 11 2) ?_
        refine rvc_un (rexec_prim C (δ := { v := .undef, wr := [(11, some (.cells [.pv (.lit (.bool x.write)), .pv (.lit (.string x.value)), .pv (.lit (.int .i64 (((mGet kReq (jReq x) ((openB recs).req)).getD zeroR).ver))), .pv (.lit (.int .i64 x.began)), .pv (.lit (.int .i64 0))]))] }) rfl rfl rfl rfl trivial rfl ?_)
        refine rvc_nil ?_
        refine Awp.regionP C ?_
        refine rvP C (.sl 900 0 l.length 5 false) ?_
        refine rvP C (.agg [.pv (.lit (.bool x.write)), .pv (.lit (.string x.value)), .pv (.lit (.int .i64 (((mGet kReq (jReq x) ((openB recs).req)).getD zeroR).ver))), .pv (.lit (.int .i64 x.began)), .pv (.lit (.int .i64 0))]) ?_
        refine rvc_un (rexec_buildSliceF C eOp [(Op.mk x.write x.value (((mGet kReq (jReq x) ((openB recs).req)).getD zeroR).ver) x.began 0)] rfl rfl rfl rfl rfl rfl rfl (by decide) rfl ?_)
        refine rvc_un (rexec_append C rfl rfl rfl rfl rfl rfl rfl rfl (fun _ h => by cases h) rfl (en := eOp) (D0 := l) (D := [(Op.mk x.write x.value (((mGet kReq (jReq x) ((openB recs).req)).getD zeroR).ver) x.began 0)]) rfl rfl rfl rfl (by have := of_decide_eq_true h13; first | omega | (simp <;> omega)) (by decide) (nn := (l ++ [(Op.mk x.write x.value (((mGet kReq (jReq x) ((openB recs).req)).getD zeroR).ver) x.began 0)]).length) (by simp <;> omega) ?_)
        refine rvP C (.sl 68 0 ((l ++ [(Op.mk x.write x.value (((mGet kReq (jReq x) ((openB recs).req)).getD zeroR).ver) x.began 0)]).length) 5 false) ?_
        refine rvc_nil ?_
        refine Awp.regionP C ?_
        refine rvP C (.pv (.lit (.int .i64 (IntKind.i64.wrap ((i : Int) + 1))))) ?_
        refine rvP C (.pv (.lit (.int .i64 (IntKind.i64.wrap ((i : Int) + 1))))) ?_
        refine rvc_nil ?_
        refine ⟨h14, (l ++ [(Op.mk x.write x.value (((mGet kReq (jReq x) ((openB recs).req)).getD zeroR).ver) x.began 0)]), ?_, ?_⟩
        · exact ⟨hR, (by first | omega | (simp <;> omega))⟩
        · exact ⟨fun b => bif b == 900 then 68 else (fun b => b) b, WeakerR.ofL (Ks := [3, 7, 13, 513, 900]) hI ⟨⟨rfl, rfl⟩, ⟨rfl, rfl⟩, ⟨grow_to rfl rfl app_ne rfl rfl, grow_within rfl⟩, ⟨rfl, rfl⟩, ⟨rfl, rfl⟩, ⟨lit_cast (wrap_i64 (by omega) (by omega)), rfl⟩, trivial⟩ (okH_grow (fun _ => rfl) rfl rfl (okH_cons rfl rfl rfl rfl (okH_map rfl rfl rfl (okH_map rfl rfl rfl (okH_cons rfl rfl rfl rfl (okH_nil)))))) rfl⟩
       ·
        replace hR := of_false h22 hR
        refine Awp.skip ?_
        refine Awp.regionP C ?_
        refine rvP C (.sl 900 0 l.length 5 false) ?_
        refine rvP C (.agg [.pv (.lit (.bool x.write)), .pv (.lit (.string x.value)), .pv (.lit (.int .i64 x.ver)), .pv (.lit (.int .i64 x.began)), .pv (.lit (.int .i64 x.ended))]) ?_
        refine rvc_un (rexec_buildSliceF C eOp [(Op.mk x.write x.value x.ver x.began x.ended)] rfl rfl rfl rfl rfl rfl rfl (by decide) rfl ?_)
        refine rvc_un (rexec_append C rfl rfl rfl rfl rfl rfl rfl rfl (fun _ h => by cases h) rfl (en := eOp) (D0 := l) (D := [(Op.mk x.write x.value x.ver x.began x.ended)]) rfl rfl rfl rfl (by have := of_decide_eq_true h13; first | omega | (simp <;> omega)) (by decide) (nn := (l ++ [(Op.mk x.write x.value x.ver x.began x.ended)]).length) (by simp <;> omega) ?_)
        refine rvP C (.sl 68 0 ((l ++ [(Op.mk x.write x.value x.ver x.began x.ended)]).length) 5 false) ?_
        refine rvc_nil ?_
        refine Awp.regionP C ?_
        refine rvP C (.pv (.lit (.int .i64 (IntKind.i64.wrap ((i : Int) + 1))))) ?_
        refine rvP C (.pv (.lit (.int .i64 (IntKind.i64.wrap ((i : Int) + 1))))) ?_
        refine rvc_nil ?_
        refine ⟨h14, (l ++ [(Op.mk x.write x.value x.ver x.began x.ended)]), ?_, ?_⟩
        · exact ⟨hR, (by first | omega | (simp <;> omega))⟩
        · exact ⟨fun b => bif b == 900 then 68 else (fun b => b) b, WeakerR.ofL (Ks := [3, 7, 13, 513, 900]) hI ⟨⟨rfl, rfl⟩, ⟨rfl, rfl⟩, ⟨grow_to rfl rfl app_ne rfl rfl, grow_within rfl⟩, ⟨rfl, rfl⟩, ⟨rfl, rfl⟩, ⟨lit_cast (wrap_i64 (by omega) (by omega)), rfl⟩, trivial⟩ (okH_grow (fun _ => rfl) rfl rfl (okH_cons rfl rfl rfl rfl (okH_map rfl rfl rfl (okH_map rfl rfl rfl (okH_cons rfl rfl rfl rfl (okH_nil)))))) rfl⟩
      ·
       replace hR := of_false h21 hR
       refine rvS ?_
       refine rvS ?_
       refine rvS ?_
       refine rvP C (.pv (.lit (.bool false))) ?_
       refine rvc_nil ?_
       refine Awp.condF (b := false) rfl rfl ?_
       refine Awp.skip ?_
       refine Awp.regionP C ?_
       refine rvP C (.sl 900 0 l.length 5 false) ?_
       refine rvP C (.agg [.pv (.lit (.bool x.write)), .pv (.lit (.string x.value)), .pv (.lit (.int .i64 x.ver)), .pv (.lit (.int .i64 x.began)), .pv (.lit (.int .i64 x.ended))]) ?_
       refine rvc_un (rexec_buildSliceF C eOp [(Op.mk x.write x.value x.ver x.began x.ended)] rfl rfl rfl rfl rfl rfl rfl (by decide) rfl ?_)
       refine rvc_un (rexec_append C rfl rfl rfl rfl rfl rfl rfl rfl (fun _ h => by cases h) rfl (en := eOp) (D0 := l) (D := [(Op.mk x.write x.value x.ver x.began x.ended)]) rfl rfl rfl rfl (by have := of_decide_eq_true h13; first | omega | (simp <;> omega)) (by decide) (nn := (l ++ [(Op.mk x.write x.value x.ver x.began x.ended)]).length) (by simp <;> omega) ?_)
       refine rvP C (.sl 68 0 ((l ++ [(Op.mk x.write x.value x.ver x.began x.ended)]).length) 5 false) ?_
       refine rvc_nil ?_
       refine Awp.regionP C ?_
       refine rvP C (.pv (.lit (.int .i64 (IntKind.i64.wrap ((i : Int) + 1))))) ?_
       refine rvP C (.pv (.lit (.int .i64 (IntKind.i64.wrap ((i : Int) + 1))))) ?_
       refine rvc_nil ?_
       refine ⟨h14, (l ++ [(Op.mk x.write x.value x.ver x.began x.ended)]), ?_, ?_⟩
       · exact ⟨hR, (by first | omega | (simp <;> omega))⟩
       · exact ⟨fun b => bif b == 900 then 68 else (fun b => b) b, WeakerR.ofL (Ks := [3, 7, 13, 513, 900]) hI ⟨⟨rfl, rfl⟩, ⟨rfl, rfl⟩, ⟨grow_to rfl rfl app_ne rfl rfl, grow_within rfl⟩, ⟨rfl, rfl⟩, ⟨rfl, rfl⟩, ⟨lit_cast (wrap_i64 (by omega) (by omega)), rfl⟩, trivial⟩ (okH_grow (fun _ => rfl) rfl rfl (okH_cons rfl rfl rfl rfl (okH_map rfl rfl rfl (okH_map rfl rfl rfl (okH_cons rfl rfl rfl rfl (okH_nil)))))) rfl⟩
  ·
   have h14 : ¬ i < calls.D.length := by have := of_decide_eq_false h13; omega
   rw [drop_end h14] at hR
   refine Awp.exit ?_
   refine Awp.consP C ?_
   refine rvP C (.sl 900 0 l.length 5 false) ?_
   refine rvP C (.sl 900 0 l.length 5 false) ?_
   refine rvc_nil ?_
   refine Awp.freezeW 900 (encL eOp l) ?_ [(6, sS (some l.isEmpty) eOp l)] [(3, .cells [.pv (.lit (.int .u8 (k 0))), .pv (.lit (.int .u8 (k 1))), .pv (.lit (.int .u8 (k 2))), .pv (.lit (.int .u8 (k 3))), .pv (.lit (.int .u8 (k 4))), .pv (.lit (.int .u8 (k 5))), .pv (.lit (.int .u8 (k 6))), .pv (.lit (.int .u8 (k 7)))]), (13, mapE kSlot vRecord.enc ((openB recs).of_)), (513, mapE kReq vRecord.enc ((openB recs).req)), (7, .cells [.mp 13, .mp 513])] ?_ ?_ ?_
   · rfl
   · exact ⟨⟨_, rfl, .inl (.inr ⟨_, _, _, rfl, by rw [ne_isEmpty h2]; rfl⟩)⟩, trivial⟩
   · exact ⟨⟨(by show (3 : Nat) ≠ 900; decide), .inl rfl⟩, ⟨(by show (13 : Nat) ≠ 900; decide), .inl rfl⟩, ⟨(by show (513 : Nat) ≠ 900; decide), .inl rfl⟩, ⟨(by show (7 : Nat) ≠ 900; decide), .inl rfl⟩, trivial⟩
   refine Awp.ret ?_
   subst hR
   exact ⟨.inl rfl, rfl⟩
def rOps_l0 (k : (Nat → Int)) (recs : (Sl Record)) : List Call → Nat → (List Op) → (Sl Op)
  | [], _, l => (Sl.mk l.isEmpty l)
  | x :: xs, i, l => (bif (!(((x.key 0) == (k 0)) && (((x.key 1) == (k 1)) && (((x.key 2) == (k 2)) && (((x.key 3) == (k 3)) && (((x.key 4) == (k 4)) && (((x.key 5) == (k 5)) && (((x.key 6) == (k 6)) && (((x.key 7) == (k 7)) && true))))))))) then rOps_l0 k recs xs (i + 1) l else (bif (!(rCounts x)) then rOps_l0 k recs xs (i + 1) l else (bif (!x.write) then (bif (!(rAnswered x)) then rOps_l0 k recs xs (i + 1) l else rOps_l0 k recs xs (i + 1) (l ++ [(Op.mk x.write x.value x.ver x.began x.ended)])) else (bif (!(rAnswered x)) then rOps_l0 k recs xs (i + 1) (l ++ [(Op.mk x.write x.value ((rOfC x recs).ver) x.began 0)]) else rOps_l0 k recs xs (i + 1) (l ++ [(Op.mk x.write x.value x.ver x.began x.ended)])))))
def rOps (k : (Nat → Int)) (calls : (Sl Call)) (recs : (Sl Record)) : (Sl Op) :=
  rOps_l0 k recs calls.D 0 []
theorem rOps_calls (k : (Nat → Int)) (calls : (Sl Call)) (recs : (Sl Record)) (hl1 : calls.D.length ≤ 1000000) (hl2 : recs.D.length ≤ 1000000) : PCalls Try.prog 26 [.agg [.pv (.lit (.int .u8 (k 0))), .pv (.lit (.int .u8 (k 1))), .pv (.lit (.int .u8 (k 2))), .pv (.lit (.int .u8 (k 3))), .pv (.lit (.int .u8 (k 4))), .pv (.lit (.int .u8 (k 5))), .pv (.lit (.int .u8 (k 6))), .pv (.lit (.int .u8 (k 7)))], sS (some calls.nil) eCall calls.D, sS (some recs.nil) eRecord recs.D] (sS (some (rOps k calls recs).nil) eOp ((rOps k calls recs).D)) := by
 generalize hR : rOps k calls recs = R
 refine PCalls.of_body tabOk Try.func26 rfl rfl rfl rfl rfl mixed fun E hP C hI => ?_
 refine Awp.consP C ?_
 refine rvc_un (rexec_prim C (δ := { v := .ptr 3 0, new := [(3, .cells [.pv (.lit (.int .u8 (k 0))), .pv (.lit (.int .u8 (k 1))), .pv (.lit (.int .u8 (k 2))), .pv (.lit (.int .u8 (k 3))), .pv (.lit (.int .u8 (k 4))), .pv (.lit (.int .u8 (k 5))), .pv (.lit (.int .u8 (k 6))), .pv (.lit (.int .u8 (k 7)))])] }) rfl rfl rfl rfl trivial rfl ?_)
 refine rvP C (sS (some true) eOp []) ?_
 refine rvc_nil ?_
 refine Awp.consP C ?_
 refine rvP C (sS (some true) eOp []) ?_
 refine rvc_nil ?_
 refine Awp.seq ?_
 refine Awp.consP C ?_
 refine rvP C (sS (some calls.nil) eCall calls.D) ?_
 refine rvP C (.pv (.lit (.int .i64 (calls.D.length : Int)))) ?_
 refine rvP C (.pv (.lit (.int .i64 0))) ?_
 refine rvc_nil ?_
 refine Awp.block ?_
 refine Awp.forR (σ := ((List Op))) (calls.D.length) (fun i v => [(2, sS (some recs.nil) eRecord recs.D), (3, .ptr 3 0), (7, grow 900 eOp v), (11, sS (some calls.nil) eCall calls.D), (12, .pv (.lit (.int .i64 (calls.D.length : Int)))), (13, .pv (.lit (.int .i64 (i : Int))))]) (fun i v => (growH 900 eOp v ++ ([(3, .cells [.pv (.lit (.int .u8 (k 0))), .pv (.lit (.int .u8 (k 1))), .pv (.lit (.int .u8 (k 2))), .pv (.lit (.int .u8 (k 3))), .pv (.lit (.int .u8 (k 4))), .pv (.lit (.int .u8 (k 5))), .pv (.lit (.int .u8 (k 6))), .pv (.lit (.int .u8 (k 7)))])]))) [3, 900] (fun i v => (rOps_l0 k recs (calls.D.drop i) i v = R) ∧ (v.length ≤ i)) [] ?_ ?_ (fun i l h1 hR => ?_)
 · exact ⟨hR, (by first | omega | (simp <;> omega))⟩
 · exact ⟨fun b => b, WeakerR.ofL (Ks := [3, 900]) hI ⟨⟨rfl, rfl⟩, ⟨rfl, rfl⟩, ⟨rfl, rfl⟩, ⟨rfl, rfl⟩, ⟨rfl, rfl⟩, ⟨rfl, rfl⟩, trivial⟩ (okH_grow (fun hne => absurd rfl hne) rfl rfl (okH_cons rfl rfl rfl rfl (okH_nil))) rfl⟩
 obtain ⟨hR, hi_l⟩ := hR
 replace hi_l : l.length ≤ i := hi_l
 by_cases h2 : l = []
 ·
  refine Awp.wordsR [(2, sS (some recs.nil) eRecord recs.D), (3, .ptr 3 0), (7, sS (some l.isEmpty) eOp l), (11, sS (some calls.nil) eCall calls.D), (12, .pv (.lit (.int .i64 (calls.D.length : Int)))), (13, .pv (.lit (.int .i64 (i : Int))))] [(3, .cells [.pv (.lit (.int .u8 (k 0))), .pv (.lit (.int .u8 (k 1))), .pv (.lit (.int .u8 (k 2))), .pv (.lit (.int .u8 (k 3))), .pv (.lit (.int .u8 (k 4))), .pv (.lit (.int .u8 (k 5))), .pv (.lit (.int .u8 (k 6))), .pv (.lit (.int .u8 (k 7)))])] [3] (WeakerR.ofL (Ks := [3]) hI ⟨⟨rfl, rfl⟩, ⟨rfl, rfl⟩, ⟨(by exact grow_at_nil (b := 900) (e := eOp) (l := l) rfl h2), rfl⟩, ⟨rfl, rfl⟩, ⟨rfl, rfl⟩, ⟨rfl, rfl⟩, trivial⟩ (okH_cons (look_nil h2 rfl) rfl rfl rfl (okH_nil)) rfl) ?_
  refine Awp.consP C ?_
  refine rvP C (.pv (.lit (.bool (decide ((i : Int) < (calls.D.length : Int)))))) ?_
  refine rvc_nil ?_
  refine Awp.seq ?_
  refine Awp.cond (b := (decide ((i : Int) < (calls.D.length : Int)))) rfl (fun h3 => ?_) (fun h3 => ?_)
  ·
   have h4 : i < calls.D.length := by have := of_decide_eq_true h3; omega
   obtain ⟨x, h5⟩ := getX h4
   rw [drop_at h5] at hR
   refine Awp.skip ?_
   refine Awp.seq ?_
   refine Awp.block ?_
   refine Awp.consP C ?_
   refine rvc_un (rexec_idxS C rfl rfl rfl rfl rfl rfl x (Int.natCast_nonneg _) h5 ?_)
   refine rvP C (.agg [.pv (.lit (.int .i64 x.client)), .pv (.lit (.int .i64 x.seq)), .pv (.lit (.bool x.write)), .pv (.lit (.int .u8 (x.key 0))), .pv (.lit (.int .u8 (x.key 1))), .pv (.lit (.int .u8 (x.key 2))), .pv (.lit (.int .u8 (x.key 3))), .pv (.lit (.int .u8 (x.key 4))), .pv (.lit (.int .u8 (x.key 5))), .pv (.lit (.int .u8 (x.key 6))), .pv (.lit (.int .u8 (x.key 7))), .pv (.lit (.string x.value)), .pv (.lit (.int .i64 x.mode)), .pv (.lit (.int .i64 x.bound)), .pv (.lit (.int .i64 x.began)), .pv (.lit (.int .i64 x.ended)), .pv (.lit (.int .i64 x.ver)), .pv (.lit (.int .i64 x.err)), .pv (.lit (.int .i64 x.floor))]) ?_
   refine rvc_un (rexec_prim C (δ := { v := .ptr 9 0, new := [(9, .cells [.pv (.lit (.int .i64 0)), .pv (.lit (.int .i64 0)), .pv (.lit (.bool false)), .pv (.lit (.int .u8 0)), .pv (.lit (.int .u8 0)), .pv (.lit (.int .u8 0)), .pv (.lit (.int .u8 0)), .pv (.lit (.int .u8 0)), .pv (.lit (.int .u8 0)), .pv (.lit (.int .u8 0)), .pv (.lit (.int .u8 0)), .pv (.lit (.string ⟨#[]⟩)), .pv (.lit (.int .i64 0)), .pv (.lit (.int .i64 0)), .pv (.lit (.int .i64 0)), .pv (.lit (.int .i64 0)), .pv (.lit (.int .i64 0)), .pv (.lit (.int .i64 0)), .pv (.lit (.int .i64 0))])] }) rfl rfl rfl rfl trivial rfl ?_)
   refine rvc_un (rexec_prim C (δ := { v := .undef, wr := [(9, some (.cells [.pv (.lit (.int .i64 x.client)), .pv (.lit (.int .i64 x.seq)), .pv (.lit (.bool x.write)), .pv (.lit (.int .u8 (x.key 0))), .pv (.lit (.int .u8 (x.key 1))), .pv (.lit (.int .u8 (x.key 2))), .pv (.lit (.int .u8 (x.key 3))), .pv (.lit (.int .u8 (x.key 4))), .pv (.lit (.int .u8 (x.key 5))), .pv (.lit (.int .u8 (x.key 6))), .pv (.lit (.int .u8 (x.key 7))), .pv (.lit (.string x.value)), .pv (.lit (.int .i64 x.mode)), .pv (.lit (.int .i64 x.bound)), .pv (.lit (.int .i64 x.began)), .pv (.lit (.int .i64 x.ended)), .pv (.lit (.int .i64 x.ver)), .pv (.lit (.int .i64 x.err)), .pv (.lit (.int .i64 x.floor))]))] }) rfl rfl rfl rfl trivial rfl ?_)
   refine rvc_nil ?_
   refine Awp.seq ?_
   refine Awp.consP C ?_
   refine rvP C (.ptr 9 3) ?_
   refine rvP C (.agg [.pv (.lit (.int .u8 (x.key 0))), .pv (.lit (.int .u8 (x.key 1))), .pv (.lit (.int .u8 (x.key 2))), .pv (.lit (.int .u8 (x.key 3))), .pv (.lit (.int .u8 (x.key 4))), .pv (.lit (.int .u8 (x.key 5))), .pv (.lit (.int .u8 (x.key 6))), .pv (.lit (.int .u8 (x.key 7)))]) ?_
   refine rvP C (.agg [.pv (.lit (.int .u8 (k 0))), .pv (.lit (.int .u8 (k 1))), .pv (.lit (.int .u8 (k 2))), .pv (.lit (.int .u8 (k 3))), .pv (.lit (.int .u8 (k 4))), .pv (.lit (.int .u8 (k 5))), .pv (.lit (.int .u8 (k 6))), .pv (.lit (.int .u8 (k 7)))]) ?_
   refine rvP C (.pv (.lit (.bool (!(((x.key 0) == (k 0)) && (((x.key 1) == (k 1)) && (((x.key 2) == (k 2)) && (((x.key 3) == (k 3)) && (((x.key 4) == (k 4)) && (((x.key 5) == (k 5)) && (((x.key 6) == (k 6)) && (((x.key 7) == (k 7)) && true)))))))))))) ?_
   refine rvP C (.pv (.lit (.bool (!(((x.key 0) == (k 0)) && (((x.key 1) == (k 1)) && (((x.key 2) == (k 2)) && (((x.key 3) == (k 3)) && (((x.key 4) == (k 4)) && (((x.key 5) == (k 5)) && (((x.key 6) == (k 6)) && (((x.key 7) == (k 7)) && true)))))))))))) ?_
   refine rvc_case 21 (!(((x.key 0) == (k 0)) && (((x.key 1) == (k 1)) && (((x.key 2) == (k 2)) && (((x.key 3) == (k 3)) && (((x.key 4) == (k 4)) && (((x.key 5) == (k 5)) && (((x.key 6) == (k 6)) && (((x.key 7) == (k 7)) && true))))))))) rfl (fun h6 => ?_) (fun h6 => ?_)
   ·
    replace hR := of_true h6 hR
    refine rvS ?_
    refine rvS ?_
    refine rvS ?_
    refine rvP C (.pv (.lit (.bool true))) ?_
    refine rvP C (.pv (.lit (.bool true))) ?_
    refine rvS ?_
    refine rvS ?_
    refine rvS ?_
    refine rvS ?_
    refine rvc_shutU rfl rfl rfl ?_
    refine rvc_shutU rfl rfl rfl ?_
    refine rvc_shutU rfl rfl rfl ?_
    refine rvS ?_
    refine rvP C (.pv (.lit (.bool true))) ?_
    refine rvc_nil ?_
    refine Awp.condT (b := true) rfl rfl ?_
    refine Awp.exit ?_
    refine Awp.regionP C ?_
    refine rvP C (.pv (.lit (.int .i64 (IntKind.i64.wrap ((i : Int) + 1))))) ?_
    refine rvP C (.pv (.lit (.int .i64 (IntKind.i64.wrap ((i : Int) + 1))))) ?_
    refine rvc_nil ?_
    refine ⟨h4, l, ?_, ?_⟩
    · exact ⟨hR, (by first | omega | (simp <;> omega))⟩
    · exact ⟨fun b => b, WeakerR.ofL (Ks := [3, 900]) hI ⟨⟨rfl, rfl⟩, ⟨rfl, rfl⟩, ⟨grow_to_nil rfl h2 (.inr rfl), grow_within rfl⟩, ⟨rfl, rfl⟩, ⟨rfl, rfl⟩, ⟨lit_cast (wrap_i64 (by omega) (by omega)), rfl⟩, trivial⟩ (okH_grow (fun hne => absurd h2 hne) rfl rfl (okH_cons rfl rfl rfl rfl (okH_nil))) rfl⟩
   ·
    replace hR := of_false h6 hR
    refine rvO C (.agg [.pv (.lit (.int .i64 x.client)), .pv (.lit (.int .i64 x.seq)), .pv (.lit (.bool x.write)), .pv (.lit (.int .u8 (x.key 0))), .pv (.lit (.int .u8 (x.key 1))), .pv (.lit (.int .u8 (x.key 2))), .pv (.lit (.int .u8 (x.key 3))), .pv (.lit (.int .u8 (x.key 4))), .pv (.lit (.int .u8 (x.key 5))), .pv (.lit (.int .u8 (x.key 6))), .pv (.lit (.int .u8 (x.key 7))), .pv (.lit (.string x.value)), .pv (.lit (.int .i64 x.mode)), .pv (.lit (.int .i64 x.bound)), .pv (.lit (.int .i64 x.began)), .pv (.lit (.int .i64 x.ended)), .pv (.lit (.int .i64 x.ver)), .pv (.lit (.int .i64 x.err)), .pv (.lit (.int .i64 x.floor))]) ?_
    refine rvc_open rfl rfl rfl (rexec_call hP C rfl rfl rfl (rCounts_calls x) ?_)
    refine rvO C (.pv (.lit (.bool (!(rCounts x))))) ?_
    refine rvP C (.pv (.lit (.bool (!(rCounts x))))) ?_
    refine rvP C (.pv (.lit (.bool (!(rCounts x))))) ?_
    refine rvc_case 26 (!(rCounts x)) rfl (fun h7 => ?_) (fun h7 => ?_)
    ·
     replace hR := of_true h7 hR
     refine rvS ?_
     refine rvS ?_
     refine rvS ?_
     refine rvS ?_
     refine rvc_shutU rfl rfl rfl ?_
     refine rvc_shutU rfl rfl rfl ?_
     refine rvc_shutU rfl rfl rfl ?_
     refine rvS ?_
     refine rvP C (.pv (.lit (.bool true))) ?_
     refine rvc_nil ?_
     refine Awp.condT (b := true) rfl rfl ?_
     refine Awp.exit ?_
     refine Awp.regionP C ?_
     refine rvP C (.pv (.lit (.int .i64 (IntKind.i64.wrap ((i : Int) + 1))))) ?_
     refine rvP C (.pv (.lit (.int .i64 (IntKind.i64.wrap ((i : Int) + 1))))) ?_
     refine rvc_nil ?_
     refine ⟨h4, l, ?_, ?_⟩
     · exact ⟨hR, (by first | omega | (simp <;> omega))⟩
     · exact ⟨fun b => b, WeakerR.ofL (Ks := [3, 900]) hI ⟨⟨rfl, rfl⟩, ⟨rfl, rfl⟩, ⟨grow_to_nil rfl h2 (.inr rfl), grow_within rfl⟩, ⟨rfl, rfl⟩, ⟨rfl, rfl⟩, ⟨lit_cast (wrap_i64 (by omega) (by omega)), rfl⟩, trivial⟩ (okH_grow (fun hne => absurd h2 hne) rfl rfl (okH_cons rfl rfl rfl rfl (okH_nil))) rfl⟩
    ·
     replace hR := of_false h7 hR
     refine rvO C (.ptr 9 2) ?_
     refine rvO C (.pv (.lit (.bool x.write))) ?_
     refine rvO C (.pv (.lit (.bool (!x.write)))) ?_
     refine rvO C (.pv (.lit (.bool (!x.write)))) ?_
     refine rvc_case 30 (!x.write) rfl (fun h8 => ?_) (fun h8 => ?_)
     ·
      replace hR := of_true h8 hR
      refine rvO C (.agg [.pv (.lit (.int .i64 x.client)), .pv (.lit (.int .i64 x.seq)), .pv (.lit (.bool x.write)), .pv (.lit (.int .u8 (x.key 0))), .pv (.lit (.int .u8 (x.key 1))), .pv (.lit (.int .u8 (x.key 2))), .pv (.lit (.int .u8 (x.key 3))), .pv (.lit (.int .u8 (x.key 4))), .pv (.lit (.int .u8 (x.key 5))), .pv (.lit (.int .u8 (x.key 6))), .pv (.lit (.int .u8 (x.key 7))), .pv (.lit (.string x.value)), .pv (.lit (.int .i64 x.mode)), .pv (.lit (.int .i64 x.bound)), .pv (.lit (.int .i64 x.began)), .pv (.lit (.int .i64 x.ended)), .pv (.lit (.int .i64 x.ver)), .pv (.lit (.int .i64 x.err)), .pv (.lit (.int .i64 x.floor))]) ?_
      refine rvc_open rfl rfl rfl (rexec_call hP C rfl rfl rfl (rAnswered_calls x) ?_)
      refine rvO C (.pv (.lit (.bool (!(rAnswered x))))) ?_
      refine rvO C (.pv (.lit (.bool (!(rAnswered x))))) ?_
      refine rvP C (.pv (.lit (.bool (!(rAnswered x))))) ?_
      refine rvc_nil ?_
      refine Awp.cond (b := (!(rAnswered x))) rfl (fun h9 => ?_) (fun h9 => ?_)
      ·
       replace hR := of_true h9 hR
       refine Awp.exit ?_
       refine Awp.regionP C ?_
       refine rvP C (.pv (.lit (.int .i64 (IntKind.i64.wrap ((i : Int) + 1))))) ?_
       refine rvP C (.pv (.lit (.int .i64 (IntKind.i64.wrap ((i : Int) + 1))))) ?_
       refine rvc_nil ?_
       refine ⟨h4, l, ?_, ?_⟩
       · exact ⟨hR, (by first | omega | (simp <;> omega))⟩
       · exact ⟨fun b => b, WeakerR.ofL (Ks := [3, 900]) hI ⟨⟨rfl, rfl⟩, ⟨rfl, rfl⟩, ⟨grow_to_nil rfl h2 (.inr rfl), grow_within rfl⟩, ⟨rfl, rfl⟩, ⟨rfl, rfl⟩, ⟨lit_cast (wrap_i64 (by omega) (by omega)), rfl⟩, trivial⟩ (okH_grow (fun hne => absurd h2 hne) rfl rfl (okH_cons rfl rfl rfl rfl (okH_nil))) rfl⟩
      ·
       replace hR := of_false h9 hR
       refine Awp.skip ?_
       refine Awp.consP C ?_
       refine rvP C (.ptr 9 2) ?_
       refine rvP C (.pv (.lit (.bool x.write))) ?_
       refine rvP C (.ptr 9 11) ?_
       refine rvP C (.pv (.lit (.string x.value))) ?_
       refine rvP C (.ptr 9 16) ?_
       refine rvP C (.pv (.lit (.int .i64 x.ver))) ?_
       refine rvP C (.ptr 9 14) ?_
       refine rvP C (.pv (.lit (.int .i64 x.began))) ?_
       refine rvP C (.ptr 9 15) ?_
       refine rvP C (.pv (.lit (.int .i64 x.ended))) ?_
       refine rvP C (.agg [.pv (.lit (.bool x.write)), .pv (.lit (.string x.value)), .pv (.lit (.int .i64 x.ver)), .pv (.lit (.int .i64 x.began)), .pv (.lit (.int .i64 x.ended))]) ?_
       refine rvc_un (rexec_prim C (δ := { v := .ptr 10 0, new := [(10, .cells [.pv (.lit (.bool false)), .pv (.lit (.string ⟨#[]⟩)), .pv (.lit (.int .i64 0)), .pv (.lit (.int .i64 0)), .pv (.lit (.int .i64 0))])] }) rfl rfl rfl rfl trivial rfl ?_)
       refine rvc_un (rexec_prim C (δ := { v := .undef, wr := [(10, some (.cells [.pv (.lit (.bool x.write)), .pv (.lit (.string x.value)), .pv (.lit (.int .i64 x.ver)), .pv (.lit (.int .i64 x.began)), .pv (.lit (.int .i64 x.ended))]))] }) rfl rfl rfl rfl trivial rfl ?_)
       refine rvc_nil ?_
       refine Awp.seq ?_
       refine Awp.consP C ?_
       refine rvP C (.agg [.pv (.lit (.int .i64 x.client)), .pv (.lit (.int .i64 x.seq)), .pv (.lit (.bool x.write)), .pv (.lit (.int .u8 (x.key 0))), .pv (.lit (.int .u8 (x.key 1))), .pv (.lit (.int .u8 (x.key 2))), .pv (.lit (.int .u8 (x.key 3))), .pv (.lit (.int .u8 (x.key 4))), .pv (.lit (.int .u8 (x.key 5))), .pv (.lit (.int .u8 (x.key 6))), .pv (.lit (.int .u8 (x.key 7))), .pv (.lit (.string x.value)), .pv (.lit (.int .i64 x.mode)), .pv (.lit (.int .i64 x.bound)), .pv (.lit (.int .i64 x.began)), .pv (.lit (.int .i64 x.ended)), .pv (.lit (.int .i64 x.ver)), .pv (.lit (.int .i64 x.err)), .pv (.lit (.int .i64 x.floor))]) ?_
       refine rvc_un (rexec_call hP C rfl rfl rfl (rAnswered_calls x) ?_)
       refine rvP C (.pv (.lit (.bool (!(rAnswered x))))) ?_
       refine rvc_nil ?_
       refine Awp.condF (b := (!(rAnswered x))) rfl h9 ?_
       refine Awp.skip ?_
       refine Awp.regionP C ?_
       refine rvP C (sS (some l.isEmpty) eOp l) ?_
       refine rvP C (.agg [.pv (.lit (.bool x.write)), .pv (.lit (.string x.value)), .pv (.lit (.int .i64 x.ver)), .pv (.lit (.int .i64 x.began)), .pv (.lit (.int .i64 x.ended))]) ?_
       refine rvc_un (rexec_buildSliceF C eOp [(Op.mk x.write x.value x.ver x.began x.ended)] rfl rfl rfl rfl rfl rfl rfl (by decide) rfl ?_)
       refine rvc_un (rexec_appendG C rfl rfl rfl rfl rfl rfl rfl rfl (fun _ h => by cases h) rfl (en := eOp) (l := l) (D := [(Op.mk x.write x.value x.ver x.began x.ended)]) rfl rfl h2 (by rw [h2]; rfl) (by simp) (by have := of_decide_eq_true h3; first | omega | (simp <;> omega)) (by decide) (nn := (l ++ [(Op.mk x.write x.value x.ver x.began x.ended)]).length) (by simp <;> omega) ?_)
       refine rvP C (.sl 59 0 ((l ++ [(Op.mk x.write x.value x.ver x.began x.ended)]).length) 5 false) ?_
       refine rvc_nil ?_
       refine Awp.regionP C ?_
       refine rvP C (.pv (.lit (.int .i64 (IntKind.i64.wrap ((i : Int) + 1))))) ?_
       refine rvP C (.pv (.lit (.int .i64 (IntKind.i64.wrap ((i : Int) + 1))))) ?_
       refine rvc_nil ?_
       refine ⟨h4, (l ++ [(Op.mk x.write x.value x.ver x.began x.ended)]), ?_, ?_⟩
       · exact ⟨hR, (by first | omega | (simp <;> omega))⟩
       · exact ⟨fun b => bif b == 900 then 59 else (fun b => b) b, WeakerR.ofL (Ks := [3, 900]) hI ⟨⟨rfl, rfl⟩, ⟨rfl, rfl⟩, ⟨grow_to rfl rfl app_ne rfl rfl, grow_within rfl⟩, ⟨rfl, rfl⟩, ⟨rfl, rfl⟩, ⟨lit_cast (wrap_i64 (by omega) (by omega)), rfl⟩, trivial⟩ (okH_grow (fun _ => rfl) rfl rfl (okH_cons rfl rfl rfl rfl (okH_nil))) rfl⟩
     ·
      replace hR := of_false h8 hR
      refine rvS ?_
      refine rvS ?_
      refine rvS ?_
      refine rvO C (.pv (.lit (.bool false))) ?_
      refine rvP C (.pv (.lit (.bool false))) ?_
      refine rvc_nil ?_
      refine Awp.condF (b := false) rfl rfl ?_
      refine Awp.skip ?_
      refine Awp.consP C ?_
      refine rvP C (.ptr 9 2) ?_
      refine rvP C (.pv (.lit (.bool x.write))) ?_
      refine rvP C (.ptr 9 11) ?_
      refine rvP C (.pv (.lit (.string x.value))) ?_
      refine rvP C (.ptr 9 16) ?_
      refine rvP C (.pv (.lit (.int .i64 x.ver))) ?_
      refine rvP C (.ptr 9 14) ?_
      refine rvP C (.pv (.lit (.int .i64 x.began))) ?_
      refine rvP C (.ptr 9 15) ?_
      refine rvP C (.pv (.lit (.int .i64 x.ended))) ?_
      refine rvP C (.agg [.pv (.lit (.bool x.write)), .pv (.lit (.string x.value)), .pv (.lit (.int .i64 x.ver)), .pv (.lit (.int .i64 x.began)), .pv (.lit (.int .i64 x.ended))]) ?_
      refine rvc_un (rexec_prim C (δ := { v := .ptr 10 0, new := [(10, .cells [.pv (.lit (.bool false)), .pv (.lit (.string ⟨#[]⟩)), .pv (.lit (.int .i64 0)), .pv (.lit (.int .i64 0)), .pv (.lit (.int .i64 0))])] }) rfl rfl rfl rfl trivial rfl ?_)
      refine rvc_un (rexec_prim C (δ := { v := .undef, wr := [(10, some (.cells [.pv (.lit (.bool x.write)), .pv (.lit (.string x.value)), .pv (.lit (.int .i64 x.ver)), .pv (.lit (.int .i64 x.began)), .pv (.lit (.int .i64 x.ended))]))] }) rfl rfl rfl rfl trivial rfl ?_)
      refine rvc_nil ?_
      refine Awp.seq ?_
      refine Awp.consP C ?_
      refine rvP C (.agg [.pv (.lit (.int .i64 x.client)), .pv (.lit (.int .i64 x.seq)), .pv (.lit (.bool x.write)), .pv (.lit (.int .u8 (x.key 0))), .pv (.lit (.int .u8 (x.key 1))), .pv (.lit (.int .u8 (x.key 2))), .pv (.lit (.int .u8 (x.key 3))), .pv (.lit (.int .u8 (x.key 4))), .pv (.lit (.int .u8 (x.key 5))), .pv (.lit (.int .u8 (x.key 6))), .pv (.lit (.int .u8 (x.key 7))), .pv (.lit (.string x.value)), .pv (.lit (.int .i64 x.mode)), .pv (.lit (.int .i64 x.bound)), .pv (.lit (.int .i64 x.began)), .pv (.lit (.int .i64 x.ended)), .pv (.lit (.int .i64 x.ver)), .pv (.lit (.int .i64 x.err)), .pv (.lit (.int .i64 x.floor))]) ?_
      refine rvc_un (rexec_call hP C rfl rfl rfl (rAnswered_calls x) ?_)
      refine rvP C (.pv (.lit (.bool (!(rAnswered x))))) ?_
      refine rvc_nil ?_
      refine Awp.cond (b := (!(rAnswered x))) rfl (fun h10 => ?_) (fun h10 => ?_)
      ·
       replace hR := of_true h10 hR
       refine Awp.consP C ?_
       refine rvP C (.ptr 10 4) ?_
       refine rvc_un (rexec_prim C (δ := { v := .undef, wr := [(10, some (.cells [.pv (.lit (.bool x.write)), .pv (.lit (.string x.value)), .pv (.lit (.int .i64 x.ver)), .pv (.lit (.int .i64 x.began)), .pv (.lit (.int .i64 0))]))] }) rfl rfl rfl rfl trivial rfl ?_)
       refine rvc_nil ?_
       refine Awp.regionP C ?_
       refine rvP C (.agg [.pv (.lit (.int .i64 x.client)), .pv (.lit (.int .i64 x.seq)), .pv (.lit (.bool x.write)), .pv (.lit (.int .u8 (x.key 0))), .pv (.lit (.int .u8 (x.key 1))), .pv (.lit (.int .u8 (x.key 2))), .pv (.lit (.int .u8 (x.key 3))), .pv (.lit (.int .u8 (x.key 4))), .pv (.lit (.int .u8 (x.key 5))), .pv (.lit (.int .u8 (x.key 6))), .pv (.lit (.int .u8 (x.key 7))), .pv (.lit (.string x.value)), .pv (.lit (.int .i64 x.mode)), .pv (.lit (.int .i64 x.bound)), .pv (.lit (.int .i64 x.began)), .pv (.lit (.int .i64 x.ended)), .pv (.lit (.int .i64 x.ver)), .pv (.lit (.int .i64 x.err)), .pv (.lit (.int .i64 x.floor))]) ?_
       refine rvP C (sS (some recs.nil) eRecord recs.D) ?_
       refine rvc_un (rexec_call hP C rfl rfl rfl (rOfC_calls x recs hl2) ?_)
       refine rvP C (.pv (.lit (.int .i64 ((rOfC x recs).ver)))) ?_
       refine rvP C (.ptr 10 2) ?_
       refine rvc_un (rexec_prim C (δ := { v := .undef, wr := [(10, some (.cells [.pv (.lit (.bool x.write)), .pv (.lit (.string x.value)), .pv (.lit (.int .i64 ((rOfC x recs).ver))), .pv (.lit (.int .i64 x.began)), .pv (.lit (.int .i64 0))]))] }) rfl rfl rfl rfl trivial rfl ?_)
       refine rvc_nil ?_
       refine Awp.regionP C ?_
       refine rvP C (sS (some l.isEmpty) eOp l) ?_
       refine rvP C (.agg [.pv (.lit (.bool x.write)), .pv (.lit (.string x.value)), .pv (.lit (.int .i64 ((rOfC x recs).ver))), .pv (.lit (.int .i64 x.began)), .pv (.lit (.int .i64 0))]) ?_
       refine rvc_un (rexec_buildSliceF C eOp [(Op.mk x.write x.value ((rOfC x recs).ver) x.began 0)] rfl rfl rfl rfl rfl rfl rfl (by decide) rfl ?_)
       refine rvc_un (rexec_appendG C rfl rfl rfl rfl rfl rfl rfl rfl (fun _ h => by cases h) rfl (en := eOp) (l := l) (D := [(Op.mk x.write x.value ((rOfC x recs).ver) x.began 0)]) rfl rfl h2 (by rw [h2]; rfl) (by simp) (by have := of_decide_eq_true h3; first | omega | (simp <;> omega)) (by decide) (nn := (l ++ [(Op.mk x.write x.value ((rOfC x recs).ver) x.began 0)]).length) (by simp <;> omega) ?_)
       refine rvP C (.sl 59 0 ((l ++ [(Op.mk x.write x.value ((rOfC x recs).ver) x.began 0)]).length) 5 false) ?_
       refine rvc_nil ?_
       refine Awp.regionP C ?_
       refine rvP C (.pv (.lit (.int .i64 (IntKind.i64.wrap ((i : Int) + 1))))) ?_
       refine rvP C (.pv (.lit (.int .i64 (IntKind.i64.wrap ((i : Int) + 1))))) ?_
       refine rvc_nil ?_
       refine ⟨h4, (l ++ [(Op.mk x.write x.value ((rOfC x recs).ver) x.began 0)]), ?_, ?_⟩
       · exact ⟨hR, (by first | omega | (simp <;> omega))⟩
       · exact ⟨fun b => bif b == 900 then 59 else (fun b => b) b, WeakerR.ofL (Ks := [3, 900]) hI ⟨⟨rfl, rfl⟩, ⟨rfl, rfl⟩, ⟨grow_to rfl rfl app_ne rfl rfl, grow_within rfl⟩, ⟨rfl, rfl⟩, ⟨rfl, rfl⟩, ⟨lit_cast (wrap_i64 (by omega) (by omega)), rfl⟩, trivial⟩ (okH_grow (fun _ => rfl) rfl rfl (okH_cons rfl rfl rfl rfl (okH_nil))) rfl⟩
      ·
       replace hR := of_false h10 hR
       refine Awp.skip ?_
       refine Awp.regionP C ?_
       refine rvP C (sS (some l.isEmpty) eOp l) ?_
       refine rvP C (.agg [.pv (.lit (.bool x.write)), .pv (.lit (.string x.value)), .pv (.lit (.int .i64 x.ver)), .pv (.lit (.int .i64 x.began)), .pv (.lit (.int .i64 x.ended))]) ?_
       refine rvc_un (rexec_buildSliceF C eOp [(Op.mk x.write x.value x.ver x.began x.ended)] rfl rfl rfl rfl rfl rfl rfl (by decide) rfl ?_)
       refine rvc_un (rexec_appendG C rfl rfl rfl rfl rfl rfl rfl rfl (fun _ h => by cases h) rfl (en := eOp) (l := l) (D := [(Op.mk x.write x.value x.ver x.began x.ended)]) rfl rfl h2 (by rw [h2]; rfl) (by simp) (by have := of_decide_eq_true h3; first | omega | (simp <;> omega)) (by decide) (nn := (l ++ [(Op.mk x.write x.value x.ver x.began x.ended)]).length) (by simp <;> omega) ?_)
       refine rvP C (.sl 59 0 ((l ++ [(Op.mk x.write x.value x.ver x.began x.ended)]).length) 5 false) ?_
       refine rvc_nil ?_
       refine Awp.regionP C ?_
       refine rvP C (.pv (.lit (.int .i64 (IntKind.i64.wrap ((i : Int) + 1))))) ?_
       refine rvP C (.pv (.lit (.int .i64 (IntKind.i64.wrap ((i : Int) + 1))))) ?_
       refine rvc_nil ?_
       refine ⟨h4, (l ++ [(Op.mk x.write x.value x.ver x.began x.ended)]), ?_, ?_⟩
       · exact ⟨hR, (by first | omega | (simp <;> omega))⟩
       · exact ⟨fun b => bif b == 900 then 59 else (fun b => b) b, WeakerR.ofL (Ks := [3, 900]) hI ⟨⟨rfl, rfl⟩, ⟨rfl, rfl⟩, ⟨grow_to rfl rfl app_ne rfl rfl, grow_within rfl⟩, ⟨rfl, rfl⟩, ⟨rfl, rfl⟩, ⟨lit_cast (wrap_i64 (by omega) (by omega)), rfl⟩, trivial⟩ (okH_grow (fun _ => rfl) rfl rfl (okH_cons rfl rfl rfl rfl (okH_nil))) rfl⟩
  ·
   have h4 : ¬ i < calls.D.length := by have := of_decide_eq_false h3; omega
   rw [drop_end h4] at hR
   refine Awp.exit ?_
   refine Awp.consP C ?_
   refine rvP C (sS (some l.isEmpty) eOp l) ?_
   refine rvP C (sS (some l.isEmpty) eOp l) ?_
   refine rvc_nil ?_
   refine Awp.ret ?_
   subst hR
   exact ⟨.inl rfl, rfl⟩
 ·
  refine Awp.wordsR [(2, sS (some recs.nil) eRecord recs.D), (3, .ptr 3 0), (7, .sl 900 0 l.length 5 false), (11, sS (some calls.nil) eCall calls.D), (12, .pv (.lit (.int .i64 (calls.D.length : Int)))), (13, .pv (.lit (.int .i64 (i : Int))))] [(900, .cells (encC eOp l)), (3, .cells [.pv (.lit (.int .u8 (k 0))), .pv (.lit (.int .u8 (k 1))), .pv (.lit (.int .u8 (k 2))), .pv (.lit (.int .u8 (k 3))), .pv (.lit (.int .u8 (k 4))), .pv (.lit (.int .u8 (k 5))), .pv (.lit (.int .u8 (k 6))), .pv (.lit (.int .u8 (k 7)))])] [3, 900] (WeakerR.ofL (Ks := [3, 900]) hI ⟨⟨rfl, rfl⟩, ⟨rfl, rfl⟩, ⟨(by exact grow_at_cons (b := 900) (b' := 900) (e := eOp) (l := l) rfl h2 rfl rfl rfl), rfl⟩, ⟨rfl, rfl⟩, ⟨rfl, rfl⟩, ⟨rfl, rfl⟩, trivial⟩ (okH_list (look_cons h2 rfl) rfl rfl (okH_cons (look_cons h2 rfl) rfl rfl rfl (okH_nil))) rfl) ?_
  refine Awp.consP C ?_
  refine rvP C (.pv (.lit (.bool (decide ((i : Int) < (calls.D.length : Int)))))) ?_
  refine rvc_nil ?_
  refine Awp.seq ?_
  refine Awp.cond (b := (decide ((i : Int) < (calls.D.length : Int)))) rfl (fun h11 => ?_) (fun h11 => ?_)
  ·
   have h12 : i < calls.D.length := by have := of_decide_eq_true h11; omega
   obtain ⟨x, h13⟩ := getX h12
   rw [drop_at h13] at hR
   refine Awp.skip ?_
   refine Awp.seq ?_
   refine Awp.block ?_
   refine Awp.consP C ?_
   refine rvc_un (rexec_idxS C rfl rfl rfl rfl rfl rfl x (Int.natCast_nonneg _) h13 ?_)
   refine rvP C (.agg [.pv (.lit (.int .i64 x.client)), .pv (.lit (.int .i64 x.seq)), .pv (.lit (.bool x.write)), .pv (.lit (.int .u8 (x.key 0))), .pv (.lit (.int .u8 (x.key 1))), .pv (.lit (.int .u8 (x.key 2))), .pv (.lit (.int .u8 (x.key 3))), .pv (.lit (.int .u8 (x.key 4))), .pv (.lit (.int .u8 (x.key 5))), .pv (.lit (.int .u8 (x.key 6))), .pv (.lit (.int .u8 (x.key 7))), .pv (.lit (.string x.value)), .pv (.lit (.int .i64 x.mode)), .pv (.lit (.int .i64 x.bound)), .pv (.lit (.int .i64 x.began)), .pv (.lit (.int .i64 x.ended)), .pv (.lit (.int .i64 x.ver)), .pv (.lit (.int .i64 x.err)), .pv (.lit (.int .i64 x.floor))]) ?_
   refine rvc_un (rexec_prim C (δ := { v := .ptr 9 0, new := [(9, .cells [.pv (.lit (.int .i64 0)), .pv (.lit (.int .i64 0)), .pv (.lit (.bool false)), .pv (.lit (.int .u8 0)), .pv (.lit (.int .u8 0)), .pv (.lit (.int .u8 0)), .pv (.lit (.int .u8 0)), .pv (.lit (.int .u8 0)), .pv (.lit (.int .u8 0)), .pv (.lit (.int .u8 0)), .pv (.lit (.int .u8 0)), .pv (.lit (.string ⟨#[]⟩)), .pv (.lit (.int .i64 0)), .pv (.lit (.int .i64 0)), .pv (.lit (.int .i64 0)), .pv (.lit (.int .i64 0)), .pv (.lit (.int .i64 0)), .pv (.lit (.int .i64 0)), .pv (.lit (.int .i64 0))])] }) rfl rfl rfl rfl trivial rfl ?_)
   refine rvc_un (rexec_prim C (δ := { v := .undef, wr := [(9, some (.cells [.pv (.lit (.int .i64 x.client)), .pv (.lit (.int .i64 x.seq)), .pv (.lit (.bool x.write)), .pv (.lit (.int .u8 (x.key 0))), .pv (.lit (.int .u8 (x.key 1))), .pv (.lit (.int .u8 (x.key 2))), .pv (.lit (.int .u8 (x.key 3))), .pv (.lit (.int .u8 (x.key 4))), .pv (.lit (.int .u8 (x.key 5))), .pv (.lit (.int .u8 (x.key 6))), .pv (.lit (.int .u8 (x.key 7))), .pv (.lit (.string x.value)), .pv (.lit (.int .i64 x.mode)), .pv (.lit (.int .i64 x.bound)), .pv (.lit (.int .i64 x.began)), .pv (.lit (.int .i64 x.ended)), .pv (.lit (.int .i64 x.ver)), .pv (.lit (.int .i64 x.err)), .pv (.lit (.int .i64 x.floor))]))] }) rfl rfl rfl rfl trivial rfl ?_)
   refine rvc_nil ?_
   refine Awp.seq ?_
   refine Awp.consP C ?_
   refine rvP C (.ptr 9 3) ?_
   refine rvP C (.agg [.pv (.lit (.int .u8 (x.key 0))), .pv (.lit (.int .u8 (x.key 1))), .pv (.lit (.int .u8 (x.key 2))), .pv (.lit (.int .u8 (x.key 3))), .pv (.lit (.int .u8 (x.key 4))), .pv (.lit (.int .u8 (x.key 5))), .pv (.lit (.int .u8 (x.key 6))), .pv (.lit (.int .u8 (x.key 7)))]) ?_
   refine rvP C (.agg [.pv (.lit (.int .u8 (k 0))), .pv (.lit (.int .u8 (k 1))), .pv (.lit (.int .u8 (k 2))), .pv (.lit (.int .u8 (k 3))), .pv (.lit (.int .u8 (k 4))), .pv (.lit (.int .u8 (k 5))), .pv (.lit (.int .u8 (k 6))), .pv (.lit (.int .u8 (k 7)))]) ?_
   refine rvP C (.pv (.lit (.bool (!(((x.key 0) == (k 0)) && (((x.key 1) == (k 1)) && (((x.key 2) == (k 2)) && (((x.key 3) == (k 3)) && (((x.key 4) == (k 4)) && (((x.key 5) == (k 5)) && (((x.key 6) == (k 6)) && (((x.key 7) == (k 7)) && true)))))))))))) ?_
   refine rvP C (.pv (.lit (.bool (!(((x.key 0) == (k 0)) && (((x.key 1) == (k 1)) && (((x.key 2) == (k 2)) && (((x.key 3) == (k 3)) && (((x.key 4) == (k 4)) && (((x.key 5) == (k 5)) && (((x.key 6) == (k 6)) && (((x.key 7) == (k 7)) && true)))))))))))) ?_
   refine rvc_case 21 (!(((x.key 0) == (k 0)) && (((x.key 1) == (k 1)) && (((x.key 2) == (k 2)) && (((x.key 3) == (k 3)) && (((x.key 4) == (k 4)) && (((x.key 5) == (k 5)) && (((x.key 6) == (k 6)) && (((x.key 7) == (k 7)) && true))))))))) rfl (fun h14 => ?_) (fun h14 => ?_)
   ·
    replace hR := of_true h14 hR
    refine rvS ?_
    refine rvS ?_
    refine rvS ?_
    refine rvP C (.pv (.lit (.bool true))) ?_
    refine rvP C (.pv (.lit (.bool true))) ?_
    refine rvS ?_
    refine rvS ?_
    refine rvS ?_
    refine rvS ?_
    refine rvc_shutU rfl rfl rfl ?_
    refine rvc_shutU rfl rfl rfl ?_
    refine rvc_shutU rfl rfl rfl ?_
    refine rvS ?_
    refine rvP C (.pv (.lit (.bool true))) ?_
    refine rvc_nil ?_
    refine Awp.condT (b := true) rfl rfl ?_
    refine Awp.exit ?_
    refine Awp.regionP C ?_
    refine rvP C (.pv (.lit (.int .i64 (IntKind.i64.wrap ((i : Int) + 1))))) ?_
    refine rvP C (.pv (.lit (.int .i64 (IntKind.i64.wrap ((i : Int) + 1))))) ?_
    refine rvc_nil ?_
    refine ⟨h12, l, ?_, ?_⟩
    · exact ⟨hR, (by first | omega | (simp <;> omega))⟩
    · exact ⟨fun b => b, WeakerR.ofL (Ks := [3, 900]) hI ⟨⟨rfl, rfl⟩, ⟨rfl, rfl⟩, ⟨grow_to rfl rfl h2 rfl rfl, grow_within rfl⟩, ⟨rfl, rfl⟩, ⟨rfl, rfl⟩, ⟨lit_cast (wrap_i64 (by omega) (by omega)), rfl⟩, trivial⟩ (okH_grow (fun _ => rfl) rfl rfl (okH_cons rfl rfl rfl rfl (okH_nil))) rfl⟩
   ·
    replace hR := of_false h14 hR
    refine rvO C (.agg [.pv (.lit (.int .i64 x.client)), .pv (.lit (.int .i64 x.seq)), .pv (.lit (.bool x.write)), .pv (.lit (.int .u8 (x.key 0))), .pv (.lit (.int .u8 (x.key 1))), .pv (.lit (.int .u8 (x.key 2))), .pv (.lit (.int .u8 (x.key 3))), .pv (.lit (.int .u8 (x.key 4))), .pv (.lit (.int .u8 (x.key 5))), .pv (.lit (.int .u8 (x.key 6))), .pv (.lit (.int .u8 (x.key 7))), .pv (.lit (.string x.value)), .pv (.lit (.int .i64 x.mode)), .pv (.lit (.int .i64 x.bound)), .pv (.lit (.int .i64 x.began)), .pv (.lit (.int .i64 x.ended)), .pv (.lit (.int .i64 x.ver)), .pv (.lit (.int .i64 x.err)), .pv (.lit (.int .i64 x.floor))]) ?_
    refine rvc_open rfl rfl rfl (rexec_call hP C rfl rfl rfl (rCounts_calls x) ?_)
    refine rvO C (.pv (.lit (.bool (!(rCounts x))))) ?_
    refine rvP C (.pv (.lit (.bool (!(rCounts x))))) ?_
    refine rvP C (.pv (.lit (.bool (!(rCounts x))))) ?_
    refine rvc_case 26 (!(rCounts x)) rfl (fun h15 => ?_) (fun h15 => ?_)
    ·
     replace hR := of_true h15 hR
     refine rvS ?_
     refine rvS ?_
     refine rvS ?_
     refine rvS ?_
     refine rvc_shutU rfl rfl rfl ?_
     refine rvc_shutU rfl rfl rfl ?_
     refine rvc_shutU rfl rfl rfl ?_
     refine rvS ?_
     refine rvP C (.pv (.lit (.bool true))) ?_
     refine rvc_nil ?_
     refine Awp.condT (b := true) rfl rfl ?_
     refine Awp.exit ?_
     refine Awp.regionP C ?_
     refine rvP C (.pv (.lit (.int .i64 (IntKind.i64.wrap ((i : Int) + 1))))) ?_
     refine rvP C (.pv (.lit (.int .i64 (IntKind.i64.wrap ((i : Int) + 1))))) ?_
     refine rvc_nil ?_
     refine ⟨h12, l, ?_, ?_⟩
     · exact ⟨hR, (by first | omega | (simp <;> omega))⟩
     · exact ⟨fun b => b, WeakerR.ofL (Ks := [3, 900]) hI ⟨⟨rfl, rfl⟩, ⟨rfl, rfl⟩, ⟨grow_to rfl rfl h2 rfl rfl, grow_within rfl⟩, ⟨rfl, rfl⟩, ⟨rfl, rfl⟩, ⟨lit_cast (wrap_i64 (by omega) (by omega)), rfl⟩, trivial⟩ (okH_grow (fun _ => rfl) rfl rfl (okH_cons rfl rfl rfl rfl (okH_nil))) rfl⟩
    ·
     replace hR := of_false h15 hR
     refine rvO C (.ptr 9 2) ?_
     refine rvO C (.pv (.lit (.bool x.write))) ?_
     refine rvO C (.pv (.lit (.bool (!x.write)))) ?_
     refine rvO C (.pv (.lit (.bool (!x.write)))) ?_
     refine rvc_case 30 (!x.write) rfl (fun h16 => ?_) (fun h16 => ?_)
     ·
      replace hR := of_true h16 hR
      refine rvO C (.agg [.pv (.lit (.int .i64 x.client)), .pv (.lit (.int .i64 x.seq)), .pv (.lit (.bool x.write)), .pv (.lit (.int .u8 (x.key 0))), .pv (.lit (.int .u8 (x.key 1))), .pv (.lit (.int .u8 (x.key 2))), .pv (.lit (.int .u8 (x.key 3))), .pv (.lit (.int .u8 (x.key 4))), .pv (.lit (.int .u8 (x.key 5))), .pv (.lit (.int .u8 (x.key 6))), .pv (.lit (.int .u8 (x.key 7))), .pv (.lit (.string x.value)), .pv (.lit (.int .i64 x.mode)), .pv (.lit (.int .i64 x.bound)), .pv (.lit (.int .i64 x.began)), .pv (.lit (.int .i64 x.ended)), .pv (.lit (.int .i64 x.ver)), .pv (.lit (.int .i64 x.err)), .pv (.lit (.int .i64 x.floor))]) ?_
      refine rvc_open rfl rfl rfl (rexec_call hP C rfl rfl rfl (rAnswered_calls x) ?_)
      refine rvO C (.pv (.lit (.bool (!(rAnswered x))))) ?_
      refine rvO C (.pv (.lit (.bool (!(rAnswered x))))) ?_
      refine rvP C (.pv (.lit (.bool (!(rAnswered x))))) ?_
      refine rvc_nil ?_
      refine Awp.cond (b := (!(rAnswered x))) rfl (fun h17 => ?_) (fun h17 => ?_)
      ·
       replace hR := of_true h17 hR
       refine Awp.exit ?_
       refine Awp.regionP C ?_
       refine rvP C (.pv (.lit (.int .i64 (IntKind.i64.wrap ((i : Int) + 1))))) ?_
       refine rvP C (.pv (.lit (.int .i64 (IntKind.i64.wrap ((i : Int) + 1))))) ?_
       refine rvc_nil ?_
       refine ⟨h12, l, ?_, ?_⟩
       · exact ⟨hR, (by first | omega | (simp <;> omega))⟩
       · exact ⟨fun b => b, WeakerR.ofL (Ks := [3, 900]) hI ⟨⟨rfl, rfl⟩, ⟨rfl, rfl⟩, ⟨grow_to rfl rfl h2 rfl rfl, grow_within rfl⟩, ⟨rfl, rfl⟩, ⟨rfl, rfl⟩, ⟨lit_cast (wrap_i64 (by omega) (by omega)), rfl⟩, trivial⟩ (okH_grow (fun _ => rfl) rfl rfl (okH_cons rfl rfl rfl rfl (okH_nil))) rfl⟩
      ·
       replace hR := of_false h17 hR
       refine Awp.skip ?_
       refine Awp.consP C ?_
       refine rvP C (.ptr 9 2) ?_
       refine rvP C (.pv (.lit (.bool x.write))) ?_
       refine rvP C (.ptr 9 11) ?_
       refine rvP C (.pv (.lit (.string x.value))) ?_
       refine rvP C (.ptr 9 16) ?_
       refine rvP C (.pv (.lit (.int .i64 x.ver))) ?_
       refine rvP C (.ptr 9 14) ?_
       refine rvP C (.pv (.lit (.int .i64 x.began))) ?_
       refine rvP C (.ptr 9 15) ?_
       refine rvP C (.pv (.lit (.int .i64 x.ended))) ?_
       refine rvP C (.agg [.pv (.lit (.bool x.write)), .pv (.lit (.string x.value)), .pv (.lit (.int .i64 x.ver)), .pv (.lit (.int .i64 x.began)), .pv (.lit (.int .i64 x.ended))]) ?_
       refine rvc_un (rexec_prim C (δ := { v := .ptr 10 0, new := [(10, .cells [.pv (.lit (.bool false)), .pv (.lit (.string ⟨#[]⟩)), .pv (.lit (.int .i64 0)), .pv (.lit (.int .i64 0)), .pv (.lit (.int .i64 0))])] }) rfl rfl rfl rfl trivial rfl ?_)
       refine rvc_un (rexec_prim C (δ := { v := .undef, wr := [(10, some (.cells [.pv (.lit (.bool x.write)), .pv (.lit (.string x.value)), .pv (.lit (.int .i64 x.ver)), .pv (.lit (.int .i64 x.began)), .pv (.lit (.int .i64 x.ended))]))] }) rfl rfl rfl rfl trivial rfl ?_)
       refine rvc_nil ?_
       refine Awp.seq ?_
       refine Awp.consP C ?_
       refine rvP C (.agg [.pv (.lit (.int .i64 x.client)), .pv (.lit (.int .i64 x.seq)), .pv (.lit (.bool x.write)), .pv (.lit (.int .u8 (x.key 0))), .pv (.lit (.int .u8 (x.key 1))), .pv (.lit (.int .u8 (x.key 2))), .pv (.lit (.int .u8 (x.key 3))), .pv (.lit (.int .u8 (x.key 4))), .pv (.lit (.int .u8 (x.key 5))), .pv (.lit (.int .u8 (x.key 6))), .pv (.lit (.int .u8 (x.key 7))), .pv (.lit (.string x.value)), .pv (.lit (.int .i64 x.mode)), .pv (.lit (.int .i64 x.bound)), .pv (.lit (.int .i64 x.began)), .pv (.lit (.int .i64 x.ended)), .pv (.lit (.int .i64 x.ver)), .pv (.lit (.int .i64 x.err)), .pv (.lit (.int .i64 x.floor))]) ?_
       refine rvc_un (rexec_call hP C rfl rfl rfl (rAnswered_calls x) ?_)
       refine rvP C (.pv (.lit (.bool (!(rAnswered x))))) ?_
       refine rvc_nil ?_
       refine Awp.condF (b := (!(rAnswered x))) rfl h17 ?_
       refine Awp.skip ?_
       refine Awp.regionP C ?_
       refine rvP C (.sl 900 0 l.length 5 false) ?_
       refine rvP C (.agg [.pv (.lit (.bool x.write)), .pv (.lit (.string x.value)), .pv (.lit (.int .i64 x.ver)), .pv (.lit (.int .i64 x.began)), .pv (.lit (.int .i64 x.ended))]) ?_
       refine rvc_un (rexec_buildSliceF C eOp [(Op.mk x.write x.value x.ver x.began x.ended)] rfl rfl rfl rfl rfl rfl rfl (by decide) rfl ?_)
       refine rvc_un (rexec_append C rfl rfl rfl rfl rfl rfl rfl rfl (fun _ h => by cases h) rfl (en := eOp) (D0 := l) (D := [(Op.mk x.write x.value x.ver x.began x.ended)]) rfl rfl rfl rfl (by have := of_decide_eq_true h11; first | omega | (simp <;> omega)) (by decide) (nn := (l ++ [(Op.mk x.write x.value x.ver x.began x.ended)]).length) (by simp <;> omega) ?_)
       refine rvP C (.sl 59 0 ((l ++ [(Op.mk x.write x.value x.ver x.began x.ended)]).length) 5 false) ?_
       refine rvc_nil ?_
       refine Awp.regionP C ?_
       refine rvP C (.pv (.lit (.int .i64 (IntKind.i64.wrap ((i : Int) + 1))))) ?_
       refine rvP C (.pv (.lit (.int .i64 (IntKind.i64.wrap ((i : Int) + 1))))) ?_
       refine rvc_nil ?_
       refine ⟨h12, (l ++ [(Op.mk x.write x.value x.ver x.began x.ended)]), ?_, ?_⟩
       · exact ⟨hR, (by first | omega | (simp <;> omega))⟩
       · exact ⟨fun b => bif b == 900 then 59 else (fun b => b) b, WeakerR.ofL (Ks := [3, 900]) hI ⟨⟨rfl, rfl⟩, ⟨rfl, rfl⟩, ⟨grow_to rfl rfl app_ne rfl rfl, grow_within rfl⟩, ⟨rfl, rfl⟩, ⟨rfl, rfl⟩, ⟨lit_cast (wrap_i64 (by omega) (by omega)), rfl⟩, trivial⟩ (okH_grow (fun _ => rfl) rfl rfl (okH_cons rfl rfl rfl rfl (okH_nil))) rfl⟩
     ·
      replace hR := of_false h16 hR
      refine rvS ?_
      refine rvS ?_
      refine rvS ?_
      refine rvO C (.pv (.lit (.bool false))) ?_
      refine rvP C (.pv (.lit (.bool false))) ?_
      refine rvc_nil ?_
      refine Awp.condF (b := false) rfl rfl ?_
      refine Awp.skip ?_
      refine Awp.consP C ?_
      refine rvP C (.ptr 9 2) ?_
      refine rvP C (.pv (.lit (.bool x.write))) ?_
      refine rvP C (.ptr 9 11) ?_
      refine rvP C (.pv (.lit (.string x.value))) ?_
      refine rvP C (.ptr 9 16) ?_
      refine rvP C (.pv (.lit (.int .i64 x.ver))) ?_
      refine rvP C (.ptr 9 14) ?_
      refine rvP C (.pv (.lit (.int .i64 x.began))) ?_
      refine rvP C (.ptr 9 15) ?_
      refine rvP C (.pv (.lit (.int .i64 x.ended))) ?_
      refine rvP C (.agg [.pv (.lit (.bool x.write)), .pv (.lit (.string x.value)), .pv (.lit (.int .i64 x.ver)), .pv (.lit (.int .i64 x.began)), .pv (.lit (.int .i64 x.ended))]) ?_
      refine rvc_un (rexec_prim C (δ := { v := .ptr 10 0, new := [(10, .cells [.pv (.lit (.bool false)), .pv (.lit (.string ⟨#[]⟩)), .pv (.lit (.int .i64 0)), .pv (.lit (.int .i64 0)), .pv (.lit (.int .i64 0))])] }) rfl rfl rfl rfl trivial rfl ?_)
      refine rvc_un (rexec_prim C (δ := { v := .undef, wr := [(10, some (.cells [.pv (.lit (.bool x.write)), .pv (.lit (.string x.value)), .pv (.lit (.int .i64 x.ver)), .pv (.lit (.int .i64 x.began)), .pv (.lit (.int .i64 x.ended))]))] }) rfl rfl rfl rfl trivial rfl ?_)
      refine rvc_nil ?_
      refine Awp.seq ?_
      refine Awp.consP C ?_
      refine rvP C (.agg [.pv (.lit (.int .i64 x.client)), .pv (.lit (.int .i64 x.seq)), .pv (.lit (.bool x.write)), .pv (.lit (.int .u8 (x.key 0))), .pv (.lit (.int .u8 (x.key 1))), .pv (.lit (.int .u8 (x.key 2))), .pv (.lit (.int .u8 (x.key 3))), .pv (.lit (.int .u8 (x.key 4))), .pv (.lit (.int .u8 (x.key 5))), .pv (.lit (.int .u8 (x.key 6))), .pv (.lit (.int .u8 (x.key 7))), .pv (.lit (.string x.value)), .pv (.lit (.int .i64 x.mode)), .pv (.lit (.int .i64 x.bound)), .pv (.lit (.int .i64 x.began)), .pv (.lit (.int .i64 x.ended)), .pv (.lit (.int .i64 x.ver)), .pv (.lit (.int .i64 x.err)), .pv (.lit (.int .i64 x.floor))]) ?_
      refine rvc_un (rexec_call hP C rfl rfl rfl (rAnswered_calls x) ?_)
      refine rvP C (.pv (.lit (.bool (!(rAnswered x))))) ?_
      refine rvc_nil ?_
      refine Awp.cond (b := (!(rAnswered x))) rfl (fun h18 => ?_) (fun h18 => ?_)
      ·
       replace hR := of_true h18 hR
       refine Awp.consP C ?_
       refine rvP C (.ptr 10 4) ?_
       refine rvc_un (rexec_prim C (δ := { v := .undef, wr := [(10, some (.cells [.pv (.lit (.bool x.write)), .pv (.lit (.string x.value)), .pv (.lit (.int .i64 x.ver)), .pv (.lit (.int .i64 x.began)), .pv (.lit (.int .i64 0))]))] }) rfl rfl rfl rfl trivial rfl ?_)
       refine rvc_nil ?_
       refine Awp.regionP C ?_
       refine rvP C (.agg [.pv (.lit (.int .i64 x.client)), .pv (.lit (.int .i64 x.seq)), .pv (.lit (.bool x.write)), .pv (.lit (.int .u8 (x.key 0))), .pv (.lit (.int .u8 (x.key 1))), .pv (.lit (.int .u8 (x.key 2))), .pv (.lit (.int .u8 (x.key 3))), .pv (.lit (.int .u8 (x.key 4))), .pv (.lit (.int .u8 (x.key 5))), .pv (.lit (.int .u8 (x.key 6))), .pv (.lit (.int .u8 (x.key 7))), .pv (.lit (.string x.value)), .pv (.lit (.int .i64 x.mode)), .pv (.lit (.int .i64 x.bound)), .pv (.lit (.int .i64 x.began)), .pv (.lit (.int .i64 x.ended)), .pv (.lit (.int .i64 x.ver)), .pv (.lit (.int .i64 x.err)), .pv (.lit (.int .i64 x.floor))]) ?_
       refine rvP C (sS (some recs.nil) eRecord recs.D) ?_
       refine rvc_un (rexec_call hP C rfl rfl rfl (rOfC_calls x recs hl2) ?_)
       refine rvP C (.pv (.lit (.int .i64 ((rOfC x recs).ver)))) ?_
       refine rvP C (.ptr 10 2) ?_
       refine rvc_un (rexec_prim C (δ := { v := .undef, wr := [(10, some (.cells [.pv (.lit (.bool x.write)), .pv (.lit (.string x.value)), .pv (.lit (.int .i64 ((rOfC x recs).ver))), .pv (.lit (.int .i64 x.began)), .pv (.lit (.int .i64 0))]))] }) rfl rfl rfl rfl trivial rfl ?_)
       refine rvc_nil ?_
       refine Awp.regionP C ?_
       refine rvP C (.sl 900 0 l.length 5 false) ?_
       refine rvP C (.agg [.pv (.lit (.bool x.write)), .pv (.lit (.string x.value)), .pv (.lit (.int .i64 ((rOfC x recs).ver))), .pv (.lit (.int .i64 x.began)), .pv (.lit (.int .i64 0))]) ?_
       refine rvc_un (rexec_buildSliceF C eOp [(Op.mk x.write x.value ((rOfC x recs).ver) x.began 0)] rfl rfl rfl rfl rfl rfl rfl (by decide) rfl ?_)
       refine rvc_un (rexec_append C rfl rfl rfl rfl rfl rfl rfl rfl (fun _ h => by cases h) rfl (en := eOp) (D0 := l) (D := [(Op.mk x.write x.value ((rOfC x recs).ver) x.began 0)]) rfl rfl rfl rfl (by have := of_decide_eq_true h11; first | omega | (simp <;> omega)) (by decide) (nn := (l ++ [(Op.mk x.write x.value ((rOfC x recs).ver) x.began 0)]).length) (by simp <;> omega) ?_)
       refine rvP C (.sl 59 0 ((l ++ [(Op.mk x.write x.value ((rOfC x recs).ver) x.began 0)]).length) 5 false) ?_
       refine rvc_nil ?_
       refine Awp.regionP C ?_
       refine rvP C (.pv (.lit (.int .i64 (IntKind.i64.wrap ((i : Int) + 1))))) ?_
       refine rvP C (.pv (.lit (.int .i64 (IntKind.i64.wrap ((i : Int) + 1))))) ?_
       refine rvc_nil ?_
       refine ⟨h12, (l ++ [(Op.mk x.write x.value ((rOfC x recs).ver) x.began 0)]), ?_, ?_⟩
       · exact ⟨hR, (by first | omega | (simp <;> omega))⟩
       · exact ⟨fun b => bif b == 900 then 59 else (fun b => b) b, WeakerR.ofL (Ks := [3, 900]) hI ⟨⟨rfl, rfl⟩, ⟨rfl, rfl⟩, ⟨grow_to rfl rfl app_ne rfl rfl, grow_within rfl⟩, ⟨rfl, rfl⟩, ⟨rfl, rfl⟩, ⟨lit_cast (wrap_i64 (by omega) (by omega)), rfl⟩, trivial⟩ (okH_grow (fun _ => rfl) rfl rfl (okH_cons rfl rfl rfl rfl (okH_nil))) rfl⟩
      ·
       replace hR := of_false h18 hR
       refine Awp.skip ?_
       refine Awp.regionP C ?_
       refine rvP C (.sl 900 0 l.length 5 false) ?_
       refine rvP C (.agg [.pv (.lit (.bool x.write)), .pv (.lit (.string x.value)), .pv (.lit (.int .i64 x.ver)), .pv (.lit (.int .i64 x.began)), .pv (.lit (.int .i64 x.ended))]) ?_
       refine rvc_un (rexec_buildSliceF C eOp [(Op.mk x.write x.value x.ver x.began x.ended)] rfl rfl rfl rfl rfl rfl rfl (by decide) rfl ?_)
       refine rvc_un (rexec_append C rfl rfl rfl rfl rfl rfl rfl rfl (fun _ h => by cases h) rfl (en := eOp) (D0 := l) (D := [(Op.mk x.write x.value x.ver x.began x.ended)]) rfl rfl rfl rfl (by have := of_decide_eq_true h11; first | omega | (simp <;> omega)) (by decide) (nn := (l ++ [(Op.mk x.write x.value x.ver x.began x.ended)]).length) (by simp <;> omega) ?_)
       refine rvP C (.sl 59 0 ((l ++ [(Op.mk x.write x.value x.ver x.began x.ended)]).length) 5 false) ?_
       refine rvc_nil ?_
       refine Awp.regionP C ?_
       refine rvP C (.pv (.lit (.int .i64 (IntKind.i64.wrap ((i : Int) + 1))))) ?_
       refine rvP C (.pv (.lit (.int .i64 (IntKind.i64.wrap ((i : Int) + 1))))) ?_
       refine rvc_nil ?_
       refine ⟨h12, (l ++ [(Op.mk x.write x.value x.ver x.began x.ended)]), ?_, ?_⟩
       · exact ⟨hR, (by first | omega | (simp <;> omega))⟩
       · exact ⟨fun b => bif b == 900 then 59 else (fun b => b) b, WeakerR.ofL (Ks := [3, 900]) hI ⟨⟨rfl, rfl⟩, ⟨rfl, rfl⟩, ⟨grow_to rfl rfl app_ne rfl rfl, grow_within rfl⟩, ⟨rfl, rfl⟩, ⟨rfl, rfl⟩, ⟨lit_cast (wrap_i64 (by omega) (by omega)), rfl⟩, trivial⟩ (okH_grow (fun _ => rfl) rfl rfl (okH_cons rfl rfl rfl rfl (okH_nil))) rfl⟩
  ·
   have h12 : ¬ i < calls.D.length := by have := of_decide_eq_false h11; omega
   rw [drop_end h12] at hR
   refine Awp.exit ?_
   refine Awp.consP C ?_
   refine rvP C (.sl 900 0 l.length 5 false) ?_
   refine rvP C (.sl 900 0 l.length 5 false) ?_
   refine rvc_nil ?_
   refine Awp.freezeW 900 (encL eOp l) ?_ [(6, sS (some l.isEmpty) eOp l)] [(3, .cells [.pv (.lit (.int .u8 (k 0))), .pv (.lit (.int .u8 (k 1))), .pv (.lit (.int .u8 (k 2))), .pv (.lit (.int .u8 (k 3))), .pv (.lit (.int .u8 (k 4))), .pv (.lit (.int .u8 (k 5))), .pv (.lit (.int .u8 (k 6))), .pv (.lit (.int .u8 (k 7)))])] ?_ ?_ ?_
   · rfl
   · exact ⟨⟨_, rfl, .inl (.inr ⟨_, _, _, rfl, by rw [ne_isEmpty h2]; rfl⟩)⟩, trivial⟩
   · exact ⟨⟨(by show (3 : Nat) ≠ 900; decide), .inl rfl⟩, trivial⟩
   refine Awp.ret ?_
   subst hR
   exact ⟨.inl rfl, rfl⟩
def eqKeys_l0 (s2 : (Sl (Nat → Int))) : List (Nat → Int) → Nat → Bool
  | [], _ => true
  | x :: xs, i => (bif (!(((x 0) == (s2.D[(i : Int).toNat]! 0)) && (((x 1) == (s2.D[(i : Int).toNat]! 1)) && (((x 2) == (s2.D[(i : Int).toNat]! 2)) && (((x 3) == (s2.D[(i : Int).toNat]! 3)) && (((x 4) == (s2.D[(i : Int).toNat]! 4)) && (((x 5) == (s2.D[(i : Int).toNat]! 5)) && (((x 6) == (s2.D[(i : Int).toNat]! 6)) && (((x 7) == (s2.D[(i : Int).toNat]! 7)) && true))))))))) then false else eqKeys_l0 s2 xs (i + 1) )
def eqKeys (s1 : (Sl (Nat → Int))) (s2 : (Sl (Nat → Int))) : Bool :=
  (bif ((s1.D.length : Int) != (s2.D.length : Int)) then false else eqKeys_l0 s2 s1.D 0 )
theorem eqKeys_calls (s1 : (Sl (Nat → Int))) (s2 : (Sl (Nat → Int))) (hl1 : s1.D.length ≤ 1000000) : PCalls Try.prog 21 [sS (some s1.nil) (eA8 .u8) s1.D, sS (some s2.nil) (eA8 .u8) s2.D] (.pv (.lit (.bool (eqKeys s1 s2)))) := by
 generalize hR : eqKeys s1 s2 = R
 refine PCalls.of_body tabOk Try.func21 rfl rfl rfl rfl rfl mixed fun E hP C hI => ?_
 refine Awp.consP C ?_
 refine rvP C (.pv (.lit (.bool false))) ?_
 refine rvc_nil ?_
 refine Awp.seq ?_
 refine Awp.consP C ?_
 refine rvP C (sS (some s1.nil) (eA8 .u8) s1.D) ?_
 refine rvP C (.pv (.lit (.int .i64 (s1.D.length : Int)))) ?_
 refine rvP C (sS (some s2.nil) (eA8 .u8) s2.D) ?_
 refine rvP C (.pv (.lit (.int .i64 (s2.D.length : Int)))) ?_
 refine rvP C (.pv (.lit (.bool ((s1.D.length : Int) != (s2.D.length : Int))))) ?_
 refine rvc_nil ?_
 refine Awp.cond (b := ((s1.D.length : Int) != (s2.D.length : Int))) rfl (fun h1 => ?_) (fun h1 => ?_)
 ·
  replace hR := of_true h1 hR
  refine Awp.consP C ?_
  refine rvP C (.pv (.lit (.bool false))) ?_
  refine rvc_nil ?_
  refine Awp.ret ?_
  subst hR
  exact ⟨.inl rfl, rfl⟩
 ·
  replace hR := of_false h1 hR
  refine Awp.skip ?_
  refine Awp.seq ?_
  refine Awp.consP C ?_
  refine rvP C (sS (some s1.nil) (eA8 .u8) s1.D) ?_
  refine rvP C (.pv (.lit (.int .i64 (s1.D.length : Int)))) ?_
  refine rvP C (.pv (.lit (.int .i64 0))) ?_
  refine rvc_nil ?_
  refine Awp.block ?_
  refine Awp.forR (σ := Unit) (s1.D.length) (fun i _v => [(0, sS (some s1.nil) (eA8 .u8) s1.D), (1, sS (some s2.nil) (eA8 .u8) s2.D), (12, .pv (.lit (.int .i64 (s1.D.length : Int)))), (13, .pv (.lit (.int .i64 (i : Int))))]) (fun i _v => []) [] (fun i _v => eqKeys_l0 s2 (s1.D.drop i) i  = R) () ?_ ?_ (fun i _v h2 hR => ?_)
  · exact hR
  · exact ⟨fun b => b, WeakerR.ofL (Ks := []) hI ⟨⟨rfl, rfl⟩, ⟨rfl, rfl⟩, ⟨rfl, rfl⟩, ⟨rfl, rfl⟩, trivial⟩ (okH_nil) rfl⟩
  refine Awp.consP C ?_
  refine rvP C (.pv (.lit (.bool (decide ((i : Int) < (s1.D.length : Int)))))) ?_
  refine rvc_nil ?_
  refine Awp.seq ?_
  refine Awp.cond (b := (decide ((i : Int) < (s1.D.length : Int)))) rfl (fun h3 => ?_) (fun h3 => ?_)
  ·
   have h4 : i < s1.D.length := by have := of_decide_eq_true h3; omega
   obtain ⟨x, h5⟩ := getX h4
   rw [drop_at h5] at hR
   refine Awp.skip ?_
   refine Awp.seq ?_
   refine Awp.block ?_
   refine Awp.consP C ?_
   refine rvP C (.pv (.lit (.int .i64 (i : Int)))) ?_
   refine rvP C (.pv (.lit (.int .i64 (i : Int)))) ?_
   refine rvc_nil ?_
   refine Awp.consP C ?_
   refine rvP C (sS (some s1.nil) (eA8 .u8) s1.D) ?_
   refine rvP C (.pv (.lit (.int .i64 (i : Int)))) ?_
   refine rvc_un (rexec_idxS C rfl rfl rfl rfl rfl rfl x (Int.natCast_nonneg _) h5 ?_)
   refine rvP C (.agg [.pv (.lit (.int .u8 (x 0))), .pv (.lit (.int .u8 (x 1))), .pv (.lit (.int .u8 (x 2))), .pv (.lit (.int .u8 (x 3))), .pv (.lit (.int .u8 (x 4))), .pv (.lit (.int .u8 (x 5))), .pv (.lit (.int .u8 (x 6))), .pv (.lit (.int .u8 (x 7)))]) ?_
   refine rvP C (sS (some s2.nil) (eA8 .u8) s2.D) ?_
   refine rvP C (.pv (.lit (.int .i64 (i : Int)))) ?_
   have h6 : s2.D[(i : Int).toNat]? = some s2.D[(i : Int).toNat]! := getE (by have := eq_of_bne_false h1; have := of_decide_eq_true h3; omega)
   refine rvc_un (rexec_idxS C rfl rfl rfl rfl rfl rfl (s2.D[(i : Int).toNat]!) (Int.natCast_nonneg _) h6 ?_)
   refine rvP C (.agg [.pv (.lit (.int .u8 (s2.D[(i : Int).toNat]! 0))), .pv (.lit (.int .u8 (s2.D[(i : Int).toNat]! 1))), .pv (.lit (.int .u8 (s2.D[(i : Int).toNat]! 2))), .pv (.lit (.int .u8 (s2.D[(i : Int).toNat]! 3))), .pv (.lit (.int .u8 (s2.D[(i : Int).toNat]! 4))), .pv (.lit (.int .u8 (s2.D[(i : Int).toNat]! 5))), .pv (.lit (.int .u8 (s2.D[(i : Int).toNat]! 6))), .pv (.lit (.int .u8 (s2.D[(i : Int).toNat]! 7)))]) ?_
   refine rvP C (.pv (.lit (.bool (!(((x 0) == (s2.D[(i : Int).toNat]! 0)) && (((x 1) == (s2.D[(i : Int).toNat]! 1)) && (((x 2) == (s2.D[(i : Int).toNat]! 2)) && (((x 3) == (s2.D[(i : Int).toNat]! 3)) && (((x 4) == (s2.D[(i : Int).toNat]! 4)) && (((x 5) == (s2.D[(i : Int).toNat]! 5)) && (((x 6) == (s2.D[(i : Int).toNat]! 6)) && (((x 7) == (s2.D[(i : Int).toNat]! 7)) && true)))))))))))) ?_
   refine rvc_nil ?_
   refine Awp.cond (b := (!(((x 0) == (s2.D[(i : Int).toNat]! 0)) && (((x 1) == (s2.D[(i : Int).toNat]! 1)) && (((x 2) == (s2.D[(i : Int).toNat]! 2)) && (((x 3) == (s2.D[(i : Int).toNat]! 3)) && (((x 4) == (s2.D[(i : Int).toNat]! 4)) && (((x 5) == (s2.D[(i : Int).toNat]! 5)) && (((x 6) == (s2.D[(i : Int).toNat]! 6)) && (((x 7) == (s2.D[(i : Int).toNat]! 7)) && true)))))))))) rfl (fun h7 => ?_) (fun h7 => ?_)
   ·
    replace hR := of_true h7 hR
    refine Awp.consP C ?_
    refine rvP C (.pv (.lit (.bool false))) ?_
    refine rvc_nil ?_
    refine Awp.ret ?_
    subst hR
    exact ⟨.inl rfl, rfl⟩
   ·
    replace hR := of_false h7 hR
    refine Awp.skip ?_
    refine Awp.regionP C ?_
    refine rvP C (.pv (.lit (.int .i64 (IntKind.i64.wrap ((i : Int) + 1))))) ?_
    refine rvP C (.pv (.lit (.int .i64 (IntKind.i64.wrap ((i : Int) + 1))))) ?_
    refine rvc_nil ?_
    refine ⟨h4, (), ?_, ?_⟩
    · exact hR
    · exact ⟨fun b => b, WeakerR.ofL (Ks := []) hI ⟨⟨rfl, rfl⟩, ⟨rfl, rfl⟩, ⟨rfl, rfl⟩, ⟨lit_cast (wrap_i64 (by omega) (by omega)), rfl⟩, trivial⟩ (okH_nil) rfl⟩
  ·
   have h4 : ¬ i < s1.D.length := by have := of_decide_eq_false h3; omega
   rw [drop_end h4] at hR
   refine Awp.exit ?_
   refine Awp.consP C ?_
   refine rvP C (.pv (.lit (.bool true))) ?_
   refine rvc_nil ?_
   refine Awp.ret ?_
   subst hR
   exact ⟨.inl rfl, rfl⟩
def eqOps_l0 (s2 : (Sl Op)) : List Op → Nat → Bool
  | [], _ => true
  | x :: xs, i => (bif (!((x.write == (s2.D[(i : Int).toNat]!.write)) && ((x.value.toList == (s2.D[(i : Int).toNat]!.value).toList) && ((x.ver == (s2.D[(i : Int).toNat]!.ver)) && ((x.began == (s2.D[(i : Int).toNat]!.began)) && ((x.ended == (s2.D[(i : Int).toNat]!.ended)) && true)))))) then false else eqOps_l0 s2 xs (i + 1) )
def eqOps (s1 : (Sl Op)) (s2 : (Sl Op)) : Bool :=
  (bif ((s1.D.length : Int) != (s2.D.length : Int)) then false else eqOps_l0 s2 s1.D 0 )
theorem eqOps_calls (s1 : (Sl Op)) (s2 : (Sl Op)) (hl1 : s1.D.length ≤ 1000000) : PCalls Try.prog 24 [sS (some s1.nil) eOp s1.D, sS (some s2.nil) eOp s2.D] (.pv (.lit (.bool (eqOps s1 s2)))) := by
 generalize hR : eqOps s1 s2 = R
 refine PCalls.of_body tabOk Try.func24 rfl rfl rfl rfl rfl mixed fun E hP C hI => ?_
 refine Awp.consP C ?_
 refine rvP C (.pv (.lit (.bool false))) ?_
 refine rvc_nil ?_
 refine Awp.seq ?_
 refine Awp.consP C ?_
 refine rvP C (sS (some s1.nil) eOp s1.D) ?_
 refine rvP C (.pv (.lit (.int .i64 (s1.D.length : Int)))) ?_
 refine rvP C (sS (some s2.nil) eOp s2.D) ?_
 refine rvP C (.pv (.lit (.int .i64 (s2.D.length : Int)))) ?_
 refine rvP C (.pv (.lit (.bool ((s1.D.length : Int) != (s2.D.length : Int))))) ?_
 refine rvc_nil ?_
 refine Awp.cond (b := ((s1.D.length : Int) != (s2.D.length : Int))) rfl (fun h1 => ?_) (fun h1 => ?_)
 ·
  replace hR := of_true h1 hR
  refine Awp.consP C ?_
  refine rvP C (.pv (.lit (.bool false))) ?_
  refine rvc_nil ?_
  refine Awp.ret ?_
  subst hR
  exact ⟨.inl rfl, rfl⟩
 ·
  replace hR := of_false h1 hR
  refine Awp.skip ?_
  refine Awp.seq ?_
  refine Awp.consP C ?_
  refine rvP C (sS (some s1.nil) eOp s1.D) ?_
  refine rvP C (.pv (.lit (.int .i64 (s1.D.length : Int)))) ?_
  refine rvP C (.pv (.lit (.int .i64 0))) ?_
  refine rvc_nil ?_
  refine Awp.block ?_
  refine Awp.forR (σ := Unit) (s1.D.length) (fun i _v => [(0, sS (some s1.nil) eOp s1.D), (1, sS (some s2.nil) eOp s2.D), (12, .pv (.lit (.int .i64 (s1.D.length : Int)))), (13, .pv (.lit (.int .i64 (i : Int))))]) (fun i _v => []) [] (fun i _v => eqOps_l0 s2 (s1.D.drop i) i  = R) () ?_ ?_ (fun i _v h2 hR => ?_)
  · exact hR
  · exact ⟨fun b => b, WeakerR.ofL (Ks := []) hI ⟨⟨rfl, rfl⟩, ⟨rfl, rfl⟩, ⟨rfl, rfl⟩, ⟨rfl, rfl⟩, trivial⟩ (okH_nil) rfl⟩
  refine Awp.consP C ?_
  refine rvP C (.pv (.lit (.bool (decide ((i : Int) < (s1.D.length : Int)))))) ?_
  refine rvc_nil ?_
  refine Awp.seq ?_
  refine Awp.cond (b := (decide ((i : Int) < (s1.D.length : Int)))) rfl (fun h3 => ?_) (fun h3 => ?_)
  ·
   have h4 : i < s1.D.length := by have := of_decide_eq_true h3; omega
   obtain ⟨x, h5⟩ := getX h4
   rw [drop_at h5] at hR
   refine Awp.skip ?_
   refine Awp.seq ?_
   refine Awp.block ?_
   refine Awp.consP C ?_
   refine rvP C (.pv (.lit (.int .i64 (i : Int)))) ?_
   refine rvP C (.pv (.lit (.int .i64 (i : Int)))) ?_
   refine rvc_nil ?_
   refine Awp.consP C ?_
   refine rvP C (sS (some s1.nil) eOp s1.D) ?_
   refine rvP C (.pv (.lit (.int .i64 (i : Int)))) ?_
   refine rvc_un (rexec_idxS C rfl rfl rfl rfl rfl rfl x (Int.natCast_nonneg _) h5 ?_)
   refine rvP C (.agg [.pv (.lit (.bool x.write)), .pv (.lit (.string x.value)), .pv (.lit (.int .i64 x.ver)), .pv (.lit (.int .i64 x.began)), .pv (.lit (.int .i64 x.ended))]) ?_
   refine rvP C (sS (some s2.nil) eOp s2.D) ?_
   refine rvP C (.pv (.lit (.int .i64 (i : Int)))) ?_
   have h6 : s2.D[(i : Int).toNat]? = some s2.D[(i : Int).toNat]! := getE (by have := eq_of_bne_false h1; have := of_decide_eq_true h3; omega)
   refine rvc_un (rexec_idxS C rfl rfl rfl rfl rfl rfl (s2.D[(i : Int).toNat]!) (Int.natCast_nonneg _) h6 ?_)
   refine rvP C (.agg [.pv (.lit (.bool (s2.D[(i : Int).toNat]!.write))), .pv (.lit (.string (s2.D[(i : Int).toNat]!.value))), .pv (.lit (.int .i64 (s2.D[(i : Int).toNat]!.ver))), .pv (.lit (.int .i64 (s2.D[(i : Int).toNat]!.began))), .pv (.lit (.int .i64 (s2.D[(i : Int).toNat]!.ended)))]) ?_
   refine rvP C (.pv (.lit (.bool (!((x.write == (s2.D[(i : Int).toNat]!.write)) && ((x.value.toList == (s2.D[(i : Int).toNat]!.value).toList) && ((x.ver == (s2.D[(i : Int).toNat]!.ver)) && ((x.began == (s2.D[(i : Int).toNat]!.began)) && ((x.ended == (s2.D[(i : Int).toNat]!.ended)) && true))))))))) ?_
   refine rvc_nil ?_
   refine Awp.cond (b := (!((x.write == (s2.D[(i : Int).toNat]!.write)) && ((x.value.toList == (s2.D[(i : Int).toNat]!.value).toList) && ((x.ver == (s2.D[(i : Int).toNat]!.ver)) && ((x.began == (s2.D[(i : Int).toNat]!.began)) && ((x.ended == (s2.D[(i : Int).toNat]!.ended)) && true))))))) rfl (fun h7 => ?_) (fun h7 => ?_)
   ·
    replace hR := of_true h7 hR
    refine Awp.consP C ?_
    refine rvP C (.pv (.lit (.bool false))) ?_
    refine rvc_nil ?_
    refine Awp.ret ?_
    subst hR
    exact ⟨.inl rfl, rfl⟩
   ·
    replace hR := of_false h7 hR
    refine Awp.skip ?_
    refine Awp.regionP C ?_
    refine rvP C (.pv (.lit (.int .i64 (IntKind.i64.wrap ((i : Int) + 1))))) ?_
    refine rvP C (.pv (.lit (.int .i64 (IntKind.i64.wrap ((i : Int) + 1))))) ?_
    refine rvc_nil ?_
    refine ⟨h4, (), ?_, ?_⟩
    · exact hR
    · exact ⟨fun b => b, WeakerR.ofL (Ks := []) hI ⟨⟨rfl, rfl⟩, ⟨rfl, rfl⟩, ⟨rfl, rfl⟩, ⟨lit_cast (wrap_i64 (by omega) (by omega)), rfl⟩, trivial⟩ (okH_nil) rfl⟩
  ·
   have h4 : ¬ i < s1.D.length := by have := of_decide_eq_false h3; omega
   rw [drop_end h4] at hR
   refine Awp.exit ?_
   refine Awp.consP C ?_
   refine rvP C (.pv (.lit (.bool true))) ?_
   refine rvc_nil ?_
   refine Awp.ret ?_
   subst hR
   exact ⟨.inl rfl, rfl⟩
def eqCalls_l0 (s2 : (Sl Call)) : List Call → Nat → Bool
  | [], _ => true
  | x :: xs, i => (bif (!((x.client == (s2.D[(i : Int).toNat]!.client)) && ((x.seq == (s2.D[(i : Int).toNat]!.seq)) && ((x.write == (s2.D[(i : Int).toNat]!.write)) && ((((x.key 0) == (s2.D[(i : Int).toNat]!.key 0)) && (((x.key 1) == (s2.D[(i : Int).toNat]!.key 1)) && (((x.key 2) == (s2.D[(i : Int).toNat]!.key 2)) && (((x.key 3) == (s2.D[(i : Int).toNat]!.key 3)) && (((x.key 4) == (s2.D[(i : Int).toNat]!.key 4)) && (((x.key 5) == (s2.D[(i : Int).toNat]!.key 5)) && (((x.key 6) == (s2.D[(i : Int).toNat]!.key 6)) && (((x.key 7) == (s2.D[(i : Int).toNat]!.key 7)) && true)))))))) && ((x.value.toList == (s2.D[(i : Int).toNat]!.value).toList) && ((x.mode == (s2.D[(i : Int).toNat]!.mode)) && ((x.bound == (s2.D[(i : Int).toNat]!.bound)) && ((x.began == (s2.D[(i : Int).toNat]!.began)) && ((x.ended == (s2.D[(i : Int).toNat]!.ended)) && ((x.ver == (s2.D[(i : Int).toNat]!.ver)) && ((x.err == (s2.D[(i : Int).toNat]!.err)) && ((x.floor == (s2.D[(i : Int).toNat]!.floor)) && true))))))))))))) then false else eqCalls_l0 s2 xs (i + 1) )
def eqCalls (s1 : (Sl Call)) (s2 : (Sl Call)) : Bool :=
  (bif ((s1.D.length : Int) != (s2.D.length : Int)) then false else eqCalls_l0 s2 s1.D 0 )
theorem eqCalls_calls (s1 : (Sl Call)) (s2 : (Sl Call)) (hl1 : s1.D.length ≤ 1000000) : PCalls Try.prog 27 [sS (some s1.nil) eCall s1.D, sS (some s2.nil) eCall s2.D] (.pv (.lit (.bool (eqCalls s1 s2)))) := by
 generalize hR : eqCalls s1 s2 = R
 refine PCalls.of_body tabOk Try.func27 rfl rfl rfl rfl rfl mixed fun E hP C hI => ?_
 refine Awp.consP C ?_
 refine rvP C (.pv (.lit (.bool false))) ?_
 refine rvc_nil ?_
 refine Awp.seq ?_
 refine Awp.consP C ?_
 refine rvP C (sS (some s1.nil) eCall s1.D) ?_
 refine rvP C (.pv (.lit (.int .i64 (s1.D.length : Int)))) ?_
 refine rvP C (sS (some s2.nil) eCall s2.D) ?_
 refine rvP C (.pv (.lit (.int .i64 (s2.D.length : Int)))) ?_
 refine rvP C (.pv (.lit (.bool ((s1.D.length : Int) != (s2.D.length : Int))))) ?_
 refine rvc_nil ?_
 refine Awp.cond (b := ((s1.D.length : Int) != (s2.D.length : Int))) rfl (fun h1 => ?_) (fun h1 => ?_)
 ·
  replace hR := of_true h1 hR
  refine Awp.consP C ?_
  refine rvP C (.pv (.lit (.bool false))) ?_
  refine rvc_nil ?_
  refine Awp.ret ?_
  subst hR
  exact ⟨.inl rfl, rfl⟩
 ·
  replace hR := of_false h1 hR
  refine Awp.skip ?_
  refine Awp.seq ?_
  refine Awp.consP C ?_
  refine rvP C (sS (some s1.nil) eCall s1.D) ?_
  refine rvP C (.pv (.lit (.int .i64 (s1.D.length : Int)))) ?_
  refine rvP C (.pv (.lit (.int .i64 0))) ?_
  refine rvc_nil ?_
  refine Awp.block ?_
  refine Awp.forR (σ := Unit) (s1.D.length) (fun i _v => [(0, sS (some s1.nil) eCall s1.D), (1, sS (some s2.nil) eCall s2.D), (12, .pv (.lit (.int .i64 (s1.D.length : Int)))), (13, .pv (.lit (.int .i64 (i : Int))))]) (fun i _v => []) [] (fun i _v => eqCalls_l0 s2 (s1.D.drop i) i  = R) () ?_ ?_ (fun i _v h2 hR => ?_)
  · exact hR
  · exact ⟨fun b => b, WeakerR.ofL (Ks := []) hI ⟨⟨rfl, rfl⟩, ⟨rfl, rfl⟩, ⟨rfl, rfl⟩, ⟨rfl, rfl⟩, trivial⟩ (okH_nil) rfl⟩
  refine Awp.consP C ?_
  refine rvP C (.pv (.lit (.bool (decide ((i : Int) < (s1.D.length : Int)))))) ?_
  refine rvc_nil ?_
  refine Awp.seq ?_
  refine Awp.cond (b := (decide ((i : Int) < (s1.D.length : Int)))) rfl (fun h3 => ?_) (fun h3 => ?_)
  ·
   have h4 : i < s1.D.length := by have := of_decide_eq_true h3; omega
   obtain ⟨x, h5⟩ := getX h4
   rw [drop_at h5] at hR
   refine Awp.skip ?_
   refine Awp.seq ?_
   refine Awp.block ?_
   refine Awp.consP C ?_
   refine rvP C (.pv (.lit (.int .i64 (i : Int)))) ?_
   refine rvP C (.pv (.lit (.int .i64 (i : Int)))) ?_
   refine rvc_nil ?_
   refine Awp.consP C ?_
   refine rvP C (sS (some s1.nil) eCall s1.D) ?_
   refine rvP C (.pv (.lit (.int .i64 (i : Int)))) ?_
   refine rvc_un (rexec_idxS C rfl rfl rfl rfl rfl rfl x (Int.natCast_nonneg _) h5 ?_)
   refine rvP C (.agg [.pv (.lit (.int .i64 x.client)), .pv (.lit (.int .i64 x.seq)), .pv (.lit (.bool x.write)), .pv (.lit (.int .u8 (x.key 0))), .pv (.lit (.int .u8 (x.key 1))), .pv (.lit (.int .u8 (x.key 2))), .pv (.lit (.int .u8 (x.key 3))), .pv (.lit (.int .u8 (x.key 4))), .pv (.lit (.int .u8 (x.key 5))), .pv (.lit (.int .u8 (x.key 6))), .pv (.lit (.int .u8 (x.key 7))), .pv (.lit (.string x.value)), .pv (.lit (.int .i64 x.mode)), .pv (.lit (.int .i64 x.bound)), .pv (.lit (.int .i64 x.began)), .pv (.lit (.int .i64 x.ended)), .pv (.lit (.int .i64 x.ver)), .pv (.lit (.int .i64 x.err)), .pv (.lit (.int .i64 x.floor))]) ?_
   refine rvP C (sS (some s2.nil) eCall s2.D) ?_
   refine rvP C (.pv (.lit (.int .i64 (i : Int)))) ?_
   have h6 : s2.D[(i : Int).toNat]? = some s2.D[(i : Int).toNat]! := getE (by have := eq_of_bne_false h1; have := of_decide_eq_true h3; omega)
   refine rvc_un (rexec_idxS C rfl rfl rfl rfl rfl rfl (s2.D[(i : Int).toNat]!) (Int.natCast_nonneg _) h6 ?_)
   refine rvP C (.agg [.pv (.lit (.int .i64 (s2.D[(i : Int).toNat]!.client))), .pv (.lit (.int .i64 (s2.D[(i : Int).toNat]!.seq))), .pv (.lit (.bool (s2.D[(i : Int).toNat]!.write))), .pv (.lit (.int .u8 (s2.D[(i : Int).toNat]!.key 0))), .pv (.lit (.int .u8 (s2.D[(i : Int).toNat]!.key 1))), .pv (.lit (.int .u8 (s2.D[(i : Int).toNat]!.key 2))), .pv (.lit (.int .u8 (s2.D[(i : Int).toNat]!.key 3))), .pv (.lit (.int .u8 (s2.D[(i : Int).toNat]!.key 4))), .pv (.lit (.int .u8 (s2.D[(i : Int).toNat]!.key 5))), .pv (.lit (.int .u8 (s2.D[(i : Int).toNat]!.key 6))), .pv (.lit (.int .u8 (s2.D[(i : Int).toNat]!.key 7))), .pv (.lit (.string (s2.D[(i : Int).toNat]!.value))), .pv (.lit (.int .i64 (s2.D[(i : Int).toNat]!.mode))), .pv (.lit (.int .i64 (s2.D[(i : Int).toNat]!.bound))), .pv (.lit (.int .i64 (s2.D[(i : Int).toNat]!.began))), .pv (.lit (.int .i64 (s2.D[(i : Int).toNat]!.ended))), .pv (.lit (.int .i64 (s2.D[(i : Int).toNat]!.ver))), .pv (.lit (.int .i64 (s2.D[(i : Int).toNat]!.err))), .pv (.lit (.int .i64 (s2.D[(i : Int).toNat]!.floor)))]) ?_
   refine rvP C (.pv (.lit (.bool (!((x.client == (s2.D[(i : Int).toNat]!.client)) && ((x.seq == (s2.D[(i : Int).toNat]!.seq)) && ((x.write == (s2.D[(i : Int).toNat]!.write)) && ((((x.key 0) == (s2.D[(i : Int).toNat]!.key 0)) && (((x.key 1) == (s2.D[(i : Int).toNat]!.key 1)) && (((x.key 2) == (s2.D[(i : Int).toNat]!.key 2)) && (((x.key 3) == (s2.D[(i : Int).toNat]!.key 3)) && (((x.key 4) == (s2.D[(i : Int).toNat]!.key 4)) && (((x.key 5) == (s2.D[(i : Int).toNat]!.key 5)) && (((x.key 6) == (s2.D[(i : Int).toNat]!.key 6)) && (((x.key 7) == (s2.D[(i : Int).toNat]!.key 7)) && true)))))))) && ((x.value.toList == (s2.D[(i : Int).toNat]!.value).toList) && ((x.mode == (s2.D[(i : Int).toNat]!.mode)) && ((x.bound == (s2.D[(i : Int).toNat]!.bound)) && ((x.began == (s2.D[(i : Int).toNat]!.began)) && ((x.ended == (s2.D[(i : Int).toNat]!.ended)) && ((x.ver == (s2.D[(i : Int).toNat]!.ver)) && ((x.err == (s2.D[(i : Int).toNat]!.err)) && ((x.floor == (s2.D[(i : Int).toNat]!.floor)) && true)))))))))))))))) ?_
   refine rvc_nil ?_
   refine Awp.cond (b := (!((x.client == (s2.D[(i : Int).toNat]!.client)) && ((x.seq == (s2.D[(i : Int).toNat]!.seq)) && ((x.write == (s2.D[(i : Int).toNat]!.write)) && ((((x.key 0) == (s2.D[(i : Int).toNat]!.key 0)) && (((x.key 1) == (s2.D[(i : Int).toNat]!.key 1)) && (((x.key 2) == (s2.D[(i : Int).toNat]!.key 2)) && (((x.key 3) == (s2.D[(i : Int).toNat]!.key 3)) && (((x.key 4) == (s2.D[(i : Int).toNat]!.key 4)) && (((x.key 5) == (s2.D[(i : Int).toNat]!.key 5)) && (((x.key 6) == (s2.D[(i : Int).toNat]!.key 6)) && (((x.key 7) == (s2.D[(i : Int).toNat]!.key 7)) && true)))))))) && ((x.value.toList == (s2.D[(i : Int).toNat]!.value).toList) && ((x.mode == (s2.D[(i : Int).toNat]!.mode)) && ((x.bound == (s2.D[(i : Int).toNat]!.bound)) && ((x.began == (s2.D[(i : Int).toNat]!.began)) && ((x.ended == (s2.D[(i : Int).toNat]!.ended)) && ((x.ver == (s2.D[(i : Int).toNat]!.ver)) && ((x.err == (s2.D[(i : Int).toNat]!.err)) && ((x.floor == (s2.D[(i : Int).toNat]!.floor)) && true)))))))))))))) rfl (fun h7 => ?_) (fun h7 => ?_)
   ·
    replace hR := of_true h7 hR
    refine Awp.consP C ?_
    refine rvP C (.pv (.lit (.bool false))) ?_
    refine rvc_nil ?_
    refine Awp.ret ?_
    subst hR
    exact ⟨.inl rfl, rfl⟩
   ·
    replace hR := of_false h7 hR
    refine Awp.skip ?_
    refine Awp.regionP C ?_
    refine rvP C (.pv (.lit (.int .i64 (IntKind.i64.wrap ((i : Int) + 1))))) ?_
    refine rvP C (.pv (.lit (.int .i64 (IntKind.i64.wrap ((i : Int) + 1))))) ?_
    refine rvc_nil ?_
    refine ⟨h4, (), ?_, ?_⟩
    · exact hR
    · exact ⟨fun b => b, WeakerR.ofL (Ks := []) hI ⟨⟨rfl, rfl⟩, ⟨rfl, rfl⟩, ⟨rfl, rfl⟩, ⟨lit_cast (wrap_i64 (by omega) (by omega)), rfl⟩, trivial⟩ (okH_nil) rfl⟩
  ·
   have h4 : ¬ i < s1.D.length := by have := of_decide_eq_false h3; omega
   rw [drop_end h4] at hR
   refine Awp.exit ?_
   refine Awp.consP C ?_
   refine rvP C (.pv (.lit (.bool true))) ?_
   refine rvc_nil ?_
   refine Awp.ret ?_
   subst hR
   exact ⟨.inl rfl, rfl⟩
def cloneCalls (s : (Sl Call)) : (Sl Call) :=
  (bif s.nil then (Sl.mk true []) else (Sl.mk false s.D))
theorem cloneCalls_calls (s : (Sl Call)) (hl1 : s.D.length ≤ 1000000) : PCalls Try.prog 20 [sS (some s.nil) eCall s.D] (sS (some (cloneCalls s).nil) eCall ((cloneCalls s).D)) := by
 generalize hR : cloneCalls s = R
 refine PCalls.of_body tabOk Try.func20 rfl rfl rfl rfl rfl mixed fun E hP C hI => ?_
 refine Awp.consP C ?_
 refine rvP C (sS (some true) eCall []) ?_
 refine rvc_nil ?_
 refine Awp.seq ?_
 refine Awp.consP C ?_
 refine rvP C (sS (some s.nil) eCall s.D) ?_
 refine rvc_un (rexec_eqNil C (f := s.nil) rfl rfl rfl rfl ?_)
 refine rvc_nil ?_
 refine Awp.cond (b := s.nil) rfl (fun h1 => ?_) (fun h1 => ?_)
 ·
  replace hR := of_true h1 hR
  refine Awp.consP C ?_
  refine rvP C (sS (some true) eCall []) ?_
  refine rvc_nil ?_
  refine Awp.ret ?_
  subst hR
  exact ⟨.inl rfl, rfl⟩
 ·
  replace hR := of_false h1 hR
  refine Awp.skip ?_
  refine Awp.consP C ?_
  refine rvc_un (rexec_prim C (δ := { v := .sl 5 0 0 19 true, new := [(5, .cells (encC eCall []))] }) rfl rfl rfl rfl trivial rfl ?_)
  refine rvP C (sS (some s.nil) eCall s.D) ?_
  refine rvc_un (rexec_append C rfl rfl rfl rfl rfl rfl rfl rfl (fun _ h => by cases h) rfl (en := eCall) (D0 := []) (D := s.D) rfl rfl rfl rfl (by first | omega | (simp <;> omega)) (by decide) (nn := s.D.length) (by simp <;> omega) ?_)
  refine rvP C (.sl 7 0 s.D.length 19 false) ?_
  refine rvc_nil ?_
  refine Awp.freezeW 7 (encL eCall s.D) ?_ [(2, sS (some false) eCall s.D)] [] ?_ ?_ ?_
  · rfl
  · exact ⟨⟨_, rfl, .inl (.inr ⟨_, _, _, rfl, rfl⟩)⟩, trivial⟩
  · exact trivial
  refine Awp.ret ?_
  subst hR
  exact ⟨.inl rfl, rfl⟩
def indexF_l0 (f : Call → Bool) : List Call → Nat → Int
  | [], _ => (-1)
  | x :: xs, i => (bif (f x) then (i : Int) else indexF_l0 f xs (i + 1) )
def indexF (s : (Sl Call)) (f : Call → Bool) : Int :=
  indexF_l0 f s.D 0
theorem indexF_calls (s : (Sl Call)) (f : Call → Bool) (g1 : Nat) (caps1 : List AV) (hp1 : ∀ (x0 : Call), PCalls Try.prog g1 ([.agg [.pv (.lit (.int .i64 x0.client)), .pv (.lit (.int .i64 x0.seq)), .pv (.lit (.bool x0.write)), .pv (.lit (.int .u8 (x0.key 0))), .pv (.lit (.int .u8 (x0.key 1))), .pv (.lit (.int .u8 (x0.key 2))), .pv (.lit (.int .u8 (x0.key 3))), .pv (.lit (.int .u8 (x0.key 4))), .pv (.lit (.int .u8 (x0.key 5))), .pv (.lit (.int .u8 (x0.key 6))), .pv (.lit (.int .u8 (x0.key 7))), .pv (.lit (.string x0.value)), .pv (.lit (.int .i64 x0.mode)), .pv (.lit (.int .i64 x0.bound)), .pv (.lit (.int .i64 x0.began)), .pv (.lit (.int .i64 x0.ended)), .pv (.lit (.int .i64 x0.ver)), .pv (.lit (.int .i64 x0.err)), .pv (.lit (.int .i64 x0.floor))]] ++ caps1) (.pv (.lit (.bool (f x0))))) (hw1 : AV.withinL (fun _ => false) caps1 = true) (hl1 : s.D.length ≤ 1000000) : PCalls Try.prog 57 [sS (some s.nil) eCall s.D, .fn g1 [] caps1] (.pv (.lit (.int .i64 (indexF s f)))) := by
 generalize hR : indexF s f = R
 refine PCalls.of_body tabOk Try.func57 rfl rfl rfl (by simp [AV.withinL, AV.within, sS, hw1]) rfl mixed fun E hP C hI => ?_
 refine Awp.consP C ?_
 refine rvP C (.pv (.lit (.int .i64 0))) ?_
 refine rvc_nil ?_
 refine Awp.seq ?_
 refine Awp.consP C ?_
 refine rvP C (sS (some s.nil) eCall s.D) ?_
 refine rvP C (.pv (.lit (.int .i64 (s.D.length : Int)))) ?_
 refine rvP C (.pv (.lit (.int .i64 0))) ?_
 refine rvc_nil ?_
 refine Awp.block ?_
 refine Awp.forR (σ := Unit) (s.D.length) (fun i _v => [(0, sS (some s.nil) eCall s.D), (1, .fn g1 [] caps1), (7, .pv (.lit (.int .i64 (s.D.length : Int)))), (8, .pv (.lit (.int .i64 (i : Int))))]) (fun i _v => []) [] (fun i _v => indexF_l0 f (s.D.drop i) i  = R) () ?_ ?_ (fun i _v h1 hR => ?_)
 · exact hR
 · exact ⟨fun b => b, WeakerR.ofL (Ks := []) hI ⟨⟨rfl, rfl⟩, ⟨fn_to rfl hw1, fn_win hw1⟩, ⟨rfl, rfl⟩, ⟨rfl, rfl⟩, trivial⟩ (okH_nil) rfl⟩
 refine Awp.consP C ?_
 refine rvP C (.pv (.lit (.bool (decide ((i : Int) < (s.D.length : Int)))))) ?_
 refine rvc_nil ?_
 refine Awp.seq ?_
 refine Awp.cond (b := (decide ((i : Int) < (s.D.length : Int)))) rfl (fun h2 => ?_) (fun h2 => ?_)
 ·
  have h3 : i < s.D.length := by have := of_decide_eq_true h2; omega
  obtain ⟨x, h4⟩ := getX h3
  rw [drop_at h4] at hR
  refine Awp.skip ?_
  refine Awp.seq ?_
  refine Awp.block ?_
  refine Awp.consP C ?_
  refine rvP C (.pv (.lit (.int .i64 (i : Int)))) ?_
  refine rvP C (.pv (.lit (.int .i64 (i : Int)))) ?_
  refine rvc_nil ?_
  refine Awp.consP C ?_
  refine rvP C (.fn g1 [] caps1) ?_
  refine rvP C (sS (some s.nil) eCall s.D) ?_
  refine rvP C (.pv (.lit (.int .i64 (i : Int)))) ?_
  refine rvc_un (rexec_idxS C rfl rfl rfl rfl rfl rfl x (Int.natCast_nonneg _) h4 ?_)
  refine rvP C (.agg [.pv (.lit (.int .i64 x.client)), .pv (.lit (.int .i64 x.seq)), .pv (.lit (.bool x.write)), .pv (.lit (.int .u8 (x.key 0))), .pv (.lit (.int .u8 (x.key 1))), .pv (.lit (.int .u8 (x.key 2))), .pv (.lit (.int .u8 (x.key 3))), .pv (.lit (.int .u8 (x.key 4))), .pv (.lit (.int .u8 (x.key 5))), .pv (.lit (.int .u8 (x.key 6))), .pv (.lit (.int .u8 (x.key 7))), .pv (.lit (.string x.value)), .pv (.lit (.int .i64 x.mode)), .pv (.lit (.int .i64 x.bound)), .pv (.lit (.int .i64 x.began)), .pv (.lit (.int .i64 x.ended)), .pv (.lit (.int .i64 x.ver)), .pv (.lit (.int .i64 x.err)), .pv (.lit (.int .i64 x.floor))]) ?_
  refine rvc_un (rexec_callV hP C rfl rfl rfl rfl (hp1 x) rfl ?_)
  refine rvc_nil ?_
  refine Awp.cond (b := (f x)) rfl (fun h5 => ?_) (fun h5 => ?_)
  ·
   replace hR := of_true h5 hR
   refine Awp.consP C ?_
   refine rvP C (.pv (.lit (.int .i64 (i : Int)))) ?_
   refine rvP C (.pv (.lit (.int .i64 (i : Int)))) ?_
   refine rvc_nil ?_
   refine Awp.ret ?_
   subst hR
   exact ⟨.inl rfl, rfl⟩
  ·
   replace hR := of_false h5 hR
   refine Awp.skip ?_
   refine Awp.regionP C ?_
   refine rvP C (.pv (.lit (.int .i64 (IntKind.i64.wrap ((i : Int) + 1))))) ?_
   refine rvP C (.pv (.lit (.int .i64 (IntKind.i64.wrap ((i : Int) + 1))))) ?_
   refine rvc_nil ?_
   refine ⟨h3, (), ?_, ?_⟩
   · exact hR
   · exact ⟨fun b => b, WeakerR.ofL (Ks := []) hI ⟨⟨rfl, rfl⟩, ⟨fn_to rfl hw1, fn_win hw1⟩, ⟨rfl, rfl⟩, ⟨lit_cast (wrap_i64 (by omega) (by omega)), rfl⟩, trivial⟩ (okH_nil) rfl⟩
 ·
  have h3 : ¬ i < s.D.length := by have := of_decide_eq_false h2; omega
  rw [drop_end h3] at hR
  refine Awp.exit ?_
  refine Awp.consP C ?_
  refine rvP C (.pv (.lit (.int .i64 (-1)))) ?_
  refine rvc_nil ?_
  refine Awp.ret ?_
  subst hR
  exact ⟨.inl rfl, rfl⟩
def containsF (s : (Sl Call)) (f : Call → Bool) : Bool :=
  (decide ((indexF s f) ≥ 0))
theorem containsF_calls (s : (Sl Call)) (f : Call → Bool) (g1 : Nat) (caps1 : List AV) (hp1 : ∀ (x0 : Call), PCalls Try.prog g1 ([.agg [.pv (.lit (.int .i64 x0.client)), .pv (.lit (.int .i64 x0.seq)), .pv (.lit (.bool x0.write)), .pv (.lit (.int .u8 (x0.key 0))), .pv (.lit (.int .u8 (x0.key 1))), .pv (.lit (.int .u8 (x0.key 2))), .pv (.lit (.int .u8 (x0.key 3))), .pv (.lit (.int .u8 (x0.key 4))), .pv (.lit (.int .u8 (x0.key 5))), .pv (.lit (.int .u8 (x0.key 6))), .pv (.lit (.int .u8 (x0.key 7))), .pv (.lit (.string x0.value)), .pv (.lit (.int .i64 x0.mode)), .pv (.lit (.int .i64 x0.bound)), .pv (.lit (.int .i64 x0.began)), .pv (.lit (.int .i64 x0.ended)), .pv (.lit (.int .i64 x0.ver)), .pv (.lit (.int .i64 x0.err)), .pv (.lit (.int .i64 x0.floor))]] ++ caps1) (.pv (.lit (.bool (f x0))))) (hw1 : AV.withinL (fun _ => false) caps1 = true) (hl1 : s.D.length ≤ 1000000) : PCalls Try.prog 39 [sS (some s.nil) eCall s.D, .fn g1 [] caps1] (.pv (.lit (.bool (containsF s f)))) := by
 generalize hR : containsF s f = R
 refine PCalls.of_body tabOk Try.func39 rfl rfl rfl (by simp [AV.withinL, AV.within, sS, hw1]) rfl mixed fun E hP C hI => ?_
 refine Awp.consP C ?_
 refine rvP C (.pv (.lit (.bool false))) ?_
 refine rvc_nil ?_
 refine Awp.consP C ?_
 refine rvP C (sS (some s.nil) eCall s.D) ?_
 refine rvP C (.fn g1 [] caps1) ?_
 refine rvc_un (rexec_call hP C rfl rfl rfl (indexF_calls s f g1 caps1 hp1 hw1 hl1) ?_)
 refine rvP C (.pv (.lit (.bool (decide ((indexF s f) ≥ 0))))) ?_
 refine rvP C (.pv (.lit (.bool (decide ((indexF s f) ≥ 0))))) ?_
 refine rvc_nil ?_
 refine Awp.ret ?_
 subst hR
 exact ⟨.inl rfl, rfl⟩
def jBounds (calls : (Sl Call)) : Bool :=
  (!(containsF calls (fun x0 => boundsF x0 calls)))
theorem jBounds_calls (calls : (Sl Call)) (hl1 : calls.D.length ≤ 1000000) : PCalls Try.prog 17 [sS (some calls.nil) eCall calls.D] (.pv (.lit (.bool (jBounds calls)))) := by
 generalize hR : jBounds calls = R
 refine PCalls.of_body tabOk Try.func17 rfl rfl rfl rfl rfl mixed fun E hP C hI => ?_
 refine Awp.consP C ?_
 refine rvc_un (rexec_boxF C [.sl (some calls.nil) calls.D.length (encL eCall calls.D)] rfl rfl rfl rfl ?_)
 refine rvP C (.pv (.lit (.bool false))) ?_
 refine rvc_nil ?_
 refine Awp.consP C ?_
 refine rvP C (sS (some calls.nil) eCall calls.D) ?_
 refine rvP C (.fn 40 [] [.rp [.sl (some calls.nil) calls.D.length (encL eCall calls.D)]]) ?_
 refine rvc_un (rexec_call hP C rfl rfl rfl (containsF_calls calls (fun x0 => boundsF x0 calls) 40 [.rp [.sl (some calls.nil) calls.D.length (encL eCall calls.D)]] (fun x0 => boundsF_calls x0 calls (by omega)) rfl hl1) ?_)
 refine rvP C (.pv (.lit (.bool (!(containsF calls (fun x0 => boundsF x0 calls)))))) ?_
 refine rvP C (.pv (.lit (.bool (!(containsF calls (fun x0 => boundsF x0 calls)))))) ?_
 refine rvc_nil ?_
 refine Awp.ret ?_
 subst hR
 exact ⟨.inl rfl, rfl⟩
def jSessions (calls : (Sl Call)) : Bool :=
  (!(containsF calls (fun x0 => sessF x0)))
theorem jSessions_calls (calls : (Sl Call)) (hl1 : calls.D.length ≤ 1000000) : PCalls Try.prog 18 [sS (some calls.nil) eCall calls.D] (.pv (.lit (.bool (jSessions calls)))) := by
 generalize hR : jSessions calls = R
 refine PCalls.of_body tabOk Try.func18 rfl rfl rfl rfl rfl mixed fun E hP C hI => ?_
 refine Awp.consP C ?_
 refine rvP C (.pv (.lit (.bool false))) ?_
 refine rvc_nil ?_
 refine Awp.consP C ?_
 refine rvP C (sS (some calls.nil) eCall calls.D) ?_
 refine rvc_un (rexec_call hP C rfl rfl rfl (containsF_calls calls (fun x0 => sessF x0) 42 [] (fun x0 => sessF_calls x0) rfl hl1) ?_)
 refine rvP C (.pv (.lit (.bool (!(containsF calls (fun x0 => sessF x0)))))) ?_
 refine rvP C (.pv (.lit (.bool (!(containsF calls (fun x0 => sessF x0)))))) ?_
 refine rvc_nil ?_
 refine Awp.ret ?_
 subst hR
 exact ⟨.inl rfl, rfl⟩
end Go.Proofs.Ytoieegmebadfkaa
