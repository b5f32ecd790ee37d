import Derived.Test.YtoieegmebadfkaaM1
import Derived.Test.YtoieegmebadfkaaM2
import Derived.Test.YtoieegmebadfkaaM3
/- Values. No conditions. -/
namespace Go.Proofs.Ytoieegmebadfkaa
open Go.Am
def jValues_l0 (recs : (Sl Record)) : List Call → Nat → Bool
  | [], _ => true
  | x :: xs, i => (bif (!(jAnswered x)) then jValues_l0 recs xs (i + 1)  else (bif x.write then (bif (!((mGet kReq (jReq x) ((openB recs).req)).isSome)) then false else (bif ((((mGet kReq (jReq x) ((openB recs).req)).getD zeroR).ver) != x.ver) then false else (bif (!(((((mGet kReq (jReq x) ((openB recs).req)).getD zeroR).key 0) == (x.key 0)) && (((((mGet kReq (jReq x) ((openB recs).req)).getD zeroR).key 1) == (x.key 1)) && (((((mGet kReq (jReq x) ((openB recs).req)).getD zeroR).key 2) == (x.key 2)) && (((((mGet kReq (jReq x) ((openB recs).req)).getD zeroR).key 3) == (x.key 3)) && (((((mGet kReq (jReq x) ((openB recs).req)).getD zeroR).key 4) == (x.key 4)) && (((((mGet kReq (jReq x) ((openB recs).req)).getD zeroR).key 5) == (x.key 5)) && (((((mGet kReq (jReq x) ((openB recs).req)).getD zeroR).key 6) == (x.key 6)) && (((((mGet kReq (jReq x) ((openB recs).req)).getD zeroR).key 7) == (x.key 7)) && true))))))))) then false else (bif (!((((mGet kReq (jReq x) ((openB recs).req)).getD zeroR).value).toList == x.value.toList)) then false else jValues_l0 recs xs (i + 1) )))) else (bif (x.ver == 0) then (bif (!(x.value.toList == (⟨#[]⟩ : ByteArray).toList)) then false else jValues_l0 recs xs (i + 1) ) else (bif (!((mGet kSlot (Slot.mk x.key x.ver) ((openB recs).of_)).isSome)) then false else (bif (!((((mGet kSlot (Slot.mk x.key x.ver) ((openB recs).of_)).getD zeroR).value).toList == x.value.toList)) then false else jValues_l0 recs xs (i + 1) )))))
def jValues (calls : (Sl Call)) (recs : (Sl Record)) : Bool :=
  jValues_l0 recs calls.D 0
theorem jValues_calls (calls : (Sl Call)) (recs : (Sl Record)) (hl1 : recs.D.length ≤ 1000000) (hl2 : calls.D.length ≤ 1000000) : PCalls Try.prog 16 [sS (some calls.nil) eCall calls.D, sS (some recs.nil) eRecord recs.D] (.pv (.lit (.bool (jValues calls recs)))) := by
 generalize hR : jValues calls recs = R
 refine PCalls.of_body tabOk Try.func16 rfl rfl rfl rfl rfl mixed fun E hP C hI => ?_
 refine Awp.consP C ?_
 refine rvP C (.pv (.lit (.bool false))) ?_
 refine rvc_nil ?_
 refine Awp.cons C (fun _ => .quiet) (by kernel_rfl) ?_
 refine rvP C (sS (some recs.nil) eRecord recs.D) ?_
 refine rvc_un (rexec_callMaps hP C 513 rfl rfl rfl rfl rfl rfl (openB_calls recs hl1) ?_)
 refine rvc_un (rexec_prim C (δ := { v := .ptr 5 0, new := [(5, .cells [.pv (.lit (.map none)), .pv (.lit (.map none))])] }) rfl rfl rfl rfl trivial rfl ?_)
 refine rvc_un (rexec_prim C (δ := { v := .undef, wr := [(5, some (.cells [.mp 13, .mp 513]))] }) rfl rfl rfl rfl trivial rfl ?_)
 refine rvc_nil ?_
 refine Awp.seq ?_
 refine Awp.consP C ?_
 refine rvP C (sS (some calls.nil) eCall calls.D) ?_
 refine rvP C (.pv (.lit (.int .i64 (calls.D.length : Int)))) ?_
 refine rvP C (.pv (.lit (.int .i64 0))) ?_
 refine rvc_nil ?_
 refine Awp.block ?_
 refine Awp.forR (σ := Unit) (calls.D.length) (fun i _v => [(5, .ptr 5 0), (14, sS (some calls.nil) eCall calls.D), (15, .pv (.lit (.int .i64 (calls.D.length : Int)))), (16, .pv (.lit (.int .i64 (i : Int))))]) (fun i _v => [(13, mapE kSlot vRecord.enc ((openB recs).of_)), (513, mapE kReq vRecord.enc ((openB recs).req)), (5, .cells [.mp 13, .mp 513])]) [5, 13, 513] (fun i _v => jValues_l0 recs (calls.D.drop i) i  = R) () ?_ ?_ (fun i _v h1 hR => ?_)
 · exact hR
 · exact ⟨fun b => b, WeakerR.ofL (Ks := [5, 13, 513]) hI ⟨⟨rfl, rfl⟩, ⟨rfl, rfl⟩, ⟨rfl, rfl⟩, ⟨rfl, rfl⟩, trivial⟩ (okH_map rfl rfl rfl (okH_map rfl rfl rfl (okH_cons rfl rfl rfl rfl (okH_nil)))) rfl⟩
 refine Awp.consP C ?_
 refine rvP C (.pv (.lit (.bool (decide ((i : Int) < (calls.D.length : Int)))))) ?_
 refine rvc_nil ?_
 refine Awp.seq ?_
 refine Awp.cond (b := (decide ((i : Int) < (calls.D.length : Int)))) rfl (fun h2 => ?_) (fun h2 => ?_)
 ·
  have h3 : i < calls.D.length := by have := of_decide_eq_true h2; omega
  obtain ⟨x, h4⟩ := getX h3
  rw [drop_at h4] at hR
  refine Awp.skip ?_
  refine Awp.seq ?_
  refine Awp.block ?_
  refine Awp.consP C ?_
  refine rvc_un (rexec_idxS C rfl rfl rfl rfl rfl rfl x (Int.natCast_nonneg _) h4 ?_)
  refine rvP C (.agg [.pv (.lit (.int .i64 x.client)), .pv (.lit (.int .i64 x.seq)), .pv (.lit (.bool x.write)), .pv (.lit (.int .u8 (x.key 0))), .pv (.lit (.int .u8 (x.key 1))), .pv (.lit (.int .u8 (x.key 2))), .pv (.lit (.int .u8 (x.key 3))), .pv (.lit (.int .u8 (x.key 4))), .pv (.lit (.int .u8 (x.key 5))), .pv (.lit (.int .u8 (x.key 6))), .pv (.lit (.int .u8 (x.key 7))), .pv (.lit (.string x.value)), .pv (.lit (.int .i64 x.mode)), .pv (.lit (.int .i64 x.bound)), .pv (.lit (.int .i64 x.began)), .pv (.lit (.int .i64 x.ended)), .pv (.lit (.int .i64 x.ver)), .pv (.lit (.int .i64 x.err)), .pv (.lit (.int .i64 x.floor))]) ?_
  refine rvc_un (rexec_prim C (δ := { v := .ptr 7 0, new := [(7, .cells [.pv (.lit (.int .i64 0)), .pv (.lit (.int .i64 0)), .pv (.lit (.bool false)), .pv (.lit (.int .u8 0)), .pv (.lit (.int .u8 0)), .pv (.lit (.int .u8 0)), .pv (.lit (.int .u8 0)), .pv (.lit (.int .u8 0)), .pv (.lit (.int .u8 0)), .pv (.lit (.int .u8 0)), .pv (.lit (.int .u8 0)), .pv (.lit (.string ⟨#[]⟩)), .pv (.lit (.int .i64 0)), .pv (.lit (.int .i64 0)), .pv (.lit (.int .i64 0)), .pv (.lit (.int .i64 0)), .pv (.lit (.int .i64 0)), .pv (.lit (.int .i64 0)), .pv (.lit (.int .i64 0))])] }) rfl rfl rfl rfl trivial rfl ?_)
  refine rvc_un (rexec_prim C (δ := { v := .undef, wr := [(7, some (.cells [.pv (.lit (.int .i64 x.client)), .pv (.lit (.int .i64 x.seq)), .pv (.lit (.bool x.write)), .pv (.lit (.int .u8 (x.key 0))), .pv (.lit (.int .u8 (x.key 1))), .pv (.lit (.int .u8 (x.key 2))), .pv (.lit (.int .u8 (x.key 3))), .pv (.lit (.int .u8 (x.key 4))), .pv (.lit (.int .u8 (x.key 5))), .pv (.lit (.int .u8 (x.key 6))), .pv (.lit (.int .u8 (x.key 7))), .pv (.lit (.string x.value)), .pv (.lit (.int .i64 x.mode)), .pv (.lit (.int .i64 x.bound)), .pv (.lit (.int .i64 x.began)), .pv (.lit (.int .i64 x.ended)), .pv (.lit (.int .i64 x.ver)), .pv (.lit (.int .i64 x.err)), .pv (.lit (.int .i64 x.floor))]))] }) rfl rfl rfl rfl trivial rfl ?_)
  refine rvc_nil ?_
  refine Awp.seq ?_
  refine Awp.consP C ?_
  refine rvP C (.agg [.pv (.lit (.int .i64 x.client)), .pv (.lit (.int .i64 x.seq)), .pv (.lit (.bool x.write)), .pv (.lit (.int .u8 (x.key 0))), .pv (.lit (.int .u8 (x.key 1))), .pv (.lit (.int .u8 (x.key 2))), .pv (.lit (.int .u8 (x.key 3))), .pv (.lit (.int .u8 (x.key 4))), .pv (.lit (.int .u8 (x.key 5))), .pv (.lit (.int .u8 (x.key 6))), .pv (.lit (.int .u8 (x.key 7))), .pv (.lit (.string x.value)), .pv (.lit (.int .i64 x.mode)), .pv (.lit (.int .i64 x.bound)), .pv (.lit (.int .i64 x.began)), .pv (.lit (.int .i64 x.ended)), .pv (.lit (.int .i64 x.ver)), .pv (.lit (.int .i64 x.err)), .pv (.lit (.int .i64 x.floor))]) ?_
  refine rvc_un (rexec_call hP C rfl rfl rfl (jAnswered_calls x) ?_)
  refine rvP C (.pv (.lit (.bool (!(jAnswered x))))) ?_
  refine rvc_nil ?_
  refine Awp.cond (b := (!(jAnswered x))) rfl (fun h5 => ?_) (fun h5 => ?_)
  ·
   replace hR := of_true h5 hR
   refine Awp.exit ?_
   refine Awp.regionP C ?_
   refine rvP C (.pv (.lit (.int .i64 (IntKind.i64.wrap ((i : Int) + 1))))) ?_
   refine rvP C (.pv (.lit (.int .i64 (IntKind.i64.wrap ((i : Int) + 1))))) ?_
   refine rvc_nil ?_
   refine ⟨h3, (), ?_, ?_⟩
   · exact hR
   · exact ⟨fun b => b, WeakerR.ofL (Ks := [5, 13, 513]) hI ⟨⟨rfl, rfl⟩, ⟨rfl, rfl⟩, ⟨rfl, rfl⟩, ⟨lit_cast (wrap_i64 (by omega) (by omega)), rfl⟩, trivial⟩ (okH_map rfl rfl rfl (okH_map rfl rfl rfl (okH_cons rfl rfl rfl rfl (okH_nil)))) rfl⟩
  ·
   replace hR := of_false h5 hR
   refine Awp.skip ?_
   refine Awp.consP C ?_
   refine rvP C (.ptr 5 0) ?_
   refine rvP C (.mp 13) ?_
   refine rvP C (.ptr 7 3) ?_
   refine rvP C (.agg [.pv (.lit (.int .u8 (x.key 0))), .pv (.lit (.int .u8 (x.key 1))), .pv (.lit (.int .u8 (x.key 2))), .pv (.lit (.int .u8 (x.key 3))), .pv (.lit (.int .u8 (x.key 4))), .pv (.lit (.int .u8 (x.key 5))), .pv (.lit (.int .u8 (x.key 6))), .pv (.lit (.int .u8 (x.key 7)))]) ?_
   refine rvP C (.ptr 7 16) ?_
   refine rvP C (.pv (.lit (.int .i64 x.ver))) ?_
   refine rvP C (.agg [.pv (.lit (.int .u8 (x.key 0))), .pv (.lit (.int .u8 (x.key 1))), .pv (.lit (.int .u8 (x.key 2))), .pv (.lit (.int .u8 (x.key 3))), .pv (.lit (.int .u8 (x.key 4))), .pv (.lit (.int .u8 (x.key 5))), .pv (.lit (.int .u8 (x.key 6))), .pv (.lit (.int .u8 (x.key 7))), .pv (.lit (.int .i64 x.ver))]) ?_
   refine rvc_un (rexec_lookup hP C rfl (Slot.mk x.key x.ver) zeroR rfl rfl rfl rfl rfl rfl kSlot_ok rfl (.tup [.agg [.pv (.lit (.int .i64 (((mGet kSlot (Slot.mk x.key x.ver) ((openB recs).of_)).getD zeroR).index))), .pv (.lit (.int .i64 (((mGet kSlot (Slot.mk x.key x.ver) ((openB recs).of_)).getD zeroR).epoch))), .pv (.lit (.int .u8 (((mGet kSlot (Slot.mk x.key x.ver) ((openB recs).of_)).getD zeroR).key 0))), .pv (.lit (.int .u8 (((mGet kSlot (Slot.mk x.key x.ver) ((openB recs).of_)).getD zeroR).key 1))), .pv (.lit (.int .u8 (((mGet kSlot (Slot.mk x.key x.ver) ((openB recs).of_)).getD zeroR).key 2))), .pv (.lit (.int .u8 (((mGet kSlot (Slot.mk x.key x.ver) ((openB recs).of_)).getD zeroR).key 3))), .pv (.lit (.int .u8 (((mGet kSlot (Slot.mk x.key x.ver) ((openB recs).of_)).getD zeroR).key 4))), .pv (.lit (.int .u8 (((mGet kSlot (Slot.mk x.key x.ver) ((openB recs).of_)).getD zeroR).key 5))), .pv (.lit (.int .u8 (((mGet kSlot (Slot.mk x.key x.ver) ((openB recs).of_)).getD zeroR).key 6))), .pv (.lit (.int .u8 (((mGet kSlot (Slot.mk x.key x.ver) ((openB recs).of_)).getD zeroR).key 7))), .pv (.lit (.int .i64 (((mGet kSlot (Slot.mk x.key x.ver) ((openB recs).of_)).getD zeroR).ver))), .pv (.lit (.string (((mGet kSlot (Slot.mk x.key x.ver) ((openB recs).of_)).getD zeroR).value))), .pv (.lit (.int .i64 (((mGet kSlot (Slot.mk x.key x.ver) ((openB recs).of_)).getD zeroR).req.client))), .pv (.lit (.int .i64 (((mGet kSlot (Slot.mk x.key x.ver) ((openB recs).of_)).getD zeroR).req.seq)))], .pv (.lit (.bool ((mGet kSlot (Slot.mk x.key x.ver) ((openB recs).of_)).isSome)))]) rfl ?_)
   refine rvP C (.tup [.agg [.pv (.lit (.int .i64 (((mGet kSlot (Slot.mk x.key x.ver) ((openB recs).of_)).getD zeroR).index))), .pv (.lit (.int .i64 (((mGet kSlot (Slot.mk x.key x.ver) ((openB recs).of_)).getD zeroR).epoch))), .pv (.lit (.int .u8 (((mGet kSlot (Slot.mk x.key x.ver) ((openB recs).of_)).getD zeroR).key 0))), .pv (.lit (.int .u8 (((mGet kSlot (Slot.mk x.key x.ver) ((openB recs).of_)).getD zeroR).key 1))), .pv (.lit (.int .u8 (((mGet kSlot (Slot.mk x.key x.ver) ((openB recs).of_)).getD zeroR).key 2))), .pv (.lit (.int .u8 (((mGet kSlot (Slot.mk x.key x.ver) ((openB recs).of_)).getD zeroR).key 3))), .pv (.lit (.int .u8 (((mGet kSlot (Slot.mk x.key x.ver) ((openB recs).of_)).getD zeroR).key 4))), .pv (.lit (.int .u8 (((mGet kSlot (Slot.mk x.key x.ver) ((openB recs).of_)).getD zeroR).key 5))), .pv (.lit (.int .u8 (((mGet kSlot (Slot.mk x.key x.ver) ((openB recs).of_)).getD zeroR).key 6))), .pv (.lit (.int .u8 (((mGet kSlot (Slot.mk x.key x.ver) ((openB recs).of_)).getD zeroR).key 7))), .pv (.lit (.int .i64 (((mGet kSlot (Slot.mk x.key x.ver) ((openB recs).of_)).getD zeroR).ver))), .pv (.lit (.string (((mGet kSlot (Slot.mk x.key x.ver) ((openB recs).of_)).getD zeroR).value))), .pv (.lit (.int .i64 (((mGet kSlot (Slot.mk x.key x.ver) ((openB recs).of_)).getD zeroR).req.client))), .pv (.lit (.int .i64 (((mGet kSlot (Slot.mk x.key x.ver) ((openB recs).of_)).getD zeroR).req.seq)))], .pv (.lit (.bool ((mGet kSlot (Slot.mk x.key x.ver) ((openB recs).of_)).isSome)))]) ?_
   refine rvP C (.agg [.pv (.lit (.int .i64 (((mGet kSlot (Slot.mk x.key x.ver) ((openB recs).of_)).getD zeroR).index))), .pv (.lit (.int .i64 (((mGet kSlot (Slot.mk x.key x.ver) ((openB recs).of_)).getD zeroR).epoch))), .pv (.lit (.int .u8 (((mGet kSlot (Slot.mk x.key x.ver) ((openB recs).of_)).getD zeroR).key 0))), .pv (.lit (.int .u8 (((mGet kSlot (Slot.mk x.key x.ver) ((openB recs).of_)).getD zeroR).key 1))), .pv (.lit (.int .u8 (((mGet kSlot (Slot.mk x.key x.ver) ((openB recs).of_)).getD zeroR).key 2))), .pv (.lit (.int .u8 (((mGet kSlot (Slot.mk x.key x.ver) ((openB recs).of_)).getD zeroR).key 3))), .pv (.lit (.int .u8 (((mGet kSlot (Slot.mk x.key x.ver) ((openB recs).of_)).getD zeroR).key 4))), .pv (.lit (.int .u8 (((mGet kSlot (Slot.mk x.key x.ver) ((openB recs).of_)).getD zeroR).key 5))), .pv (.lit (.int .u8 (((mGet kSlot (Slot.mk x.key x.ver) ((openB recs).of_)).getD zeroR).key 6))), .pv (.lit (.int .u8 (((mGet kSlot (Slot.mk x.key x.ver) ((openB recs).of_)).getD zeroR).key 7))), .pv (.lit (.int .i64 (((mGet kSlot (Slot.mk x.key x.ver) ((openB recs).of_)).getD zeroR).ver))), .pv (.lit (.string (((mGet kSlot (Slot.mk x.key x.ver) ((openB recs).of_)).getD zeroR).value))), .pv (.lit (.int .i64 (((mGet kSlot (Slot.mk x.key x.ver) ((openB recs).of_)).getD zeroR).req.client))), .pv (.lit (.int .i64 (((mGet kSlot (Slot.mk x.key x.ver) ((openB recs).of_)).getD zeroR).req.seq)))]) ?_
   refine rvP C (.pv (.lit (.bool ((mGet kSlot (Slot.mk x.key x.ver) ((openB recs).of_)).isSome)))) ?_
   refine rvc_un (rexec_prim C (δ := { v := .ptr 8 0, new := [(8, .cells [.pv (.lit (.int .i64 0)), .pv (.lit (.int .i64 0)), .pv (.lit (.int .u8 0)), .pv (.lit (.int .u8 0)), .pv (.lit (.int .u8 0)), .pv (.lit (.int .u8 0)), .pv (.lit (.int .u8 0)), .pv (.lit (.int .u8 0)), .pv (.lit (.int .u8 0)), .pv (.lit (.int .u8 0)), .pv (.lit (.int .i64 0)), .pv (.lit (.string ⟨#[]⟩)), .pv (.lit (.int .i64 0)), .pv (.lit (.int .i64 0))])] }) rfl rfl rfl rfl trivial rfl ?_)
   refine rvc_un (rexec_prim C (δ := { v := .undef, wr := [(8, some (.cells [.pv (.lit (.int .i64 (((mGet kSlot (Slot.mk x.key x.ver) ((openB recs).of_)).getD zeroR).index))), .pv (.lit (.int .i64 (((mGet kSlot (Slot.mk x.key x.ver) ((openB recs).of_)).getD zeroR).epoch))), .pv (.lit (.int .u8 (((mGet kSlot (Slot.mk x.key x.ver) ((openB recs).of_)).getD zeroR).key 0))), .pv (.lit (.int .u8 (((mGet kSlot (Slot.mk x.key x.ver) ((openB recs).of_)).getD zeroR).key 1))), .pv (.lit (.int .u8 (((mGet kSlot (Slot.mk x.key x.ver) ((openB recs).of_)).getD zeroR).key 2))), .pv (.lit (.int .u8 (((mGet kSlot (Slot.mk x.key x.ver) ((openB recs).of_)).getD zeroR).key 3))), .pv (.lit (.int .u8 (((mGet kSlot (Slot.mk x.key x.ver) ((openB recs).of_)).getD zeroR).key 4))), .pv (.lit (.int .u8 (((mGet kSlot (Slot.mk x.key x.ver) ((openB recs).of_)).getD zeroR).key 5))), .pv (.lit (.int .u8 (((mGet kSlot (Slot.mk x.key x.ver) ((openB recs).of_)).getD zeroR).key 6))), .pv (.lit (.int .u8 (((mGet kSlot (Slot.mk x.key x.ver) ((openB recs).of_)).getD zeroR).key 7))), .pv (.lit (.int .i64 (((mGet kSlot (Slot.mk x.key x.ver) ((openB recs).of_)).getD zeroR).ver))), .pv (.lit (.string (((mGet kSlot (Slot.mk x.key x.ver) ((openB recs).of_)).getD zeroR).value))), .pv (.lit (.int .i64 (((mGet kSlot (Slot.mk x.key x.ver) ((openB recs).of_)).getD zeroR).req.client))), .pv (.lit (.int .i64 (((mGet kSlot (Slot.mk x.key x.ver) ((openB recs).of_)).getD zeroR).req.seq)))]))] }) rfl rfl rfl rfl trivial rfl ?_)
   refine rvP C (.pv (.lit (.bool ((mGet kSlot (Slot.mk x.key x.ver) ((openB recs).of_)).isSome)))) ?_
   refine rvc_nil ?_
   refine Awp.block ?_
   refine Awp.consP C ?_
   refine rvP C (.ptr 7 2) ?_
   refine rvP C (.pv (.lit (.bool x.write))) ?_
   refine rvP C (.pv (.lit (.bool x.write))) ?_
   refine rvc_nil ?_
   refine Awp.cond (b := x.write) rfl (fun h6 => ?_) (fun h6 => ?_)
   ·
    replace hR := of_true h6 hR
    refine Awp.cons C (fun o => match o.dst with | some 39 => .reads [5] | some 40 => .reads [7] | some 42 => .reads [513] | some 10 => .writes [10] | none => .writes [10] | _ => .pure) (by kernel_rfl) ?_
    refine rvP C (.ptr 5 1) ?_
    refine rvP C (.mp 513) ?_
    refine rvP C (.agg [.pv (.lit (.int .i64 x.client)), .pv (.lit (.int .i64 x.seq)), .pv (.lit (.bool x.write)), .pv (.lit (.int .u8 (x.key 0))), .pv (.lit (.int .u8 (x.key 1))), .pv (.lit (.int .u8 (x.key 2))), .pv (.lit (.int .u8 (x.key 3))), .pv (.lit (.int .u8 (x.key 4))), .pv (.lit (.int .u8 (x.key 5))), .pv (.lit (.int .u8 (x.key 6))), .pv (.lit (.int .u8 (x.key 7))), .pv (.lit (.string x.value)), .pv (.lit (.int .i64 x.mode)), .pv (.lit (.int .i64 x.bound)), .pv (.lit (.int .i64 x.began)), .pv (.lit (.int .i64 x.ended)), .pv (.lit (.int .i64 x.ver)), .pv (.lit (.int .i64 x.err)), .pv (.lit (.int .i64 x.floor))]) ?_
    refine rvc_un (rexec_call hP C rfl rfl rfl (jReq_calls x) ?_)
    refine rvc_un (rexec_lookup hP C rfl (jReq x) zeroR rfl rfl rfl rfl rfl rfl kReq_ok rfl (.tup [.agg [.pv (.lit (.int .i64 (((mGet kReq (jReq x) ((openB recs).req)).getD zeroR).index))), .pv (.lit (.int .i64 (((mGet kReq (jReq x) ((openB recs).req)).getD zeroR).epoch))), .pv (.lit (.int .u8 (((mGet kReq (jReq x) ((openB recs).req)).getD zeroR).key 0))), .pv (.lit (.int .u8 (((mGet kReq (jReq x) ((openB recs).req)).getD zeroR).key 1))), .pv (.lit (.int .u8 (((mGet kReq (jReq x) ((openB recs).req)).getD zeroR).key 2))), .pv (.lit (.int .u8 (((mGet kReq (jReq x) ((openB recs).req)).getD zeroR).key 3))), .pv (.lit (.int .u8 (((mGet kReq (jReq x) ((openB recs).req)).getD zeroR).key 4))), .pv (.lit (.int .u8 (((mGet kReq (jReq x) ((openB recs).req)).getD zeroR).key 5))), .pv (.lit (.int .u8 (((mGet kReq (jReq x) ((openB recs).req)).getD zeroR).key 6))), .pv (.lit (.int .u8 (((mGet kReq (jReq x) ((openB recs).req)).getD zeroR).key 7))), .pv (.lit (.int .i64 (((mGet kReq (jReq x) ((openB recs).req)).getD zeroR).ver))), .pv (.lit (.string (((mGet kReq (jReq x) ((openB recs).req)).getD zeroR).value))), .pv (.lit (.int .i64 (((mGet kReq (jReq x) ((openB recs).req)).getD zeroR).req.client))), .pv (.lit (.int .i64 (((mGet kReq (jReq x) ((openB recs).req)).getD zeroR).req.seq)))], .pv (.lit (.bool ((mGet kReq (jReq x) ((openB recs).req)).isSome)))]) rfl ?_)
    refine rvP C (.tup [.agg [.pv (.lit (.int .i64 (((mGet kReq (jReq x) ((openB recs).req)).getD zeroR).index))), .pv (.lit (.int .i64 (((mGet kReq (jReq x) ((openB recs).req)).getD zeroR).epoch))), .pv (.lit (.int .u8 (((mGet kReq (jReq x) ((openB recs).req)).getD zeroR).key 0))), .pv (.lit (.int .u8 (((mGet kReq (jReq x) ((openB recs).req)).getD zeroR).key 1))), .pv (.lit (.int .u8 (((mGet kReq (jReq x) ((openB recs).req)).getD zeroR).key 2))), .pv (.lit (.int .u8 (((mGet kReq (jReq x) ((openB recs).req)).getD zeroR).key 3))), .pv (.lit (.int .u8 (((mGet kReq (jReq x) ((openB recs).req)).getD zeroR).key 4))), .pv (.lit (.int .u8 (((mGet kReq (jReq x) ((openB recs).req)).getD zeroR).key 5))), .pv (.lit (.int .u8 (((mGet kReq (jReq x) ((openB recs).req)).getD zeroR).key 6))), .pv (.lit (.int .u8 (((mGet kReq (jReq x) ((openB recs).req)).getD zeroR).key 7))), .pv (.lit (.int .i64 (((mGet kReq (jReq x) ((openB recs).req)).getD zeroR).ver))), .pv (.lit (.string (((mGet kReq (jReq x) ((openB recs).req)).getD zeroR).value))), .pv (.lit (.int .i64 (((mGet kReq (jReq x) ((openB recs).req)).getD zeroR).req.client))), .pv (.lit (.int .i64 (((mGet kReq (jReq x) ((openB recs).req)).getD zeroR).req.seq)))], .pv (.lit (.bool ((mGet kReq (jReq x) ((openB recs).req)).isSome)))]) ?_
    refine rvP C (.agg [.pv (.lit (.int .i64 (((mGet kReq (jReq x) ((openB recs).req)).getD zeroR).index))), .pv (.lit (.int .i64 (((mGet kReq (jReq x) ((openB recs).req)).getD zeroR).epoch))), .pv (.lit (.int .u8 (((mGet kReq (jReq x) ((openB recs).req)).getD zeroR).key 0))), .pv (.lit (.int .u8 (((mGet kReq (jReq x) ((openB recs).req)).getD zeroR).key 1))), .pv (.lit (.int .u8 (((mGet kReq (jReq x) ((openB recs).req)).getD zeroR).key 2))), .pv (.lit (.int .u8 (((mGet kReq (jReq x) ((openB recs).req)).getD zeroR).key 3))), .pv (.lit (.int .u8 (((mGet kReq (jReq x) ((openB recs).req)).getD zeroR).key 4))), .pv (.lit (.int .u8 (((mGet kReq (jReq x) ((openB recs).req)).getD zeroR).key 5))), .pv (.lit (.int .u8 (((mGet kReq (jReq x) ((openB recs).req)).getD zeroR).key 6))), .pv (.lit (.int .u8 (((mGet kReq (jReq x) ((openB recs).req)).getD zeroR).key 7))), .pv (.lit (.int .i64 (((mGet kReq (jReq x) ((openB recs).req)).getD zeroR).ver))), .pv (.lit (.string (((mGet kReq (jReq x) ((openB recs).req)).getD zeroR).value))), .pv (.lit (.int .i64 (((mGet kReq (jReq x) ((openB recs).req)).getD zeroR).req.client))), .pv (.lit (.int .i64 (((mGet kReq (jReq x) ((openB recs).req)).getD zeroR).req.seq)))]) ?_
    refine rvP C (.pv (.lit (.bool ((mGet kReq (jReq x) ((openB recs).req)).isSome)))) ?_
    refine rvc_un (rexec_prim C (δ := { v := .ptr 10 0, new := [(10, .cells [.pv (.lit (.int .i64 0)), .pv (.lit (.int .i64 0)), .pv (.lit (.int .u8 0)), .pv (.lit (.int .u8 0)), .pv (.lit (.int .u8 0)), .pv (.lit (.int .u8 0)), .pv (.lit (.int .u8 0)), .pv (.lit (.int .u8 0)), .pv (.lit (.int .u8 0)), .pv (.lit (.int .u8 0)), .pv (.lit (.int .i64 0)), .pv (.lit (.string ⟨#[]⟩)), .pv (.lit (.int .i64 0)), .pv (.lit (.int .i64 0))])] }) rfl rfl rfl rfl trivial rfl ?_)
    refine rvc_un (rexec_prim C (δ := { v := .undef, wr := [(10, some (.cells [.pv (.lit (.int .i64 (((mGet kReq (jReq x) ((openB recs).req)).getD zeroR).index))), .pv (.lit (.int .i64 (((mGet kReq (jReq x) ((openB recs).req)).getD zeroR).epoch))), .pv (.lit (.int .u8 (((mGet kReq (jReq x) ((openB recs).req)).getD zeroR).key 0))), .pv (.lit (.int .u8 (((mGet kReq (jReq x) ((openB recs).req)).getD zeroR).key 1))), .pv (.lit (.int .u8 (((mGet kReq (jReq x) ((openB recs).req)).getD zeroR).key 2))), .pv (.lit (.int .u8 (((mGet kReq (jReq x) ((openB recs).req)).getD zeroR).key 3))), .pv (.lit (.int .u8 (((mGet kReq (jReq x) ((openB recs).req)).getD zeroR).key 4))), .pv (.lit (.int .u8 (((mGet kReq (jReq x) ((openB recs).req)).getD zeroR).key 5))), .pv (.lit (.int .u8 (((mGet kReq (jReq x) ((openB recs).req)).getD zeroR).key 6))), .pv (.lit (.int .u8 (((mGet kReq (jReq x) ((openB recs).req)).getD zeroR).key 7))), .pv (.lit (.int .i64 (((mGet kReq (jReq x) ((openB recs).req)).getD zeroR).ver))), .pv (.lit (.string (((mGet kReq (jReq x) ((openB recs).req)).getD zeroR).value))), .pv (.lit (.int .i64 (((mGet kReq (jReq x) ((openB recs).req)).getD zeroR).req.client))), .pv (.lit (.int .i64 (((mGet kReq (jReq x) ((openB recs).req)).getD zeroR).req.seq)))]))] }) rfl rfl rfl rfl trivial rfl ?_)
    refine rvP C (.pv (.lit (.bool ((mGet kReq (jReq x) ((openB recs).req)).isSome)))) ?_
    refine rvc_nil ?_
    refine Awp.consP C ?_
    refine rvP C (.pv (.lit (.bool ((mGet kReq (jReq x) ((openB recs).req)).isSome)))) ?_
    refine rvP C (.pv (.lit (.bool (!((mGet kReq (jReq x) ((openB recs).req)).isSome))))) ?_
    refine rvP C (.pv (.lit (.bool (!((mGet kReq (jReq x) ((openB recs).req)).isSome))))) ?_
    refine rvc_case 47 (!((mGet kReq (jReq x) ((openB recs).req)).isSome)) rfl (fun h7 => ?_) (fun h7 => ?_)
    ·
     replace hR := of_true h7 hR
     refine rvS ?_
     refine rvS ?_
     refine rvS ?_
     refine rvS ?_
     refine rvS ?_
     refine rvP C (.pv (.lit (.bool true))) ?_
     refine rvP C (.pv (.lit (.bool true))) ?_
     refine rvS ?_
     refine rvS ?_
     refine rvS ?_
     refine rvS ?_
     refine rvS ?_
     refine rvP C (.pv (.lit (.bool true))) ?_
     refine rvP C (.pv (.lit (.bool true))) ?_
     refine rvS ?_
     refine rvS ?_
     refine rvS ?_
     refine rvS ?_
     refine rvS ?_
     refine rvP C (.pv (.lit (.bool true))) ?_
     refine rvc_nil ?_
     refine Awp.condT (b := true) rfl rfl ?_
     refine Awp.consP C ?_
     refine rvP C (.pv (.lit (.bool false))) ?_
     refine rvc_nil ?_
     refine Awp.ret ?_
     subst hR
     exact ⟨.inl rfl, rfl⟩
    ·
     replace hR := of_false h7 hR
     refine rvO C (.ptr 10 10) ?_
     refine rvO C (.pv (.lit (.int .i64 (((mGet kReq (jReq x) ((openB recs).req)).getD zeroR).ver)))) ?_
     refine rvO C (.ptr 7 16) ?_
     refine rvO C (.pv (.lit (.int .i64 x.ver))) ?_
     refine rvO C (.pv (.lit (.bool ((((mGet kReq (jReq x) ((openB recs).req)).getD zeroR).ver) != x.ver)))) ?_
     refine rvP C (.pv (.lit (.bool ((((mGet kReq (jReq x) ((openB recs).req)).getD zeroR).ver) != x.ver)))) ?_
     refine rvP C (.pv (.lit (.bool ((((mGet kReq (jReq x) ((openB recs).req)).getD zeroR).ver) != x.ver)))) ?_
     refine rvc_case 54 ((((mGet kReq (jReq x) ((openB recs).req)).getD zeroR).ver) != x.ver) rfl (fun h8 => ?_) (fun h8 => ?_)
     ·
      replace hR := of_true h8 hR
      refine rvS ?_
      refine rvS ?_
      refine rvS ?_
      refine rvS ?_
      refine rvS ?_
      refine rvP C (.pv (.lit (.bool true))) ?_
      refine rvP C (.pv (.lit (.bool true))) ?_
      refine rvS ?_
      refine rvS ?_
      refine rvS ?_
      refine rvS ?_
      refine rvS ?_
      refine rvP C (.pv (.lit (.bool true))) ?_
      refine rvc_nil ?_
      refine Awp.condT (b := true) rfl rfl ?_
      refine Awp.consP C ?_
      refine rvP C (.pv (.lit (.bool false))) ?_
      refine rvc_nil ?_
      refine Awp.ret ?_
      subst hR
      exact ⟨.inl rfl, rfl⟩
     ·
      replace hR := of_false h8 hR
      refine rvO C (.ptr 10 2) ?_
      refine rvO C (.agg [.pv (.lit (.int .u8 (((mGet kReq (jReq x) ((openB recs).req)).getD zeroR).key 0))), .pv (.lit (.int .u8 (((mGet kReq (jReq x) ((openB recs).req)).getD zeroR).key 1))), .pv (.lit (.int .u8 (((mGet kReq (jReq x) ((openB recs).req)).getD zeroR).key 2))), .pv (.lit (.int .u8 (((mGet kReq (jReq x) ((openB recs).req)).getD zeroR).key 3))), .pv (.lit (.int .u8 (((mGet kReq (jReq x) ((openB recs).req)).getD zeroR).key 4))), .pv (.lit (.int .u8 (((mGet kReq (jReq x) ((openB recs).req)).getD zeroR).key 5))), .pv (.lit (.int .u8 (((mGet kReq (jReq x) ((openB recs).req)).getD zeroR).key 6))), .pv (.lit (.int .u8 (((mGet kReq (jReq x) ((openB recs).req)).getD zeroR).key 7)))]) ?_
      refine rvO C (.ptr 7 3) ?_
      refine rvO C (.agg [.pv (.lit (.int .u8 (x.key 0))), .pv (.lit (.int .u8 (x.key 1))), .pv (.lit (.int .u8 (x.key 2))), .pv (.lit (.int .u8 (x.key 3))), .pv (.lit (.int .u8 (x.key 4))), .pv (.lit (.int .u8 (x.key 5))), .pv (.lit (.int .u8 (x.key 6))), .pv (.lit (.int .u8 (x.key 7)))]) ?_
      refine rvO C (.pv (.lit (.bool (!(((((mGet kReq (jReq x) ((openB recs).req)).getD zeroR).key 0) == (x.key 0)) && (((((mGet kReq (jReq x) ((openB recs).req)).getD zeroR).key 1) == (x.key 1)) && (((((mGet kReq (jReq x) ((openB recs).req)).getD zeroR).key 2) == (x.key 2)) && (((((mGet kReq (jReq x) ((openB recs).req)).getD zeroR).key 3) == (x.key 3)) && (((((mGet kReq (jReq x) ((openB recs).req)).getD zeroR).key 4) == (x.key 4)) && (((((mGet kReq (jReq x) ((openB recs).req)).getD zeroR).key 5) == (x.key 5)) && (((((mGet kReq (jReq x) ((openB recs).req)).getD zeroR).key 6) == (x.key 6)) && (((((mGet kReq (jReq x) ((openB recs).req)).getD zeroR).key 7) == (x.key 7)) && true)))))))))))) ?_
      refine rvP C (.pv (.lit (.bool (!(((((mGet kReq (jReq x) ((openB recs).req)).getD zeroR).key 0) == (x.key 0)) && (((((mGet kReq (jReq x) ((openB recs).req)).getD zeroR).key 1) == (x.key 1)) && (((((mGet kReq (jReq x) ((openB recs).req)).getD zeroR).key 2) == (x.key 2)) && (((((mGet kReq (jReq x) ((openB recs).req)).getD zeroR).key 3) == (x.key 3)) && (((((mGet kReq (jReq x) ((openB recs).req)).getD zeroR).key 4) == (x.key 4)) && (((((mGet kReq (jReq x) ((openB recs).req)).getD zeroR).key 5) == (x.key 5)) && (((((mGet kReq (jReq x) ((openB recs).req)).getD zeroR).key 6) == (x.key 6)) && (((((mGet kReq (jReq x) ((openB recs).req)).getD zeroR).key 7) == (x.key 7)) && true)))))))))))) ?_
      refine rvP C (.pv (.lit (.bool (!(((((mGet kReq (jReq x) ((openB recs).req)).getD zeroR).key 0) == (x.key 0)) && (((((mGet kReq (jReq x) ((openB recs).req)).getD zeroR).key 1) == (x.key 1)) && (((((mGet kReq (jReq x) ((openB recs).req)).getD zeroR).key 2) == (x.key 2)) && (((((mGet kReq (jReq x) ((openB recs).req)).getD zeroR).key 3) == (x.key 3)) && (((((mGet kReq (jReq x) ((openB recs).req)).getD zeroR).key 4) == (x.key 4)) && (((((mGet kReq (jReq x) ((openB recs).req)).getD zeroR).key 5) == (x.key 5)) && (((((mGet kReq (jReq x) ((openB recs).req)).getD zeroR).key 6) == (x.key 6)) && (((((mGet kReq (jReq x) ((openB recs).req)).getD zeroR).key 7) == (x.key 7)) && true)))))))))))) ?_
      refine rvc_case 61 (!(((((mGet kReq (jReq x) ((openB recs).req)).getD zeroR).key 0) == (x.key 0)) && (((((mGet kReq (jReq x) ((openB recs).req)).getD zeroR).key 1) == (x.key 1)) && (((((mGet kReq (jReq x) ((openB recs).req)).getD zeroR).key 2) == (x.key 2)) && (((((mGet kReq (jReq x) ((openB recs).req)).getD zeroR).key 3) == (x.key 3)) && (((((mGet kReq (jReq x) ((openB recs).req)).getD zeroR).key 4) == (x.key 4)) && (((((mGet kReq (jReq x) ((openB recs).req)).getD zeroR).key 5) == (x.key 5)) && (((((mGet kReq (jReq x) ((openB recs).req)).getD zeroR).key 6) == (x.key 6)) && (((((mGet kReq (jReq x) ((openB recs).req)).getD zeroR).key 7) == (x.key 7)) && true))))))))) rfl (fun h9 => ?_) (fun h9 => ?_)
      ·
       replace hR := of_true h9 hR
       refine rvS ?_
       refine rvS ?_
       refine rvS ?_
       refine rvS ?_
       refine rvS ?_
       refine rvP C (.pv (.lit (.bool true))) ?_
       refine rvc_nil ?_
       refine Awp.condT (b := true) rfl rfl ?_
       refine Awp.consP C ?_
       refine rvP C (.pv (.lit (.bool false))) ?_
       refine rvc_nil ?_
       refine Awp.ret ?_
       subst hR
       exact ⟨.inl rfl, rfl⟩
      ·
       replace hR := of_false h9 hR
       refine rvO C (.ptr 10 11) ?_
       refine rvO C (.pv (.lit (.string (((mGet kReq (jReq x) ((openB recs).req)).getD zeroR).value)))) ?_
       refine rvO C (.ptr 7 11) ?_
       refine rvO C (.pv (.lit (.string x.value))) ?_
       refine rvO C (.pv (.lit (.bool (!((((mGet kReq (jReq x) ((openB recs).req)).getD zeroR).value).toList == x.value.toList))))) ?_
       refine rvP C (.pv (.lit (.bool (!((((mGet kReq (jReq x) ((openB recs).req)).getD zeroR).value).toList == x.value.toList))))) ?_
       refine rvc_nil ?_
       refine Awp.cond (b := (!((((mGet kReq (jReq x) ((openB recs).req)).getD zeroR).value).toList == x.value.toList))) rfl (fun h10 => ?_) (fun h10 => ?_)
       ·
        replace hR := of_true h10 hR
        refine Awp.consP C ?_
        refine rvP C (.pv (.lit (.bool false))) ?_
        refine rvc_nil ?_
        refine Awp.ret ?_
        subst hR
        exact ⟨.inl rfl, rfl⟩
       ·
        replace hR := of_false h10 hR
        refine Awp.skip ?_
        refine Awp.regionP C ?_
        refine rvP C (.pv (.lit (.int .i64 (IntKind.i64.wrap ((i : Int) + 1))))) ?_
        refine rvP C (.pv (.lit (.int .i64 (IntKind.i64.wrap ((i : Int) + 1))))) ?_
        refine rvc_nil ?_
        refine ⟨h3, (), ?_, ?_⟩
        · exact hR
        · exact ⟨fun b => b, WeakerR.ofL (Ks := [5, 13, 513]) hI ⟨⟨rfl, rfl⟩, ⟨rfl, rfl⟩, ⟨rfl, rfl⟩, ⟨lit_cast (wrap_i64 (by omega) (by omega)), rfl⟩, trivial⟩ (okH_map rfl rfl rfl (okH_map rfl rfl rfl (okH_cons rfl rfl rfl rfl (okH_nil)))) rfl⟩
   ·
    replace hR := of_false h6 hR
    refine Awp.consP C ?_
    refine rvP C (.ptr 7 16) ?_
    refine rvP C (.pv (.lit (.int .i64 x.ver))) ?_
    refine rvP C (.pv (.lit (.bool (x.ver == 0)))) ?_
    refine rvP C (.pv (.lit (.bool (x.ver == 0)))) ?_
    refine rvc_nil ?_
    refine Awp.cond (b := (x.ver == 0)) rfl (fun h11 => ?_) (fun h11 => ?_)
    ·
     replace hR := of_true h11 hR
     refine Awp.consP C ?_
     refine rvP C (.ptr 7 11) ?_
     refine rvP C (.pv (.lit (.string x.value))) ?_
     refine rvP C (.pv (.lit (.bool (!(x.value.toList == (⟨#[]⟩ : ByteArray).toList))))) ?_
     refine rvc_nil ?_
     refine Awp.cond (b := (!(x.value.toList == (⟨#[]⟩ : ByteArray).toList))) rfl (fun h12 => ?_) (fun h12 => ?_)
     ·
      replace hR := of_true h12 hR
      refine Awp.consP C ?_
      refine rvP C (.pv (.lit (.bool false))) ?_
      refine rvc_nil ?_
      refine Awp.ret ?_
      subst hR
      exact ⟨.inl rfl, rfl⟩
     ·
      replace hR := of_false h12 hR
      refine Awp.skip ?_
      refine Awp.regionP C ?_
      refine rvP C (.pv (.lit (.int .i64 (IntKind.i64.wrap ((i : Int) + 1))))) ?_
      refine rvP C (.pv (.lit (.int .i64 (IntKind.i64.wrap ((i : Int) + 1))))) ?_
      refine rvc_nil ?_
      refine ⟨h3, (), ?_, ?_⟩
      · exact hR
      · exact ⟨fun b => b, WeakerR.ofL (Ks := [5, 13, 513]) hI ⟨⟨rfl, rfl⟩, ⟨rfl, rfl⟩, ⟨rfl, rfl⟩, ⟨lit_cast (wrap_i64 (by omega) (by omega)), rfl⟩, trivial⟩ (okH_map rfl rfl rfl (okH_map rfl rfl rfl (okH_cons rfl rfl rfl rfl (okH_nil)))) rfl⟩
    ·
     replace hR := of_false h11 hR
     refine Awp.consP C ?_
     refine rvP C (.pv (.lit (.bool ((mGet kSlot (Slot.mk x.key x.ver) ((openB recs).of_)).isSome)))) ?_
     refine rvP C (.pv (.lit (.bool (!((mGet kSlot (Slot.mk x.key x.ver) ((openB recs).of_)).isSome))))) ?_
     refine rvP C (.pv (.lit (.bool (!((mGet kSlot (Slot.mk x.key x.ver) ((openB recs).of_)).isSome))))) ?_
     refine rvc_case 78 (!((mGet kSlot (Slot.mk x.key x.ver) ((openB recs).of_)).isSome)) rfl (fun h13 => ?_) (fun h13 => ?_)
     ·
      replace hR := of_true h13 hR
      refine rvS ?_
      refine rvS ?_
      refine rvS ?_
      refine rvS ?_
      refine rvS ?_
      refine rvP C (.pv (.lit (.bool true))) ?_
      refine rvP C (.pv (.lit (.bool true))) ?_
      refine rvc_nil ?_
      refine Awp.condT (b := true) rfl rfl ?_
      refine Awp.consP C ?_
      refine rvP C (.pv (.lit (.bool false))) ?_
      refine rvc_nil ?_
      refine Awp.ret ?_
      subst hR
      exact ⟨.inl rfl, rfl⟩
     ·
      replace hR := of_false h13 hR
      refine rvO C (.ptr 8 11) ?_
      refine rvO C (.pv (.lit (.string (((mGet kSlot (Slot.mk x.key x.ver) ((openB recs).of_)).getD zeroR).value)))) ?_
      refine rvO C (.ptr 7 11) ?_
      refine rvO C (.pv (.lit (.string x.value))) ?_
      refine rvO C (.pv (.lit (.bool (!((((mGet kSlot (Slot.mk x.key x.ver) ((openB recs).of_)).getD zeroR).value).toList == x.value.toList))))) ?_
      refine rvP C (.pv (.lit (.bool (!((((mGet kSlot (Slot.mk x.key x.ver) ((openB recs).of_)).getD zeroR).value).toList == x.value.toList))))) ?_
      refine rvP C (.pv (.lit (.bool (!((((mGet kSlot (Slot.mk x.key x.ver) ((openB recs).of_)).getD zeroR).value).toList == x.value.toList))))) ?_
      refine rvc_nil ?_
      refine Awp.cond (b := (!((((mGet kSlot (Slot.mk x.key x.ver) ((openB recs).of_)).getD zeroR).value).toList == x.value.toList))) rfl (fun h14 => ?_) (fun h14 => ?_)
      ·
       replace hR := of_true h14 hR
       refine Awp.consP C ?_
       refine rvP C (.pv (.lit (.bool false))) ?_
       refine rvc_nil ?_
       refine Awp.ret ?_
       subst hR
       exact ⟨.inl rfl, rfl⟩
      ·
       replace hR := of_false h14 hR
       refine Awp.skip ?_
       refine Awp.regionP C ?_
       refine rvP C (.pv (.lit (.int .i64 (IntKind.i64.wrap ((i : Int) + 1))))) ?_
       refine rvP C (.pv (.lit (.int .i64 (IntKind.i64.wrap ((i : Int) + 1))))) ?_
       refine rvc_nil ?_
       refine ⟨h3, (), ?_, ?_⟩
       · exact hR
       · exact ⟨fun b => b, WeakerR.ofL (Ks := [5, 13, 513]) hI ⟨⟨rfl, rfl⟩, ⟨rfl, rfl⟩, ⟨rfl, rfl⟩, ⟨lit_cast (wrap_i64 (by omega) (by omega)), rfl⟩, trivial⟩ (okH_map rfl rfl rfl (okH_map rfl rfl rfl (okH_cons rfl rfl rfl rfl (okH_nil)))) rfl⟩
 ·
  have h3 : ¬ i < calls.D.length := by have := of_decide_eq_false h2; omega
  rw [drop_end h3] at hR
  refine Awp.exit ?_
  refine Awp.consP C ?_
  refine rvP C (.pv (.lit (.bool true))) ?_
  refine rvc_nil ?_
  refine Awp.ret ?_
  subst hR
  exact ⟨.inl rfl, rfl⟩
def jAhead_l0 (k : (Nat → Int)) (time : Int) : List Call → Nat → Int → Int
  | [], _, most => most
  | x :: xs, i, most => (bif x.write then (bif (jAnswered x) then (bif (((x.key 0) == (k 0)) && (((x.key 1) == (k 1)) && (((x.key 2) == (k 2)) && (((x.key 3) == (k 3)) && (((x.key 4) == (k 4)) && (((x.key 5) == (k 5)) && (((x.key 6) == (k 6)) && (((x.key 7) == (k 7)) && true)))))))) then (bif (decide (x.ended < time)) then jAhead_l0 k time xs (i + 1) (bif (decide (most < x.ver)) then x.ver else most) else jAhead_l0 k time xs (i + 1) most) else jAhead_l0 k time xs (i + 1) most) else jAhead_l0 k time xs (i + 1) most) else jAhead_l0 k time xs (i + 1) most)
def jAhead (k : (Nat → Int)) (time : Int) (calls : (Sl Call)) : Int :=
  jAhead_l0 k time calls.D 0 0
theorem jAhead_calls (k : (Nat → Int)) (time : Int) (calls : (Sl Call)) (hl1 : calls.D.length ≤ 1000000) : PCalls Try.prog 41 [.agg [.pv (.lit (.int .u8 (k 0))), .pv (.lit (.int .u8 (k 1))), .pv (.lit (.int .u8 (k 2))), .pv (.lit (.int .u8 (k 3))), .pv (.lit (.int .u8 (k 4))), .pv (.lit (.int .u8 (k 5))), .pv (.lit (.int .u8 (k 6))), .pv (.lit (.int .u8 (k 7)))], .pv (.lit (.int .i64 time)), sS (some calls.nil) eCall calls.D] (.pv (.lit (.int .i64 (jAhead k time calls)))) := by
 generalize hR : jAhead k time calls = R
 refine PCalls.of_body tabOk Try.func41 rfl rfl rfl rfl rfl mixed fun E hP C hI => ?_
 refine Awp.consP C ?_
 refine rvc_un (rexec_prim C (δ := { v := .ptr 3 0, new := [(3, .cells [.pv (.lit (.int .u8 (k 0))), .pv (.lit (.int .u8 (k 1))), .pv (.lit (.int .u8 (k 2))), .pv (.lit (.int .u8 (k 3))), .pv (.lit (.int .u8 (k 4))), .pv (.lit (.int .u8 (k 5))), .pv (.lit (.int .u8 (k 6))), .pv (.lit (.int .u8 (k 7)))])] }) rfl rfl rfl rfl trivial rfl ?_)
 refine rvP C (.pv (.lit (.int .i64 0))) ?_
 refine rvc_nil ?_
 refine Awp.consP C ?_
 refine rvP C (.pv (.lit (.int .i64 0))) ?_
 refine rvc_nil ?_
 refine Awp.seq ?_
 refine Awp.consP C ?_
 refine rvP C (sS (some calls.nil) eCall calls.D) ?_
 refine rvP C (.pv (.lit (.int .i64 (calls.D.length : Int)))) ?_
 refine rvP C (.pv (.lit (.int .i64 0))) ?_
 refine rvc_nil ?_
 refine Awp.block ?_
 refine Awp.forR (σ := Int) (calls.D.length) (fun i v => [(1, .pv (.lit (.int .i64 time))), (3, .ptr 3 0), (7, .pv (.lit (.int .i64 v))), (10, sS (some calls.nil) eCall calls.D), (11, .pv (.lit (.int .i64 (calls.D.length : Int)))), (12, .pv (.lit (.int .i64 (i : Int))))]) (fun i v => [(3, .cells [.pv (.lit (.int .u8 (k 0))), .pv (.lit (.int .u8 (k 1))), .pv (.lit (.int .u8 (k 2))), .pv (.lit (.int .u8 (k 3))), .pv (.lit (.int .u8 (k 4))), .pv (.lit (.int .u8 (k 5))), .pv (.lit (.int .u8 (k 6))), .pv (.lit (.int .u8 (k 7)))])]) [3] (fun i v => jAhead_l0 k time (calls.D.drop i) i v = R) 0 ?_ ?_ (fun i most h1 hR => ?_)
 · exact hR
 · exact ⟨fun b => b, WeakerR.ofL (Ks := [3]) hI ⟨⟨rfl, rfl⟩, ⟨rfl, rfl⟩, ⟨rfl, rfl⟩, ⟨rfl, rfl⟩, ⟨rfl, rfl⟩, ⟨rfl, rfl⟩, trivial⟩ (okH_cons rfl rfl rfl rfl (okH_nil)) rfl⟩
 refine Awp.consP C ?_
 refine rvP C (.pv (.lit (.bool (decide ((i : Int) < (calls.D.length : Int)))))) ?_
 refine rvc_nil ?_
 refine Awp.seq ?_
 refine Awp.cond (b := (decide ((i : Int) < (calls.D.length : Int)))) rfl (fun h2 => ?_) (fun h2 => ?_)
 ·
  have h3 : i < calls.D.length := by have := of_decide_eq_true h2; omega
  obtain ⟨x, h4⟩ := getX h3
  rw [drop_at h4] at hR
  refine Awp.skip ?_
  refine Awp.seq ?_
  refine Awp.block ?_
  refine Awp.consP C ?_
  refine rvc_un (rexec_idxS C rfl rfl rfl rfl rfl rfl x (Int.natCast_nonneg _) h4 ?_)
  refine rvP C (.agg [.pv (.lit (.int .i64 x.client)), .pv (.lit (.int .i64 x.seq)), .pv (.lit (.bool x.write)), .pv (.lit (.int .u8 (x.key 0))), .pv (.lit (.int .u8 (x.key 1))), .pv (.lit (.int .u8 (x.key 2))), .pv (.lit (.int .u8 (x.key 3))), .pv (.lit (.int .u8 (x.key 4))), .pv (.lit (.int .u8 (x.key 5))), .pv (.lit (.int .u8 (x.key 6))), .pv (.lit (.int .u8 (x.key 7))), .pv (.lit (.string x.value)), .pv (.lit (.int .i64 x.mode)), .pv (.lit (.int .i64 x.bound)), .pv (.lit (.int .i64 x.began)), .pv (.lit (.int .i64 x.ended)), .pv (.lit (.int .i64 x.ver)), .pv (.lit (.int .i64 x.err)), .pv (.lit (.int .i64 x.floor))]) ?_
  refine rvc_un (rexec_prim C (δ := { v := .ptr 9 0, new := [(9, .cells [.pv (.lit (.int .i64 0)), .pv (.lit (.int .i64 0)), .pv (.lit (.bool false)), .pv (.lit (.int .u8 0)), .pv (.lit (.int .u8 0)), .pv (.lit (.int .u8 0)), .pv (.lit (.int .u8 0)), .pv (.lit (.int .u8 0)), .pv (.lit (.int .u8 0)), .pv (.lit (.int .u8 0)), .pv (.lit (.int .u8 0)), .pv (.lit (.string ⟨#[]⟩)), .pv (.lit (.int .i64 0)), .pv (.lit (.int .i64 0)), .pv (.lit (.int .i64 0)), .pv (.lit (.int .i64 0)), .pv (.lit (.int .i64 0)), .pv (.lit (.int .i64 0)), .pv (.lit (.int .i64 0))])] }) rfl rfl rfl rfl trivial rfl ?_)
  refine rvc_un (rexec_prim C (δ := { v := .undef, wr := [(9, some (.cells [.pv (.lit (.int .i64 x.client)), .pv (.lit (.int .i64 x.seq)), .pv (.lit (.bool x.write)), .pv (.lit (.int .u8 (x.key 0))), .pv (.lit (.int .u8 (x.key 1))), .pv (.lit (.int .u8 (x.key 2))), .pv (.lit (.int .u8 (x.key 3))), .pv (.lit (.int .u8 (x.key 4))), .pv (.lit (.int .u8 (x.key 5))), .pv (.lit (.int .u8 (x.key 6))), .pv (.lit (.int .u8 (x.key 7))), .pv (.lit (.string x.value)), .pv (.lit (.int .i64 x.mode)), .pv (.lit (.int .i64 x.bound)), .pv (.lit (.int .i64 x.began)), .pv (.lit (.int .i64 x.ended)), .pv (.lit (.int .i64 x.ver)), .pv (.lit (.int .i64 x.err)), .pv (.lit (.int .i64 x.floor))]))] }) rfl rfl rfl rfl trivial rfl ?_)
  refine rvc_nil ?_
  refine Awp.consP C ?_
  refine rvP C (.ptr 9 2) ?_
  refine rvP C (.pv (.lit (.bool x.write))) ?_
  refine rvP C (.pv (.lit (.bool x.write))) ?_
  refine rvc_case 18 x.write rfl (fun h5 => ?_) (fun h5 => ?_)
  ·
   replace hR := of_true h5 hR
   refine rvO C (.agg [.pv (.lit (.int .i64 x.client)), .pv (.lit (.int .i64 x.seq)), .pv (.lit (.bool x.write)), .pv (.lit (.int .u8 (x.key 0))), .pv (.lit (.int .u8 (x.key 1))), .pv (.lit (.int .u8 (x.key 2))), .pv (.lit (.int .u8 (x.key 3))), .pv (.lit (.int .u8 (x.key 4))), .pv (.lit (.int .u8 (x.key 5))), .pv (.lit (.int .u8 (x.key 6))), .pv (.lit (.int .u8 (x.key 7))), .pv (.lit (.string x.value)), .pv (.lit (.int .i64 x.mode)), .pv (.lit (.int .i64 x.bound)), .pv (.lit (.int .i64 x.began)), .pv (.lit (.int .i64 x.ended)), .pv (.lit (.int .i64 x.ver)), .pv (.lit (.int .i64 x.err)), .pv (.lit (.int .i64 x.floor))]) ?_
   refine rvc_open rfl rfl rfl (rexec_call hP C rfl rfl rfl (jAnswered_calls x) ?_)
   refine rvP C (.pv (.lit (.bool (jAnswered x)))) ?_
   refine rvP C (.pv (.lit (.bool (jAnswered x)))) ?_
   refine rvc_case 22 (jAnswered x) rfl (fun h6 => ?_) (fun h6 => ?_)
   ·
    replace hR := of_true h6 hR
    refine rvO C (.ptr 9 3) ?_
    refine rvO C (.agg [.pv (.lit (.int .u8 (x.key 0))), .pv (.lit (.int .u8 (x.key 1))), .pv (.lit (.int .u8 (x.key 2))), .pv (.lit (.int .u8 (x.key 3))), .pv (.lit (.int .u8 (x.key 4))), .pv (.lit (.int .u8 (x.key 5))), .pv (.lit (.int .u8 (x.key 6))), .pv (.lit (.int .u8 (x.key 7)))]) ?_
    refine rvO C (.agg [.pv (.lit (.int .u8 (k 0))), .pv (.lit (.int .u8 (k 1))), .pv (.lit (.int .u8 (k 2))), .pv (.lit (.int .u8 (k 3))), .pv (.lit (.int .u8 (k 4))), .pv (.lit (.int .u8 (k 5))), .pv (.lit (.int .u8 (k 6))), .pv (.lit (.int .u8 (k 7)))]) ?_
    refine rvO C (.pv (.lit (.bool (((x.key 0) == (k 0)) && (((x.key 1) == (k 1)) && (((x.key 2) == (k 2)) && (((x.key 3) == (k 3)) && (((x.key 4) == (k 4)) && (((x.key 5) == (k 5)) && (((x.key 6) == (k 6)) && (((x.key 7) == (k 7)) && true))))))))))) ?_
    refine rvP C (.pv (.lit (.bool (((x.key 0) == (k 0)) && (((x.key 1) == (k 1)) && (((x.key 2) == (k 2)) && (((x.key 3) == (k 3)) && (((x.key 4) == (k 4)) && (((x.key 5) == (k 5)) && (((x.key 6) == (k 6)) && (((x.key 7) == (k 7)) && true))))))))))) ?_
    refine rvP C (.pv (.lit (.bool (((x.key 0) == (k 0)) && (((x.key 1) == (k 1)) && (((x.key 2) == (k 2)) && (((x.key 3) == (k 3)) && (((x.key 4) == (k 4)) && (((x.key 5) == (k 5)) && (((x.key 6) == (k 6)) && (((x.key 7) == (k 7)) && true))))))))))) ?_
    refine rvc_case 28 (((x.key 0) == (k 0)) && (((x.key 1) == (k 1)) && (((x.key 2) == (k 2)) && (((x.key 3) == (k 3)) && (((x.key 4) == (k 4)) && (((x.key 5) == (k 5)) && (((x.key 6) == (k 6)) && (((x.key 7) == (k 7)) && true)))))))) rfl (fun h7 => ?_) (fun h7 => ?_)
    ·
     replace hR := of_true h7 hR
     refine rvO C (.ptr 9 15) ?_
     refine rvO C (.pv (.lit (.int .i64 x.ended))) ?_
     refine rvO C (.pv (.lit (.int .i64 time))) ?_
     refine rvO C (.pv (.lit (.bool (decide (x.ended < time))))) ?_
     refine rvP C (.pv (.lit (.bool (decide (x.ended < time))))) ?_
     refine rvc_nil ?_
     refine Awp.cond (b := (decide (x.ended < time))) rfl (fun h8 => ?_) (fun h8 => ?_)
     ·
      replace hR := of_true h8 hR
      refine Awp.regionP C ?_
      refine rvP C (.pv (.lit (.int .i64 most))) ?_
      refine rvP C (.ptr 9 16) ?_
      refine rvP C (.pv (.lit (.int .i64 x.ver))) ?_
      refine rvc_un (rexec_max C rfl rfl rfl ?_)
      refine rvP C (.pv (.lit (.int .i64 (bif (decide (most < x.ver)) then x.ver else most)))) ?_
      refine rvc_nil ?_
      refine Awp.regionP C ?_
      refine rvP C (.pv (.lit (.int .i64 (IntKind.i64.wrap ((i : Int) + 1))))) ?_
      refine rvP C (.pv (.lit (.int .i64 (IntKind.i64.wrap ((i : Int) + 1))))) ?_
      refine rvc_nil ?_
      refine ⟨h3, (bif (decide (most < x.ver)) then x.ver else most), ?_, ?_⟩
      · exact hR
      · exact ⟨fun b => b, WeakerR.ofL (Ks := [3]) hI ⟨⟨rfl, rfl⟩, ⟨rfl, rfl⟩, ⟨rfl, rfl⟩, ⟨rfl, rfl⟩, ⟨rfl, rfl⟩, ⟨lit_cast (wrap_i64 (by omega) (by omega)), rfl⟩, trivial⟩ (okH_cons rfl rfl rfl rfl (okH_nil)) rfl⟩
     ·
      replace hR := of_false h8 hR
      refine Awp.skip ?_
      refine Awp.regionP C ?_
      refine rvP C (.pv (.lit (.int .i64 (IntKind.i64.wrap ((i : Int) + 1))))) ?_
      refine rvP C (.pv (.lit (.int .i64 (IntKind.i64.wrap ((i : Int) + 1))))) ?_
      refine rvc_nil ?_
      refine ⟨h3, most, ?_, ?_⟩
      · exact hR
      · exact ⟨fun b => b, WeakerR.ofL (Ks := [3]) hI ⟨⟨rfl, rfl⟩, ⟨rfl, rfl⟩, ⟨rfl, rfl⟩, ⟨rfl, rfl⟩, ⟨rfl, rfl⟩, ⟨lit_cast (wrap_i64 (by omega) (by omega)), rfl⟩, trivial⟩ (okH_cons rfl rfl rfl rfl (okH_nil)) rfl⟩
    ·
     replace hR := of_false h7 hR
     refine rvS ?_
     refine rvS ?_
     refine rvS ?_
     refine rvS ?_
     refine rvP C (.pv (.lit (.bool false))) ?_
     refine rvc_nil ?_
     refine Awp.condF (b := false) rfl rfl ?_
     refine Awp.skip ?_
     refine Awp.regionP C ?_
     refine rvP C (.pv (.lit (.int .i64 (IntKind.i64.wrap ((i : Int) + 1))))) ?_
     refine rvP C (.pv (.lit (.int .i64 (IntKind.i64.wrap ((i : Int) + 1))))) ?_
     refine rvc_nil ?_
     refine ⟨h3, most, ?_, ?_⟩
     · exact hR
     · exact ⟨fun b => b, WeakerR.ofL (Ks := [3]) hI ⟨⟨rfl, rfl⟩, ⟨rfl, rfl⟩, ⟨rfl, rfl⟩, ⟨rfl, rfl⟩, ⟨rfl, rfl⟩, ⟨lit_cast (wrap_i64 (by omega) (by omega)), rfl⟩, trivial⟩ (okH_cons rfl rfl rfl rfl (okH_nil)) rfl⟩
   ·
    replace hR := of_false h6 hR
    refine rvS ?_
    refine rvS ?_
    refine rvS ?_
    refine rvS ?_
    refine rvP C (.pv (.lit (.bool false))) ?_
    refine rvP C (.pv (.lit (.bool false))) ?_
    refine rvS ?_
    refine rvS ?_
    refine rvS ?_
    refine rvS ?_
    refine rvP C (.pv (.lit (.bool false))) ?_
    refine rvc_nil ?_
    refine Awp.condF (b := false) rfl rfl ?_
    refine Awp.skip ?_
    refine Awp.regionP C ?_
    refine rvP C (.pv (.lit (.int .i64 (IntKind.i64.wrap ((i : Int) + 1))))) ?_
    refine rvP C (.pv (.lit (.int .i64 (IntKind.i64.wrap ((i : Int) + 1))))) ?_
    refine rvc_nil ?_
    refine ⟨h3, most, ?_, ?_⟩
    · exact hR
    · exact ⟨fun b => b, WeakerR.ofL (Ks := [3]) hI ⟨⟨rfl, rfl⟩, ⟨rfl, rfl⟩, ⟨rfl, rfl⟩, ⟨rfl, rfl⟩, ⟨rfl, rfl⟩, ⟨lit_cast (wrap_i64 (by omega) (by omega)), rfl⟩, trivial⟩ (okH_cons rfl rfl rfl rfl (okH_nil)) rfl⟩
  ·
   replace hR := of_false h5 hR
   refine rvS ?_
   refine rvS ?_
   refine rvP C (.pv (.lit (.bool false))) ?_
   refine rvP C (.pv (.lit (.bool false))) ?_
   refine rvS ?_
   refine rvS ?_
   refine rvS ?_
   refine rvS ?_
   refine rvP C (.pv (.lit (.bool false))) ?_
   refine rvP C (.pv (.lit (.bool false))) ?_
   refine rvS ?_
   refine rvS ?_
   refine rvS ?_
   refine rvS ?_
   refine rvP C (.pv (.lit (.bool false))) ?_
   refine rvc_nil ?_
   refine Awp.condF (b := false) rfl rfl ?_
   refine Awp.skip ?_
   refine Awp.regionP C ?_
   refine rvP C (.pv (.lit (.int .i64 (IntKind.i64.wrap ((i : Int) + 1))))) ?_
   refine rvP C (.pv (.lit (.int .i64 (IntKind.i64.wrap ((i : Int) + 1))))) ?_
   refine rvc_nil ?_
   refine ⟨h3, most, ?_, ?_⟩
   · exact hR
   · exact ⟨fun b => b, WeakerR.ofL (Ks := [3]) hI ⟨⟨rfl, rfl⟩, ⟨rfl, rfl⟩, ⟨rfl, rfl⟩, ⟨rfl, rfl⟩, ⟨rfl, rfl⟩, ⟨lit_cast (wrap_i64 (by omega) (by omega)), rfl⟩, trivial⟩ (okH_cons rfl rfl rfl rfl (okH_nil)) rfl⟩
 ·
  have h3 : ¬ i < calls.D.length := by have := of_decide_eq_false h2; omega
  rw [drop_end h3] at hR
  refine Awp.exit ?_
  refine Awp.consP C ?_
  refine rvP C (.pv (.lit (.int .i64 most))) ?_
  refine rvP C (.pv (.lit (.int .i64 most))) ?_
  refine rvc_nil ?_
  refine Awp.ret ?_
  subst hR
  exact ⟨.inl rfl, rfl⟩
def boundsF (c : Call) (c0 : (Sl Call)) : Bool :=
  (bif (!c.write) then (bif (c.mode == 1) then (bif (jAnswered c) then (bif (decide ((jAhead c.key c.began c0) > c.ver)) then (bif (decide (c.bound < 0)) then true else (decide ((IntKind.u64.wrap ((IntKind.u64.wrap (jAhead c.key c.began c0)) - (IntKind.u64.wrap c.ver))) > (IntKind.u64.wrap c.bound)))) else false) else false) else false) else false)
theorem boundsF_calls (c : Call) (c0 : (Sl Call)) (hc : c0.D.length ≤ 1000000) : PCalls Try.prog 40 [.agg [.pv (.lit (.int .i64 c.client)), .pv (.lit (.int .i64 c.seq)), .pv (.lit (.bool c.write)), .pv (.lit (.int .u8 (c.key 0))), .pv (.lit (.int .u8 (c.key 1))), .pv (.lit (.int .u8 (c.key 2))), .pv (.lit (.int .u8 (c.key 3))), .pv (.lit (.int .u8 (c.key 4))), .pv (.lit (.int .u8 (c.key 5))), .pv (.lit (.int .u8 (c.key 6))), .pv (.lit (.int .u8 (c.key 7))), .pv (.lit (.string c.value)), .pv (.lit (.int .i64 c.mode)), .pv (.lit (.int .i64 c.bound)), .pv (.lit (.int .i64 c.began)), .pv (.lit (.int .i64 c.ended)), .pv (.lit (.int .i64 c.ver)), .pv (.lit (.int .i64 c.err)), .pv (.lit (.int .i64 c.floor))], .rp [.sl (some c0.nil) c0.D.length (encL eCall c0.D)]] (.pv (.lit (.bool (boundsF c c0)))) := by
 generalize hR : boundsF c c0 = R
 refine PCalls.of_body tabOk Try.func40 rfl rfl rfl rfl rfl mixed fun E hP C hI => ?_
 refine Awp.consP C ?_
 refine rvc_un (rexec_prim C (δ := { v := .ptr 2 0, new := [(2, .cells [.pv (.lit (.int .i64 c.client)), .pv (.lit (.int .i64 c.seq)), .pv (.lit (.bool c.write)), .pv (.lit (.int .u8 (c.key 0))), .pv (.lit (.int .u8 (c.key 1))), .pv (.lit (.int .u8 (c.key 2))), .pv (.lit (.int .u8 (c.key 3))), .pv (.lit (.int .u8 (c.key 4))), .pv (.lit (.int .u8 (c.key 5))), .pv (.lit (.int .u8 (c.key 6))), .pv (.lit (.int .u8 (c.key 7))), .pv (.lit (.string c.value)), .pv (.lit (.int .i64 c.mode)), .pv (.lit (.int .i64 c.bound)), .pv (.lit (.int .i64 c.began)), .pv (.lit (.int .i64 c.ended)), .pv (.lit (.int .i64 c.ver)), .pv (.lit (.int .i64 c.err)), .pv (.lit (.int .i64 c.floor))])] }) rfl rfl rfl rfl trivial rfl ?_)
 refine rvP C (.pv (.lit (.bool false))) ?_
 refine rvc_nil ?_
 refine Awp.consP C ?_
 refine rvP C (.ptr 2 3) ?_
 refine rvP C (.agg [.pv (.lit (.int .u8 (c.key 0))), .pv (.lit (.int .u8 (c.key 1))), .pv (.lit (.int .u8 (c.key 2))), .pv (.lit (.int .u8 (c.key 3))), .pv (.lit (.int .u8 (c.key 4))), .pv (.lit (.int .u8 (c.key 5))), .pv (.lit (.int .u8 (c.key 6))), .pv (.lit (.int .u8 (c.key 7)))]) ?_
 refine rvP C (.ptr 2 14) ?_
 refine rvP C (.pv (.lit (.int .i64 c.began))) ?_
 refine rvP C (sS (some c0.nil) eCall c0.D) ?_
 refine rvc_un (rexec_call hP C rfl rfl rfl (jAhead_calls c.key c.began c0 (by show c0.D.length ≤ 1000000; omega)) ?_)
 refine rvP C (.pv (.lit (.int .i64 (jAhead c.key c.began c0)))) ?_
 refine rvc_nil ?_
 refine Awp.consP C ?_
 refine rvP C (.ptr 2 2) ?_
 refine rvP C (.pv (.lit (.bool c.write))) ?_
 refine rvP C (.pv (.lit (.bool (!c.write)))) ?_
 refine rvP C (.pv (.lit (.bool (!c.write)))) ?_
 refine rvc_case 14 (!c.write) rfl (fun h1 => ?_) (fun h1 => ?_)
 ·
  replace hR := of_true h1 hR
  refine rvO C (.ptr 2 12) ?_
  refine rvO C (.pv (.lit (.int .i64 c.mode))) ?_
  refine rvO C (.pv (.lit (.bool (c.mode == 1)))) ?_
  refine rvP C (.pv (.lit (.bool (c.mode == 1)))) ?_
  refine rvP C (.pv (.lit (.bool (c.mode == 1)))) ?_
  refine rvc_case 19 (c.mode == 1) rfl (fun h2 => ?_) (fun h2 => ?_)
  ·
   replace hR := of_true h2 hR
   refine rvO C (.agg [.pv (.lit (.int .i64 c.client)), .pv (.lit (.int .i64 c.seq)), .pv (.lit (.bool c.write)), .pv (.lit (.int .u8 (c.key 0))), .pv (.lit (.int .u8 (c.key 1))), .pv (.lit (.int .u8 (c.key 2))), .pv (.lit (.int .u8 (c.key 3))), .pv (.lit (.int .u8 (c.key 4))), .pv (.lit (.int .u8 (c.key 5))), .pv (.lit (.int .u8 (c.key 6))), .pv (.lit (.int .u8 (c.key 7))), .pv (.lit (.string c.value)), .pv (.lit (.int .i64 c.mode)), .pv (.lit (.int .i64 c.bound)), .pv (.lit (.int .i64 c.began)), .pv (.lit (.int .i64 c.ended)), .pv (.lit (.int .i64 c.ver)), .pv (.lit (.int .i64 c.err)), .pv (.lit (.int .i64 c.floor))]) ?_
   refine rvc_open rfl rfl rfl (rexec_call hP C rfl rfl rfl (jAnswered_calls c) ?_)
   refine rvP C (.pv (.lit (.bool (jAnswered c)))) ?_
   refine rvP C (.pv (.lit (.bool (jAnswered c)))) ?_
   refine rvc_case 23 (jAnswered c) rfl (fun h3 => ?_) (fun h3 => ?_)
   ·
    replace hR := of_true h3 hR
    refine rvO C (.pv (.lit (.int .i64 (jAhead c.key c.began c0)))) ?_
    refine rvO C (.ptr 2 16) ?_
    refine rvO C (.pv (.lit (.int .i64 c.ver))) ?_
    refine rvO C (.pv (.lit (.bool (decide ((jAhead c.key c.began c0) > c.ver))))) ?_
    refine rvP C (.pv (.lit (.bool (decide ((jAhead c.key c.began c0) > c.ver))))) ?_
    refine rvP C (.pv (.lit (.bool (decide ((jAhead c.key c.began c0) > c.ver))))) ?_
    refine rvc_case 29 (decide ((jAhead c.key c.began c0) > c.ver)) rfl (fun h4 => ?_) (fun h4 => ?_)
    ·
     replace hR := of_true h4 hR
     refine rvO C (.ptr 2 13) ?_
     refine rvO C (.pv (.lit (.int .i64 c.bound))) ?_
     refine rvO C (.pv (.lit (.bool (decide (c.bound < 0))))) ?_
     refine rvO C (.pv (.lit (.bool (decide (c.bound < 0))))) ?_
     refine rvc_case 33 (decide (c.bound < 0)) rfl (fun h5 => ?_) (fun h5 => ?_)
     ·
      replace hR := of_true h5 hR
      refine rvS ?_
      refine rvS ?_
      refine rvS ?_
      refine rvS ?_
      refine rvS ?_
      refine rvS ?_
      refine rvS ?_
      refine rvS ?_
      refine rvS ?_
      refine rvS ?_
      refine rvO C (.pv (.lit (.bool true))) ?_
      refine rvP C (.pv (.lit (.bool true))) ?_
      refine rvP C (.pv (.lit (.bool true))) ?_
      refine rvc_nil ?_
      refine Awp.ret ?_
      subst hR
      exact ⟨.inl rfl, rfl⟩
     ·
      replace hR := of_false h5 hR
      refine rvO C (.pv (.lit (.int .i64 (jAhead c.key c.began c0)))) ?_
      refine rvO C (.pv (.lit (.int .u64 (IntKind.u64.wrap (jAhead c.key c.began c0))))) ?_
      refine rvO C (.ptr 2 16) ?_
      refine rvO C (.pv (.lit (.int .i64 c.ver))) ?_
      refine rvO C (.pv (.lit (.int .u64 (IntKind.u64.wrap c.ver)))) ?_
      refine rvO C (.pv (.lit (.int .u64 (IntKind.u64.wrap ((IntKind.u64.wrap (jAhead c.key c.began c0)) - (IntKind.u64.wrap c.ver)))))) ?_
      refine rvO C (.ptr 2 13) ?_
      refine rvO C (.pv (.lit (.int .i64 c.bound))) ?_
      refine rvO C (.pv (.lit (.int .u64 (IntKind.u64.wrap c.bound)))) ?_
      refine rvO C (.pv (.lit (.bool (decide ((IntKind.u64.wrap ((IntKind.u64.wrap (jAhead c.key c.began c0)) - (IntKind.u64.wrap c.ver))) > (IntKind.u64.wrap c.bound)))))) ?_
      refine rvO C (.pv (.lit (.bool (decide ((IntKind.u64.wrap ((IntKind.u64.wrap (jAhead c.key c.began c0)) - (IntKind.u64.wrap c.ver))) > (IntKind.u64.wrap c.bound)))))) ?_
      refine rvP C (.pv (.lit (.bool (decide ((IntKind.u64.wrap ((IntKind.u64.wrap (jAhead c.key c.began c0)) - (IntKind.u64.wrap c.ver))) > (IntKind.u64.wrap c.bound)))))) ?_
      refine rvP C (.pv (.lit (.bool (decide ((IntKind.u64.wrap ((IntKind.u64.wrap (jAhead c.key c.began c0)) - (IntKind.u64.wrap c.ver))) > (IntKind.u64.wrap c.bound)))))) ?_
      refine rvc_nil ?_
      refine Awp.ret ?_
      subst hR
      exact ⟨.inl rfl, rfl⟩
    ·
     replace hR := of_false h4 hR
     refine rvS ?_
     refine rvS ?_
     refine rvS ?_
     refine rvS ?_
     refine rvc_shutU rfl rfl rfl ?_
     refine rvc_shutU rfl rfl rfl ?_
     refine rvc_shutU rfl rfl rfl ?_
     refine rvc_shutU rfl rfl rfl ?_
     refine rvc_shutU rfl rfl rfl ?_
     refine rvc_shutU rfl rfl rfl ?_
     refine rvc_shutU rfl rfl rfl ?_
     refine rvc_shutU rfl rfl rfl ?_
     refine rvc_shutU rfl rfl rfl ?_
     refine rvc_shutU rfl rfl rfl ?_
     refine rvS ?_
     refine rvP C (.pv (.lit (.bool false))) ?_
     refine rvP C (.pv (.lit (.bool false))) ?_
     refine rvc_nil ?_
     refine Awp.ret ?_
     subst hR
     exact ⟨.inl rfl, rfl⟩
   ·
    replace hR := of_false h3 hR
    refine rvS ?_
    refine rvS ?_
    refine rvS ?_
    refine rvS ?_
    refine rvP C (.pv (.lit (.bool false))) ?_
    refine rvP C (.pv (.lit (.bool false))) ?_
    refine rvS ?_
    refine rvS ?_
    refine rvS ?_
    refine rvS ?_
    refine rvc_shutU rfl rfl rfl ?_
    refine rvc_shutU rfl rfl rfl ?_
    refine rvc_shutU rfl rfl rfl ?_
    refine rvc_shutU rfl rfl rfl ?_
    refine rvc_shutU rfl rfl rfl ?_
    refine rvc_shutU rfl rfl rfl ?_
    refine rvc_shutU rfl rfl rfl ?_
    refine rvc_shutU rfl rfl rfl ?_
    refine rvc_shutU rfl rfl rfl ?_
    refine rvc_shutU rfl rfl rfl ?_
    refine rvS ?_
    refine rvP C (.pv (.lit (.bool false))) ?_
    refine rvP C (.pv (.lit (.bool false))) ?_
    refine rvc_nil ?_
    refine Awp.ret ?_
    subst hR
    exact ⟨.inl rfl, rfl⟩
  ·
   replace hR := of_false h2 hR
   refine rvS ?_
   refine rvS ?_
   refine rvP C (.pv (.lit (.bool false))) ?_
   refine rvP C (.pv (.lit (.bool false))) ?_
   refine rvS ?_
   refine rvS ?_
   refine rvS ?_
   refine rvS ?_
   refine rvP C (.pv (.lit (.bool false))) ?_
   refine rvP C (.pv (.lit (.bool false))) ?_
   refine rvS ?_
   refine rvS ?_
   refine rvS ?_
   refine rvS ?_
   refine rvc_shutU rfl rfl rfl ?_
   refine rvc_shutU rfl rfl rfl ?_
   refine rvc_shutU rfl rfl rfl ?_
   refine rvc_shutU rfl rfl rfl ?_
   refine rvc_shutU rfl rfl rfl ?_
   refine rvc_shutU rfl rfl rfl ?_
   refine rvc_shutU rfl rfl rfl ?_
   refine rvc_shutU rfl rfl rfl ?_
   refine rvc_shutU rfl rfl rfl ?_
   refine rvc_shutU rfl rfl rfl ?_
   refine rvS ?_
   refine rvP C (.pv (.lit (.bool false))) ?_
   refine rvP C (.pv (.lit (.bool false))) ?_
   refine rvc_nil ?_
   refine Awp.ret ?_
   subst hR
   exact ⟨.inl rfl, rfl⟩
 ·
  replace hR := of_false h1 hR
  refine rvS ?_
  refine rvS ?_
  refine rvS ?_
  refine rvP C (.pv (.lit (.bool false))) ?_
  refine rvP C (.pv (.lit (.bool false))) ?_
  refine rvS ?_
  refine rvS ?_
  refine rvP C (.pv (.lit (.bool false))) ?_
  refine rvP C (.pv (.lit (.bool false))) ?_
  refine rvS ?_
  refine rvS ?_
  refine rvS ?_
  refine rvS ?_
  refine rvP C (.pv (.lit (.bool false))) ?_
  refine rvP C (.pv (.lit (.bool false))) ?_
  refine rvS ?_
  refine rvS ?_
  refine rvS ?_
  refine rvS ?_
  refine rvc_shutU rfl rfl rfl ?_
  refine rvc_shutU rfl rfl rfl ?_
  refine rvc_shutU rfl rfl rfl ?_
  refine rvc_shutU rfl rfl rfl ?_
  refine rvc_shutU rfl rfl rfl ?_
  refine rvc_shutU rfl rfl rfl ?_
  refine rvc_shutU rfl rfl rfl ?_
  refine rvc_shutU rfl rfl rfl ?_
  refine rvc_shutU rfl rfl rfl ?_
  refine rvc_shutU rfl rfl rfl ?_
  refine rvS ?_
  refine rvP C (.pv (.lit (.bool false))) ?_
  refine rvP C (.pv (.lit (.bool false))) ?_
  refine rvc_nil ?_
  refine Awp.ret ?_
  subst hR
  exact ⟨.inl rfl, rfl⟩
def sessF (c : Call) : Bool :=
  (bif (!c.write) then (bif (c.mode == 2) then (bif (jAnswered c) then (decide (c.ver < c.floor)) else false) else false) else false)
theorem sessF_calls (c : Call)  : PCalls Try.prog 42 [.agg [.pv (.lit (.int .i64 c.client)), .pv (.lit (.int .i64 c.seq)), .pv (.lit (.bool c.write)), .pv (.lit (.int .u8 (c.key 0))), .pv (.lit (.int .u8 (c.key 1))), .pv (.lit (.int .u8 (c.key 2))), .pv (.lit (.int .u8 (c.key 3))), .pv (.lit (.int .u8 (c.key 4))), .pv (.lit (.int .u8 (c.key 5))), .pv (.lit (.int .u8 (c.key 6))), .pv (.lit (.int .u8 (c.key 7))), .pv (.lit (.string c.value)), .pv (.lit (.int .i64 c.mode)), .pv (.lit (.int .i64 c.bound)), .pv (.lit (.int .i64 c.began)), .pv (.lit (.int .i64 c.ended)), .pv (.lit (.int .i64 c.ver)), .pv (.lit (.int .i64 c.err)), .pv (.lit (.int .i64 c.floor))]] (.pv (.lit (.bool (sessF c)))) := by
 generalize hR : sessF c = R
 refine PCalls.of_body tabOk Try.func42 rfl rfl rfl rfl rfl mixed fun E hP C hI => ?_
 refine Awp.consP C ?_
 refine rvc_un (rexec_prim C (δ := { v := .ptr 1 0, new := [(1, .cells [.pv (.lit (.int .i64 c.client)), .pv (.lit (.int .i64 c.seq)), .pv (.lit (.bool c.write)), .pv (.lit (.int .u8 (c.key 0))), .pv (.lit (.int .u8 (c.key 1))), .pv (.lit (.int .u8 (c.key 2))), .pv (.lit (.int .u8 (c.key 3))), .pv (.lit (.int .u8 (c.key 4))), .pv (.lit (.int .u8 (c.key 5))), .pv (.lit (.int .u8 (c.key 6))), .pv (.lit (.int .u8 (c.key 7))), .pv (.lit (.string c.value)), .pv (.lit (.int .i64 c.mode)), .pv (.lit (.int .i64 c.bound)), .pv (.lit (.int .i64 c.began)), .pv (.lit (.int .i64 c.ended)), .pv (.lit (.int .i64 c.ver)), .pv (.lit (.int .i64 c.err)), .pv (.lit (.int .i64 c.floor))])] }) rfl rfl rfl rfl trivial rfl ?_)
 refine rvP C (.pv (.lit (.bool false))) ?_
 refine rvc_nil ?_
 refine Awp.consP C ?_
 refine rvP C (.ptr 1 2) ?_
 refine rvP C (.pv (.lit (.bool c.write))) ?_
 refine rvP C (.pv (.lit (.bool (!c.write)))) ?_
 refine rvP C (.pv (.lit (.bool (!c.write)))) ?_
 refine rvc_case 6 (!c.write) rfl (fun h1 => ?_) (fun h1 => ?_)
 ·
  replace hR := of_true h1 hR
  refine rvO C (.ptr 1 12) ?_
  refine rvO C (.pv (.lit (.int .i64 c.mode))) ?_
  refine rvO C (.pv (.lit (.bool (c.mode == 2)))) ?_
  refine rvP C (.pv (.lit (.bool (c.mode == 2)))) ?_
  refine rvP C (.pv (.lit (.bool (c.mode == 2)))) ?_
  refine rvc_case 11 (c.mode == 2) rfl (fun h2 => ?_) (fun h2 => ?_)
  ·
   replace hR := of_true h2 hR
   refine rvO C (.agg [.pv (.lit (.int .i64 c.client)), .pv (.lit (.int .i64 c.seq)), .pv (.lit (.bool c.write)), .pv (.lit (.int .u8 (c.key 0))), .pv (.lit (.int .u8 (c.key 1))), .pv (.lit (.int .u8 (c.key 2))), .pv (.lit (.int .u8 (c.key 3))), .pv (.lit (.int .u8 (c.key 4))), .pv (.lit (.int .u8 (c.key 5))), .pv (.lit (.int .u8 (c.key 6))), .pv (.lit (.int .u8 (c.key 7))), .pv (.lit (.string c.value)), .pv (.lit (.int .i64 c.mode)), .pv (.lit (.int .i64 c.bound)), .pv (.lit (.int .i64 c.began)), .pv (.lit (.int .i64 c.ended)), .pv (.lit (.int .i64 c.ver)), .pv (.lit (.int .i64 c.err)), .pv (.lit (.int .i64 c.floor))]) ?_
   refine rvc_open rfl rfl rfl (rexec_call hP C rfl rfl rfl (jAnswered_calls c) ?_)
   refine rvP C (.pv (.lit (.bool (jAnswered c)))) ?_
   refine rvP C (.pv (.lit (.bool (jAnswered c)))) ?_
   refine rvc_case 15 (jAnswered c) rfl (fun h3 => ?_) (fun h3 => ?_)
   ·
    replace hR := of_true h3 hR
    refine rvO C (.ptr 1 16) ?_
    refine rvO C (.pv (.lit (.int .i64 c.ver))) ?_
    refine rvO C (.ptr 1 18) ?_
    refine rvO C (.pv (.lit (.int .i64 c.floor))) ?_
    refine rvO C (.pv (.lit (.bool (decide (c.ver < c.floor))))) ?_
    refine rvP C (.pv (.lit (.bool (decide (c.ver < c.floor))))) ?_
    refine rvP C (.pv (.lit (.bool (decide (c.ver < c.floor))))) ?_
    refine rvc_nil ?_
    refine Awp.ret ?_
    subst hR
    exact ⟨.inl rfl, rfl⟩
   ·
    replace hR := of_false h3 hR
    refine rvS ?_
    refine rvS ?_
    refine rvS ?_
    refine rvS ?_
    refine rvS ?_
    refine rvP C (.pv (.lit (.bool false))) ?_
    refine rvP C (.pv (.lit (.bool false))) ?_
    refine rvc_nil ?_
    refine Awp.ret ?_
    subst hR
    exact ⟨.inl rfl, rfl⟩
  ·
   replace hR := of_false h2 hR
   refine rvS ?_
   refine rvS ?_
   refine rvP C (.pv (.lit (.bool false))) ?_
   refine rvP C (.pv (.lit (.bool false))) ?_
   refine rvS ?_
   refine rvS ?_
   refine rvS ?_
   refine rvS ?_
   refine rvS ?_
   refine rvP C (.pv (.lit (.bool false))) ?_
   refine rvP C (.pv (.lit (.bool false))) ?_
   refine rvc_nil ?_
   refine Awp.ret ?_
   subst hR
   exact ⟨.inl rfl, rfl⟩
 ·
  replace hR := of_false h1 hR
  refine rvS ?_
  refine rvS ?_
  refine rvS ?_
  refine rvP C (.pv (.lit (.bool false))) ?_
  refine rvP C (.pv (.lit (.bool false))) ?_
  refine rvS ?_
  refine rvS ?_
  refine rvP C (.pv (.lit (.bool false))) ?_
  refine rvP C (.pv (.lit (.bool false))) ?_
  refine rvS ?_
  refine rvS ?_
  refine rvS ?_
  refine rvS ?_
  refine rvS ?_
  refine rvP C (.pv (.lit (.bool false))) ?_
  refine rvP C (.pv (.lit (.bool false))) ?_
  refine rvc_nil ?_
  refine Awp.ret ?_
  subst hR
  exact ⟨.inl rfl, rfl⟩
structure Op where
  write : Bool
  value : ByteArray
  ver : Int
  began : Int
  ended : Int
  deriving Inhabited
def eOp : Enc Op := ⟨5, fun x => [.lit (.bool x.write), .lit (.string x.value), .lit (.int .i64 x.ver), .lit (.int .i64 x.began), .lit (.int .i64 x.ended)], fun _ => rfl⟩
def jOps_l0 (k : (Nat → Int)) (recs : (Sl Record)) : List Call → Nat → (List Op) → (Sl Op)
  | [], _, l => (Sl.mk l.isEmpty l)
  | x :: xs, i, l => (bif (!(((x.key 0) == (k 0)) && (((x.key 1) == (k 1)) && (((x.key 2) == (k 2)) && (((x.key 3) == (k 3)) && (((x.key 4) == (k 4)) && (((x.key 5) == (k 5)) && (((x.key 6) == (k 6)) && (((x.key 7) == (k 7)) && true))))))))) then jOps_l0 k recs xs (i + 1) l else (bif (!(jCounts x)) then jOps_l0 k recs xs (i + 1) l else (bif (!x.write) then (bif (!(jAnswered x)) then jOps_l0 k recs xs (i + 1) l else (bif x.write then jOps_l0 k recs xs (i + 1) (l ++ [(Op.mk x.write x.value x.ver x.began x.ended)]) else jOps_l0 k recs xs (i + 1) (l ++ [(Op.mk x.write x.value x.ver x.began x.ended)]))) else (bif x.write then (bif (!(jAnswered x)) then jOps_l0 k recs xs (i + 1) (l ++ [(Op.mk x.write x.value (((mGet kReq (jReq x) ((openB recs).req)).getD zeroR).ver) x.began 0)]) else jOps_l0 k recs xs (i + 1) (l ++ [(Op.mk x.write x.value x.ver x.began x.ended)])) else jOps_l0 k recs xs (i + 1) (l ++ [(Op.mk x.write x.value x.ver x.began x.ended)])))))
def jOps (k : (Nat → Int)) (calls : (Sl Call)) (recs : (Sl Record)) : (Sl Op) :=
  jOps_l0 k recs calls.D 0 []
theorem jOps_calls (k : (Nat → Int)) (calls : (Sl Call)) (recs : (Sl Record)) (hl1 : recs.D.length ≤ 1000000) (hl2 : calls.D.length ≤ 1000000) : PCalls Try.prog 25 [.agg [.pv (.lit (.int .u8 (k 0))), .pv (.lit (.int .u8 (k 1))), .pv (.lit (.int .u8 (k 2))), .pv (.lit (.int .u8 (k 3))), .pv (.lit (.int .u8 (k 4))), .pv (.lit (.int .u8 (k 5))), .pv (.lit (.int .u8 (k 6))), .pv (.lit (.int .u8 (k 7)))], sS (some calls.nil) eCall calls.D, sS (some recs.nil) eRecord recs.D] (sS (some (jOps k calls recs).nil) eOp ((jOps k calls recs).D)) := by
 generalize hR : jOps k calls recs = R
 refine PCalls.of_body tabOk Try.func25 rfl rfl rfl rfl rfl mixed fun E hP C hI => ?_
 refine Awp.consP C ?_
 refine rvc_un (rexec_prim C (δ := { v := .ptr 3 0, new := [(3, .cells [.pv (.lit (.int .u8 (k 0))), .pv (.lit (.int .u8 (k 1))), .pv (.lit (.int .u8 (k 2))), .pv (.lit (.int .u8 (k 3))), .pv (.lit (.int .u8 (k 4))), .pv (.lit (.int .u8 (k 5))), .pv (.lit (.int .u8 (k 6))), .pv (.lit (.int .u8 (k 7)))])] }) rfl rfl rfl rfl trivial rfl ?_)
 refine rvP C (sS (some true) eOp []) ?_
 refine rvc_nil ?_
 refine Awp.cons C (fun _ => .quiet) (by kernel_rfl) ?_
 refine rvP C (sS (some recs.nil) eRecord recs.D) ?_
 refine rvc_un (rexec_callMaps hP C 513 rfl rfl rfl rfl rfl rfl (openB_calls recs hl1) ?_)
 refine rvc_un (rexec_prim C (δ := { v := .ptr 7 0, new := [(7, .cells [.pv (.lit (.map none)), .pv (.lit (.map none))])] }) rfl rfl rfl rfl trivial rfl ?_)
 refine rvc_un (rexec_prim C (δ := { v := .undef, wr := [(7, some (.cells [.mp 13, .mp 513]))] }) rfl rfl rfl rfl trivial rfl ?_)
 refine rvc_nil ?_
 refine Awp.consP C ?_
 refine rvP C (sS (some true) eOp []) ?_
 refine rvc_nil ?_
 refine Awp.seq ?_
 refine Awp.consP C ?_
 refine rvP C (sS (some calls.nil) eCall calls.D) ?_
 refine rvP C (.pv (.lit (.int .i64 (calls.D.length : Int)))) ?_
 refine rvP C (.pv (.lit (.int .i64 0))) ?_
 refine rvc_nil ?_
 refine Awp.block ?_
 refine Awp.forR (σ := ((List Op))) (calls.D.length) (fun i v => [(3, .ptr 3 0), (7, .ptr 7 0), (8, grow 900 eOp v), (14, sS (some calls.nil) eCall calls.D), (15, .pv (.lit (.int .i64 (calls.D.length : Int)))), (16, .pv (.lit (.int .i64 (i : Int))))]) (fun i v => (growH 900 eOp v ++ ([(3, .cells [.pv (.lit (.int .u8 (k 0))), .pv (.lit (.int .u8 (k 1))), .pv (.lit (.int .u8 (k 2))), .pv (.lit (.int .u8 (k 3))), .pv (.lit (.int .u8 (k 4))), .pv (.lit (.int .u8 (k 5))), .pv (.lit (.int .u8 (k 6))), .pv (.lit (.int .u8 (k 7)))]), (13, mapE kSlot vRecord.enc ((openB recs).of_)), (513, mapE kReq vRecord.enc ((openB recs).req)), (7, .cells [.mp 13, .mp 513])]))) [3, 7, 13, 513, 900] (fun i v => (jOps_l0 k recs (calls.D.drop i) i v = R) ∧ (v.length ≤ i)) [] ?_ ?_ (fun i l h1 hR => ?_)
 · exact ⟨hR, (by first | omega | (simp <;> omega))⟩
 · exact ⟨fun b => b, WeakerR.ofL (Ks := [3, 7, 13, 513, 900]) hI ⟨⟨rfl, rfl⟩, ⟨rfl, rfl⟩, ⟨rfl, rfl⟩, ⟨rfl, rfl⟩, ⟨rfl, rfl⟩, ⟨rfl, rfl⟩, trivial⟩ (okH_grow (fun hne => absurd rfl hne) rfl rfl (okH_cons rfl rfl rfl rfl (okH_map rfl rfl rfl (okH_map rfl rfl rfl (okH_cons rfl rfl rfl rfl (okH_nil)))))) rfl⟩
 obtain ⟨hR, hi_l⟩ := hR
 replace hi_l : l.length ≤ i := hi_l
 by_cases h2 : l = []
 ·
  refine Awp.wordsR [(3, .ptr 3 0), (7, .ptr 7 0), (8, sS (some l.isEmpty) eOp l), (14, sS (some calls.nil) eCall calls.D), (15, .pv (.lit (.int .i64 (calls.D.length : Int)))), (16, .pv (.lit (.int .i64 (i : Int))))] [(3, .cells [.pv (.lit (.int .u8 (k 0))), .pv (.lit (.int .u8 (k 1))), .pv (.lit (.int .u8 (k 2))), .pv (.lit (.int .u8 (k 3))), .pv (.lit (.int .u8 (k 4))), .pv (.lit (.int .u8 (k 5))), .pv (.lit (.int .u8 (k 6))), .pv (.lit (.int .u8 (k 7)))]), (13, mapE kSlot vRecord.enc ((openB recs).of_)), (513, mapE kReq vRecord.enc ((openB recs).req)), (7, .cells [.mp 13, .mp 513])] [3, 7, 13, 513] (WeakerR.ofL (Ks := [3, 7, 13, 513]) hI ⟨⟨rfl, rfl⟩, ⟨rfl, rfl⟩, ⟨(by exact grow_at_nil (b := 900) (e := eOp) (l := l) rfl h2), rfl⟩, ⟨rfl, rfl⟩, ⟨rfl, rfl⟩, ⟨rfl, rfl⟩, trivial⟩ (okH_cons (look_nil h2 rfl) rfl rfl rfl (okH_map (look_nil h2 rfl) rfl rfl (okH_map (look_nil h2 rfl) rfl rfl (okH_cons (look_nil h2 rfl) rfl rfl rfl (okH_nil))))) rfl) ?_
  refine Awp.consP C ?_
  refine rvP C (.pv (.lit (.bool (decide ((i : Int) < (calls.D.length : Int)))))) ?_
  refine rvc_nil ?_
  refine Awp.seq ?_
  refine Awp.cond (b := (decide ((i : Int) < (calls.D.length : Int)))) rfl (fun h3 => ?_) (fun h3 => ?_)
  ·
   have h4 : i < calls.D.length := by have := of_decide_eq_true h3; omega
   obtain ⟨x, h5⟩ := getX h4
   rw [drop_at h5] at hR
   refine Awp.skip ?_
   refine Awp.seq ?_
   refine Awp.block ?_
   refine Awp.consP C ?_
   refine rvc_un (rexec_idxS C rfl rfl rfl rfl rfl rfl x (Int.natCast_nonneg _) h5 ?_)
   refine rvP C (.agg [.pv (.lit (.int .i64 x.client)), .pv (.lit (.int .i64 x.seq)), .pv (.lit (.bool x.write)), .pv (.lit (.int .u8 (x.key 0))), .pv (.lit (.int .u8 (x.key 1))), .pv (.lit (.int .u8 (x.key 2))), .pv (.lit (.int .u8 (x.key 3))), .pv (.lit (.int .u8 (x.key 4))), .pv (.lit (.int .u8 (x.key 5))), .pv (.lit (.int .u8 (x.key 6))), .pv (.lit (.int .u8 (x.key 7))), .pv (.lit (.string x.value)), .pv (.lit (.int .i64 x.mode)), .pv (.lit (.int .i64 x.bound)), .pv (.lit (.int .i64 x.began)), .pv (.lit (.int .i64 x.ended)), .pv (.lit (.int .i64 x.ver)), .pv (.lit (.int .i64 x.err)), .pv (.lit (.int .i64 x.floor))]) ?_
   refine rvc_un (rexec_prim C (δ := { v := .ptr 10 0, new := [(10, .cells [.pv (.lit (.int .i64 0)), .pv (.lit (.int .i64 0)), .pv (.lit (.bool false)), .pv (.lit (.int .u8 0)), .pv (.lit (.int .u8 0)), .pv (.lit (.int .u8 0)), .pv (.lit (.int .u8 0)), .pv (.lit (.int .u8 0)), .pv (.lit (.int .u8 0)), .pv (.lit (.int .u8 0)), .pv (.lit (.int .u8 0)), .pv (.lit (.string ⟨#[]⟩)), .pv (.lit (.int .i64 0)), .pv (.lit (.int .i64 0)), .pv (.lit (.int .i64 0)), .pv (.lit (.int .i64 0)), .pv (.lit (.int .i64 0)), .pv (.lit (.int .i64 0)), .pv (.lit (.int .i64 0))])] }) rfl rfl rfl rfl trivial rfl ?_)
   refine rvc_un (rexec_prim C (δ := { v := .undef, wr := [(10, some (.cells [.pv (.lit (.int .i64 x.client)), .pv (.lit (.int .i64 x.seq)), .pv (.lit (.bool x.write)), .pv (.lit (.int .u8 (x.key 0))), .pv (.lit (.int .u8 (x.key 1))), .pv (.lit (.int .u8 (x.key 2))), .pv (.lit (.int .u8 (x.key 3))), .pv (.lit (.int .u8 (x.key 4))), .pv (.lit (.int .u8 (x.key 5))), .pv (.lit (.int .u8 (x.key 6))), .pv (.lit (.int .u8 (x.key 7))), .pv (.lit (.string x.value)), .pv (.lit (.int .i64 x.mode)), .pv (.lit (.int .i64 x.bound)), .pv (.lit (.int .i64 x.began)), .pv (.lit (.int .i64 x.ended)), .pv (.lit (.int .i64 x.ver)), .pv (.lit (.int .i64 x.err)), .pv (.lit (.int .i64 x.floor))]))] }) rfl rfl rfl rfl trivial rfl ?_)
   refine rvc_nil ?_
   refine Awp.seq ?_
   refine Awp.consP C ?_
   refine rvP C (.ptr 10 3) ?_
   refine rvP C (.agg [.pv (.lit (.int .u8 (x.key 0))), .pv (.lit (.int .u8 (x.key 1))), .pv (.lit (.int .u8 (x.key 2))), .pv (.lit (.int .u8 (x.key 3))), .pv (.lit (.int .u8 (x.key 4))), .pv (.lit (.int .u8 (x.key 5))), .pv (.lit (.int .u8 (x.key 6))), .pv (.lit (.int .u8 (x.key 7)))]) ?_
   refine rvP C (.agg [.pv (.lit (.int .u8 (k 0))), .pv (.lit (.int .u8 (k 1))), .pv (.lit (.int .u8 (k 2))), .pv (.lit (.int .u8 (k 3))), .pv (.lit (.int .u8 (k 4))), .pv (.lit (.int .u8 (k 5))), .pv (.lit (.int .u8 (k 6))), .pv (.lit (.int .u8 (k 7)))]) ?_
   refine rvP C (.pv (.lit (.bool (!(((x.key 0) == (k 0)) && (((x.key 1) == (k 1)) && (((x.key 2) == (k 2)) && (((x.key 3) == (k 3)) && (((x.key 4) == (k 4)) && (((x.key 5) == (k 5)) && (((x.key 6) == (k 6)) && (((x.key 7) == (k 7)) && true)))))))))))) ?_
   refine rvP C (.pv (.lit (.bool (!(((x.key 0) == (k 0)) && (((x.key 1) == (k 1)) && (((x.key 2) == (k 2)) && (((x.key 3) == (k 3)) && (((x.key 4) == (k 4)) && (((x.key 5) == (k 5)) && (((x.key 6) == (k 6)) && (((x.key 7) == (k 7)) && true)))))))))))) ?_
   refine rvc_case 24 (!(((x.key 0) == (k 0)) && (((x.key 1) == (k 1)) && (((x.key 2) == (k 2)) && (((x.key 3) == (k 3)) && (((x.key 4) == (k 4)) && (((x.key 5) == (k 5)) && (((x.key 6) == (k 6)) && (((x.key 7) == (k 7)) && true))))))))) rfl (fun h6 => ?_) (fun h6 => ?_)
   ·
    replace hR := of_true h6 hR
    refine rvS ?_
    refine rvS ?_
    refine rvS ?_
    refine rvP C (.pv (.lit (.bool true))) ?_
    refine rvP C (.pv (.lit (.bool true))) ?_
    refine rvS ?_
    refine rvS ?_
    refine rvS ?_
    refine rvS ?_
    refine rvc_shutU rfl rfl rfl ?_
    refine rvc_shutU rfl rfl rfl ?_
    refine rvc_shutU rfl rfl rfl ?_
    refine rvS ?_
    refine rvP C (.pv (.lit (.bool true))) ?_
    refine rvc_nil ?_
    refine Awp.condT (b := true) rfl rfl ?_
    refine Awp.exit ?_
    refine Awp.regionP C ?_
    refine rvP C (.pv (.lit (.int .i64 (IntKind.i64.wrap ((i : Int) + 1))))) ?_
    refine rvP C (.pv (.lit (.int .i64 (IntKind.i64.wrap ((i : Int) + 1))))) ?_
    refine rvc_nil ?_
    refine ⟨h4, l, ?_, ?_⟩
    · exact ⟨hR, (by first | omega | (simp <;> omega))⟩
    · exact ⟨fun b => b, WeakerR.ofL (Ks := [3, 7, 13, 513, 900]) hI ⟨⟨rfl, rfl⟩, ⟨rfl, rfl⟩, ⟨grow_to_nil rfl h2 (.inr rfl), grow_within rfl⟩, ⟨rfl, rfl⟩, ⟨rfl, rfl⟩, ⟨lit_cast (wrap_i64 (by omega) (by omega)), rfl⟩, trivial⟩ (okH_grow (fun hne => absurd h2 hne) rfl rfl (okH_cons rfl rfl rfl rfl (okH_map rfl rfl rfl (okH_map rfl rfl rfl (okH_cons rfl rfl rfl rfl (okH_nil)))))) rfl⟩
   ·
    replace hR := of_false h6 hR
    refine rvO C (.agg [.pv (.lit (.int .i64 x.client)), .pv (.lit (.int .i64 x.seq)), .pv (.lit (.bool x.write)), .pv (.lit (.int .u8 (x.key 0))), .pv (.lit (.int .u8 (x.key 1))), .pv (.lit (.int .u8 (x.key 2))), .pv (.lit (.int .u8 (x.key 3))), .pv (.lit (.int .u8 (x.key 4))), .pv (.lit (.int .u8 (x.key 5))), .pv (.lit (.int .u8 (x.key 6))), .pv (.lit (.int .u8 (x.key 7))), .pv (.lit (.string x.value)), .pv (.lit (.int .i64 x.mode)), .pv (.lit (.int .i64 x.bound)), .pv (.lit (.int .i64 x.began)), .pv (.lit (.int .i64 x.ended)), .pv (.lit (.int .i64 x.ver)), .pv (.lit (.int .i64 x.err)), .pv (.lit (.int .i64 x.floor))]) ?_
    refine rvc_open rfl rfl rfl (rexec_call hP C rfl rfl rfl (jCounts_calls x) ?_)
    refine rvO C (.pv (.lit (.bool (!(jCounts x))))) ?_
    refine rvP C (.pv (.lit (.bool (!(jCounts x))))) ?_
    refine rvP C (.pv (.lit (.bool (!(jCounts x))))) ?_
    refine rvc_case 29 (!(jCounts x)) rfl (fun h7 => ?_) (fun h7 => ?_)
    ·
     replace hR := of_true h7 hR
     refine rvS ?_
     refine rvS ?_
     refine rvS ?_
     refine rvS ?_
     refine rvc_shutU rfl rfl rfl ?_
     refine rvc_shutU rfl rfl rfl ?_
     refine rvc_shutU rfl rfl rfl ?_
     refine rvS ?_
     refine rvP C (.pv (.lit (.bool true))) ?_
     refine rvc_nil ?_
     refine Awp.condT (b := true) rfl rfl ?_
     refine Awp.exit ?_
     refine Awp.regionP C ?_
     refine rvP C (.pv (.lit (.int .i64 (IntKind.i64.wrap ((i : Int) + 1))))) ?_
     refine rvP C (.pv (.lit (.int .i64 (IntKind.i64.wrap ((i : Int) + 1))))) ?_
     refine rvc_nil ?_
     refine ⟨h4, l, ?_, ?_⟩
     · exact ⟨hR, (by first | omega | (simp <;> omega))⟩
     · exact ⟨fun b => b, WeakerR.ofL (Ks := [3, 7, 13, 513, 900]) hI ⟨⟨rfl, rfl⟩, ⟨rfl, rfl⟩, ⟨grow_to_nil rfl h2 (.inr rfl), grow_within rfl⟩, ⟨rfl, rfl⟩, ⟨rfl, rfl⟩, ⟨lit_cast (wrap_i64 (by omega) (by omega)), rfl⟩, trivial⟩ (okH_grow (fun hne => absurd h2 hne) rfl rfl (okH_cons rfl rfl rfl rfl (okH_map rfl rfl rfl (okH_map rfl rfl rfl (okH_cons rfl rfl rfl rfl (okH_nil)))))) rfl⟩
    ·
     replace hR := of_false h7 hR
     refine rvO C (.ptr 10 2) ?_
     refine rvO C (.pv (.lit (.bool x.write))) ?_
     refine rvO C (.pv (.lit (.bool (!x.write)))) ?_
     refine rvO C (.pv (.lit (.bool (!x.write)))) ?_
     refine rvc_case 33 (!x.write) rfl (fun h8 => ?_) (fun h8 => ?_)
     ·
      replace hR := of_true h8 hR
      refine rvO C (.agg [.pv (.lit (.int .i64 x.client)), .pv (.lit (.int .i64 x.seq)), .pv (.lit (.bool x.write)), .pv (.lit (.int .u8 (x.key 0))), .pv (.lit (.int .u8 (x.key 1))), .pv (.lit (.int .u8 (x.key 2))), .pv (.lit (.int .u8 (x.key 3))), .pv (.lit (.int .u8 (x.key 4))), .pv (.lit (.int .u8 (x.key 5))), .pv (.lit (.int .u8 (x.key 6))), .pv (.lit (.int .u8 (x.key 7))), .pv (.lit (.string x.value)), .pv (.lit (.int .i64 x.mode)), .pv (.lit (.int .i64 x.bound)), .pv (.lit (.int .i64 x.began)), .pv (.lit (.int .i64 x.ended)), .pv (.lit (.int .i64 x.ver)), .pv (.lit (.int .i64 x.err)), .pv (.lit (.int .i64 x.floor))]) ?_
      refine rvc_open rfl rfl rfl (rexec_call hP C rfl rfl rfl (jAnswered_calls x) ?_)
      refine rvO C (.pv (.lit (.bool (!(jAnswered x))))) ?_
      refine rvO C (.pv (.lit (.bool (!(jAnswered x))))) ?_
      refine rvP C (.pv (.lit (.bool (!(jAnswered x))))) ?_
      refine rvc_nil ?_
      refine Awp.cond (b := (!(jAnswered x))) rfl (fun h9 => ?_) (fun h9 => ?_)
      ·
       replace hR := of_true h9 hR
       refine Awp.exit ?_
       refine Awp.regionP C ?_
       refine rvP C (.pv (.lit (.int .i64 (IntKind.i64.wrap ((i : Int) + 1))))) ?_
       refine rvP C (.pv (.lit (.int .i64 (IntKind.i64.wrap ((i : Int) + 1))))) ?_
       refine rvc_nil ?_
       refine ⟨h4, l, ?_, ?_⟩
       · exact ⟨hR, (by first | omega | (simp <;> omega))⟩
       · exact ⟨fun b => b, WeakerR.ofL (Ks := [3, 7, 13, 513, 900]) hI ⟨⟨rfl, rfl⟩, ⟨rfl, rfl⟩, ⟨grow_to_nil rfl h2 (.inr rfl), grow_within rfl⟩, ⟨rfl, rfl⟩, ⟨rfl, rfl⟩, ⟨lit_cast (wrap_i64 (by omega) (by omega)), rfl⟩, trivial⟩ (okH_grow (fun hne => absurd h2 hne) rfl rfl (okH_cons rfl rfl rfl rfl (okH_map rfl rfl rfl (okH_map rfl rfl rfl (okH_cons rfl rfl rfl rfl (okH_nil)))))) rfl⟩
      ·
       replace hR := of_false h9 hR
       refine Awp.skip ?_
       refine Awp.consP C ?_
       refine rvP C (.ptr 10 2) ?_
       refine rvP C (.pv (.lit (.bool x.write))) ?_
       refine rvP C (.ptr 10 11) ?_
       refine rvP C (.pv (.lit (.string x.value))) ?_
       refine rvP C (.ptr 10 16) ?_
       refine rvP C (.pv (.lit (.int .i64 x.ver))) ?_
       refine rvP C (.ptr 10 14) ?_
       refine rvP C (.pv (.lit (.int .i64 x.began))) ?_
       refine rvP C (.ptr 10 15) ?_
       refine rvP C (.pv (.lit (.int .i64 x.ended))) ?_
       refine rvP C (.agg [.pv (.lit (.bool x.write)), .pv (.lit (.string x.value)), .pv (.lit (.int .i64 x.ver)), .pv (.lit (.int .i64 x.began)), .pv (.lit (.int .i64 x.ended))]) ?_
       refine rvc_un (rexec_prim C (δ := { v := .ptr 11 0, new := [(11, .cells [.pv (.lit (.bool false)), .pv (.lit (.string ⟨#[]⟩)), .pv (.lit (.int .i64 0)), .pv (.lit (.int .i64 0)), .pv (.lit (.int .i64 0))])] }) rfl rfl rfl rfl trivial rfl ?_)
       refine rvc_un (rexec_prim C (δ := { v := .undef, wr := [(11, some (.cells [.pv (.lit (.bool x.write)), .pv (.lit (.string x.value)), .pv (.lit (.int .i64 x.ver)), .pv (.lit (.int .i64 x.began)), .pv (.lit (.int .i64 x.ended))]))] }) rfl rfl rfl rfl trivial rfl ?_)
       refine rvc_nil ?_
       refine Awp.seq ?_
       refine Awp.consP C ?_
       refine rvP C (.ptr 10 2) ?_
       refine rvP C (.pv (.lit (.bool x.write))) ?_
       refine rvP C (.pv (.lit (.bool x.write))) ?_
       refine rvc_case 52 x.write rfl (fun h10 => ?_) (fun h10 => ?_)
       ·
        replace hR := of_true h10 hR
        refine rvO C (.agg [.pv (.lit (.int .i64 x.client)), .pv (.lit (.int .i64 x.seq)), .pv (.lit (.bool x.write)), .pv (.lit (.int .u8 (x.key 0))), .pv (.lit (.int .u8 (x.key 1))), .pv (.lit (.int .u8 (x.key 2))), .pv (.lit (.int .u8 (x.key 3))), .pv (.lit (.int .u8 (x.key 4))), .pv (.lit (.int .u8 (x.key 5))), .pv (.lit (.int .u8 (x.key 6))), .pv (.lit (.int .u8 (x.key 7))), .pv (.lit (.string x.value)), .pv (.lit (.int .i64 x.mode)), .pv (.lit (.int .i64 x.bound)), .pv (.lit (.int .i64 x.began)), .pv (.lit (.int .i64 x.ended)), .pv (.lit (.int .i64 x.ver)), .pv (.lit (.int .i64 x.err)), .pv (.lit (.int .i64 x.floor))]) ?_
        refine rvc_open rfl rfl rfl (rexec_call hP C rfl rfl rfl (jAnswered_calls x) ?_)
        refine rvO C (.pv (.lit (.bool (!(jAnswered x))))) ?_
        refine rvP C (.pv (.lit (.bool (!(jAnswered x))))) ?_
        refine rvc_nil ?_
        refine Awp.condF (b := (!(jAnswered x))) rfl h9 ?_
        refine Awp.skip ?_
        refine Awp.regionP C ?_
        refine rvP C (sS (some l.isEmpty) eOp l) ?_
        refine rvP C (.agg [.pv (.lit (.bool x.write)), .pv (.lit (.string x.value)), .pv (.lit (.int .i64 x.ver)), .pv (.lit (.int .i64 x.began)), .pv (.lit (.int .i64 x.ended))]) ?_
        refine rvc_un (rexec_buildSliceF C eOp [(Op.mk x.write x.value x.ver x.began x.ended)] rfl rfl rfl rfl rfl rfl rfl (by decide) rfl ?_)
        refine rvc_un (rexec_appendG C rfl rfl rfl rfl rfl rfl rfl rfl (fun _ h => by cases h) rfl (en := eOp) (l := l) (D := [(Op.mk x.write x.value x.ver x.began x.ended)]) rfl rfl h2 (by rw [h2]; rfl) (by simp) (by have := of_decide_eq_true h3; first | omega | (simp <;> omega)) (by decide) (nn := (l ++ [(Op.mk x.write x.value x.ver x.began x.ended)]).length) (by simp <;> omega) ?_)
        refine rvP C (.sl 68 0 ((l ++ [(Op.mk x.write x.value x.ver x.began x.ended)]).length) 5 false) ?_
        refine rvc_nil ?_
        refine Awp.regionP C ?_
        refine rvP C (.pv (.lit (.int .i64 (IntKind.i64.wrap ((i : Int) + 1))))) ?_
        refine rvP C (.pv (.lit (.int .i64 (IntKind.i64.wrap ((i : Int) + 1))))) ?_
        refine rvc_nil ?_
        refine ⟨h4, (l ++ [(Op.mk x.write x.value x.ver x.began x.ended)]), ?_, ?_⟩
        · exact ⟨hR, (by first | omega | (simp <;> omega))⟩
        · exact ⟨fun b => bif b == 900 then 68 else (fun b => b) b, WeakerR.ofL (Ks := [3, 7, 13, 513, 900]) hI ⟨⟨rfl, rfl⟩, ⟨rfl, rfl⟩, ⟨grow_to rfl rfl app_ne rfl rfl, grow_within rfl⟩, ⟨rfl, rfl⟩, ⟨rfl, rfl⟩, ⟨lit_cast (wrap_i64 (by omega) (by omega)), rfl⟩, trivial⟩ (okH_grow (fun _ => rfl) rfl rfl (okH_cons rfl rfl rfl rfl (okH_map rfl rfl rfl (okH_map rfl rfl rfl (okH_cons rfl rfl rfl rfl (okH_nil)))))) rfl⟩
       ·
        replace hR := of_false h10 hR
        refine rvS ?_
        refine rvS ?_
        refine rvS ?_
        refine rvP C (.pv (.lit (.bool false))) ?_
        refine rvc_nil ?_
        refine Awp.condF (b := false) rfl rfl ?_
        refine Awp.skip ?_
        refine Awp.regionP C ?_
        refine rvP C (sS (some l.isEmpty) eOp l) ?_
        refine rvP C (.agg [.pv (.lit (.bool x.write)), .pv (.lit (.string x.value)), .pv (.lit (.int .i64 x.ver)), .pv (.lit (.int .i64 x.began)), .pv (.lit (.int .i64 x.ended))]) ?_
        refine rvc_un (rexec_buildSliceF C eOp [(Op.mk x.write x.value x.ver x.began x.ended)] rfl rfl rfl rfl rfl rfl rfl (by decide) rfl ?_)
        refine rvc_un (rexec_appendG C rfl rfl rfl rfl rfl rfl rfl rfl (fun _ h => by cases h) rfl (en := eOp) (l := l) (D := [(Op.mk x.write x.value x.ver x.began x.ended)]) rfl rfl h2 (by rw [h2]; rfl) (by simp) (by have := of_decide_eq_true h3; first | omega | (simp <;> omega)) (by decide) (nn := (l ++ [(Op.mk x.write x.value x.ver x.began x.ended)]).length) (by simp <;> omega) ?_)
        refine rvP C (.sl 68 0 ((l ++ [(Op.mk x.write x.value x.ver x.began x.ended)]).length) 5 false) ?_
        refine rvc_nil ?_
        refine Awp.regionP C ?_
        refine rvP C (.pv (.lit (.int .i64 (IntKind.i64.wrap ((i : Int) + 1))))) ?_
        refine rvP C (.pv (.lit (.int .i64 (IntKind.i64.wrap ((i : Int) + 1))))) ?_
        refine rvc_nil ?_
        refine ⟨h4, (l ++ [(Op.mk x.write x.value x.ver x.began x.ended)]), ?_, ?_⟩
        · exact ⟨hR, (by first | omega | (simp <;> omega))⟩
        · exact ⟨fun b => bif b == 900 then 68 else (fun b => b) b, WeakerR.ofL (Ks := [3, 7, 13, 513, 900]) hI ⟨⟨rfl, rfl⟩, ⟨rfl, rfl⟩, ⟨grow_to rfl rfl app_ne rfl rfl, grow_within rfl⟩, ⟨rfl, rfl⟩, ⟨rfl, rfl⟩, ⟨lit_cast (wrap_i64 (by omega) (by omega)), rfl⟩, trivial⟩ (okH_grow (fun _ => rfl) rfl rfl (okH_cons rfl rfl rfl rfl (okH_map rfl rfl rfl (okH_map rfl rfl rfl (okH_cons rfl rfl rfl rfl (okH_nil)))))) rfl⟩
     ·
      replace hR := of_false h8 hR
      refine rvS ?_
      refine rvS ?_
      refine rvS ?_
      refine rvO C (.pv (.lit (.bool false))) ?_
      refine rvP C (.pv (.lit (.bool false))) ?_
      refine rvc_nil ?_
      refine Awp.condF (b := false) rfl rfl ?_
      refine Awp.skip ?_
      refine Awp.consP C ?_
      refine rvP C (.ptr 10 2) ?_
      refine rvP C (.pv (.lit (.bool x.write))) ?_
      refine rvP C (.ptr 10 11) ?_
      refine rvP C (.pv (.lit (.string x.value))) ?_
      refine rvP C (.ptr 10 16) ?_
      refine rvP C (.pv (.lit (.int .i64 x.ver))) ?_
      refine rvP C (.ptr 10 14) ?_
      refine rvP C (.pv (.lit (.int .i64 x.began))) ?_
      refine rvP C (.ptr 10 15) ?_
      refine rvP C (.pv (.lit (.int .i64 x.ended))) ?_
      refine rvP C (.agg [.pv (.lit (.bool x.write)), .pv (.lit (.string x.value)), .pv (.lit (.int .i64 x.ver)), .pv (.lit (.int .i64 x.began)), .pv (.lit (.int .i64 x.ended))]) ?_
      refine rvc_un (rexec_prim C (δ := { v := .ptr 11 0, new := [(11, .cells [.pv (.lit (.bool false)), .pv (.lit (.string ⟨#[]⟩)), .pv (.lit (.int .i64 0)), .pv (.lit (.int .i64 0)), .pv (.lit (.int .i64 0))])] }) rfl rfl rfl rfl trivial rfl ?_)
      refine rvc_un (rexec_prim C (δ := { v := .undef, wr := [(11, some (.cells [.pv (.lit (.bool x.write)), .pv (.lit (.string x.value)), .pv (.lit (.int .i64 x.ver)), .pv (.lit (.int .i64 x.began)), .pv (.lit (.int .i64 x.ended))]))] }) rfl rfl rfl rfl trivial rfl ?_)
      refine rvc_nil ?_
      refine Awp.seq ?_
      refine Awp.consP C ?_
      refine rvP C (.ptr 10 2) ?_
      refine rvP C (.pv (.lit (.bool x.write))) ?_
      refine rvP C (.pv (.lit (.bool x.write))) ?_
      refine rvc_case 52 x.write rfl (fun h11 => ?_) (fun h11 => ?_)
      ·
       replace hR := of_true h11 hR
       refine rvO C (.agg [.pv (.lit (.int .i64 x.client)), .pv (.lit (.int .i64 x.seq)), .pv (.lit (.bool x.write)), .pv (.lit (.int .u8 (x.key 0))), .pv (.lit (.int .u8 (x.key 1))), .pv (.lit (.int .u8 (x.key 2))), .pv (.lit (.int .u8 (x.key 3))), .pv (.lit (.int .u8 (x.key 4))), .pv (.lit (.int .u8 (x.key 5))), .pv (.lit (.int .u8 (x.key 6))), .pv (.lit (.int .u8 (x.key 7))), .pv (.lit (.string x.value)), .pv (.lit (.int .i64 x.mode)), .pv (.lit (.int .i64 x.bound)), .pv (.lit (.int .i64 x.began)), .pv (.lit (.int .i64 x.ended)), .pv (.lit (.int .i64 x.ver)), .pv (.lit (.int .i64 x.err)), .pv (.lit (.int .i64 x.floor))]) ?_
       refine rvc_open rfl rfl rfl (rexec_call hP C rfl rfl rfl (jAnswered_calls x) ?_)
       refine rvO C (.pv (.lit (.bool (!(jAnswered x))))) ?_
       refine rvP C (.pv (.lit (.bool (!(jAnswered x))))) ?_
       refine rvc_nil ?_
       refine Awp.cond (b := (!(jAnswered x))) rfl (fun h12 => ?_) (fun h12 => ?_)
       ·
        replace hR := of_true h12 hR
        refine Awp.region C (fun o => match o.dst with | some 58 => .reads [7] | some 59 => .reads [10] | some 61 => .reads [513] | none => .writes [11] | _ => .pure) (by kernel_rfl) ?_
        refine rvP C (.ptr 7 1) ?_
        refine rvP C (.mp 513) ?_
        refine rvP C (.agg [.pv (.lit (.int .i64 x.client)), .pv (.lit (.int .i64 x.seq)), .pv (.lit (.bool x.write)), .pv (.lit (.int .u8 (x.key 0))), .pv (.lit (.int .u8 (x.key 1))), .pv (.lit (.int .u8 (x.key 2))), .pv (.lit (.int .u8 (x.key 3))), .pv (.lit (.int .u8 (x.key 4))), .pv (.lit (.int .u8 (x.key 5))), .pv (.lit (.int .u8 (x.key 6))), .pv (.lit (.int .u8 (x.key 7))), .pv (.lit (.string x.value)), .pv (.lit (.int .i64 x.mode)), .pv (.lit (.int .i64 x.bound)), .pv (.lit (.int .i64 x.began)), .pv (.lit (.int .i64 x.ended)), .pv (.lit (.int .i64 x.ver)), .pv (.lit (.int .i64 x.err)), .pv (.lit (.int .i64 x.floor))]) ?_
        refine rvc_un (rexec_call hP C rfl rfl rfl (jReq_calls x) ?_)
        refine rvc_un (rexec_lookup hP C rfl (jReq x) zeroR rfl rfl rfl rfl rfl rfl kReq_ok rfl (.agg [.pv (.lit (.int .i64 (((mGet kReq (jReq x) ((openB recs).req)).getD zeroR).index))), .pv (.lit (.int .i64 (((mGet kReq (jReq x) ((openB recs).req)).getD zeroR).epoch))), .pv (.lit (.int .u8 (((mGet kReq (jReq x) ((openB recs).req)).getD zeroR).key 0))), .pv (.lit (.int .u8 (((mGet kReq (jReq x) ((openB recs).req)).getD zeroR).key 1))), .pv (.lit (.int .u8 (((mGet kReq (jReq x) ((openB recs).req)).getD zeroR).key 2))), .pv (.lit (.int .u8 (((mGet kReq (jReq x) ((openB recs).req)).getD zeroR).key 3))), .pv (.lit (.int .u8 (((mGet kReq (jReq x) ((openB recs).req)).getD zeroR).key 4))), .pv (.lit (.int .u8 (((mGet kReq (jReq x) ((openB recs).req)).getD zeroR).key 5))), .pv (.lit (.int .u8 (((mGet kReq (jReq x) ((openB recs).req)).getD zeroR).key 6))), .pv (.lit (.int .u8 (((mGet kReq (jReq x) ((openB recs).req)).getD zeroR).key 7))), .pv (.lit (.int .i64 (((mGet kReq (jReq x) ((openB recs).req)).getD zeroR).ver))), .pv (.lit (.string (((mGet kReq (jReq x) ((openB recs).req)).getD zeroR).value))), .pv (.lit (.int .i64 (((mGet kReq (jReq x) ((openB recs).req)).getD zeroR).req.client))), .pv (.lit (.int .i64 (((mGet kReq (jReq x) ((openB recs).req)).getD zeroR).req.seq)))]) rfl ?_)
        refine rvP C (.pv (.lit (.int .i64 (((mGet kReq (jReq x) ((openB recs).req)).getD zeroR).ver)))) ?_
        refine rvP C (.ptr 11 4) ?_
        refine rvc_un (rexec_prim C (δ := { v := .undef, wr := [(11, some (.cells [.pv (.lit (.bool x.write)), .pv (.lit (.string x.value)), .pv (.lit (.int .i64 x.ver)), .pv (.lit (.int .i64 x.began)), .pv (.lit (.int .i64 0))]))] }) rfl rfl rfl rfl trivial rfl ?_)
        refine rvP C (.ptr 11 2) ?_
        refine rvc_un (rexec_prim C (δ := { v := .undef, wr := [(11, some (.cells [.pv (.lit (.bool x.write)), .pv (.lit (.string x.value)), .pv (.lit (.int .i64 (((mGet kReq (jReq x) ((openB recs).req)).getD zeroR).ver))), .pv (.lit (.int .i64 x.began)), .pv (.lit (.int .i64 0))]))] }) rfl rfl rfl rfl trivial rfl ?_)
        refine rvc_nil ?_
        refine Awp.regionP C ?_
        refine rvP C (sS (some l.isEmpty) eOp l) ?_
        refine rvP C (.agg [.pv (.lit (.bool x.write)), .pv (.lit (.string x.value)), .pv (.lit (.int .i64 (((mGet kReq (jReq x) ((openB recs).req)).getD zeroR).ver))), .pv (.lit (.int .i64 x.began)), .pv (.lit (.int .i64 0))]) ?_
        refine rvc_un (rexec_buildSliceF C eOp [(Op.mk x.write x.value (((mGet kReq (jReq x) ((openB recs).req)).getD zeroR).ver) x.began 0)] rfl rfl rfl rfl rfl rfl rfl (by decide) rfl ?_)
        refine rvc_un (rexec_appendG C rfl rfl rfl rfl rfl rfl rfl rfl (fun _ h => by cases h) rfl (en := eOp) (l := l) (D := [(Op.mk x.write x.value (((mGet kReq (jReq x) ((openB recs).req)).getD zeroR).ver) x.began 0)]) rfl rfl h2 (by rw [h2]; rfl) (by simp) (by have := of_decide_eq_true h3; first | omega | (simp <;> omega)) (by decide) (nn := (l ++ [(Op.mk x.write x.value (((mGet kReq (jReq x) ((openB recs).req)).getD zeroR).ver) x.began 0)]).length) (by simp <;> omega) ?_)
        refine rvP C (.sl 68 0 ((l ++ [(Op.mk x.write x.value (((mGet kReq (jReq x) ((openB recs).req)).getD zeroR).ver) x.began 0)]).length) 5 false) ?_
        refine rvc_nil ?_
        refine Awp.regionP C ?_
        refine rvP C (.pv (.lit (.int .i64 (IntKind.i64.wrap ((i : Int) + 1))))) ?_
        refine rvP C (.pv (.lit (.int .i64 (IntKind.i64.wrap ((i : Int) + 1))))) ?_
        refine rvc_nil ?_
        refine ⟨h4, (l ++ [(Op.mk x.write x.value (((mGet kReq (jReq x) ((openB recs).req)).getD zeroR).ver) x.began 0)]), ?_, ?_⟩
        · exact ⟨hR, (by first | omega | (simp <;> omega))⟩
        · exact ⟨fun b => bif b == 900 then 68 else (fun b => b) b, WeakerR.ofL (Ks := [3, 7, 13, 513, 900]) hI ⟨⟨rfl, rfl⟩, ⟨rfl, rfl⟩, ⟨grow_to rfl rfl app_ne rfl rfl, grow_within rfl⟩, ⟨rfl, rfl⟩, ⟨rfl, rfl⟩, ⟨lit_cast (wrap_i64 (by omega) (by omega)), rfl⟩, trivial⟩ (okH_grow (fun _ => rfl) rfl rfl (okH_cons rfl rfl rfl rfl (okH_map rfl rfl rfl (okH_map rfl rfl rfl (okH_cons rfl rfl rfl rfl (okH_nil)))))) rfl⟩
       ·
        replace hR := of_false h12 hR
        refine Awp.skip ?_
        refine Awp.regionP C ?_
        refine rvP C (sS (some l.isEmpty) eOp l) ?_
        refine rvP C (.agg [.pv (.lit (.bool x.write)), .pv (.lit (.string x.value)), .pv (.lit (.int .i64 x.ver)), .pv (.lit (.int .i64 x.began)), .pv (.lit (.int .i64 x.ended))]) ?_
        refine rvc_un (rexec_buildSliceF C eOp [(Op.mk x.write x.value x.ver x.began x.ended)] rfl rfl rfl rfl rfl rfl rfl (by decide) rfl ?_)
        refine rvc_un (rexec_appendG C rfl rfl rfl rfl rfl rfl rfl rfl (fun _ h => by cases h) rfl (en := eOp) (l := l) (D := [(Op.mk x.write x.value x.ver x.began x.ended)]) rfl rfl h2 (by rw [h2]; rfl) (by simp) (by have := of_decide_eq_true h3; first | omega | (simp <;> omega)) (by decide) (nn := (l ++ [(Op.mk x.write x.value x.ver x.began x.ended)]).length) (by simp <;> omega) ?_)
        refine rvP C (.sl 68 0 ((l ++ [(Op.mk x.write x.value x.ver x.began x.ended)]).length) 5 false) ?_
        refine rvc_nil ?_
        refine Awp.regionP C ?_
        refine rvP C (.pv (.lit (.int .i64 (IntKind.i64.wrap ((i : Int) + 1))))) ?_
        refine rvP C (.pv (.lit (.int .i64 (IntKind.i64.wrap ((i : Int) + 1))))) ?_
        refine rvc_nil ?_
        refine ⟨h4, (l ++ [(Op.mk x.write x.value x.ver x.began x.ended)]), ?_, ?_⟩
        · exact ⟨hR, (by first | omega | (simp <;> omega))⟩
        · exact ⟨fun b => bif b == 900 then 68 else (fun b => b) b, WeakerR.ofL (Ks := [3, 7, 13, 513, 900]) hI ⟨⟨rfl, rfl⟩, ⟨rfl, rfl⟩, ⟨grow_to rfl rfl app_ne rfl rfl, grow_within rfl⟩, ⟨rfl, rfl⟩, ⟨rfl, rfl⟩, ⟨lit_cast (wrap_i64 (by omega) (by omega)), rfl⟩, trivial⟩ (okH_grow (fun _ => rfl) rfl rfl (okH_cons rfl rfl rfl rfl (okH_map rfl rfl rfl (okH_map rfl rfl rfl (okH_cons rfl rfl rfl rfl (okH_nil)))))) rfl⟩
      ·
       replace hR := of_false h11 hR
       refine rvS ?_
       refine rvS ?_
       refine rvS ?_
       refine rvP C (.pv (.lit (.bool false))) ?_
       refine rvc_nil ?_
       refine Awp.condF (b := false) rfl rfl ?_
       refine Awp.skip ?_
       refine Awp.regionP C ?_
       refine rvP C (sS (some l.isEmpty) eOp l) ?_
       refine rvP C (.agg [.pv (.lit (.bool x.write)), .pv (.lit (.string x.value)), .pv (.lit (.int .i64 x.ver)), .pv (.lit (.int .i64 x.began)), .pv (.lit (.int .i64 x.ended))]) ?_
       refine rvc_un (rexec_buildSliceF C eOp [(Op.mk x.write x.value x.ver x.began x.ended)] rfl rfl rfl rfl rfl rfl rfl (by decide) rfl ?_)
       refine rvc_un (rexec_appendG C rfl rfl rfl rfl rfl rfl rfl rfl (fun _ h => by cases h) rfl (en := eOp) (l := l) (D := [(Op.mk x.write x.value x.ver x.began x.ended)]) rfl rfl h2 (by rw [h2]; rfl) (by simp) (by have := of_decide_eq_true h3; first | omega | (simp <;> omega)) (by decide) (nn := (l ++ [(Op.mk x.write x.value x.ver x.began x.ended)]).length) (by simp <;> omega) ?_)
       refine rvP C (.sl 68 0 ((l ++ [(Op.mk x.write x.value x.ver x.began x.ended)]).length) 5 false) ?_
       refine rvc_nil ?_
       refine Awp.regionP C ?_
       refine rvP C (.pv (.lit (.int .i64 (IntKind.i64.wrap ((i : Int) + 1))))) ?_
       refine rvP C (.pv (.lit (.int .i64 (IntKind.i64.wrap ((i : Int) + 1))))) ?_
       refine rvc_nil ?_
       refine ⟨h4, (l ++ [(Op.mk x.write x.value x.ver x.began x.ended)]), ?_, ?_⟩
       · exact ⟨hR, (by first | omega | (simp <;> omega))⟩
       · exact ⟨fun b => bif b == 900 then 68 else (fun b => b) b, WeakerR.ofL (Ks := [3, 7, 13, 513, 900]) hI ⟨⟨rfl, rfl⟩, ⟨rfl, rfl⟩, ⟨grow_to rfl rfl app_ne rfl rfl, grow_within rfl⟩, ⟨rfl, rfl⟩, ⟨rfl, rfl⟩, ⟨lit_cast (wrap_i64 (by omega) (by omega)), rfl⟩, trivial⟩ (okH_grow (fun _ => rfl) rfl rfl (okH_cons rfl rfl rfl rfl (okH_map rfl rfl rfl (okH_map rfl rfl rfl (okH_cons rfl rfl rfl rfl (okH_nil)))))) rfl⟩
  ·
   have h4 : ¬ i < calls.D.length := by have := of_decide_eq_false h3; omega
   rw [drop_end h4] at hR
   refine Awp.exit ?_
   refine Awp.consP C ?_
   refine rvP C (sS (some l.isEmpty) eOp l) ?_
   refine rvP C (sS (some l.isEmpty) eOp l) ?_
   refine rvc_nil ?_
   refine Awp.ret ?_
   subst hR
   exact ⟨.inl rfl, rfl⟩
 ·
  refine Awp.wordsR [(3, .ptr 3 0), (7, .ptr 7 0), (8, .sl 900 0 l.length 5 false), (14, sS (some calls.nil) eCall calls.D), (15, .pv (.lit (.int .i64 (calls.D.length : Int)))), (16, .pv (.lit (.int .i64 (i : Int))))] [(900, .cells (encC eOp l)), (3, .cells [.pv (.lit (.int .u8 (k 0))), .pv (.lit (.int .u8 (k 1))), .pv (.lit (.int .u8 (k 2))), .pv (.lit (.int .u8 (k 3))), .pv (.lit (.int .u8 (k 4))), .pv (.lit (.int .u8 (k 5))), .pv (.lit (.int .u8 (k 6))), .pv (.lit (.int .u8 (k 7)))]), (13, mapE kSlot vRecord.enc ((openB recs).of_)), (513, mapE kReq vRecord.enc ((openB recs).req)), (7, .cells [.mp 13, .mp 513])] [3, 7, 13, 513, 900] (WeakerR.ofL (Ks := [3, 7, 13, 513, 900]) hI ⟨⟨rfl, rfl⟩, ⟨rfl, rfl⟩, ⟨(by exact grow_at_cons (b := 900) (b' := 900) (e := eOp) (l := l) rfl h2 rfl rfl rfl), rfl⟩, ⟨rfl, rfl⟩, ⟨rfl, rfl⟩, ⟨rfl, rfl⟩, trivial⟩ (okH_list (look_cons h2 rfl) rfl rfl (okH_cons (look_cons h2 rfl) rfl rfl rfl (okH_map (look_cons h2 rfl) rfl rfl (okH_map (look_cons h2 rfl) rfl rfl (okH_cons (look_cons h2 rfl) rfl rfl rfl (okH_nil)))))) rfl) ?_
  refine Awp.consP C ?_
  refine rvP C (.pv (.lit (.bool (decide ((i : Int) < (calls.D.length : Int)))))) ?_
  refine rvc_nil ?_
  refine Awp.seq ?_
  refine Awp.cond (b := (decide ((i : Int) < (calls.D.length : Int)))) rfl (fun h13 => ?_) (fun h13 => ?_)
  ·
   have h14 : i < calls.D.length := by have := of_decide_eq_true h13; omega
   obtain ⟨x, h15⟩ := getX h14
   rw [drop_at h15] at hR
   refine Awp.skip ?_
   refine Awp.seq ?_
   refine Awp.block ?_
   refine Awp.consP C ?_
   refine rvc_un (rexec_idxS C rfl rfl rfl rfl rfl rfl x (Int.natCast_nonneg _) h15 ?_)
   refine rvP C (.agg [.pv (.lit (.int .i64 x.client)), .pv (.lit (.int .i64 x.seq)), .pv (.lit (.bool x.write)), .pv (.lit (.int .u8 (x.key 0))), .pv (.lit (.int .u8 (x.key 1))), .pv (.lit (.int .u8 (x.key 2))), .pv (.lit (.int .u8 (x.key 3))), .pv (.lit (.int .u8 (x.key 4))), .pv (.lit (.int .u8 (x.key 5))), .pv (.lit (.int .u8 (x.key 6))), .pv (.lit (.int .u8 (x.key 7))), .pv (.lit (.string x.value)), .pv (.lit (.int .i64 x.mode)), .pv (.lit (.int .i64 x.bound)), .pv (.lit (.int .i64 x.began)), .pv (.lit (.int .i64 x.ended)), .pv (.lit (.int .i64 x.ver)), .pv (.lit (.int .i64 x.err)), .pv (.lit (.int .i64 x.floor))]) ?_
   refine rvc_un (rexec_prim C (δ := { v := .ptr 10 0, new := [(10, .cells [.pv (.lit (.int .i64 0)), .pv (.lit (.int .i64 0)), .pv (.lit (.bool false)), .pv (.lit (.int .u8 0)), .pv (.lit (.int .u8 0)), .pv (.lit (.int .u8 0)), .pv (.lit (.int .u8 0)), .pv (.lit (.int .u8 0)), .pv (.lit (.int .u8 0)), .pv (.lit (.int .u8 0)), .pv (.lit (.int .u8 0)), .pv (.lit (.string ⟨#[]⟩)), .pv (.lit (.int .i64 0)), .pv (.lit (.int .i64 0)), .pv (.lit (.int .i64 0)), .pv (.lit (.int .i64 0)), .pv (.lit (.int .i64 0)), .pv (.lit (.int .i64 0)), .pv (.lit (.int .i64 0))])] }) rfl rfl rfl rfl trivial rfl ?_)
   refine rvc_un (rexec_prim C (δ := { v := .undef, wr := [(10, some (.cells [.pv (.lit (.int .i64 x.client)), .pv (.lit (.int .i64 x.seq)), .pv (.lit (.bool x.write)), .pv (.lit (.int .u8 (x.key 0))), .pv (.lit (.int .u8 (x.key 1))), .pv (.lit (.int .u8 (x.key 2))), .pv (.lit (.int .u8 (x.key 3))), .pv (.lit (.int .u8 (x.key 4))), .pv (.lit (.int .u8 (x.key 5))), .pv (.lit (.int .u8 (x.key 6))), .pv (.lit (.int .u8 (x.key 7))), .pv (.lit (.string x.value)), .pv (.lit (.int .i64 x.mode)), .pv (.lit (.int .i64 x.bound)), .pv (.lit (.int .i64 x.began)), .pv (.lit (.int .i64 x.ended)), .pv (.lit (.int .i64 x.ver)), .pv (.lit (.int .i64 x.err)), .pv (.lit (.int .i64 x.floor))]))] }) rfl rfl rfl rfl trivial rfl ?_)
   refine rvc_nil ?_
   refine Awp.seq ?_
   refine Awp.consP C ?_
   refine rvP C (.ptr 10 3) ?_
   refine rvP C (.agg [.pv (.lit (.int .u8 (x.key 0))), .pv (.lit (.int .u8 (x.key 1))), .pv (.lit (.int .u8 (x.key 2))), .pv (.lit (.int .u8 (x.key 3))), .pv (.lit (.int .u8 (x.key 4))), .pv (.lit (.int .u8 (x.key 5))), .pv (.lit (.int .u8 (x.key 6))), .pv (.lit (.int .u8 (x.key 7)))]) ?_
   refine rvP C (.agg [.pv (.lit (.int .u8 (k 0))), .pv (.lit (.int .u8 (k 1))), .pv (.lit (.int .u8 (k 2))), .pv (.lit (.int .u8 (k 3))), .pv (.lit (.int .u8 (k 4))), .pv (.lit (.int .u8 (k 5))), .pv (.lit (.int .u8 (k 6))), .pv (.lit (.int .u8 (k 7)))]) ?_
   refine rvP C (.pv (.lit (.bool (!(((x.key 0) == (k 0)) && (((x.key 1) == (k 1)) && (((x.key 2) == (k 2)) && (((x.key 3) == (k 3)) && (((x.key 4) == (k 4)) && (((x.key 5) == (k 5)) && (((x.key 6) == (k 6)) && (((x.key 7) == (k 7)) && true)))))))))))) ?_
   refine rvP C (.pv (.lit (.bool (!(((x.key 0) == (k 0)) && (((x.key 1) == (k 1)) && (((x.key 2) == (k 2)) && (((x.key 3) == (k 3)) && (((x.key 4) == (k 4)) && (((x.key 5) == (k 5)) && (((x.key 6) == (k 6)) && (((x.key 7) == (k 7)) && true)))))))))))) ?_
   refine rvc_case 24 (!(((x.key 0) == (k 0)) && (((x.key 1) == (k 1)) && (((x.key 2) == (k 2)) && (((x.key 3) == (k 3)) && (((x.key 4) == (k 4)) && (((x.key 5) == (k 5)) && (((x.key 6) == (k 6)) && (((x.key 7) == (k 7)) && true))))))))) rfl (fun h16 => ?_) (fun h16 => ?_)
   ·
    replace hR := of_true h16 hR
    refine rvS ?_
    refine rvS ?_
    refine rvS ?_
    refine rvP C (.pv (.lit (.bool true))) ?_
    refine rvP C (.pv (.lit (.bool true))) ?_
    refine rvS ?_
    refine rvS ?_
    refine rvS ?_
    refine rvS ?_
    refine rvc_shutU rfl rfl rfl ?_
    refine rvc_shutU rfl rfl rfl ?_
    refine rvc_shutU rfl rfl rfl ?_
    refine rvS ?_
    refine rvP C (.pv (.lit (.bool true))) ?_
    refine rvc_nil ?_
    refine Awp.condT (b := true) rfl rfl ?_
    refine Awp.exit ?_
    refine Awp.regionP C ?_
    refine rvP C (.pv (.lit (.int .i64 (IntKind.i64.wrap ((i : Int) + 1))))) ?_
    refine rvP C (.pv (.lit (.int .i64 (IntKind.i64.wrap ((i : Int) + 1))))) ?_
    refine rvc_nil ?_
    refine ⟨h14, l, ?_, ?_⟩
    · exact ⟨hR, (by first | omega | (simp <;> omega))⟩
    · exact ⟨fun b => b, WeakerR.ofL (Ks := [3, 7, 13, 513, 900]) hI ⟨⟨rfl, rfl⟩, ⟨rfl, rfl⟩, ⟨grow_to rfl rfl h2 rfl rfl, grow_within rfl⟩, ⟨rfl, rfl⟩, ⟨rfl, rfl⟩, ⟨lit_cast (wrap_i64 (by omega) (by omega)), rfl⟩, trivial⟩ (okH_grow (fun _ => rfl) rfl rfl (okH_cons rfl rfl rfl rfl (okH_map rfl rfl rfl (okH_map rfl rfl rfl (okH_cons rfl rfl rfl rfl (okH_nil)))))) rfl⟩
   ·
    replace hR := of_false h16 hR
    refine rvO C (.agg [.pv (.lit (.int .i64 x.client)), .pv (.lit (.int .i64 x.seq)), .pv (.lit (.bool x.write)), .pv (.lit (.int .u8 (x.key 0))), .pv (.lit (.int .u8 (x.key 1))), .pv (.lit (.int .u8 (x.key 2))), .pv (.lit (.int .u8 (x.key 3))), .pv (.lit (.int .u8 (x.key 4))), .pv (.lit (.int .u8 (x.key 5))), .pv (.lit (.int .u8 (x.key 6))), .pv (.lit (.int .u8 (x.key 7))), .pv (.lit (.string x.value)), .pv (.lit (.int .i64 x.mode)), .pv (.lit (.int .i64 x.bound)), .pv (.lit (.int .i64 x.began)), .pv (.lit (.int .i64 x.ended)), .pv (.lit (.int .i64 x.ver)), .pv (.lit (.int .i64 x.err)), .pv (.lit (.int .i64 x.floor))]) ?_
    refine rvc_open rfl rfl rfl (rexec_call hP C rfl rfl rfl (jCounts_calls x) ?_)
    refine rvO C (.pv (.lit (.bool (!(jCounts x))))) ?_
    refine rvP C (.pv (.lit (.bool (!(jCounts x))))) ?_
    refine rvP C (.pv (.lit (.bool (!(jCounts x))))) ?_
    refine rvc_case 29 (!(jCounts x)) rfl (fun h17 => ?_) (fun h17 => ?_)
    ·
     replace hR := of_true h17 hR
     refine rvS ?_
     refine rvS ?_
     refine rvS ?_
     refine rvS ?_
     refine rvc_shutU rfl rfl rfl ?_
     refine rvc_shutU rfl rfl rfl ?_
     refine rvc_shutU rfl rfl rfl ?_
     refine rvS ?_
     refine rvP C (.pv (.lit (.bool true))) ?_
     refine rvc_nil ?_
     refine Awp.condT (b := true) rfl rfl ?_
     refine Awp.exit ?_
     refine Awp.regionP C ?_
     refine rvP C (.pv (.lit (.int .i64 (IntKind.i64.wrap ((i : Int) + 1))))) ?_
     refine rvP C (.pv (.lit (.int .i64 (IntKind.i64.wrap ((i : Int) + 1))))) ?_
     refine rvc_nil ?_
     refine ⟨h14, l, ?_, ?_⟩
     · exact ⟨hR, (by first | omega | (simp <;> omega))⟩
     · exact ⟨fun b => b, WeakerR.ofL (Ks := [3, 7, 13, 513, 900]) hI ⟨⟨rfl, rfl⟩, ⟨rfl, rfl⟩, ⟨grow_to rfl rfl h2 rfl rfl, grow_within rfl⟩, ⟨rfl, rfl⟩, ⟨rfl, rfl⟩, ⟨lit_cast (wrap_i64 (by omega) (by omega)), rfl⟩, trivial⟩ (okH_grow (fun _ => rfl) rfl rfl (okH_cons rfl rfl rfl rfl (okH_map rfl rfl rfl (okH_map rfl rfl rfl (okH_cons rfl rfl rfl rfl (okH_nil)))))) rfl⟩
    ·
     replace hR := of_false h17 hR
     refine rvO C (.ptr 10 2) ?_
     refine rvO C (.pv (.lit (.bool x.write))) ?_
     refine rvO C (.pv (.lit (.bool (!x.write)))) ?_
     refine rvO C (.pv (.lit (.bool (!x.write)))) ?_
     refine rvc_case 33 (!x.write) rfl (fun h18 => ?_) (fun h18 => ?_)
     ·
      replace hR := of_true h18 hR
      refine rvO C (.agg [.pv (.lit (.int .i64 x.client)), .pv (.lit (.int .i64 x.seq)), .pv (.lit (.bool x.write)), .pv (.lit (.int .u8 (x.key 0))), .pv (.lit (.int .u8 (x.key 1))), .pv (.lit (.int .u8 (x.key 2))), .pv (.lit (.int .u8 (x.key 3))), .pv (.lit (.int .u8 (x.key 4))), .pv (.lit (.int .u8 (x.key 5))), .pv (.lit (.int .u8 (x.key 6))), .pv (.lit (.int .u8 (x.key 7))), .pv (.lit (.string x.value)), .pv (.lit (.int .i64 x.mode)), .pv (.lit (.int .i64 x.bound)), .pv (.lit (.int .i64 x.began)), .pv (.lit (.int .i64 x.ended)), .pv (.lit (.int .i64 x.ver)), .pv (.lit (.int .i64 x.err)), .pv (.lit (.int .i64 x.floor))]) ?_
      refine rvc_open rfl rfl rfl (rexec_call hP C rfl rfl rfl (jAnswered_calls x) ?_)
      refine rvO C (.pv (.lit (.bool (!(jAnswered x))))) ?_
      refine rvO C (.pv (.lit (.bool (!(jAnswered x))))) ?_
      refine rvP C (.pv (.lit (.bool (!(jAnswered x))))) ?_
      refine rvc_nil ?_
      refine Awp.cond (b := (!(jAnswered x))) rfl (fun h19 => ?_) (fun h19 => ?_)
      ·
       replace hR := of_true h19 hR
       refine Awp.exit ?_
       refine Awp.regionP C ?_
       refine rvP C (.pv (.lit (.int .i64 (IntKind.i64.wrap ((i : Int) + 1))))) ?_
       refine rvP C (.pv (.lit (.int .i64 (IntKind.i64.wrap ((i : Int) + 1))))) ?_
       refine rvc_nil ?_
       refine ⟨h14, l, ?_, ?_⟩
       · exact ⟨hR, (by first | omega | (simp <;> omega))⟩
       · exact ⟨fun b => b, WeakerR.ofL (Ks := [3, 7, 13, 513, 900]) hI ⟨⟨rfl, rfl⟩, ⟨rfl, rfl⟩, ⟨grow_to rfl rfl h2 rfl rfl, grow_within rfl⟩, ⟨rfl, rfl⟩, ⟨rfl, rfl⟩, ⟨lit_cast (wrap_i64 (by omega) (by omega)), rfl⟩, trivial⟩ (okH_grow (fun _ => rfl) rfl rfl (okH_cons rfl rfl rfl rfl (okH_map rfl rfl rfl (okH_map rfl rfl rfl (okH_cons rfl rfl rfl rfl (okH_nil)))))) rfl⟩
      ·
       replace hR := of_false h19 hR
       refine Awp.skip ?_
       refine Awp.consP C ?_
       refine rvP C (.ptr 10 2) ?_
       refine rvP C (.pv (.lit (.bool x.write))) ?_
       refine rvP C (.ptr 10 11) ?_
       refine rvP C (.pv (.lit (.string x.value))) ?_
       refine rvP C (.ptr 10 16) ?_
       refine rvP C (.pv (.lit (.int .i64 x.ver))) ?_
       refine rvP C (.ptr 10 14) ?_
       refine rvP C (.pv (.lit (.int .i64 x.began))) ?_
       refine rvP C (.ptr 10 15) ?_
       refine rvP C (.pv (.lit (.int .i64 x.ended))) ?_
       refine rvP C (.agg [.pv (.lit (.bool x.write)), .pv (.lit (.string x.value)), .pv (.lit (.int .i64 x.ver)), .pv (.lit (.int .i64 x.began)), .pv (.lit (.int .i64 x.ended))]) ?_
       refine rvc_un (rexec_prim C (δ := { v := .ptr 11 0, new := [(11, .cells [.pv (.lit (.bool false)), .pv (.lit (.string ⟨#[]⟩)), .pv (.lit (.int .i64 0)), .pv (.lit (.int .i64 0)), .pv (.lit (.int .i64 0))])] }) rfl rfl rfl rfl trivial rfl ?_)
       refine rvc_un (rexec_prim C (δ := { v := .undef, wr := [(11, some (.cells [.pv (.lit (.bool x.write)), .pv (.lit (.string x.value)), .pv (.lit (.int .i64 x.ver)), .pv (.lit (.int .i64 x.began)), .pv (.lit (.int .i64 x.ended))]))] }) rfl rfl rfl rfl trivial rfl ?_)
       refine rvc_nil ?_
       refine Awp.seq ?_
       refine Awp.consP C ?_
       refine rvP C (.ptr 10 2) ?_
       refine rvP C (.pv (.lit (.bool x.write))) ?_
       refine rvP C (.pv (.lit (.bool x.write))) ?_
       refine rvc_case 52 x.write rfl (fun h20 => ?_) (fun h20 => ?_)
       ·
        replace hR := of_true h20 hR
        refine rvO C (.agg [.pv (.lit (.int .i64 x.client)), .pv (.lit (.int .i64 x.seq)), .pv (.lit (.bool x.write)), .pv (.lit (.int .u8 (x.key 0))), .pv (.lit (.int .u8 (x.key 1))), .pv (.lit (.int .u8 (x.key 2))), .pv (.lit (.int .u8 (x.key 3))), .pv (.lit (.int .u8 (x.key 4))), .pv (.lit (.int .u8 (x.key 5))), .pv (.lit (.int .u8 (x.key 6))), .pv (.lit (.int .u8 (x.key 7))), .pv (.lit (.string x.value)), .pv (.lit (.int .i64 x.mode)), .pv (.lit (.int .i64 x.bound)), .pv (.lit (.int .i64 x.began)), .pv (.lit (.int .i64 x.ended)), .pv (.lit (.int .i64 x.ver)), .pv (.lit (.int .i64 x.err)), .pv (.lit (.int .i64 x.floor))]) ?_
        refine rvc_open rfl rfl rfl (rexec_call hP C rfl rfl rfl (jAnswered_calls x) ?_)
        refine rvO C (.pv (.lit (.bool (!(jAnswered x))))) ?_
        refine rvP C (.pv (.lit (.bool (!(jAnswered x))))) ?_
        refine rvc_nil ?_
        refine Awp.condF (b := (!(jAnswered x))) rfl h19 ?_
        refine Awp.skip ?_
        refine Awp.regionP C ?_
        refine rvP C (.sl 900 0 l.length 5 false) ?_
        refine rvP C (.agg [.pv (.lit (.bool x.write)), .pv (.lit (.string x.value)), .pv (.lit (.int .i64 x.ver)), .pv (.lit (.int .i64 x.began)), .pv (.lit (.int .i64 x.ended))]) ?_
        refine rvc_un (rexec_buildSliceF C eOp [(Op.mk x.write x.value x.ver x.began x.ended)] rfl rfl rfl rfl rfl rfl rfl (by decide) rfl ?_)
        refine rvc_un (rexec_append C rfl rfl rfl rfl rfl rfl rfl rfl (fun _ h => by cases h) rfl (en := eOp) (D0 := l) (D := [(Op.mk x.write x.value x.ver x.began x.ended)]) rfl rfl rfl rfl (by have := of_decide_eq_true h13; first | omega | (simp <;> omega)) (by decide) (nn := (l ++ [(Op.mk x.write x.value x.ver x.began x.ended)]).length) (by simp <;> omega) ?_)
        refine rvP C (.sl 68 0 ((l ++ [(Op.mk x.write x.value x.ver x.began x.ended)]).length) 5 false) ?_
        refine rvc_nil ?_
        refine Awp.regionP C ?_
        refine rvP C (.pv (.lit (.int .i64 (IntKind.i64.wrap ((i : Int) + 1))))) ?_
        refine rvP C (.pv (.lit (.int .i64 (IntKind.i64.wrap ((i : Int) + 1))))) ?_
        refine rvc_nil ?_
        refine ⟨h14, (l ++ [(Op.mk x.write x.value x.ver x.began x.ended)]), ?_, ?_⟩
        · exact ⟨hR, (by first | omega | (simp <;> omega))⟩
        · exact ⟨fun b => bif b == 900 then 68 else (fun b => b) b, WeakerR.ofL (Ks := [3, 7, 13, 513, 900]) hI ⟨⟨rfl, rfl⟩, ⟨rfl, rfl⟩, ⟨grow_to rfl rfl app_ne rfl rfl, grow_within rfl⟩, ⟨rfl, rfl⟩, ⟨rfl, rfl⟩, ⟨lit_cast (wrap_i64 (by omega) (by omega)), rfl⟩, trivial⟩ (okH_grow (fun _ => rfl) rfl rfl (okH_cons rfl rfl rfl rfl (okH_map rfl rfl rfl (okH_map rfl rfl rfl (okH_cons rfl rfl rfl rfl (okH_nil)))))) rfl⟩
       ·
        replace hR := of_false h20 hR
        refine rvS ?_
        refine rvS ?_
        refine rvS ?_
        refine rvP C (.pv (.lit (.bool false))) ?_
        refine rvc_nil ?_
        refine Awp.condF (b := false) rfl rfl ?_
        refine Awp.skip ?_
        refine Awp.regionP C ?_
        refine rvP C (.sl 900 0 l.length 5 false) ?_
        refine rvP C (.agg [.pv (.lit (.bool x.write)), .pv (.lit (.string x.value)), .pv (.lit (.int .i64 x.ver)), .pv (.lit (.int .i64 x.began)), .pv (.lit (.int .i64 x.ended))]) ?_
        refine rvc_un (rexec_buildSliceF C eOp [(Op.mk x.write x.value x.ver x.began x.ended)] rfl rfl rfl rfl rfl rfl rfl (by decide) rfl ?_)
        refine rvc_un (rexec_append C rfl rfl rfl rfl rfl rfl rfl rfl (fun _ h => by cases h) rfl (en := eOp) (D0 := l) (D := [(Op.mk x.write x.value x.ver x.began x.ended)]) rfl rfl rfl rfl (by have := of_decide_eq_true h13; first | omega | (simp <;> omega)) (by decide) (nn := (l ++ [(Op.mk x.write x.value x.ver x.began x.ended)]).length) (by simp <;> omega) ?_)
        refine rvP C (.sl 68 0 ((l ++ [(Op.mk x.write x.value x.ver x.began x.ended)]).length) 5 false) ?_
        refine rvc_nil ?_
        refine Awp.regionP C ?_
        refine rvP C (.pv (.lit (.int .i64 (IntKind.i64.wrap ((i : Int) + 1))))) ?_
        refine rvP C (.pv (.lit (.int .i64 (IntKind.i64.wrap ((i : Int) + 1))))) ?_
        refine rvc_nil ?_
        refine ⟨h14, (l ++ [(Op.mk x.write x.value x.ver x.began x.ended)]), ?_, ?_⟩
        · exact ⟨hR, (by first | omega | (simp <;> omega))⟩
        · exact ⟨fun b => bif b == 900 then 68 else (fun b => b) b, WeakerR.ofL (Ks := [3, 7, 13, 513, 900]) hI ⟨⟨rfl, rfl⟩, ⟨rfl, rfl⟩, ⟨grow_to rfl rfl app_ne rfl rfl, grow_within rfl⟩, ⟨rfl, rfl⟩, ⟨rfl, rfl⟩, ⟨lit_cast (wrap_i64 (by omega) (by omega)), rfl⟩, trivial⟩ (okH_grow (fun _ => rfl) rfl rfl (okH_cons rfl rfl rfl rfl (okH_map rfl rfl rfl (okH_map rfl rfl rfl (okH_cons rfl rfl rfl rfl (okH_nil)))))) rfl⟩
     ·
      replace hR := of_false h18 hR
      refine rvS ?_
      refine rvS ?_
      refine rvS ?_
      refine rvO C (.pv (.lit (.bool false))) ?_
      refine rvP C (.pv (.lit (.bool false))) ?_
      refine rvc_nil ?_
      refine Awp.condF (b := false) rfl rfl ?_
      refine Awp.skip ?_
      refine Awp.consP C ?_
      refine rvP C (.ptr 10 2) ?_
      refine rvP C (.pv (.lit (.bool x.write))) ?_
      refine rvP C (.ptr 10 11) ?_
      refine rvP C (.pv (.lit (.string x.value))) ?_
      refine rvP C (.ptr 10 16) ?_
      refine rvP C (.pv (.lit (.int .i64 x.ver))) ?_
      refine rvP C (.ptr 10 14) ?_
      refine rvP C (.pv (.lit (.int .i64 x.began))) ?_
      refine rvP C (.ptr 10 15) ?_
      refine rvP C (.pv (.lit (.int .i64 x.ended))) ?_
      refine rvP C (.agg [.pv (.lit (.bool x.write)), .pv (.lit (.string x.value)), .pv (.lit (.int .i64 x.ver)), .pv (.lit (.int .i64 x.began)), .pv (.lit (.int .i64 x.ended))]) ?_
      refine rvc_un (rexec_prim C (δ := { v := .ptr 11 0, new := [(11, .cells [.pv (.lit (.bool false)), .pv (.lit (.string ⟨#[]⟩)), .pv (.lit (.int .i64 0)), .pv (.lit (.int .i64 0)), .pv (.lit (.int .i64 0))])] }) rfl rfl rfl rfl trivial rfl ?_)
      refine rvc_un (rexec_prim C (δ := { v := .undef, wr := [(11, some (.cells [.pv (.lit (.bool x.write)), .pv (.lit (.string x.value)), .pv (.lit (.int .i64 x.ver)), .pv (.lit (.int .i64 x.began)), .pv (.lit (.int .i64 x.ended))]))] }) rfl rfl rfl rfl trivial rfl ?_)
      refine rvc_nil ?_
      refine Awp.seq ?_
      refine Awp.consP C ?_
      refine rvP C (.ptr 10 2) ?_
      refine rvP C (.pv (.lit (.bool x.write))) ?_
      refine rvP C (.pv (.lit (.bool x.write))) ?_
      refine rvc_case 52 x.write rfl (fun h21 => ?_) (fun h21 => ?_)
      ·
       replace hR := of_true h21 hR
       refine rvO C (.agg [.pv (.lit (.int .i64 x.client)), .pv (.lit (.int .i64 x.seq)), .pv (.lit (.bool x.write)), .pv (.lit (.int .u8 (x.key 0))), .pv (.lit (.int .u8 (x.key 1))), .pv (.lit (.int .u8 (x.key 2))), .pv (.lit (.int .u8 (x.key 3))), .pv (.lit (.int .u8 (x.key 4))), .pv (.lit (.int .u8 (x.key 5))), .pv (.lit (.int .u8 (x.key 6))), .pv (.lit (.int .u8 (x.key 7))), .pv (.lit (.string x.value)), .pv (.lit (.int .i64 x.mode)), .pv (.lit (.int .i64 x.bound)), .pv (.lit (.int .i64 x.began)), .pv (.lit (.int .i64 x.ended)), .pv (.lit (.int .i64 x.ver)), .pv (.lit (.int .i64 x.err)), .pv (.lit (.int .i64 x.floor))]) ?_
       refine rvc_open rfl rfl rfl (rexec_call hP C rfl rfl rfl (jAnswered_calls x) ?_)
       refine rvO C (.pv (.lit (.bool (!(jAnswered x))))) ?_
       refine rvP C (.pv (.lit (.bool (!(jAnswered x))))) ?_
       refine rvc_nil ?_
       refine Awp.cond (b := (!(jAnswered x))) rfl (fun h22 => ?_) (fun h22 => ?_)
       ·
        replace hR := of_true h22 hR
        refine Awp.region C (fun o => match o.dst with | some 58 => .reads [7] | some 59 => .reads [10] | some 61 => .reads [513] | none => .writes [11] | _ => .pure) (by kernel_rfl) ?_
        refine rvP C (.ptr 7 1) ?_
        refine rvP C (.mp 513) ?_
        refine rvP C (.agg [.pv (.lit (.int .i64 x.client)), .pv (.lit (.int .i64 x.seq)), .pv (.lit (.bool x.write)), .pv (.lit (.int .u8 (x.key 0))), .pv (.lit (.int .u8 (x.key 1))), .pv (.lit (.int .u8 (x.key 2))), .pv (.lit (.int .u8 (x.key 3))), .pv (.lit (.int .u8 (x.key 4))), .pv (.lit (.int .u8 (x.key 5))), .pv (.lit (.int .u8 (x.key 6))), .pv (.lit (.int .u8 (x.key 7))), .pv (.lit (.string x.value)), .pv (.lit (.int .i64 x.mode)), .pv (.lit (.int .i64 x.bound)), .pv (.lit (.int .i64 x.began)), .pv (.lit (.int .i64 x.ended)), .pv (.lit (.int .i64 x.ver)), .pv (.lit (.int .i64 x.err)), .pv (.lit (.int .i64 x.floor))]) ?_
        refine rvc_un (rexec_call hP C rfl rfl rfl (jReq_calls x) ?_)
        refine rvc_un (rexec_lookup hP C rfl (jReq x) zeroR rfl rfl rfl rfl rfl rfl kReq_ok rfl (.agg [.pv (.lit (.int .i64 (((mGet kReq (jReq x) ((openB recs).req)).getD zeroR).index))), .pv (.lit (.int .i64 (((mGet kReq (jReq x) ((openB recs).req)).getD zeroR).epoch))), .pv (.lit (.int .u8 (((mGet kReq (jReq x) ((openB recs).req)).getD zeroR).key 0))), .pv (.lit (.int .u8 (((mGet kReq (jReq x) ((openB recs).req)).getD zeroR).key 1))), .pv (.lit (.int .u8 (((mGet kReq (jReq x) ((openB recs).req)).getD zeroR).key 2))), .pv (.lit (.int .u8 (((mGet kReq (jReq x) ((openB recs).req)).getD zeroR).key 3))), .pv (.lit (.int .u8 (((mGet kReq (jReq x) ((openB recs).req)).getD zeroR).key 4))), .pv (.lit (.int .u8 (((mGet kReq (jReq x) ((openB recs).req)).getD zeroR).key 5))), .pv (.lit (.int .u8 (((mGet kReq (jReq x) ((openB recs).req)).getD zeroR).key 6))), .pv (.lit (.int .u8 (((mGet kReq (jReq x) ((openB recs).req)).getD zeroR).key 7))), .pv (.lit (.int .i64 (((mGet kReq (jReq x) ((openB recs).req)).getD zeroR).ver))), .pv (.lit (.string (((mGet kReq (jReq x) ((openB recs).req)).getD zeroR).value))), .pv (.lit (.int .i64 (((mGet kReq (jReq x) ((openB recs).req)).getD zeroR).req.client))), .pv (.lit (.int .i64 (((mGet kReq (jReq x) ((openB recs).req)).getD zeroR).req.seq)))]) rfl ?_)
        refine rvP C (.pv (.lit (.int .i64 (((mGet kReq (jReq x) ((openB recs).req)).getD zeroR).ver)))) ?_
        refine rvP C (.ptr 11 4) ?_
        refine rvc_un (rexec_prim C (δ := { v := .undef, wr := [(11, some (.cells [.pv (.lit (.bool x.write)), .pv (.lit (.string x.value)), .pv (.lit (.int .i64 x.ver)), .pv (.lit (.int .i64 x.began)), .pv (.lit (.int .i64 0))]))] }) rfl rfl rfl rfl trivial rfl ?_)
        refine rvP C (.ptr 11 2) ?_
        refine rvc_un (rexec_prim C (δ := { v := .undef, wr := [(11, some (.cells [.pv (.lit (.bool x.write)), .pv (.lit (.string x.value)), .pv (.lit (.int .i64 (((mGet kReq (jReq x) ((openB recs).req)).getD zeroR).ver))), .pv (.lit (.int .i64 x.began)), .pv (.lit (.int .i64 0))]))] }) rfl rfl rfl rfl trivial rfl ?_)
        refine rvc_nil ?_
        refine Awp.regionP C ?_
        refine rvP C (.sl 900 0 l.length 5 false) ?_
        refine rvP C (.agg [.pv (.lit (.bool x.write)), .pv (.lit (.string x.value)), .pv (.lit (.int .i64 (((mGet kReq (jReq x) ((openB recs).req)).getD zeroR).ver))), .pv (.lit (.int .i64 x.began)), .pv (.lit (.int .i64 0))]) ?_
        refine rvc_un (rexec_buildSliceF C eOp [(Op.mk x.write x.value (((mGet kReq (jReq x) ((openB recs).req)).getD zeroR).ver) x.began 0)] rfl rfl rfl rfl rfl rfl rfl (by decide) rfl ?_)
        refine rvc_un (rexec_append C rfl rfl rfl rfl rfl rfl rfl rfl (fun _ h => by cases h) rfl (en := eOp) (D0 := l) (D := [(Op.mk x.write x.value (((mGet kReq (jReq x) ((openB recs).req)).getD zeroR).ver) x.began 0)]) rfl rfl rfl rfl (by have := of_decide_eq_true h13; first | omega | (simp <;> omega)) (by decide) (nn := (l ++ [(Op.mk x.write x.value (((mGet kReq (jReq x) ((openB recs).req)).getD zeroR).ver) x.began 0)]).length) (by simp <;> omega) ?_)
        refine rvP C (.sl 68 0 ((l ++ [(Op.mk x.write x.value (((mGet kReq (jReq x) ((openB recs).req)).getD zeroR).ver) x.began 0)]).length) 5 false) ?_
        refine rvc_nil ?_
        refine Awp.regionP C ?_
        refine rvP C (.pv (.lit (.int .i64 (IntKind.i64.wrap ((i : Int) + 1))))) ?_
        refine rvP C (.pv (.lit (.int .i64 (IntKind.i64.wrap ((i : Int) + 1))))) ?_
        refine rvc_nil ?_
        refine ⟨h14, (l ++ [(Op.mk x.write x.value (((mGet kReq (jReq x) ((openB recs).req)).getD zeroR).ver) x.began 0)]), ?_, ?_⟩
        · exact ⟨hR, (by first | omega | (simp <;> omega))⟩
        · exact ⟨fun b => bif b == 900 then 68 else (fun b => b) b, WeakerR.ofL (Ks := [3, 7, 13, 513, 900]) hI ⟨⟨rfl, rfl⟩, ⟨rfl, rfl⟩, ⟨grow_to rfl rfl app_ne rfl rfl, grow_within rfl⟩, ⟨rfl, rfl⟩, ⟨rfl, rfl⟩, ⟨lit_cast (wrap_i64 (by omega) (by omega)), rfl⟩, trivial⟩ (okH_grow (fun _ => rfl) rfl rfl (okH_cons rfl rfl rfl rfl (okH_map rfl rfl rfl (okH_map rfl rfl rfl (okH_cons rfl rfl rfl rfl (okH_nil)))))) rfl⟩
       ·
        replace hR := of_false h22 hR
        refine Awp.skip ?_
        refine Awp.regionP C ?_
        refine rvP C (.sl 900 0 l.length 5 false) ?_
        refine rvP C (.agg [.pv (.lit (.bool x.write)), .pv (.lit (.string x.value)), .pv (.lit (.int .i64 x.ver)), .pv (.lit (.int .i64 x.began)), .pv (.lit (.int .i64 x.ended))]) ?_
        refine rvc_un (rexec_buildSliceF C eOp [(Op.mk x.write x.value x.ver x.began x.ended)] rfl rfl rfl rfl rfl rfl rfl (by decide) rfl ?_)
        refine rvc_un (rexec_append C rfl rfl rfl rfl rfl rfl rfl rfl (fun _ h => by cases h) rfl (en := eOp) (D0 := l) (D := [(Op.mk x.write x.value x.ver x.began x.ended)]) rfl rfl rfl rfl (by have := of_decide_eq_true h13; first | omega | (simp <;> omega)) (by decide) (nn := (l ++ [(Op.mk x.write x.value x.ver x.began x.ended)]).length) (by simp <;> omega) ?_)
        refine rvP C (.sl 68 0 ((l ++ [(Op.mk x.write x.value x.ver x.began x.ended)]).length) 5 false) ?_
        refine rvc_nil ?_
        refine Awp.regionP C ?_
        refine rvP C (.pv (.lit (.int .i64 (IntKind.i64.wrap ((i : Int) + 1))))) ?_
        refine rvP C (.pv (.lit (.int .i64 (IntKind.i64.wrap ((i : Int) + 1))))) ?_
        refine rvc_nil ?_
        refine ⟨h14, (l ++ [(Op.mk x.write x.value x.ver x.began x.ended)]), ?_, ?_⟩
        · exact ⟨hR, (by first | omega | (simp <;> omega))⟩
        · exact ⟨fun b => bif b == 900 then 68 else (fun b => b) b, WeakerR.ofL (Ks := [3, 7, 13, 513, 900]) hI ⟨⟨rfl, rfl⟩, ⟨rfl, rfl⟩, ⟨grow_to rfl rfl app_ne rfl rfl, grow_within rfl⟩, ⟨rfl, rfl⟩, ⟨rfl, rfl⟩, ⟨lit_cast (wrap_i64 (by omega) (by omega)), rfl⟩, trivial⟩ (okH_grow (fun _ => rfl) rfl rfl (okH_cons rfl rfl rfl rfl (okH_map rfl rfl rfl (okH_map rfl rfl rfl (okH_cons rfl rfl rfl rfl (okH_nil)))))) rfl⟩
      ·
       replace hR := of_false h21 hR
       refine rvS ?_
       refine rvS ?_
       refine rvS ?_
       refine rvP C (.pv (.lit (.bool false))) ?_
       refine rvc_nil ?_
       refine Awp.condF (b := false) rfl rfl ?_
       refine Awp.skip ?_
       refine Awp.regionP C ?_
       refine rvP C (.sl 900 0 l.length 5 false) ?_
       refine rvP C (.agg [.pv (.lit (.bool x.write)), .pv (.lit (.string x.value)), .pv (.lit (.int .i64 x.ver)), .pv (.lit (.int .i64 x.began)), .pv (.lit (.int .i64 x.ended))]) ?_
       refine rvc_un (rexec_buildSliceF C eOp [(Op.mk x.write x.value x.ver x.began x.ended)] rfl rfl rfl rfl rfl rfl rfl (by decide) rfl ?_)
       refine rvc_un (rexec_append C rfl rfl rfl rfl rfl rfl rfl rfl (fun _ h => by cases h) rfl (en := eOp) (D0 := l) (D := [(Op.mk x.write x.value x.ver x.began x.ended)]) rfl rfl rfl rfl (by have := of_decide_eq_true h13; first | omega | (simp <;> omega)) (by decide) (nn := (l ++ [(Op.mk x.write x.value x.ver x.began x.ended)]).length) (by simp <;> omega) ?_)
       refine rvP C (.sl 68 0 ((l ++ [(Op.mk x.write x.value x.ver x.began x.ended)]).length) 5 false) ?_
       refine rvc_nil ?_
       refine Awp.regionP C ?_
       refine rvP C (.pv (.lit (.int .i64 (IntKind.i64.wrap ((i : Int) + 1))))) ?_
       refine rvP C (.pv (.lit (.int .i64 (IntKind.i64.wrap ((i : Int) + 1))))) ?_
       refine rvc_nil ?_
       refine ⟨h14, (l ++ [(Op.mk x.write x.value x.ver x.began x.ended)]), ?_, ?_⟩
       · exact ⟨hR, (by first | omega | (simp <;> omega))⟩
       · exact ⟨fun b => bif b == 900 then 68 else (fun b => b) b, WeakerR.ofL (Ks := [3, 7, 13, 513, 900]) hI ⟨⟨rfl, rfl⟩, ⟨rfl, rfl⟩, ⟨grow_to rfl rfl app_ne rfl rfl, grow_within rfl⟩, ⟨rfl, rfl⟩, ⟨rfl, rfl⟩, ⟨lit_cast (wrap_i64 (by omega) (by omega)), rfl⟩, trivial⟩ (okH_grow (fun _ => rfl) rfl rfl (okH_cons rfl rfl rfl rfl (okH_map rfl rfl rfl (okH_map rfl rfl rfl (okH_cons rfl rfl rfl rfl (okH_nil)))))) rfl⟩
  ·
   have h14 : ¬ i < calls.D.length := by have := of_decide_eq_false h13; omega
   rw [drop_end h14] at hR
   refine Awp.exit ?_
   refine Awp.consP C ?_
   refine rvP C (.sl 900 0 l.length 5 false) ?_
   refine rvP C (.sl 900 0 l.length 5 false) ?_
   refine rvc_nil ?_
   refine Awp.freezeW 900 (encL eOp l) ?_ [(6, sS (some l.isEmpty) eOp l)] [(3, .cells [.pv (.lit (.int .u8 (k 0))), .pv (.lit (.int .u8 (k 1))), .pv (.lit (.int .u8 (k 2))), .pv (.lit (.int .u8 (k 3))), .pv (.lit (.int .u8 (k 4))), .pv (.lit (.int .u8 (k 5))), .pv (.lit (.int .u8 (k 6))), .pv (.lit (.int .u8 (k 7)))]), (13, mapE kSlot vRecord.enc ((openB recs).of_)), (513, mapE kReq vRecord.enc ((openB recs).req)), (7, .cells [.mp 13, .mp 513])] ?_ ?_ ?_
   · rfl
   · exact ⟨⟨_, rfl, .inl (.inr ⟨_, _, _, rfl, by rw [ne_isEmpty h2]; rfl⟩)⟩, trivial⟩
   · exact ⟨⟨(by show (3 : Nat) ≠ 900; decide), .inl rfl⟩, ⟨(by show (13 : Nat) ≠ 900; decide), .inl rfl⟩, ⟨(by show (513 : Nat) ≠ 900; decide), .inl rfl⟩, ⟨(by show (7 : Nat) ≠ 900; decide), .inl rfl⟩, trivial⟩
   refine Awp.ret ?_
   subst hR
   exact ⟨.inl rfl, rfl⟩
def eqKeys_l0 (s2 : (Sl (Nat → Int))) : List (Nat → Int) → Nat → Bool
  | [], _ => true
  | x :: xs, i => (bif (!(((x 0) == (s2.D[(i : Int).toNat]! 0)) && (((x 1) == (s2.D[(i : Int).toNat]! 1)) && (((x 2) == (s2.D[(i : Int).toNat]! 2)) && (((x 3) == (s2.D[(i : Int).toNat]! 3)) && (((x 4) == (s2.D[(i : Int).toNat]! 4)) && (((x 5) == (s2.D[(i : Int).toNat]! 5)) && (((x 6) == (s2.D[(i : Int).toNat]! 6)) && (((x 7) == (s2.D[(i : Int).toNat]! 7)) && true))))))))) then false else eqKeys_l0 s2 xs (i + 1) )
def eqKeys (s1 : (Sl (Nat → Int))) (s2 : (Sl (Nat → Int))) : Bool :=
  (bif ((s1.D.length : Int) != (s2.D.length : Int)) then false else eqKeys_l0 s2 s1.D 0 )
theorem eqKeys_calls (s1 : (Sl (Nat → Int))) (s2 : (Sl (Nat → Int))) (hl1 : s1.D.length ≤ 1000000) : PCalls Try.prog 21 [sS (some s1.nil) (eA8 .u8) s1.D, sS (some s2.nil) (eA8 .u8) s2.D] (.pv (.lit (.bool (eqKeys s1 s2)))) := by
 generalize hR : eqKeys s1 s2 = R
 refine PCalls.of_body tabOk Try.func21 rfl rfl rfl rfl rfl mixed fun E hP C hI => ?_
 refine Awp.consP C ?_
 refine rvP C (.pv (.lit (.bool false))) ?_
 refine rvc_nil ?_
 refine Awp.seq ?_
 refine Awp.consP C ?_
 refine rvP C (sS (some s1.nil) (eA8 .u8) s1.D) ?_
 refine rvP C (.pv (.lit (.int .i64 (s1.D.length : Int)))) ?_
 refine rvP C (sS (some s2.nil) (eA8 .u8) s2.D) ?_
 refine rvP C (.pv (.lit (.int .i64 (s2.D.length : Int)))) ?_
 refine rvP C (.pv (.lit (.bool ((s1.D.length : Int) != (s2.D.length : Int))))) ?_
 refine rvc_nil ?_
 refine Awp.cond (b := ((s1.D.length : Int) != (s2.D.length : Int))) rfl (fun h1 => ?_) (fun h1 => ?_)
 ·
  replace hR := of_true h1 hR
  refine Awp.consP C ?_
  refine rvP C (.pv (.lit (.bool false))) ?_
  refine rvc_nil ?_
  refine Awp.ret ?_
  subst hR
  exact ⟨.inl rfl, rfl⟩
 ·
  replace hR := of_false h1 hR
  refine Awp.skip ?_
  refine Awp.seq ?_
  refine Awp.consP C ?_
  refine rvP C (sS (some s1.nil) (eA8 .u8) s1.D) ?_
  refine rvP C (.pv (.lit (.int .i64 (s1.D.length : Int)))) ?_
  refine rvP C (.pv (.lit (.int .i64 0))) ?_
  refine rvc_nil ?_
  refine Awp.block ?_
  refine Awp.forR (σ := Unit) (s1.D.length) (fun i _v => [(0, sS (some s1.nil) (eA8 .u8) s1.D), (1, sS (some s2.nil) (eA8 .u8) s2.D), (12, .pv (.lit (.int .i64 (s1.D.length : Int)))), (13, .pv (.lit (.int .i64 (i : Int))))]) (fun i _v => []) [] (fun i _v => eqKeys_l0 s2 (s1.D.drop i) i  = R) () ?_ ?_ (fun i _v h2 hR => ?_)
  · exact hR
  · exact ⟨fun b => b, WeakerR.ofL (Ks := []) hI ⟨⟨rfl, rfl⟩, ⟨rfl, rfl⟩, ⟨rfl, rfl⟩, ⟨rfl, rfl⟩, trivial⟩ (okH_nil) rfl⟩
  refine Awp.consP C ?_
  refine rvP C (.pv (.lit (.bool (decide ((i : Int) < (s1.D.length : Int)))))) ?_
  refine rvc_nil ?_
  refine Awp.seq ?_
  refine Awp.cond (b := (decide ((i : Int) < (s1.D.length : Int)))) rfl (fun h3 => ?_) (fun h3 => ?_)
  ·
   have h4 : i < s1.D.length := by have := of_decide_eq_true h3; omega
   obtain ⟨x, h5⟩ := getX h4
   rw [drop_at h5] at hR
   refine Awp.skip ?_
   refine Awp.seq ?_
   refine Awp.block ?_
   refine Awp.consP C ?_
   refine rvP C (.pv (.lit (.int .i64 (i : Int)))) ?_
   refine rvP C (.pv (.lit (.int .i64 (i : Int)))) ?_
   refine rvc_nil ?_
   refine Awp.consP C ?_
   refine rvP C (sS (some s1.nil) (eA8 .u8) s1.D) ?_
   refine rvP C (.pv (.lit (.int .i64 (i : Int)))) ?_
   refine rvc_un (rexec_idxS C rfl rfl rfl rfl rfl rfl x (Int.natCast_nonneg _) h5 ?_)
   refine rvP C (.agg [.pv (.lit (.int .u8 (x 0))), .pv (.lit (.int .u8 (x 1))), .pv (.lit (.int .u8 (x 2))), .pv (.lit (.int .u8 (x 3))), .pv (.lit (.int .u8 (x 4))), .pv (.lit (.int .u8 (x 5))), .pv (.lit (.int .u8 (x 6))), .pv (.lit (.int .u8 (x 7)))]) ?_
   refine rvP C (sS (some s2.nil) (eA8 .u8) s2.D) ?_
   refine rvP C (.pv (.lit (.int .i64 (i : Int)))) ?_
   have h6 : s2.D[(i : Int).toNat]? = some s2.D[(i : Int).toNat]! := getE (by have := eq_of_bne_false h1; have := of_decide_eq_true h3; omega)
   refine rvc_un (rexec_idxS C rfl rfl rfl rfl rfl rfl (s2.D[(i : Int).toNat]!) (Int.natCast_nonneg _) h6 ?_)
   refine rvP C (.agg [.pv (.lit (.int .u8 (s2.D[(i : Int).toNat]! 0))), .pv (.lit (.int .u8 (s2.D[(i : Int).toNat]! 1))), .pv (.lit (.int .u8 (s2.D[(i : Int).toNat]! 2))), .pv (.lit (.int .u8 (s2.D[(i : Int).toNat]! 3))), .pv (.lit (.int .u8 (s2.D[(i : Int).toNat]! 4))), .pv (.lit (.int .u8 (s2.D[(i : Int).toNat]! 5))), .pv (.lit (.int .u8 (s2.D[(i : Int).toNat]! 6))), .pv (.lit (.int .u8 (s2.D[(i : Int).toNat]! 7)))]) ?_
   refine rvP C (.pv (.lit (.bool (!(((x 0) == (s2.D[(i : Int).toNat]! 0)) && (((x 1) == (s2.D[(i : Int).toNat]! 1)) && (((x 2) == (s2.D[(i : Int).toNat]! 2)) && (((x 3) == (s2.D[(i : Int).toNat]! 3)) && (((x 4) == (s2.D[(i : Int).toNat]! 4)) && (((x 5) == (s2.D[(i : Int).toNat]! 5)) && (((x 6) == (s2.D[(i : Int).toNat]! 6)) && (((x 7) == (s2.D[(i : Int).toNat]! 7)) && true)))))))))))) ?_
   refine rvc_nil ?_
   refine Awp.cond (b := (!(((x 0) == (s2.D[(i : Int).toNat]! 0)) && (((x 1) == (s2.D[(i : Int).toNat]! 1)) && (((x 2) == (s2.D[(i : Int).toNat]! 2)) && (((x 3) == (s2.D[(i : Int).toNat]! 3)) && (((x 4) == (s2.D[(i : Int).toNat]! 4)) && (((x 5) == (s2.D[(i : Int).toNat]! 5)) && (((x 6) == (s2.D[(i : Int).toNat]! 6)) && (((x 7) == (s2.D[(i : Int).toNat]! 7)) && true)))))))))) rfl (fun h7 => ?_) (fun h7 => ?_)
   ·
    replace hR := of_true h7 hR
    refine Awp.consP C ?_
    refine rvP C (.pv (.lit (.bool false))) ?_
    refine rvc_nil ?_
    refine Awp.ret ?_
    subst hR
    exact ⟨.inl rfl, rfl⟩
   ·
    replace hR := of_false h7 hR
    refine Awp.skip ?_
    refine Awp.regionP C ?_
    refine rvP C (.pv (.lit (.int .i64 (IntKind.i64.wrap ((i : Int) + 1))))) ?_
    refine rvP C (.pv (.lit (.int .i64 (IntKind.i64.wrap ((i : Int) + 1))))) ?_
    refine rvc_nil ?_
    refine ⟨h4, (), ?_, ?_⟩
    · exact hR
    · exact ⟨fun b => b, WeakerR.ofL (Ks := []) hI ⟨⟨rfl, rfl⟩, ⟨rfl, rfl⟩, ⟨rfl, rfl⟩, ⟨lit_cast (wrap_i64 (by omega) (by omega)), rfl⟩, trivial⟩ (okH_nil) rfl⟩
  ·
   have h4 : ¬ i < s1.D.length := by have := of_decide_eq_false h3; omega
   rw [drop_end h4] at hR
   refine Awp.exit ?_
   refine Awp.consP C ?_
   refine rvP C (.pv (.lit (.bool true))) ?_
   refine rvc_nil ?_
   refine Awp.ret ?_
   subst hR
   exact ⟨.inl rfl, rfl⟩
def indexF_l0 (f : Call → Bool) : List Call → Nat → Int
  | [], _ => (-1)
  | x :: xs, i => (bif (f x) then (i : Int) else indexF_l0 f xs (i + 1) )
def indexF (s : (Sl Call)) (f : Call → Bool) : Int :=
  indexF_l0 f s.D 0
theorem indexF_calls (s : (Sl Call)) (f : Call → Bool) (g1 : Nat) (caps1 : List AV) (hp1 : ∀ (x0 : Call), PCalls Try.prog g1 ([.agg [.pv (.lit (.int .i64 x0.client)), .pv (.lit (.int .i64 x0.seq)), .pv (.lit (.bool x0.write)), .pv (.lit (.int .u8 (x0.key 0))), .pv (.lit (.int .u8 (x0.key 1))), .pv (.lit (.int .u8 (x0.key 2))), .pv (.lit (.int .u8 (x0.key 3))), .pv (.lit (.int .u8 (x0.key 4))), .pv (.lit (.int .u8 (x0.key 5))), .pv (.lit (.int .u8 (x0.key 6))), .pv (.lit (.int .u8 (x0.key 7))), .pv (.lit (.string x0.value)), .pv (.lit (.int .i64 x0.mode)), .pv (.lit (.int .i64 x0.bound)), .pv (.lit (.int .i64 x0.began)), .pv (.lit (.int .i64 x0.ended)), .pv (.lit (.int .i64 x0.ver)), .pv (.lit (.int .i64 x0.err)), .pv (.lit (.int .i64 x0.floor))]] ++ caps1) (.pv (.lit (.bool (f x0))))) (hw1 : AV.withinL (fun _ => false) caps1 = true) (hl1 : s.D.length ≤ 1000000) : PCalls Try.prog 57 [sS (some s.nil) eCall s.D, .fn g1 [] caps1] (.pv (.lit (.int .i64 (indexF s f)))) := by
 generalize hR : indexF s f = R
 refine PCalls.of_body tabOk Try.func57 rfl rfl rfl (by simp [AV.withinL, AV.within, sS, hw1]) rfl mixed fun E hP C hI => ?_
 refine Awp.consP C ?_
 refine rvP C (.pv (.lit (.int .i64 0))) ?_
 refine rvc_nil ?_
 refine Awp.seq ?_
 refine Awp.consP C ?_
 refine rvP C (sS (some s.nil) eCall s.D) ?_
 refine rvP C (.pv (.lit (.int .i64 (s.D.length : Int)))) ?_
 refine rvP C (.pv (.lit (.int .i64 0))) ?_
 refine rvc_nil ?_
 refine Awp.block ?_
 refine Awp.forR (σ := Unit) (s.D.length) (fun i _v => [(0, sS (some s.nil) eCall s.D), (1, .fn g1 [] caps1), (7, .pv (.lit (.int .i64 (s.D.length : Int)))), (8, .pv (.lit (.int .i64 (i : Int))))]) (fun i _v => []) [] (fun i _v => indexF_l0 f (s.D.drop i) i  = R) () ?_ ?_ (fun i _v h1 hR => ?_)
 · exact hR
 · exact ⟨fun b => b, WeakerR.ofL (Ks := []) hI ⟨⟨rfl, rfl⟩, ⟨fn_to rfl hw1, fn_win hw1⟩, ⟨rfl, rfl⟩, ⟨rfl, rfl⟩, trivial⟩ (okH_nil) rfl⟩
 refine Awp.consP C ?_
 refine rvP C (.pv (.lit (.bool (decide ((i : Int) < (s.D.length : Int)))))) ?_
 refine rvc_nil ?_
 refine Awp.seq ?_
 refine Awp.cond (b := (decide ((i : Int) < (s.D.length : Int)))) rfl (fun h2 => ?_) (fun h2 => ?_)
 ·
  have h3 : i < s.D.length := by have := of_decide_eq_true h2; omega
  obtain ⟨x, h4⟩ := getX h3
  rw [drop_at h4] at hR
  refine Awp.skip ?_
  refine Awp.seq ?_
  refine Awp.block ?_
  refine Awp.consP C ?_
  refine rvP C (.pv (.lit (.int .i64 (i : Int)))) ?_
  refine rvP C (.pv (.lit (.int .i64 (i : Int)))) ?_
  refine rvc_nil ?_
  refine Awp.consP C ?_
  refine rvP C (.fn g1 [] caps1) ?_
  refine rvP C (sS (some s.nil) eCall s.D) ?_
  refine rvP C (.pv (.lit (.int .i64 (i : Int)))) ?_
  refine rvc_un (rexec_idxS C rfl rfl rfl rfl rfl rfl x (Int.natCast_nonneg _) h4 ?_)
  refine rvP C (.agg [.pv (.lit (.int .i64 x.client)), .pv (.lit (.int .i64 x.seq)), .pv (.lit (.bool x.write)), .pv (.lit (.int .u8 (x.key 0))), .pv (.lit (.int .u8 (x.key 1))), .pv (.lit (.int .u8 (x.key 2))), .pv (.lit (.int .u8 (x.key 3))), .pv (.lit (.int .u8 (x.key 4))), .pv (.lit (.int .u8 (x.key 5))), .pv (.lit (.int .u8 (x.key 6))), .pv (.lit (.int .u8 (x.key 7))), .pv (.lit (.string x.value)), .pv (.lit (.int .i64 x.mode)), .pv (.lit (.int .i64 x.bound)), .pv (.lit (.int .i64 x.began)), .pv (.lit (.int .i64 x.ended)), .pv (.lit (.int .i64 x.ver)), .pv (.lit (.int .i64 x.err)), .pv (.lit (.int .i64 x.floor))]) ?_
  refine rvc_un (rexec_callV hP C rfl rfl rfl rfl (hp1 x) rfl ?_)
  refine rvc_nil ?_
  refine Awp.cond (b := (f x)) rfl (fun h5 => ?_) (fun h5 => ?_)
  ·
   replace hR := of_true h5 hR
   refine Awp.consP C ?_
   refine rvP C (.pv (.lit (.int .i64 (i : Int)))) ?_
   refine rvP C (.pv (.lit (.int .i64 (i : Int)))) ?_
   refine rvc_nil ?_
   refine Awp.ret ?_
   subst hR
   exact ⟨.inl rfl, rfl⟩
  ·
   replace hR := of_false h5 hR
   refine Awp.skip ?_
   refine Awp.regionP C ?_
   refine rvP C (.pv (.lit (.int .i64 (IntKind.i64.wrap ((i : Int) + 1))))) ?_
   refine rvP C (.pv (.lit (.int .i64 (IntKind.i64.wrap ((i : Int) + 1))))) ?_
   refine rvc_nil ?_
   refine ⟨h3, (), ?_, ?_⟩
   · exact hR
   · exact ⟨fun b => b, WeakerR.ofL (Ks := []) hI ⟨⟨rfl, rfl⟩, ⟨fn_to rfl hw1, fn_win hw1⟩, ⟨rfl, rfl⟩, ⟨lit_cast (wrap_i64 (by omega) (by omega)), rfl⟩, trivial⟩ (okH_nil) rfl⟩
 ·
  have h3 : ¬ i < s.D.length := by have := of_decide_eq_false h2; omega
  rw [drop_end h3] at hR
  refine Awp.exit ?_
  refine Awp.consP C ?_
  refine rvP C (.pv (.lit (.int .i64 (-1)))) ?_
  refine rvc_nil ?_
  refine Awp.ret ?_
  subst hR
  exact ⟨.inl rfl, rfl⟩
def containsF (s : (Sl Call)) (f : Call → Bool) : Bool :=
  (decide ((indexF s f) ≥ 0))
theorem containsF_calls (s : (Sl Call)) (f : Call → Bool) (g1 : Nat) (caps1 : List AV) (hp1 : ∀ (x0 : Call), PCalls Try.prog g1 ([.agg [.pv (.lit (.int .i64 x0.client)), .pv (.lit (.int .i64 x0.seq)), .pv (.lit (.bool x0.write)), .pv (.lit (.int .u8 (x0.key 0))), .pv (.lit (.int .u8 (x0.key 1))), .pv (.lit (.int .u8 (x0.key 2))), .pv (.lit (.int .u8 (x0.key 3))), .pv (.lit (.int .u8 (x0.key 4))), .pv (.lit (.int .u8 (x0.key 5))), .pv (.lit (.int .u8 (x0.key 6))), .pv (.lit (.int .u8 (x0.key 7))), .pv (.lit (.string x0.value)), .pv (.lit (.int .i64 x0.mode)), .pv (.lit (.int .i64 x0.bound)), .pv (.lit (.int .i64 x0.began)), .pv (.lit (.int .i64 x0.ended)), .pv (.lit (.int .i64 x0.ver)), .pv (.lit (.int .i64 x0.err)), .pv (.lit (.int .i64 x0.floor))]] ++ caps1) (.pv (.lit (.bool (f x0))))) (hw1 : AV.withinL (fun _ => false) caps1 = true) (hl1 : s.D.length ≤ 1000000) : PCalls Try.prog 39 [sS (some s.nil) eCall s.D, .fn g1 [] caps1] (.pv (.lit (.bool (containsF s f)))) := by
 generalize hR : containsF s f = R
 refine PCalls.of_body tabOk Try.func39 rfl rfl rfl (by simp [AV.withinL, AV.within, sS, hw1]) rfl mixed fun E hP C hI => ?_
 refine Awp.consP C ?_
 refine rvP C (.pv (.lit (.bool false))) ?_
 refine rvc_nil ?_
 refine Awp.consP C ?_
 refine rvP C (sS (some s.nil) eCall s.D) ?_
 refine rvP C (.fn g1 [] caps1) ?_
 refine rvc_un (rexec_call hP C rfl rfl rfl (indexF_calls s f g1 caps1 hp1 hw1 hl1) ?_)
 refine rvP C (.pv (.lit (.bool (decide ((indexF s f) ≥ 0))))) ?_
 refine rvP C (.pv (.lit (.bool (decide ((indexF s f) ≥ 0))))) ?_
 refine rvc_nil ?_
 refine Awp.ret ?_
 subst hR
 exact ⟨.inl rfl, rfl⟩
def jBounds (calls : (Sl Call)) : Bool :=
  (!(containsF calls (fun x0 => boundsF x0 calls)))
theorem jBounds_calls (calls : (Sl Call)) (hl1 : calls.D.length ≤ 1000000) : PCalls Try.prog 17 [sS (some calls.nil) eCall calls.D] (.pv (.lit (.bool (jBounds calls)))) := by
 generalize hR : jBounds calls = R
 refine PCalls.of_body tabOk Try.func17 rfl rfl rfl rfl rfl mixed fun E hP C hI => ?_
 refine Awp.consP C ?_
 refine rvc_un (rexec_boxF C [.sl (some calls.nil) calls.D.length (encL eCall calls.D)] rfl rfl rfl rfl ?_)
 refine rvP C (.pv (.lit (.bool false))) ?_
 refine rvc_nil ?_
 refine Awp.consP C ?_
 refine rvP C (sS (some calls.nil) eCall calls.D) ?_
 refine rvP C (.fn 40 [] [.rp [.sl (some calls.nil) calls.D.length (encL eCall calls.D)]]) ?_
 refine rvc_un (rexec_call hP C rfl rfl rfl (containsF_calls calls (fun x0 => boundsF x0 calls) 40 [.rp [.sl (some calls.nil) calls.D.length (encL eCall calls.D)]] (fun x0 => boundsF_calls x0 calls (by omega)) rfl hl1) ?_)
 refine rvP C (.pv (.lit (.bool (!(containsF calls (fun x0 => boundsF x0 calls)))))) ?_
 refine rvP C (.pv (.lit (.bool (!(containsF calls (fun x0 => boundsF x0 calls)))))) ?_
 refine rvc_nil ?_
 refine Awp.ret ?_
 subst hR
 exact ⟨.inl rfl, rfl⟩
def jSessions (calls : (Sl Call)) : Bool :=
  (!(containsF calls (fun x0 => sessF x0)))
theorem jSessions_calls (calls : (Sl Call)) (hl1 : calls.D.length ≤ 1000000) : PCalls Try.prog 18 [sS (some calls.nil) eCall calls.D] (.pv (.lit (.bool (jSessions calls)))) := by
 generalize hR : jSessions calls = R
 refine PCalls.of_body tabOk Try.func18 rfl rfl rfl rfl rfl mixed fun E hP C hI => ?_
 refine Awp.consP C ?_
 refine rvP C (.pv (.lit (.bool false))) ?_
 refine rvc_nil ?_
 refine Awp.consP C ?_
 refine rvP C (sS (some calls.nil) eCall calls.D) ?_
 refine rvc_un (rexec_call hP C rfl rfl rfl (containsF_calls calls (fun x0 => sessF x0) 42 [] (fun x0 => sessF_calls x0) rfl hl1) ?_)
 refine rvP C (.pv (.lit (.bool (!(containsF calls (fun x0 => sessF x0)))))) ?_
 refine rvP C (.pv (.lit (.bool (!(containsF calls (fun x0 => sessF x0)))))) ?_
 refine rvc_nil ?_
 refine Awp.ret ?_
 subst hR
 exact ⟨.inl rfl, rfl⟩
def rVersions_l4 (x6 : Op) (kk : Bool) : List Op → Nat → Bool
  | [], _ => kk 
  | x7 :: x7s, i7 => (bif (x7.ended != 0) then (bif (x6.ended == 0) then rVersions_l4 x6 kk x7s (i7 + 1)  else (bif (decide (x6.ended ≥ x7.began)) then rVersions_l4 x6 kk x7s (i7 + 1)  else (bif (decide (x6.ver > x7.ver)) then false else (bif x7.write then (bif (x6.ver == x7.ver) then false else rVersions_l4 x6 kk x7s (i7 + 1) ) else rVersions_l4 x6 kk x7s (i7 + 1) )))) else (bif x7.write then (bif (x6.ended == 0) then rVersions_l4 x6 kk x7s (i7 + 1)  else (bif (!(x7.ver != 0)) then rVersions_l4 x6 kk x7s (i7 + 1)  else (bif (decide (x6.ended ≥ x7.began)) then rVersions_l4 x6 kk x7s (i7 + 1)  else (bif (decide (x6.ver > x7.ver)) then false else (bif (x6.ver == x7.ver) then false else rVersions_l4 x6 kk x7s (i7 + 1) ))))) else (bif (x6.ended == 0) then rVersions_l4 x6 kk x7s (i7 + 1)  else rVersions_l4 x6 kk x7s (i7 + 1) )))
end Go.Proofs.Ytoieegmebadfkaa
namespace Go.Proofs.Ytoieegmebadfkaa
open Go.Am
theorem kSlot_eq (a b : Slot) : kSlot.eq a b = decide (kL a.key = kL b.key ∧ a.ver = b.ver) := by
  show (((((a.key 0) == (b.key 0)) && (((a.key 1) == (b.key 1)) && (((a.key 2) == (b.key 2)) && (((a.key 3) == (b.key 3)) && (((a.key 4) == (b.key 4)) && (((a.key 5) == (b.key 5)) && (((a.key 6) == (b.key 6)) && (((a.key 7) == (b.key 7)) && true)))))))) && ((a.ver == b.ver) && true))) = _
  rw [eq8, Bool.eq_iff_iff]; simp
theorem kReq_eq (a b : Req) : kReq.eq a b = decide (a.client = b.client ∧ a.seq = b.seq) := by
  show ((a.client == b.client) && ((a.seq == b.seq) && true)) = _
  rw [Bool.eq_iff_iff]; simp
section maps
variable {κ β : Type} {KE : KEnc κ}
theorem mGet_set (hsym : ∀ a b, KE.eq a b = KE.eq b a) (htr : ∀ a b c, KE.eq a b = true → KE.eq a c = KE.eq b c) (p q : κ) (b : β) : ∀ (D : List (κ × β)), mGet KE q (mSet KE p b D) = if KE.eq q p then some b else mGet KE q D
  | [] => rfl
  | e :: D => by
    unfold mSet
    by_cases h1 : KE.eq p e.1 = true
    · rw [if_pos h1]
      have e1 : KE.eq q e.1 = KE.eq q p := by rw [hsym q e.1, hsym q p, htr p e.1 q h1]
      show (if KE.eq q e.1 then some b else mGet KE q D) = if KE.eq q p then some b else if KE.eq q e.1 then some e.2 else mGet KE q D
      rw [e1]
      cases KE.eq q p <;> rfl
    · rw [if_neg h1]
      show (if KE.eq q e.1 then some e.2 else mGet KE q (mSet KE p b D)) = if KE.eq q p then some b else if KE.eq q e.1 then some e.2 else mGet KE q D
      rw [mGet_set hsym htr p q b D]
      by_cases h2 : KE.eq q p = true
      · rw [if_pos h2]
        have : KE.eq q e.1 = KE.eq p e.1 := htr q p e.1 h2
        rw [this, if_neg h1]
        simp [h2]
      · simp [h2]
end maps
theorem kReq_sym (a b : Req) : kReq.eq a b = kReq.eq b a := by
  rw [kReq_eq, kReq_eq, decide_eq_decide]; exact ⟨fun h => ⟨h.1.symm, h.2.symm⟩, fun h => ⟨h.1.symm, h.2.symm⟩⟩
theorem kReq_tr (a b c : Req) (h : kReq.eq a b = true) : kReq.eq a c = kReq.eq b c := by
  rw [kReq_eq] at h
  obtain ⟨h1, h2⟩ := of_decide_eq_true h
  rw [kReq_eq, kReq_eq, h1, h2]
theorem kSlot_sym (a b : Slot) : kSlot.eq a b = kSlot.eq b a := by
  rw [kSlot_eq, kSlot_eq, decide_eq_decide]; exact ⟨fun h => ⟨h.1.symm, h.2.symm⟩, fun h => ⟨h.1.symm, h.2.symm⟩⟩
theorem kSlot_tr (a b c : Slot) (h : kSlot.eq a b = true) : kSlot.eq a c = kSlot.eq b c := by
  rw [kSlot_eq] at h
  obtain ⟨h1, h2⟩ := of_decide_eq_true h
  rw [kSlot_eq, kSlot_eq, h1, h2]
/-- The last one of which something is so. -/
def lastP (p : Record → Bool) : List Record → Option Record → Option Record
  | [], r => r
  | x :: xs, r => lastP p xs (if p x then some x else r)
theorem openB_l0_req (q : Req) : ∀ (xs : List Record) (i : Nat) (m1 : List (Slot × Record)) (m2 : List (Req × Record)), mGet kReq q (openB_l0 xs i m1 m2).req = lastP (fun x => kReq.eq q x.req) xs (mGet kReq q m2)
  | [], _, _, _ => rfl
  | x :: xs, i, m1, m2 => by
    unfold openB_l0 lastP
    rw [openB_l0_req q xs (i + 1), mGet_set kReq_sym kReq_tr]
theorem openB_l0_of (q : Slot) : ∀ (xs : List Record) (i : Nat) (m1 : List (Slot × Record)) (m2 : List (Req × Record)), mGet kSlot q (openB_l0 xs i m1 m2).of_ = lastP (fun x => kSlot.eq q (Slot.mk x.key x.ver)) xs (mGet kSlot q m1)
  | [], _, _, _ => rfl
  | x :: xs, i, m1, m2 => by
    unfold openB_l0 lastP
    rw [openB_l0_of q xs (i + 1), mGet_set kSlot_sym kSlot_tr]
theorem openB_req (q : Req) (recs : Sl Record) : mGet kReq q (openB recs).req = lastP (fun x => decide (q.client = x.req.client ∧ q.seq = x.req.seq)) recs.D none := by
  unfold openB
  rw [openB_l0_req]
  simp only [kReq_eq]; rfl
theorem openB_of (q : Slot) (recs : Sl Record) : mGet kSlot q (openB recs).of_ = lastP (fun x => decide (kL q.key = kL x.key ∧ q.ver = x.ver)) recs.D none := by
  unfold openB
  rw [openB_l0_of]
  simp only [kSlot_eq]; rfl
theorem lastP_mem (p : Record → Bool) : ∀ (xs : List Record) (r : Option Record) (y : Record), lastP p xs r = some y → r = some y ∨ y ∈ xs ∧ p y = true
  | [], _, _, h => .inl h
  | x :: xs, r, y, h => by
    unfold lastP at h
    rcases lastP_mem p xs _ y h with h | h
    · by_cases hx : p x = true
      · rw [if_pos hx] at h
        obtain rfl := Option.some.inj h
        exact .inr ⟨List.mem_cons_self, hx⟩
      · rw [if_neg hx] at h; exact .inl h
    · exact .inr ⟨List.mem_cons_of_mem _ h.1, h.2⟩
def lastC (c : Call) (recs : Sl Record) : Option Record := lastP (fun x => decide (c.client = x.req.client ∧ c.seq = x.req.seq)) recs.D none
theorem reqOf (c : Call) (recs : Sl Record) : mGet kReq (jReq c) (openB recs).req = lastC c recs := openB_req _ _
def ans (c : Call) : Bool := c.ended != 0 && c.err == 0
def cnt (c : Call) : Bool := c.write || c.mode == 0 || c.mode == 1 && c.bound == 0
theorem jAns_eq (c : Call) : jAnswered c = ans c := by unfold jAnswered ans; cases c.ended != 0 <;> rfl
theorem jCnt_eq (c : Call) : jCounts c = cnt c := by unfold jCounts cnt; cases c.write <;> cases c.mode == 0 <;> cases c.mode == 1 <;> simp
def sel (k : List Int) (x : Call) : Bool := decide (kL x.key = k) && (cnt x && (x.write || ans x))
def opOf (recs : Sl Record) (x : Call) : Op := if x.write && !ans x then Op.mk x.write x.value ((lastC x recs).getD zeroR).ver x.began 0 else Op.mk x.write x.value x.ver x.began x.ended
def opsOf (k : List Int) (recs : Sl Record) (xs : List Call) : List Op := (xs.filter (sel k)).map (opOf recs)
theorem jOps_l0_eq (k : Nat → Int) (recs : Sl Record) : ∀ (xs : List Call) (i : Nat) (l : List Op), jOps_l0 k recs xs i l = Sl.mk (l ++ opsOf (kL k) recs xs).isEmpty (l ++ opsOf (kL k) recs xs)
  | [], _, l => by unfold jOps_l0 opsOf; simp
  | x :: xs, i, l => by
    unfold jOps_l0
    have ih := jOps_l0_eq k recs xs (i + 1)
    rw [eq8, jCnt_eq, jAns_eq, reqOf]
    unfold opsOf
    by_cases h1 : kL x.key = kL k
    · rw [decide_eq_true h1, Bool.not_true, cond_false]
      cases h2 : cnt x
      · rw [Bool.not_false, cond_true, ih, List.filter_cons_of_neg (by unfold sel; rw [h2]; simp)]; rfl
      · rw [Bool.not_true, cond_false]
        cases h3 : x.write
        · rw [Bool.not_false, cond_true]
          cases h4 : ans x
          · rw [Bool.not_false, cond_true, ih, List.filter_cons_of_neg (by unfold sel; rw [h2, h3, h4]; simp)]; rfl
          · rw [Bool.not_true, cond_false, cond_false, ih, List.filter_cons_of_pos (by unfold sel; rw [h2, h4, decide_eq_true h1]; simp), List.map_cons]
            unfold opsOf
            simp [opOf, h3]
        · rw [Bool.not_true, cond_false, cond_true]
          cases h4 : ans x
          · rw [Bool.not_false, cond_true, ih, List.filter_cons_of_pos (by unfold sel; rw [h2, h3, decide_eq_true h1]; simp), List.map_cons]
            unfold opsOf
            simp [opOf, h3, h4, zeroR]
          · rw [Bool.not_true, cond_false, ih, List.filter_cons_of_pos (by unfold sel; rw [h2, h3, decide_eq_true h1]; simp), List.map_cons]
            unfold opsOf
            simp [opOf, h3, h4]
    · rw [decide_eq_false h1, Bool.not_false, cond_true, ih, List.filter_cons_of_neg (by unfold sel; rw [decide_eq_false h1]; simp)]; rfl
theorem jOps_eq (k : Nat → Int) (calls : Sl Call) (recs : Sl Record) : jOps k calls recs = Sl.mk (opsOf (kL k) recs calls.D).isEmpty (opsOf (kL k) recs calls.D) := by
  unfold jOps; rw [jOps_l0_eq]; rfl
theorem opsOf_len (k : List Int) (recs : Sl Record) (xs : List Call) : (opsOf k recs xs).length ≤ xs.length := by
  unfold opsOf; rw [List.length_map]; exact List.length_filter_le _ _
theorem jOps_len {k : Nat → Int} {calls : Sl Call} {recs : Sl Record} : (jOps k calls recs).D.length ≤ calls.D.length := by rw [jOps_eq]; exact opsOf_len _ _ _
end Go.Proofs.Ytoieegmebadfkaa
namespace Go.Proofs.Ytoieegmebadfkaa
open Go.Am
def Asc (L : List (List Int)) : Prop := L.Pairwise fun a b => ll a b = true
theorem asc_ext : ∀ (L M : List (List Int)), Asc L → Asc M → (∀ x, x ∈ L ↔ x ∈ M) → L = M
  | [], [], _, _, _ => rfl
  | [], m :: M, _, _, h => by have := (h m).2 List.mem_cons_self; cases this
  | l :: L, [], _, _, h => by have := (h l).1 List.mem_cons_self; cases this
  | l :: L, m :: M, h1, h2, h => by
    have h1' := List.pairwise_cons.1 h1
    have h2' := List.pairwise_cons.1 h2
    have e : l = m := by
      rcases List.mem_cons.1 ((h l).1 List.mem_cons_self) with e | e
      · exact e
      · rcases List.mem_cons.1 ((h m).2 List.mem_cons_self) with e' | e'
        · exact e'.symm
        · have a := h2'.1 l e
          rw [ll_asym (h1'.1 m e')] at a; cases a
    subst e
    congr 1
    refine asc_ext L M h1'.2 h2'.2 fun x => ⟨fun hx => ?_, fun hx => ?_⟩
    · rcases List.mem_cons.1 ((h x).1 (List.mem_cons_of_mem _ hx)) with e | e
      · exact absurd e (ll_ne (h1'.1 x hx)).symm
      · exact e
    · rcases List.mem_cons.1 ((h x).2 (List.mem_cons_of_mem _ hx)) with e | e
      · exact absurd e (ll_ne (h2'.1 x hx)).symm
      · exact e
theorem dd_spec : ∀ (xs : List (Nat → Int)) (p : List Int), (p :: xs.map kL).Pairwise (fun a b => ll b a = false) → Asc (p :: (dd p xs).map kL) ∧ ∀ y, y ∈ p :: (dd p xs).map kL ↔ y ∈ p :: xs.map kL
  | [], p, _ => ⟨List.pairwise_cons.2 ⟨fun _ h => (by cases h), .nil⟩, fun _ => Iff.rfl⟩
  | x :: xs, p, h => by
    rw [List.map_cons] at h
    obtain ⟨g1, g2⟩ := List.pairwise_cons.1 h
    rw [dd_cons]
    by_cases e : kL x = p
    · rw [if_pos e]
      obtain ⟨i1, i2⟩ := dd_spec xs p (List.pairwise_cons.2 ⟨fun a ha => g1 a (List.mem_cons_of_mem _ ha), (List.pairwise_cons.1 g2).2⟩)
      refine ⟨i1, fun y => (i2 y).trans ?_⟩
      rw [List.map_cons, e]
      simp only [List.mem_cons]
      exact ⟨fun h => h.elim .inl fun h => .inr (.inr h), fun h => h.elim .inl fun h => h⟩
    · rw [if_neg e]
      obtain ⟨i1, i2⟩ := dd_spec xs (kL x) g2
      rw [List.map_cons]
      have hlt : ll p (kL x) = true := ll_tri (g1 (kL x) List.mem_cons_self) e
      refine ⟨List.pairwise_cons.2 ⟨fun a ha => ?_, i1⟩, fun y => ?_⟩
      · rcases List.mem_cons.1 ha with rfl | ha
        · exact hlt
        · exact ll_trans hlt ((List.pairwise_cons.1 i1).1 a ha)
      · rw [List.map_cons, List.mem_cons, i2 y, List.mem_cons (a := y) (b := p)]
theorem ddK_spec {D : List (Nat → Int)} (h : D.Pairwise fun a b => ll (kL b) (kL a) = false) : Asc ((ddK D).map kL) ∧ ∀ y, y ∈ (ddK D).map kL ↔ y ∈ D.map kL := by
  cases D with
  | nil => exact ⟨.nil, fun _ => Iff.rfl⟩
  | cons x xs =>
    have := dd_spec xs (kL x) (by rw [← List.map_cons, List.pairwise_map]; exact h)
    exact this
theorem jKeys_l0_eq : ∀ (xs : List Call) (i : Nat) (l : List (Nat → Int)), (jKeys_l0 xs i l).D = compactKeys (sortKeys (l ++ xs.map (·.key)) cmpKeys)
  | [], _, l => by
    unfold jKeys_l0
    rw [List.map_nil, List.append_nil]
  | x :: xs, i, l => by
    unfold jKeys_l0
    rw [jKeys_l0_eq xs (i + 1), List.map_cons, List.append_assoc]; rfl
theorem jKeys_D {calls : Sl Call} (hL : calls.D.length ≤ 1000000) : (jKeys calls).D = ddK (sortKeys (calls.D.map (·.key)) cmpKeys) := by
  unfold jKeys
  rw [jKeys_l0_eq, List.nil_append, compact_eq (by rw [sortKeys_len, List.length_map]; exact hL)]
theorem jKeys_spec {calls : Sl Call} (hL : calls.D.length ≤ 1000000) : Asc ((jKeys calls).D.map kL) ∧ ∀ y, y ∈ (jKeys calls).D.map kL ↔ y ∈ calls.D.map fun x => kL x.key := by
  rw [jKeys_D hL]
  obtain ⟨p1, p2⟩ := sortKeys_spec (calls.D.map (·.key))
  obtain ⟨q1, q2⟩ := ddK_spec p2
  refine ⟨q1, fun y => (q2 y).trans ?_⟩
  rw [(p1.map kL).mem_iff, List.map_map]; rfl
theorem ddK_len : ∀ (D : List (Nat → Int)), (ddK D).length ≤ D.length
  | [] => Nat.le_refl _
  | x :: xs => by
    have : ∀ (ys : List (Nat → Int)) (p : List Int), (dd p ys).length ≤ ys.length := fun ys => by
      induction ys with
      | nil => intro p; exact Nat.le_refl _
      | cons y ys ih =>
        intro p
        rw [dd_cons]
        split
        · rw [List.length_cons]; exact Nat.le_succ_of_le (ih _)
        · rw [List.length_cons, List.length_cons]; exact Nat.succ_le_succ (ih _)
    exact Nat.succ_le_succ (this xs (kL x))
theorem jKeys_len {calls : Sl Call} (hL : calls.D.length ≤ 1000000) : (jKeys calls).D.length ≤ calls.D.length := by
  rw [jKeys_D hL]
  refine Nat.le_trans (ddK_len _) ?_
  rw [sortKeys_len, List.length_map]; exact Nat.le_refl _
end Go.Proofs.Ytoieegmebadfkaa
namespace Go.Proofs.Ytoieegmebadfkaa
open Go.Am
structure Stand where
  value : ByteArray
  began : Int
  there : Bool
  deriving Inhabited
def kI64 : KEnc Int := ⟨fun x => .pv (.lit (.int .i64 x)), fun a b => (a == b), fun _ => rfl, fun _ => Nat.le_of_ble_eq_true rfl, fun a b => by simp only [beq_iff_eq, AV.pv.injEq, PV.lit.injEq, Value.int.injEq, true_and]⟩
theorem kI64_ok : KeyOk Try.prog 3 kI64 := KeyOk.int tabOk (r := (tab.lookup 3).get rfl) rfl rfl (f := fun x => x) (fun _ => rfl) (fun _ _ => rfl)
def vStand : VEnc Stand := ⟨fun x => .agg [.pv (.lit (.string x.value)), .pv (.lit (.int .i64 x.began)), .pv (.lit (.bool x.there))], fun _ _ => rfl⟩
def rising_l1 (x : Op) (kk : Bool) : List Op → Nat → Bool
  | [], _ => kk 
  | x1 :: x1s, i1 => (bif (x.ended == 0) then rising_l1 x kk x1s (i1 + 1)  else (bif (x1.ver == 0) then (bif x1.write then rising_l1 x kk x1s (i1 + 1)  else (bif (decide (x.ended ≥ x1.began)) then rising_l1 x kk x1s (i1 + 1)  else (bif (x1.ended == 0) then (bif (!x1.write) then rising_l1 x kk x1s (i1 + 1)  else (bif (decide (x.ver > x1.ver)) then false else rising_l1 x kk x1s (i1 + 1) )) else (bif (decide (x.ver > x1.ver)) then false else rising_l1 x kk x1s (i1 + 1) )))) else (bif (decide (x.ended ≥ x1.began)) then rising_l1 x kk x1s (i1 + 1)  else (bif (x1.ended == 0) then (bif (!x1.write) then rising_l1 x kk x1s (i1 + 1)  else (bif (decide (x.ver > x1.ver)) then false else (bif x1.write then (bif (x.ver == x1.ver) then false else rising_l1 x kk x1s (i1 + 1) ) else rising_l1 x kk x1s (i1 + 1) ))) else (bif (decide (x.ver > x1.ver)) then false else (bif x1.write then (bif (x.ver == x1.ver) then false else rising_l1 x kk x1s (i1 + 1) ) else rising_l1 x kk x1s (i1 + 1) ))))))
def rising_l0 (l : (Sl Op)) : List Op → Nat → Bool
  | [], _ => true
  | x :: xs, i => rising_l1 x (rising_l0 l xs (i + 1) ) l.D 0
def rising (l : (Sl Op)) : Bool :=
  rising_l0 l l.D 0
theorem rising_calls (l : (Sl Op)) (hl1 : l.D.length ≤ 1000000) : PCalls Try.prog 56 [sS (some l.nil) eOp l.D] (.pv (.lit (.bool (rising l)))) := by
 generalize hR : rising l = R
 refine PCalls.of_body tabOk Try.func56 rfl rfl rfl rfl rfl mixed fun E hP C hI => ?_
 refine Awp.consP C ?_
 refine rvP C (.pv (.lit (.bool false))) ?_
 refine rvc_nil ?_
 refine Awp.seq ?_
 refine Awp.consP C ?_
 refine rvP C (sS (some l.nil) eOp l.D) ?_
 refine rvP C (.pv (.lit (.int .i64 (l.D.length : Int)))) ?_
 refine rvP C (.pv (.lit (.int .i64 0))) ?_
 refine rvc_nil ?_
 refine Awp.block ?_
 refine Awp.forR (σ := Unit) (l.D.length) (fun i _v => [(0, sS (some l.nil) eOp l.D), (7, sS (some l.nil) eOp l.D), (8, .pv (.lit (.int .i64 (l.D.length : Int)))), (9, .pv (.lit (.int .i64 (i : Int))))]) (fun i _v => []) [] (fun i _v => rising_l0 l (l.D.drop i) i  = R) () ?_ ?_ (fun i _v h1 hR => ?_)
 · exact hR
 · exact ⟨fun b => b, WeakerR.ofL (Ks := []) hI ⟨⟨rfl, rfl⟩, ⟨rfl, rfl⟩, ⟨rfl, rfl⟩, ⟨rfl, rfl⟩, trivial⟩ (okH_nil) rfl⟩
 refine Awp.consP C ?_
 refine rvP C (.pv (.lit (.bool (decide ((i : Int) < (l.D.length : Int)))))) ?_
 refine rvc_nil ?_
 refine Awp.seq ?_
 refine Awp.cond (b := (decide ((i : Int) < (l.D.length : Int)))) rfl (fun h2 => ?_) (fun h2 => ?_)
 ·
  have h3 : i < l.D.length := by have := of_decide_eq_true h2; omega
  obtain ⟨x, h4⟩ := getX h3
  rw [drop_at h4] at hR
  refine Awp.skip ?_
  refine Awp.seq ?_
  refine Awp.block ?_
  refine Awp.consP C ?_
  refine rvc_un (rexec_idxS C rfl rfl rfl rfl rfl rfl x (Int.natCast_nonneg _) h4 ?_)
  refine rvP C (.agg [.pv (.lit (.bool x.write)), .pv (.lit (.string x.value)), .pv (.lit (.int .i64 x.ver)), .pv (.lit (.int .i64 x.began)), .pv (.lit (.int .i64 x.ended))]) ?_
  refine rvc_un (rexec_prim C (δ := { v := .ptr 4 0, new := [(4, .cells [.pv (.lit (.bool false)), .pv (.lit (.string ⟨#[]⟩)), .pv (.lit (.int .i64 0)), .pv (.lit (.int .i64 0)), .pv (.lit (.int .i64 0))])] }) rfl rfl rfl rfl trivial rfl ?_)
  refine rvc_un (rexec_prim C (δ := { v := .undef, wr := [(4, some (.cells [.pv (.lit (.bool x.write)), .pv (.lit (.string x.value)), .pv (.lit (.int .i64 x.ver)), .pv (.lit (.int .i64 x.began)), .pv (.lit (.int .i64 x.ended))]))] }) rfl rfl rfl rfl trivial rfl ?_)
  refine rvc_nil ?_
  refine Awp.consP C ?_
  refine rvP C (sS (some l.nil) eOp l.D) ?_
  refine rvP C (.pv (.lit (.int .i64 (l.D.length : Int)))) ?_
  refine rvP C (.pv (.lit (.int .i64 0))) ?_
  refine rvc_nil ?_
  refine Awp.block ?_
  refine Awp.forR (σ := Unit) (l.D.length) (fun i1 _v => [(0, sS (some l.nil) eOp l.D), (4, .ptr 4 0), (7, sS (some l.nil) eOp l.D), (8, .pv (.lit (.int .i64 (l.D.length : Int)))), (9, .pv (.lit (.int .i64 (i : Int)))), (13, sS (some l.nil) eOp l.D), (14, .pv (.lit (.int .i64 (l.D.length : Int)))), (15, .pv (.lit (.int .i64 (i1 : Int))))]) (fun i1 _v => [(4, .cells [.pv (.lit (.bool x.write)), .pv (.lit (.string x.value)), .pv (.lit (.int .i64 x.ver)), .pv (.lit (.int .i64 x.began)), .pv (.lit (.int .i64 x.ended))])]) [4] (fun i1 _v => rising_l1 x (rising_l0 l (l.D.drop (i + 1)) (i + 1) ) (l.D.drop i1) i1  = R) () ?_ ?_ (fun i1 _v h5 hR => ?_)
  · exact hR
  · exact ⟨fun b => b, WeakerR.ofL (Ks := [4]) hI ⟨⟨rfl, rfl⟩, ⟨rfl, rfl⟩, ⟨rfl, rfl⟩, ⟨rfl, rfl⟩, ⟨rfl, rfl⟩, ⟨rfl, rfl⟩, ⟨rfl, rfl⟩, ⟨rfl, rfl⟩, trivial⟩ (okH_cons rfl rfl rfl rfl (okH_nil)) rfl⟩
  refine Awp.consP C ?_
  refine rvP C (.pv (.lit (.bool (decide ((i1 : Int) < (l.D.length : Int)))))) ?_
  refine rvc_nil ?_
  refine Awp.seq ?_
  refine Awp.cond (b := (decide ((i1 : Int) < (l.D.length : Int)))) rfl (fun h6 => ?_) (fun h6 => ?_)
  ·
   have h7 : i1 < l.D.length := by have := of_decide_eq_true h6; omega
   obtain ⟨x1, h8⟩ := getX h7
   rw [drop_at h8] at hR
   refine Awp.skip ?_
   refine Awp.seq ?_
   refine Awp.block ?_
   refine Awp.consP C ?_
   refine rvc_un (rexec_idxS C rfl rfl rfl rfl rfl rfl x1 (Int.natCast_nonneg _) h8 ?_)
   refine rvP C (.agg [.pv (.lit (.bool x1.write)), .pv (.lit (.string x1.value)), .pv (.lit (.int .i64 x1.ver)), .pv (.lit (.int .i64 x1.began)), .pv (.lit (.int .i64 x1.ended))]) ?_
   refine rvc_un (rexec_prim C (δ := { v := .ptr 6 0, new := [(6, .cells [.pv (.lit (.bool false)), .pv (.lit (.string ⟨#[]⟩)), .pv (.lit (.int .i64 0)), .pv (.lit (.int .i64 0)), .pv (.lit (.int .i64 0))])] }) rfl rfl rfl rfl trivial rfl ?_)
   refine rvc_un (rexec_prim C (δ := { v := .undef, wr := [(6, some (.cells [.pv (.lit (.bool x1.write)), .pv (.lit (.string x1.value)), .pv (.lit (.int .i64 x1.ver)), .pv (.lit (.int .i64 x1.began)), .pv (.lit (.int .i64 x1.ended))]))] }) rfl rfl rfl rfl trivial rfl ?_)
   refine rvc_nil ?_
   refine Awp.seq ?_
   refine Awp.consP C ?_
   refine rvP C (.ptr 4 4) ?_
   refine rvP C (.pv (.lit (.int .i64 x.ended))) ?_
   refine rvP C (.pv (.lit (.bool (x.ended == 0)))) ?_
   refine rvP C (.pv (.lit (.bool (x.ended == 0)))) ?_
   refine rvc_case 22 (x.ended == 0) rfl (fun h9 => ?_) (fun h9 => ?_)
   ·
    replace hR := of_true h9 hR
    refine rvS ?_
    refine rvS ?_
    refine rvS ?_
    refine rvS ?_
    refine rvc_shutU rfl rfl rfl ?_
    refine rvc_shutU rfl rfl rfl ?_
    refine rvS ?_
    refine rvP C (.pv (.lit (.bool true))) ?_
    refine rvP C (.pv (.lit (.bool true))) ?_
    refine rvS ?_
    refine rvS ?_
    refine rvS ?_
    refine rvS ?_
    refine rvS ?_
    refine rvP C (.pv (.lit (.bool true))) ?_
    refine rvP C (.pv (.lit (.bool true))) ?_
    refine rvS ?_
    refine rvS ?_
    refine rvS ?_
    refine rvS ?_
    refine rvc_shutU rfl rfl rfl ?_
    refine rvc_shutU rfl rfl rfl ?_
    refine rvc_shutU rfl rfl rfl ?_
    refine rvS ?_
    refine rvP C (.pv (.lit (.bool true))) ?_
    refine rvc_nil ?_
    refine Awp.condT (b := true) rfl rfl ?_
    refine Awp.exit ?_
    refine Awp.regionP C ?_
    refine rvP C (.pv (.lit (.int .i64 (IntKind.i64.wrap ((i1 : Int) + 1))))) ?_
    refine rvP C (.pv (.lit (.int .i64 (IntKind.i64.wrap ((i1 : Int) + 1))))) ?_
    refine rvc_nil ?_
    refine ⟨h7, (), ?_, ?_⟩
    · exact hR
    · exact ⟨fun b => b, WeakerR.ofL (Ks := [4]) hI ⟨⟨rfl, rfl⟩, ⟨rfl, rfl⟩, ⟨rfl, rfl⟩, ⟨rfl, rfl⟩, ⟨rfl, rfl⟩, ⟨rfl, rfl⟩, ⟨rfl, rfl⟩, ⟨lit_cast (wrap_i64 (by omega) (by omega)), rfl⟩, trivial⟩ (okH_cons rfl rfl rfl rfl (okH_nil)) rfl⟩
   ·
    replace hR := of_false h9 hR
    refine rvO C (.ptr 6 2) ?_
    refine rvO C (.pv (.lit (.int .i64 x1.ver))) ?_
    refine rvO C (.pv (.lit (.bool (x1.ver == 0)))) ?_
    refine rvO C (.pv (.lit (.bool (x1.ver == 0)))) ?_
    refine rvc_case 26 (x1.ver == 0) rfl (fun h10 => ?_) (fun h10 => ?_)
    ·
     replace hR := of_true h10 hR
     refine rvO C (.ptr 6 0) ?_
     refine rvO C (.pv (.lit (.bool x1.write))) ?_
     refine rvO C (.pv (.lit (.bool x1.write))) ?_
     refine rvP C (.pv (.lit (.bool x1.write))) ?_
     refine rvP C (.pv (.lit (.bool x1.write))) ?_
     refine rvc_case 31 x1.write rfl (fun h11 => ?_) (fun h11 => ?_)
     ·
      replace hR := of_true h11 hR
      refine rvS ?_
      refine rvS ?_
      refine rvS ?_
      refine rvS ?_
      refine rvS ?_
      refine rvP C (.pv (.lit (.bool true))) ?_
      refine rvP C (.pv (.lit (.bool true))) ?_
      refine rvS ?_
      refine rvS ?_
      refine rvS ?_
      refine rvS ?_
      refine rvc_shutU rfl rfl rfl ?_
      refine rvc_shutU rfl rfl rfl ?_
      refine rvc_shutU rfl rfl rfl ?_
      refine rvS ?_
      refine rvP C (.pv (.lit (.bool true))) ?_
      refine rvc_nil ?_
      refine Awp.condT (b := true) rfl rfl ?_
      refine Awp.exit ?_
      refine Awp.regionP C ?_
      refine rvP C (.pv (.lit (.int .i64 (IntKind.i64.wrap ((i1 : Int) + 1))))) ?_
      refine rvP C (.pv (.lit (.int .i64 (IntKind.i64.wrap ((i1 : Int) + 1))))) ?_
      refine rvc_nil ?_
      refine ⟨h7, (), ?_, ?_⟩
      · exact hR
      · exact ⟨fun b => b, WeakerR.ofL (Ks := [4]) hI ⟨⟨rfl, rfl⟩, ⟨rfl, rfl⟩, ⟨rfl, rfl⟩, ⟨rfl, rfl⟩, ⟨rfl, rfl⟩, ⟨rfl, rfl⟩, ⟨rfl, rfl⟩, ⟨lit_cast (wrap_i64 (by omega) (by omega)), rfl⟩, trivial⟩ (okH_cons rfl rfl rfl rfl (okH_nil)) rfl⟩
     ·
      replace hR := of_false h11 hR
      refine rvO C (.ptr 4 4) ?_
      refine rvO C (.pv (.lit (.int .i64 x.ended))) ?_
      refine rvO C (.ptr 6 3) ?_
      refine rvO C (.pv (.lit (.int .i64 x1.began))) ?_
      refine rvO C (.pv (.lit (.bool (decide (x.ended ≥ x1.began))))) ?_
      refine rvP C (.pv (.lit (.bool (decide (x.ended ≥ x1.began))))) ?_
      refine rvP C (.pv (.lit (.bool (decide (x.ended ≥ x1.began))))) ?_
      refine rvc_case 38 (decide (x.ended ≥ x1.began)) rfl (fun h12 => ?_) (fun h12 => ?_)
      ·
       replace hR := of_true h12 hR
       refine rvS ?_
       refine rvS ?_
       refine rvS ?_
       refine rvS ?_
       refine rvc_shutU rfl rfl rfl ?_
       refine rvc_shutU rfl rfl rfl ?_
       refine rvc_shutU rfl rfl rfl ?_
       refine rvS ?_
       refine rvP C (.pv (.lit (.bool true))) ?_
       refine rvc_nil ?_
       refine Awp.condT (b := true) rfl rfl ?_
       refine Awp.exit ?_
       refine Awp.regionP C ?_
       refine rvP C (.pv (.lit (.int .i64 (IntKind.i64.wrap ((i1 : Int) + 1))))) ?_
       refine rvP C (.pv (.lit (.int .i64 (IntKind.i64.wrap ((i1 : Int) + 1))))) ?_
       refine rvc_nil ?_
       refine ⟨h7, (), ?_, ?_⟩
       · exact hR
       · exact ⟨fun b => b, WeakerR.ofL (Ks := [4]) hI ⟨⟨rfl, rfl⟩, ⟨rfl, rfl⟩, ⟨rfl, rfl⟩, ⟨rfl, rfl⟩, ⟨rfl, rfl⟩, ⟨rfl, rfl⟩, ⟨rfl, rfl⟩, ⟨lit_cast (wrap_i64 (by omega) (by omega)), rfl⟩, trivial⟩ (okH_cons rfl rfl rfl rfl (okH_nil)) rfl⟩
      ·
       replace hR := of_false h12 hR
       refine rvO C (.ptr 6 4) ?_
       refine rvO C (.pv (.lit (.int .i64 x1.ended))) ?_
       refine rvO C (.pv (.lit (.bool (x1.ended == 0)))) ?_
       refine rvO C (.pv (.lit (.bool (x1.ended == 0)))) ?_
       refine rvc_case 42 (x1.ended == 0) rfl (fun h13 => ?_) (fun h13 => ?_)
       ·
        replace hR := of_true h13 hR
        refine rvO C (.ptr 6 0) ?_
        refine rvO C (.pv (.lit (.bool x1.write))) ?_
        refine rvO C (.pv (.lit (.bool (!x1.write)))) ?_
        refine rvO C (.pv (.lit (.bool (!x1.write)))) ?_
        refine rvP C (.pv (.lit (.bool (!x1.write)))) ?_
        refine rvc_nil ?_
        refine Awp.cond (b := (!x1.write)) rfl (fun h14 => ?_) (fun h14 => ?_)
        ·
         replace hR := of_true h14 hR
         refine Awp.exit ?_
         refine Awp.regionP C ?_
         refine rvP C (.pv (.lit (.int .i64 (IntKind.i64.wrap ((i1 : Int) + 1))))) ?_
         refine rvP C (.pv (.lit (.int .i64 (IntKind.i64.wrap ((i1 : Int) + 1))))) ?_
         refine rvc_nil ?_
         refine ⟨h7, (), ?_, ?_⟩
         · exact hR
         · exact ⟨fun b => b, WeakerR.ofL (Ks := [4]) hI ⟨⟨rfl, rfl⟩, ⟨rfl, rfl⟩, ⟨rfl, rfl⟩, ⟨rfl, rfl⟩, ⟨rfl, rfl⟩, ⟨rfl, rfl⟩, ⟨rfl, rfl⟩, ⟨lit_cast (wrap_i64 (by omega) (by omega)), rfl⟩, trivial⟩ (okH_cons rfl rfl rfl rfl (okH_nil)) rfl⟩
        ·
         replace hR := of_false h14 hR
         refine Awp.skip ?_
         refine Awp.consP C ?_
         refine rvP C (.ptr 4 2) ?_
         refine rvP C (.pv (.lit (.int .i64 x.ver))) ?_
         refine rvP C (.ptr 6 2) ?_
         refine rvP C (.pv (.lit (.int .i64 x1.ver))) ?_
         refine rvP C (.pv (.lit (.bool (decide (x.ver > x1.ver))))) ?_
         refine rvP C (.pv (.lit (.bool (decide (x.ver > x1.ver))))) ?_
         refine rvc_case 53 (decide (x.ver > x1.ver)) rfl (fun h15 => ?_) (fun h15 => ?_)
         ·
          replace hR := of_true h15 hR
          refine rvS ?_
          refine rvS ?_
          refine rvS ?_
          refine rvc_shutU rfl rfl rfl ?_
          refine rvc_shutU rfl rfl rfl ?_
          refine rvc_shutU rfl rfl rfl ?_
          refine rvc_shutU rfl rfl rfl ?_
          refine rvc_shutU rfl rfl rfl ?_
          refine rvS ?_
          refine rvP C (.pv (.lit (.bool true))) ?_
          refine rvc_nil ?_
          refine Awp.condT (b := true) rfl rfl ?_
          refine Awp.consP C ?_
          refine rvP C (.pv (.lit (.bool false))) ?_
          refine rvc_nil ?_
          refine Awp.ret ?_
          subst hR
          exact ⟨.inl rfl, rfl⟩
         ·
          replace hR := of_false h15 hR
          refine rvO C (.ptr 6 0) ?_
          refine rvO C (.pv (.lit (.bool x1.write))) ?_
          refine rvO C (.pv (.lit (.bool x1.write))) ?_
          refine rvc_known 56 x1.write false rfl h11 ?_
          refine rvS ?_
          refine rvS ?_
          refine rvS ?_
          refine rvS ?_
          refine rvS ?_
          refine rvO C (.pv (.lit (.bool false))) ?_
          refine rvP C (.pv (.lit (.bool false))) ?_
          refine rvc_nil ?_
          refine Awp.condF (b := false) rfl rfl ?_
          refine Awp.skip ?_
          refine Awp.regionP C ?_
          refine rvP C (.pv (.lit (.int .i64 (IntKind.i64.wrap ((i1 : Int) + 1))))) ?_
          refine rvP C (.pv (.lit (.int .i64 (IntKind.i64.wrap ((i1 : Int) + 1))))) ?_
          refine rvc_nil ?_
          refine ⟨h7, (), ?_, ?_⟩
          · exact hR
          · exact ⟨fun b => b, WeakerR.ofL (Ks := [4]) hI ⟨⟨rfl, rfl⟩, ⟨rfl, rfl⟩, ⟨rfl, rfl⟩, ⟨rfl, rfl⟩, ⟨rfl, rfl⟩, ⟨rfl, rfl⟩, ⟨rfl, rfl⟩, ⟨lit_cast (wrap_i64 (by omega) (by omega)), rfl⟩, trivial⟩ (okH_cons rfl rfl rfl rfl (okH_nil)) rfl⟩
       ·
        replace hR := of_false h13 hR
        refine rvS ?_
        refine rvS ?_
        refine rvS ?_
        refine rvO C (.pv (.lit (.bool false))) ?_
        refine rvP C (.pv (.lit (.bool false))) ?_
        refine rvc_nil ?_
        refine Awp.condF (b := false) rfl rfl ?_
        refine Awp.skip ?_
        refine Awp.consP C ?_
        refine rvP C (.ptr 4 2) ?_
        refine rvP C (.pv (.lit (.int .i64 x.ver))) ?_
        refine rvP C (.ptr 6 2) ?_
        refine rvP C (.pv (.lit (.int .i64 x1.ver))) ?_
        refine rvP C (.pv (.lit (.bool (decide (x.ver > x1.ver))))) ?_
        refine rvP C (.pv (.lit (.bool (decide (x.ver > x1.ver))))) ?_
        refine rvc_case 53 (decide (x.ver > x1.ver)) rfl (fun h16 => ?_) (fun h16 => ?_)
        ·
         replace hR := of_true h16 hR
         refine rvS ?_
         refine rvS ?_
         refine rvS ?_
         refine rvc_shutU rfl rfl rfl ?_
         refine rvc_shutU rfl rfl rfl ?_
         refine rvc_shutU rfl rfl rfl ?_
         refine rvc_shutU rfl rfl rfl ?_
         refine rvc_shutU rfl rfl rfl ?_
         refine rvS ?_
         refine rvP C (.pv (.lit (.bool true))) ?_
         refine rvc_nil ?_
         refine Awp.condT (b := true) rfl rfl ?_
         refine Awp.consP C ?_
         refine rvP C (.pv (.lit (.bool false))) ?_
         refine rvc_nil ?_
         refine Awp.ret ?_
         subst hR
         exact ⟨.inl rfl, rfl⟩
        ·
         replace hR := of_false h16 hR
         refine rvO C (.ptr 6 0) ?_
         refine rvO C (.pv (.lit (.bool x1.write))) ?_
         refine rvO C (.pv (.lit (.bool x1.write))) ?_
         refine rvc_known 56 x1.write false rfl h11 ?_
         refine rvS ?_
         refine rvS ?_
         refine rvS ?_
         refine rvS ?_
         refine rvS ?_
         refine rvO C (.pv (.lit (.bool false))) ?_
         refine rvP C (.pv (.lit (.bool false))) ?_
         refine rvc_nil ?_
         refine Awp.condF (b := false) rfl rfl ?_
         refine Awp.skip ?_
         refine Awp.regionP C ?_
         refine rvP C (.pv (.lit (.int .i64 (IntKind.i64.wrap ((i1 : Int) + 1))))) ?_
         refine rvP C (.pv (.lit (.int .i64 (IntKind.i64.wrap ((i1 : Int) + 1))))) ?_
         refine rvc_nil ?_
         refine ⟨h7, (), ?_, ?_⟩
         · exact hR
         · exact ⟨fun b => b, WeakerR.ofL (Ks := [4]) hI ⟨⟨rfl, rfl⟩, ⟨rfl, rfl⟩, ⟨rfl, rfl⟩, ⟨rfl, rfl⟩, ⟨rfl, rfl⟩, ⟨rfl, rfl⟩, ⟨rfl, rfl⟩, ⟨lit_cast (wrap_i64 (by omega) (by omega)), rfl⟩, trivial⟩ (okH_cons rfl rfl rfl rfl (okH_nil)) rfl⟩
    ·
     replace hR := of_false h10 hR
     refine rvS ?_
     refine rvS ?_
     refine rvO C (.pv (.lit (.bool false))) ?_
     refine rvP C (.pv (.lit (.bool false))) ?_
     refine rvP C (.pv (.lit (.bool false))) ?_
     refine rvO C (.ptr 4 4) ?_
     refine rvO C (.pv (.lit (.int .i64 x.ended))) ?_
     refine rvO C (.ptr 6 3) ?_
     refine rvO C (.pv (.lit (.int .i64 x1.began))) ?_
     refine rvO C (.pv (.lit (.bool (decide (x.ended ≥ x1.began))))) ?_
     refine rvP C (.pv (.lit (.bool (decide (x.ended ≥ x1.began))))) ?_
     refine rvP C (.pv (.lit (.bool (decide (x.ended ≥ x1.began))))) ?_
     refine rvc_case 38 (decide (x.ended ≥ x1.began)) rfl (fun h17 => ?_) (fun h17 => ?_)
     ·
      replace hR := of_true h17 hR
      refine rvS ?_
      refine rvS ?_
      refine rvS ?_
      refine rvS ?_
      refine rvc_shutU rfl rfl rfl ?_
      refine rvc_shutU rfl rfl rfl ?_
      refine rvc_shutU rfl rfl rfl ?_
      refine rvS ?_
      refine rvP C (.pv (.lit (.bool true))) ?_
      refine rvc_nil ?_
      refine Awp.condT (b := true) rfl rfl ?_
      refine Awp.exit ?_
      refine Awp.regionP C ?_
      refine rvP C (.pv (.lit (.int .i64 (IntKind.i64.wrap ((i1 : Int) + 1))))) ?_
      refine rvP C (.pv (.lit (.int .i64 (IntKind.i64.wrap ((i1 : Int) + 1))))) ?_
      refine rvc_nil ?_
      refine ⟨h7, (), ?_, ?_⟩
      · exact hR
      · exact ⟨fun b => b, WeakerR.ofL (Ks := [4]) hI ⟨⟨rfl, rfl⟩, ⟨rfl, rfl⟩, ⟨rfl, rfl⟩, ⟨rfl, rfl⟩, ⟨rfl, rfl⟩, ⟨rfl, rfl⟩, ⟨rfl, rfl⟩, ⟨lit_cast (wrap_i64 (by omega) (by omega)), rfl⟩, trivial⟩ (okH_cons rfl rfl rfl rfl (okH_nil)) rfl⟩
     ·
      replace hR := of_false h17 hR
      refine rvO C (.ptr 6 4) ?_
      refine rvO C (.pv (.lit (.int .i64 x1.ended))) ?_
      refine rvO C (.pv (.lit (.bool (x1.ended == 0)))) ?_
      refine rvO C (.pv (.lit (.bool (x1.ended == 0)))) ?_
      refine rvc_case 42 (x1.ended == 0) rfl (fun h18 => ?_) (fun h18 => ?_)
      ·
       replace hR := of_true h18 hR
       refine rvO C (.ptr 6 0) ?_
       refine rvO C (.pv (.lit (.bool x1.write))) ?_
       refine rvO C (.pv (.lit (.bool (!x1.write)))) ?_
       refine rvO C (.pv (.lit (.bool (!x1.write)))) ?_
       refine rvP C (.pv (.lit (.bool (!x1.write)))) ?_
       refine rvc_nil ?_
       refine Awp.cond (b := (!x1.write)) rfl (fun h19 => ?_) (fun h19 => ?_)
       ·
        replace hR := of_true h19 hR
        refine Awp.exit ?_
        refine Awp.regionP C ?_
        refine rvP C (.pv (.lit (.int .i64 (IntKind.i64.wrap ((i1 : Int) + 1))))) ?_
        refine rvP C (.pv (.lit (.int .i64 (IntKind.i64.wrap ((i1 : Int) + 1))))) ?_
        refine rvc_nil ?_
        refine ⟨h7, (), ?_, ?_⟩
        · exact hR
        · exact ⟨fun b => b, WeakerR.ofL (Ks := [4]) hI ⟨⟨rfl, rfl⟩, ⟨rfl, rfl⟩, ⟨rfl, rfl⟩, ⟨rfl, rfl⟩, ⟨rfl, rfl⟩, ⟨rfl, rfl⟩, ⟨rfl, rfl⟩, ⟨lit_cast (wrap_i64 (by omega) (by omega)), rfl⟩, trivial⟩ (okH_cons rfl rfl rfl rfl (okH_nil)) rfl⟩
       ·
        replace hR := of_false h19 hR
        refine Awp.skip ?_
        refine Awp.consP C ?_
        refine rvP C (.ptr 4 2) ?_
        refine rvP C (.pv (.lit (.int .i64 x.ver))) ?_
        refine rvP C (.ptr 6 2) ?_
        refine rvP C (.pv (.lit (.int .i64 x1.ver))) ?_
        refine rvP C (.pv (.lit (.bool (decide (x.ver > x1.ver))))) ?_
        refine rvP C (.pv (.lit (.bool (decide (x.ver > x1.ver))))) ?_
        refine rvc_case 53 (decide (x.ver > x1.ver)) rfl (fun h20 => ?_) (fun h20 => ?_)
        ·
         replace hR := of_true h20 hR
         refine rvS ?_
         refine rvS ?_
         refine rvS ?_
         refine rvc_shutU rfl rfl rfl ?_
         refine rvc_shutU rfl rfl rfl ?_
         refine rvc_shutU rfl rfl rfl ?_
         refine rvc_shutU rfl rfl rfl ?_
         refine rvc_shutU rfl rfl rfl ?_
         refine rvS ?_
         refine rvP C (.pv (.lit (.bool true))) ?_
         refine rvc_nil ?_
         refine Awp.condT (b := true) rfl rfl ?_
         refine Awp.consP C ?_
         refine rvP C (.pv (.lit (.bool false))) ?_
         refine rvc_nil ?_
         refine Awp.ret ?_
         subst hR
         exact ⟨.inl rfl, rfl⟩
        ·
         replace hR := of_false h20 hR
         refine rvO C (.ptr 6 0) ?_
         refine rvO C (.pv (.lit (.bool x1.write))) ?_
         refine rvO C (.pv (.lit (.bool x1.write))) ?_
         refine rvc_case 56 x1.write rfl (fun h21 => ?_) (fun h21 => ?_)
         ·
          replace hR := of_true h21 hR
          refine rvO C (.ptr 4 2) ?_
          refine rvO C (.pv (.lit (.int .i64 x.ver))) ?_
          refine rvO C (.ptr 6 2) ?_
          refine rvO C (.pv (.lit (.int .i64 x1.ver))) ?_
          refine rvO C (.pv (.lit (.bool (x.ver == x1.ver)))) ?_
          refine rvO C (.pv (.lit (.bool (x.ver == x1.ver)))) ?_
          refine rvP C (.pv (.lit (.bool (x.ver == x1.ver)))) ?_
          refine rvc_nil ?_
          refine Awp.cond (b := (x.ver == x1.ver)) rfl (fun h22 => ?_) (fun h22 => ?_)
          ·
           replace hR := of_true h22 hR
           refine Awp.consP C ?_
           refine rvP C (.pv (.lit (.bool false))) ?_
           refine rvc_nil ?_
           refine Awp.ret ?_
           subst hR
           exact ⟨.inl rfl, rfl⟩
          ·
           replace hR := of_false h22 hR
           refine Awp.skip ?_
           refine Awp.regionP C ?_
           refine rvP C (.pv (.lit (.int .i64 (IntKind.i64.wrap ((i1 : Int) + 1))))) ?_
           refine rvP C (.pv (.lit (.int .i64 (IntKind.i64.wrap ((i1 : Int) + 1))))) ?_
           refine rvc_nil ?_
           refine ⟨h7, (), ?_, ?_⟩
           · exact hR
           · exact ⟨fun b => b, WeakerR.ofL (Ks := [4]) hI ⟨⟨rfl, rfl⟩, ⟨rfl, rfl⟩, ⟨rfl, rfl⟩, ⟨rfl, rfl⟩, ⟨rfl, rfl⟩, ⟨rfl, rfl⟩, ⟨rfl, rfl⟩, ⟨lit_cast (wrap_i64 (by omega) (by omega)), rfl⟩, trivial⟩ (okH_cons rfl rfl rfl rfl (okH_nil)) rfl⟩
         ·
          replace hR := of_false h21 hR
          refine rvS ?_
          refine rvS ?_
          refine rvS ?_
          refine rvS ?_
          refine rvS ?_
          refine rvO C (.pv (.lit (.bool false))) ?_
          refine rvP C (.pv (.lit (.bool false))) ?_
          refine rvc_nil ?_
          refine Awp.condF (b := false) rfl rfl ?_
          refine Awp.skip ?_
          refine Awp.regionP C ?_
          refine rvP C (.pv (.lit (.int .i64 (IntKind.i64.wrap ((i1 : Int) + 1))))) ?_
          refine rvP C (.pv (.lit (.int .i64 (IntKind.i64.wrap ((i1 : Int) + 1))))) ?_
          refine rvc_nil ?_
          refine ⟨h7, (), ?_, ?_⟩
          · exact hR
          · exact ⟨fun b => b, WeakerR.ofL (Ks := [4]) hI ⟨⟨rfl, rfl⟩, ⟨rfl, rfl⟩, ⟨rfl, rfl⟩, ⟨rfl, rfl⟩, ⟨rfl, rfl⟩, ⟨rfl, rfl⟩, ⟨rfl, rfl⟩, ⟨lit_cast (wrap_i64 (by omega) (by omega)), rfl⟩, trivial⟩ (okH_cons rfl rfl rfl rfl (okH_nil)) rfl⟩
      ·
       replace hR := of_false h18 hR
       refine rvS ?_
       refine rvS ?_
       refine rvS ?_
       refine rvO C (.pv (.lit (.bool false))) ?_
       refine rvP C (.pv (.lit (.bool false))) ?_
       refine rvc_nil ?_
       refine Awp.condF (b := false) rfl rfl ?_
       refine Awp.skip ?_
       refine Awp.consP C ?_
       refine rvP C (.ptr 4 2) ?_
       refine rvP C (.pv (.lit (.int .i64 x.ver))) ?_
       refine rvP C (.ptr 6 2) ?_
       refine rvP C (.pv (.lit (.int .i64 x1.ver))) ?_
       refine rvP C (.pv (.lit (.bool (decide (x.ver > x1.ver))))) ?_
       refine rvP C (.pv (.lit (.bool (decide (x.ver > x1.ver))))) ?_
       refine rvc_case 53 (decide (x.ver > x1.ver)) rfl (fun h23 => ?_) (fun h23 => ?_)
       ·
        replace hR := of_true h23 hR
        refine rvS ?_
        refine rvS ?_
        refine rvS ?_
        refine rvc_shutU rfl rfl rfl ?_
        refine rvc_shutU rfl rfl rfl ?_
        refine rvc_shutU rfl rfl rfl ?_
        refine rvc_shutU rfl rfl rfl ?_
        refine rvc_shutU rfl rfl rfl ?_
        refine rvS ?_
        refine rvP C (.pv (.lit (.bool true))) ?_
        refine rvc_nil ?_
        refine Awp.condT (b := true) rfl rfl ?_
        refine Awp.consP C ?_
        refine rvP C (.pv (.lit (.bool false))) ?_
        refine rvc_nil ?_
        refine Awp.ret ?_
        subst hR
        exact ⟨.inl rfl, rfl⟩
       ·
        replace hR := of_false h23 hR
        refine rvO C (.ptr 6 0) ?_
        refine rvO C (.pv (.lit (.bool x1.write))) ?_
        refine rvO C (.pv (.lit (.bool x1.write))) ?_
        refine rvc_case 56 x1.write rfl (fun h24 => ?_) (fun h24 => ?_)
        ·
         replace hR := of_true h24 hR
         refine rvO C (.ptr 4 2) ?_
         refine rvO C (.pv (.lit (.int .i64 x.ver))) ?_
         refine rvO C (.ptr 6 2) ?_
         refine rvO C (.pv (.lit (.int .i64 x1.ver))) ?_
         refine rvO C (.pv (.lit (.bool (x.ver == x1.ver)))) ?_
         refine rvO C (.pv (.lit (.bool (x.ver == x1.ver)))) ?_
         refine rvP C (.pv (.lit (.bool (x.ver == x1.ver)))) ?_
         refine rvc_nil ?_
         refine Awp.cond (b := (x.ver == x1.ver)) rfl (fun h25 => ?_) (fun h25 => ?_)
         ·
          replace hR := of_true h25 hR
          refine Awp.consP C ?_
          refine rvP C (.pv (.lit (.bool false))) ?_
          refine rvc_nil ?_
          refine Awp.ret ?_
          subst hR
          exact ⟨.inl rfl, rfl⟩
         ·
          replace hR := of_false h25 hR
          refine Awp.skip ?_
          refine Awp.regionP C ?_
          refine rvP C (.pv (.lit (.int .i64 (IntKind.i64.wrap ((i1 : Int) + 1))))) ?_
          refine rvP C (.pv (.lit (.int .i64 (IntKind.i64.wrap ((i1 : Int) + 1))))) ?_
          refine rvc_nil ?_
          refine ⟨h7, (), ?_, ?_⟩
          · exact hR
          · exact ⟨fun b => b, WeakerR.ofL (Ks := [4]) hI ⟨⟨rfl, rfl⟩, ⟨rfl, rfl⟩, ⟨rfl, rfl⟩, ⟨rfl, rfl⟩, ⟨rfl, rfl⟩, ⟨rfl, rfl⟩, ⟨rfl, rfl⟩, ⟨lit_cast (wrap_i64 (by omega) (by omega)), rfl⟩, trivial⟩ (okH_cons rfl rfl rfl rfl (okH_nil)) rfl⟩
        ·
         replace hR := of_false h24 hR
         refine rvS ?_
         refine rvS ?_
         refine rvS ?_
         refine rvS ?_
         refine rvS ?_
         refine rvO C (.pv (.lit (.bool false))) ?_
         refine rvP C (.pv (.lit (.bool false))) ?_
         refine rvc_nil ?_
         refine Awp.condF (b := false) rfl rfl ?_
         refine Awp.skip ?_
         refine Awp.regionP C ?_
         refine rvP C (.pv (.lit (.int .i64 (IntKind.i64.wrap ((i1 : Int) + 1))))) ?_
         refine rvP C (.pv (.lit (.int .i64 (IntKind.i64.wrap ((i1 : Int) + 1))))) ?_
         refine rvc_nil ?_
         refine ⟨h7, (), ?_, ?_⟩
         · exact hR
         · exact ⟨fun b => b, WeakerR.ofL (Ks := [4]) hI ⟨⟨rfl, rfl⟩, ⟨rfl, rfl⟩, ⟨rfl, rfl⟩, ⟨rfl, rfl⟩, ⟨rfl, rfl⟩, ⟨rfl, rfl⟩, ⟨rfl, rfl⟩, ⟨lit_cast (wrap_i64 (by omega) (by omega)), rfl⟩, trivial⟩ (okH_cons rfl rfl rfl rfl (okH_nil)) rfl⟩
  ·
   have h7 : ¬ i1 < l.D.length := by have := of_decide_eq_false h6; omega
   rw [drop_end h7] at hR
   refine Awp.exit ?_
   refine Awp.regionP C ?_
   refine rvP C (.pv (.lit (.int .i64 (IntKind.i64.wrap ((i : Int) + 1))))) ?_
   refine rvP C (.pv (.lit (.int .i64 (IntKind.i64.wrap ((i : Int) + 1))))) ?_
   refine rvc_nil ?_
   refine ⟨h3, (), ?_, ?_⟩
   · exact hR
   · exact ⟨fun b => b, WeakerR.ofL (Ks := []) hI ⟨⟨rfl, rfl⟩, ⟨rfl, rfl⟩, ⟨rfl, rfl⟩, ⟨lit_cast (wrap_i64 (by omega) (by omega)), rfl⟩, trivial⟩ (okH_nil) rfl⟩
 ·
  have h3 : ¬ i < l.D.length := by have := of_decide_eq_false h2; omega
  rw [drop_end h3] at hR
  refine Awp.exit ?_
  refine Awp.consP C ?_
  refine rvP C (.pv (.lit (.bool true))) ?_
  refine rvc_nil ?_
  refine Awp.ret ?_
  subst hR
  exact ⟨.inl rfl, rfl⟩
def versions_l1 (l : (Sl Op)) (vc : (List (Int × Stand))) : List Op → Nat → Bool
  | [], _ => (rising l)
  | x1 :: x1s, i1 => (bif (x1.ended == 0) then versions_l1 l vc x1s (i1 + 1)  else (bif (x1.ver == 0) then (bif x1.write then false else (bif (!(x1.value.toList == (⟨#[]⟩ : ByteArray).toList)) then false else (bif (x1.ver != 0) then (bif (!x1.write) then (bif (!(((mGet kI64 x1.ver vc).getD (Stand.mk ⟨#[]⟩ 0 false)).there)) then false else (bif (!((((mGet kI64 x1.ver vc).getD (Stand.mk ⟨#[]⟩ 0 false)).value).toList == x1.value.toList)) then false else (bif (decide ((((mGet kI64 x1.ver vc).getD (Stand.mk ⟨#[]⟩ 0 false)).began) ≥ x1.ended)) then false else versions_l1 l vc x1s (i1 + 1) ))) else versions_l1 l vc x1s (i1 + 1) ) else versions_l1 l vc x1s (i1 + 1) ))) else (bif (x1.ver != 0) then (bif (!x1.write) then (bif (!(((mGet kI64 x1.ver vc).getD (Stand.mk ⟨#[]⟩ 0 false)).there)) then false else (bif (!((((mGet kI64 x1.ver vc).getD (Stand.mk ⟨#[]⟩ 0 false)).value).toList == x1.value.toList)) then false else (bif (decide ((((mGet kI64 x1.ver vc).getD (Stand.mk ⟨#[]⟩ 0 false)).began) ≥ x1.ended)) then false else versions_l1 l vc x1s (i1 + 1) ))) else versions_l1 l vc x1s (i1 + 1) ) else versions_l1 l vc x1s (i1 + 1) )))
def versions_l0 (l : (Sl Op)) : List Op → Nat → (List (Int × Stand)) → Bool
  | [], _, vc => versions_l1 l vc l.D 0 
  | x :: xs, i, vc => (bif (!x.write) then versions_l0 l xs (i + 1) vc else (bif (x.ver == 0) then versions_l0 l xs (i + 1) vc else (bif ((mGet kI64 x.ver vc).getD (Stand.mk ⟨#[]⟩ 0 false)).there then false else versions_l0 l xs (i + 1) (mSet kI64 x.ver (Stand.mk x.value x.began true) vc))))
def versions (l : (Sl Op)) : Bool :=
  versions_l0 l l.D 0 []
theorem versions_calls (l : (Sl Op)) (hl1 : l.D.length ≤ 1000000) : PCalls Try.prog 36 [sS (some l.nil) eOp l.D] (.pv (.lit (.bool (versions l)))) := by
 generalize hR : versions l = R
 refine PCalls.of_body tabOk Try.func36 rfl rfl rfl rfl rfl mixed fun E hP C hI => ?_
 refine Awp.consP C ?_
 refine rvP C (.pv (.lit (.bool false))) ?_
 refine rvc_nil ?_
 refine Awp.consP C ?_
 refine rvc_un (rexec_makeMap C rfl rfl kI64 vStand ?_)
 refine rvP C (.mp 9) ?_
 refine rvc_nil ?_
 refine Awp.seq ?_
 refine Awp.consP C ?_
 refine rvP C (sS (some l.nil) eOp l.D) ?_
 refine rvP C (.pv (.lit (.int .i64 (l.D.length : Int)))) ?_
 refine rvP C (.pv (.lit (.int .i64 0))) ?_
 refine rvc_nil ?_
 refine Awp.block ?_
 refine Awp.forR (σ := ((List (Int × Stand)))) (l.D.length) (fun i v => [(0, sS (some l.nil) eOp l.D), (3, .mp 9), (10, sS (some l.nil) eOp l.D), (11, .pv (.lit (.int .i64 (l.D.length : Int)))), (12, .pv (.lit (.int .i64 (i : Int))))]) (fun i v => [(9, mapE kI64 vStand.enc v)]) [9] (fun i v => versions_l0 l (l.D.drop i) i v = R) [] ?_ ?_ (fun i vc h1 hR => ?_)
 · exact hR
 · exact ⟨fun b => b, WeakerR.ofL (Ks := [9]) hI ⟨⟨rfl, rfl⟩, ⟨rfl, rfl⟩, ⟨rfl, rfl⟩, ⟨rfl, rfl⟩, ⟨rfl, rfl⟩, trivial⟩ (okH_map rfl rfl rfl (okH_nil)) rfl⟩
 refine Awp.consP C ?_
 refine rvP C (.pv (.lit (.bool (decide ((i : Int) < (l.D.length : Int)))))) ?_
 refine rvc_nil ?_
 refine Awp.seq ?_
 refine Awp.cond (b := (decide ((i : Int) < (l.D.length : Int)))) rfl (fun h2 => ?_) (fun h2 => ?_)
 ·
  have h3 : i < l.D.length := by have := of_decide_eq_true h2; omega
  obtain ⟨x, h4⟩ := getX h3
  rw [drop_at h4] at hR
  refine Awp.skip ?_
  refine Awp.seq ?_
  refine Awp.block ?_
  refine Awp.consP C ?_
  refine rvc_un (rexec_idxS C rfl rfl rfl rfl rfl rfl x (Int.natCast_nonneg _) h4 ?_)
  refine rvP C (.agg [.pv (.lit (.bool x.write)), .pv (.lit (.string x.value)), .pv (.lit (.int .i64 x.ver)), .pv (.lit (.int .i64 x.began)), .pv (.lit (.int .i64 x.ended))]) ?_
  refine rvc_un (rexec_prim C (δ := { v := .ptr 5 0, new := [(5, .cells [.pv (.lit (.bool false)), .pv (.lit (.string ⟨#[]⟩)), .pv (.lit (.int .i64 0)), .pv (.lit (.int .i64 0)), .pv (.lit (.int .i64 0))])] }) rfl rfl rfl rfl trivial rfl ?_)
  refine rvc_un (rexec_prim C (δ := { v := .undef, wr := [(5, some (.cells [.pv (.lit (.bool x.write)), .pv (.lit (.string x.value)), .pv (.lit (.int .i64 x.ver)), .pv (.lit (.int .i64 x.began)), .pv (.lit (.int .i64 x.ended))]))] }) rfl rfl rfl rfl trivial rfl ?_)
  refine rvc_nil ?_
  refine Awp.seq ?_
  refine Awp.consP C ?_
  refine rvP C (.ptr 5 0) ?_
  refine rvP C (.pv (.lit (.bool x.write))) ?_
  refine rvP C (.pv (.lit (.bool (!x.write)))) ?_
  refine rvP C (.pv (.lit (.bool (!x.write)))) ?_
  refine rvc_case 19 (!x.write) rfl (fun h5 => ?_) (fun h5 => ?_)
  ·
   replace hR := of_true h5 hR
   refine rvS ?_
   refine rvS ?_
   refine rvS ?_
   refine rvP C (.pv (.lit (.bool true))) ?_
   refine rvc_nil ?_
   refine Awp.condT (b := true) rfl rfl ?_
   refine Awp.exit ?_
   refine Awp.regionP C ?_
   refine rvP C (.pv (.lit (.int .i64 (IntKind.i64.wrap ((i : Int) + 1))))) ?_
   refine rvP C (.pv (.lit (.int .i64 (IntKind.i64.wrap ((i : Int) + 1))))) ?_
   refine rvc_nil ?_
   refine ⟨h3, vc, ?_, ?_⟩
   · exact hR
   · exact ⟨fun b => b, WeakerR.ofL (Ks := [9]) hI ⟨⟨rfl, rfl⟩, ⟨rfl, rfl⟩, ⟨rfl, rfl⟩, ⟨rfl, rfl⟩, ⟨lit_cast (wrap_i64 (by omega) (by omega)), rfl⟩, trivial⟩ (okH_map rfl rfl rfl (okH_nil)) rfl⟩
  ·
   replace hR := of_false h5 hR
   refine rvO C (.ptr 5 2) ?_
   refine rvO C (.pv (.lit (.int .i64 x.ver))) ?_
   refine rvO C (.pv (.lit (.bool (x.ver == 0)))) ?_
   refine rvP C (.pv (.lit (.bool (x.ver == 0)))) ?_
   refine rvc_nil ?_
   refine Awp.cond (b := (x.ver == 0)) rfl (fun h6 => ?_) (fun h6 => ?_)
   ·
    replace hR := of_true h6 hR
    refine Awp.exit ?_
    refine Awp.regionP C ?_
    refine rvP C (.pv (.lit (.int .i64 (IntKind.i64.wrap ((i : Int) + 1))))) ?_
    refine rvP C (.pv (.lit (.int .i64 (IntKind.i64.wrap ((i : Int) + 1))))) ?_
    refine rvc_nil ?_
    refine ⟨h3, vc, ?_, ?_⟩
    · exact hR
    · exact ⟨fun b => b, WeakerR.ofL (Ks := [9]) hI ⟨⟨rfl, rfl⟩, ⟨rfl, rfl⟩, ⟨rfl, rfl⟩, ⟨rfl, rfl⟩, ⟨lit_cast (wrap_i64 (by omega) (by omega)), rfl⟩, trivial⟩ (okH_map rfl rfl rfl (okH_nil)) rfl⟩
   ·
    replace hR := of_false h6 hR
    refine Awp.skip ?_
    refine Awp.seq ?_
    refine Awp.consP C ?_
    refine rvP C (.mp 9) ?_
    refine rvP C (.ptr 5 2) ?_
    refine rvP C (.pv (.lit (.int .i64 x.ver))) ?_
    refine rvc_un (rexec_lookup hP C rfl x.ver (Stand.mk ⟨#[]⟩ 0 false) rfl rfl rfl rfl rfl rfl kI64_ok rfl (.agg [.pv (.lit (.string (((mGet kI64 x.ver vc).getD (Stand.mk ⟨#[]⟩ 0 false)).value))), .pv (.lit (.int .i64 (((mGet kI64 x.ver vc).getD (Stand.mk ⟨#[]⟩ 0 false)).began))), .pv (.lit (.bool (((mGet kI64 x.ver vc).getD (Stand.mk ⟨#[]⟩ 0 false)).there)))]) rfl ?_)
    refine rvP C (.pv (.lit (.bool (((mGet kI64 x.ver vc).getD (Stand.mk ⟨#[]⟩ 0 false)).there)))) ?_
    refine rvc_nil ?_
    refine Awp.cond (b := ((mGet kI64 x.ver vc).getD (Stand.mk ⟨#[]⟩ 0 false)).there) rfl (fun h7 => ?_) (fun h7 => ?_)
    ·
     replace hR := of_true h7 hR
     refine Awp.consP C ?_
     refine rvP C (.pv (.lit (.bool false))) ?_
     refine rvc_nil ?_
     refine Awp.ret ?_
     subst hR
     exact ⟨.inl rfl, rfl⟩
    ·
     replace hR := of_false h7 hR
     refine Awp.skip ?_
     refine Awp.regionP C ?_
     refine rvP C (.mp 9) ?_
     refine rvP C (.ptr 5 2) ?_
     refine rvP C (.pv (.lit (.int .i64 x.ver))) ?_
     refine rvP C (.ptr 5 1) ?_
     refine rvP C (.pv (.lit (.string x.value))) ?_
     refine rvP C (.ptr 5 3) ?_
     refine rvP C (.pv (.lit (.int .i64 x.began))) ?_
     refine rvP C (.agg [.pv (.lit (.string x.value)), .pv (.lit (.int .i64 x.began)), .pv (.lit (.bool true))]) ?_
     refine rvc_un (rexec_mapUpdate hP C x.ver (Stand.mk x.value x.began true) rfl rfl rfl rfl rfl rfl kI64_ok ?_)
     refine rvc_nil ?_
     refine Awp.regionP C ?_
     refine rvP C (.pv (.lit (.int .i64 (IntKind.i64.wrap ((i : Int) + 1))))) ?_
     refine rvP C (.pv (.lit (.int .i64 (IntKind.i64.wrap ((i : Int) + 1))))) ?_
     refine rvc_nil ?_
     refine ⟨h3, (mSet kI64 x.ver (Stand.mk x.value x.began true) vc), ?_, ?_⟩
     · exact hR
     · exact ⟨fun b => b, WeakerR.ofL (Ks := [9]) hI ⟨⟨rfl, rfl⟩, ⟨rfl, rfl⟩, ⟨rfl, rfl⟩, ⟨rfl, rfl⟩, ⟨lit_cast (wrap_i64 (by omega) (by omega)), rfl⟩, trivial⟩ (okH_map rfl rfl rfl (okH_nil)) rfl⟩
 ·
  have h3 : ¬ i < l.D.length := by have := of_decide_eq_false h2; omega
  rw [drop_end h3] at hR
  refine Awp.exit ?_
  refine Awp.seq ?_
  refine Awp.consP C ?_
  refine rvP C (sS (some l.nil) eOp l.D) ?_
  refine rvP C (.pv (.lit (.int .i64 (l.D.length : Int)))) ?_
  refine rvP C (.pv (.lit (.int .i64 0))) ?_
  refine rvc_nil ?_
  refine Awp.block ?_
  refine Awp.forR (σ := Unit) (l.D.length) (fun i1 _v => [(0, sS (some l.nil) eOp l.D), (3, .mp 9), (38, sS (some l.nil) eOp l.D), (39, .pv (.lit (.int .i64 (l.D.length : Int)))), (40, .pv (.lit (.int .i64 (i1 : Int))))]) (fun i1 _v => [(9, mapE kI64 vStand.enc vc)]) [9] (fun i1 _v => versions_l1 l vc (l.D.drop i1) i1  = R) () ?_ ?_ (fun i1 _v h8 hR => ?_)
  · exact hR
  · exact ⟨fun b => b, WeakerR.ofL (Ks := [9]) hI ⟨⟨rfl, rfl⟩, ⟨rfl, rfl⟩, ⟨rfl, rfl⟩, ⟨rfl, rfl⟩, ⟨rfl, rfl⟩, trivial⟩ (okH_map rfl rfl rfl (okH_nil)) rfl⟩
  refine Awp.consP C ?_
  refine rvP C (.pv (.lit (.bool (decide ((i1 : Int) < (l.D.length : Int)))))) ?_
  refine rvc_nil ?_
  refine Awp.seq ?_
  refine Awp.cond (b := (decide ((i1 : Int) < (l.D.length : Int)))) rfl (fun h9 => ?_) (fun h9 => ?_)
  ·
   have h10 : i1 < l.D.length := by have := of_decide_eq_true h9; omega
   obtain ⟨x1, h11⟩ := getX h10
   rw [drop_at h11] at hR
   refine Awp.skip ?_
   refine Awp.seq ?_
   refine Awp.block ?_
   refine Awp.consP C ?_
   refine rvc_un (rexec_idxS C rfl rfl rfl rfl rfl rfl x1 (Int.natCast_nonneg _) h11 ?_)
   refine rvP C (.agg [.pv (.lit (.bool x1.write)), .pv (.lit (.string x1.value)), .pv (.lit (.int .i64 x1.ver)), .pv (.lit (.int .i64 x1.began)), .pv (.lit (.int .i64 x1.ended))]) ?_
   refine rvc_un (rexec_prim C (δ := { v := .ptr 7 0, new := [(7, .cells [.pv (.lit (.bool false)), .pv (.lit (.string ⟨#[]⟩)), .pv (.lit (.int .i64 0)), .pv (.lit (.int .i64 0)), .pv (.lit (.int .i64 0))])] }) rfl rfl rfl rfl trivial rfl ?_)
   refine rvc_un (rexec_prim C (δ := { v := .undef, wr := [(7, some (.cells [.pv (.lit (.bool x1.write)), .pv (.lit (.string x1.value)), .pv (.lit (.int .i64 x1.ver)), .pv (.lit (.int .i64 x1.began)), .pv (.lit (.int .i64 x1.ended))]))] }) rfl rfl rfl rfl trivial rfl ?_)
   refine rvc_nil ?_
   refine Awp.consP C ?_
   refine rvP C (.mp 9) ?_
   refine rvP C (.ptr 7 2) ?_
   refine rvP C (.pv (.lit (.int .i64 x1.ver))) ?_
   refine rvc_un (rexec_lookup hP C rfl x1.ver (Stand.mk ⟨#[]⟩ 0 false) rfl rfl rfl rfl rfl rfl kI64_ok rfl (.agg [.pv (.lit (.string (((mGet kI64 x1.ver vc).getD (Stand.mk ⟨#[]⟩ 0 false)).value))), .pv (.lit (.int .i64 (((mGet kI64 x1.ver vc).getD (Stand.mk ⟨#[]⟩ 0 false)).began))), .pv (.lit (.bool (((mGet kI64 x1.ver vc).getD (Stand.mk ⟨#[]⟩ 0 false)).there)))]) rfl ?_)
   refine rvc_un (rexec_prim C (δ := { v := .ptr 8 0, new := [(8, .cells [.pv (.lit (.string ⟨#[]⟩)), .pv (.lit (.int .i64 0)), .pv (.lit (.bool false))])] }) rfl rfl rfl rfl trivial rfl ?_)
   refine rvc_un (rexec_prim C (δ := { v := .undef, wr := [(8, some (.cells [.pv (.lit (.string (((mGet kI64 x1.ver vc).getD (Stand.mk ⟨#[]⟩ 0 false)).value))), .pv (.lit (.int .i64 (((mGet kI64 x1.ver vc).getD (Stand.mk ⟨#[]⟩ 0 false)).began))), .pv (.lit (.bool (((mGet kI64 x1.ver vc).getD (Stand.mk ⟨#[]⟩ 0 false)).there)))]))] }) rfl rfl rfl rfl trivial rfl ?_)
   refine rvc_nil ?_
   refine Awp.block ?_
   refine Awp.consP C ?_
   refine rvP C (.ptr 7 4) ?_
   refine rvP C (.pv (.lit (.int .i64 x1.ended))) ?_
   refine rvP C (.pv (.lit (.bool (x1.ended == 0)))) ?_
   refine rvP C (.pv (.lit (.bool (x1.ended == 0)))) ?_
   refine rvc_nil ?_
   refine Awp.cond (b := (x1.ended == 0)) rfl (fun h12 => ?_) (fun h12 => ?_)
   ·
    replace hR := of_true h12 hR
    refine Awp.skip ?_
    refine Awp.regionP C ?_
    refine rvP C (.pv (.lit (.int .i64 (IntKind.i64.wrap ((i1 : Int) + 1))))) ?_
    refine rvP C (.pv (.lit (.int .i64 (IntKind.i64.wrap ((i1 : Int) + 1))))) ?_
    refine rvc_nil ?_
    refine ⟨h10, (), ?_, ?_⟩
    · exact hR
    · exact ⟨fun b => b, WeakerR.ofL (Ks := [9]) hI ⟨⟨rfl, rfl⟩, ⟨rfl, rfl⟩, ⟨rfl, rfl⟩, ⟨rfl, rfl⟩, ⟨lit_cast (wrap_i64 (by omega) (by omega)), rfl⟩, trivial⟩ (okH_map rfl rfl rfl (okH_nil)) rfl⟩
   ·
    replace hR := of_false h12 hR
    refine Awp.consP C ?_
    refine rvP C (.ptr 7 2) ?_
    refine rvP C (.pv (.lit (.int .i64 x1.ver))) ?_
    refine rvP C (.pv (.lit (.bool (x1.ver == 0)))) ?_
    refine rvP C (.pv (.lit (.bool (x1.ver == 0)))) ?_
    refine rvc_case 56 (x1.ver == 0) rfl (fun h13 => ?_) (fun h13 => ?_)
    ·
     replace hR := of_true h13 hR
     refine rvO C (.ptr 7 0) ?_
     refine rvO C (.pv (.lit (.bool x1.write))) ?_
     refine rvO C (.pv (.lit (.bool x1.write))) ?_
     refine rvc_case 59 x1.write rfl (fun h14 => ?_) (fun h14 => ?_)
     ·
      replace hR := of_true h14 hR
      refine rvS ?_
      refine rvS ?_
      refine rvS ?_
      refine rvO C (.pv (.lit (.bool true))) ?_
      refine rvP C (.pv (.lit (.bool true))) ?_
      refine rvP C (.pv (.lit (.bool true))) ?_
      refine rvc_nil ?_
      refine Awp.condT (b := true) rfl rfl ?_
      refine Awp.consP C ?_
      refine rvP C (.pv (.lit (.bool false))) ?_
      refine rvc_nil ?_
      refine Awp.ret ?_
      subst hR
      exact ⟨.inl rfl, rfl⟩
     ·
      replace hR := of_false h14 hR
      refine rvO C (.ptr 7 1) ?_
      refine rvO C (.pv (.lit (.string x1.value))) ?_
      refine rvO C (.pv (.lit (.bool (!(x1.value.toList == (⟨#[]⟩ : ByteArray).toList))))) ?_
      refine rvO C (.pv (.lit (.bool (!(x1.value.toList == (⟨#[]⟩ : ByteArray).toList))))) ?_
      refine rvP C (.pv (.lit (.bool (!(x1.value.toList == (⟨#[]⟩ : ByteArray).toList))))) ?_
      refine rvP C (.pv (.lit (.bool (!(x1.value.toList == (⟨#[]⟩ : ByteArray).toList))))) ?_
      refine rvc_nil ?_
      refine Awp.cond (b := (!(x1.value.toList == (⟨#[]⟩ : ByteArray).toList))) rfl (fun h15 => ?_) (fun h15 => ?_)
      ·
       replace hR := of_true h15 hR
       refine Awp.consP C ?_
       refine rvP C (.pv (.lit (.bool false))) ?_
       refine rvc_nil ?_
       refine Awp.ret ?_
       subst hR
       exact ⟨.inl rfl, rfl⟩
      ·
       replace hR := of_false h15 hR
       refine Awp.consP C ?_
       refine rvP C (.ptr 7 2) ?_
       refine rvP C (.pv (.lit (.int .i64 x1.ver))) ?_
       refine rvP C (.pv (.lit (.bool (x1.ver != 0)))) ?_
       refine rvP C (.pv (.lit (.bool (x1.ver != 0)))) ?_
       refine rvc_case 69 (x1.ver != 0) rfl (fun h16 => ?_) (fun h16 => ?_)
       ·
        replace hR := of_true h16 hR
        refine rvO C (.ptr 7 0) ?_
        refine rvO C (.pv (.lit (.bool x1.write))) ?_
        refine rvO C (.pv (.lit (.bool (!x1.write)))) ?_
        refine rvP C (.pv (.lit (.bool (!x1.write)))) ?_
        refine rvP C (.pv (.lit (.bool (!x1.write)))) ?_
        refine rvc_case 74 (!x1.write) rfl (fun h17 => ?_) (fun h17 => ?_)
        ·
         replace hR := of_true h17 hR
         refine rvO C (.ptr 8 2) ?_
         refine rvO C (.pv (.lit (.bool (((mGet kI64 x1.ver vc).getD (Stand.mk ⟨#[]⟩ 0 false)).there)))) ?_
         refine rvO C (.pv (.lit (.bool (!(((mGet kI64 x1.ver vc).getD (Stand.mk ⟨#[]⟩ 0 false)).there))))) ?_
         refine rvO C (.pv (.lit (.bool (!(((mGet kI64 x1.ver vc).getD (Stand.mk ⟨#[]⟩ 0 false)).there))))) ?_
         refine rvc_case 78 (!(((mGet kI64 x1.ver vc).getD (Stand.mk ⟨#[]⟩ 0 false)).there)) rfl (fun h18 => ?_) (fun h18 => ?_)
         ·
          replace hR := of_true h18 hR
          refine rvS ?_
          refine rvS ?_
          refine rvS ?_
          refine rvS ?_
          refine rvS ?_
          refine rvO C (.pv (.lit (.bool true))) ?_
          refine rvO C (.pv (.lit (.bool true))) ?_
          refine rvS ?_
          refine rvS ?_
          refine rvS ?_
          refine rvS ?_
          refine rvS ?_
          refine rvO C (.pv (.lit (.bool true))) ?_
          refine rvP C (.pv (.lit (.bool true))) ?_
          refine rvP C (.pv (.lit (.bool true))) ?_
          refine rvc_nil ?_
          refine Awp.condT (b := true) rfl rfl ?_
          refine Awp.consP C ?_
          refine rvP C (.pv (.lit (.bool false))) ?_
          refine rvc_nil ?_
          refine Awp.ret ?_
          subst hR
          exact ⟨.inl rfl, rfl⟩
         ·
          replace hR := of_false h18 hR
          refine rvO C (.ptr 8 0) ?_
          refine rvO C (.pv (.lit (.string (((mGet kI64 x1.ver vc).getD (Stand.mk ⟨#[]⟩ 0 false)).value)))) ?_
          refine rvO C (.ptr 7 1) ?_
          refine rvO C (.pv (.lit (.string x1.value))) ?_
          refine rvO C (.pv (.lit (.bool (!((((mGet kI64 x1.ver vc).getD (Stand.mk ⟨#[]⟩ 0 false)).value).toList == x1.value.toList))))) ?_
          refine rvO C (.pv (.lit (.bool (!((((mGet kI64 x1.ver vc).getD (Stand.mk ⟨#[]⟩ 0 false)).value).toList == x1.value.toList))))) ?_
          refine rvO C (.pv (.lit (.bool (!((((mGet kI64 x1.ver vc).getD (Stand.mk ⟨#[]⟩ 0 false)).value).toList == x1.value.toList))))) ?_
          refine rvc_case 85 (!((((mGet kI64 x1.ver vc).getD (Stand.mk ⟨#[]⟩ 0 false)).value).toList == x1.value.toList)) rfl (fun h19 => ?_) (fun h19 => ?_)
          ·
           replace hR := of_true h19 hR
           refine rvS ?_
           refine rvS ?_
           refine rvS ?_
           refine rvS ?_
           refine rvS ?_
           refine rvO C (.pv (.lit (.bool true))) ?_
           refine rvP C (.pv (.lit (.bool true))) ?_
           refine rvP C (.pv (.lit (.bool true))) ?_
           refine rvc_nil ?_
           refine Awp.condT (b := true) rfl rfl ?_
           refine Awp.consP C ?_
           refine rvP C (.pv (.lit (.bool false))) ?_
           refine rvc_nil ?_
           refine Awp.ret ?_
           subst hR
           exact ⟨.inl rfl, rfl⟩
          ·
           replace hR := of_false h19 hR
           refine rvO C (.ptr 8 1) ?_
           refine rvO C (.pv (.lit (.int .i64 (((mGet kI64 x1.ver vc).getD (Stand.mk ⟨#[]⟩ 0 false)).began)))) ?_
           refine rvO C (.ptr 7 4) ?_
           refine rvO C (.pv (.lit (.int .i64 x1.ended))) ?_
           refine rvO C (.pv (.lit (.bool (decide ((((mGet kI64 x1.ver vc).getD (Stand.mk ⟨#[]⟩ 0 false)).began) ≥ x1.ended))))) ?_
           refine rvO C (.pv (.lit (.bool (decide ((((mGet kI64 x1.ver vc).getD (Stand.mk ⟨#[]⟩ 0 false)).began) ≥ x1.ended))))) ?_
           refine rvP C (.pv (.lit (.bool (decide ((((mGet kI64 x1.ver vc).getD (Stand.mk ⟨#[]⟩ 0 false)).began) ≥ x1.ended))))) ?_
           refine rvP C (.pv (.lit (.bool (decide ((((mGet kI64 x1.ver vc).getD (Stand.mk ⟨#[]⟩ 0 false)).began) ≥ x1.ended))))) ?_
           refine rvc_nil ?_
           refine Awp.cond (b := (decide ((((mGet kI64 x1.ver vc).getD (Stand.mk ⟨#[]⟩ 0 false)).began) ≥ x1.ended))) rfl (fun h20 => ?_) (fun h20 => ?_)
           ·
            replace hR := of_true h20 hR
            refine Awp.consP C ?_
            refine rvP C (.pv (.lit (.bool false))) ?_
            refine rvc_nil ?_
            refine Awp.ret ?_
            subst hR
            exact ⟨.inl rfl, rfl⟩
           ·
            replace hR := of_false h20 hR
            refine Awp.skip ?_
            refine Awp.regionP C ?_
            refine rvP C (.pv (.lit (.int .i64 (IntKind.i64.wrap ((i1 : Int) + 1))))) ?_
            refine rvP C (.pv (.lit (.int .i64 (IntKind.i64.wrap ((i1 : Int) + 1))))) ?_
            refine rvc_nil ?_
            refine ⟨h10, (), ?_, ?_⟩
            · exact hR
            · exact ⟨fun b => b, WeakerR.ofL (Ks := [9]) hI ⟨⟨rfl, rfl⟩, ⟨rfl, rfl⟩, ⟨rfl, rfl⟩, ⟨rfl, rfl⟩, ⟨lit_cast (wrap_i64 (by omega) (by omega)), rfl⟩, trivial⟩ (okH_map rfl rfl rfl (okH_nil)) rfl⟩
        ·
         replace hR := of_false h17 hR
         refine rvS ?_
         refine rvS ?_
         refine rvS ?_
         refine rvS ?_
         refine rvc_shutU rfl rfl rfl ?_
         refine rvc_shutU rfl rfl rfl ?_
         refine rvc_shutU rfl rfl rfl ?_
         refine rvc_shutU rfl rfl rfl ?_
         refine rvc_shutU rfl rfl rfl ?_
         refine rvS ?_
         refine rvS ?_
         refine rvc_shutU rfl rfl rfl ?_
         refine rvc_shutU rfl rfl rfl ?_
         refine rvc_shutU rfl rfl rfl ?_
         refine rvc_shutU rfl rfl rfl ?_
         refine rvc_shutU rfl rfl rfl ?_
         refine rvS ?_
         refine rvP C (.pv (.lit (.bool false))) ?_
         refine rvP C (.pv (.lit (.bool false))) ?_
         refine rvc_nil ?_
         refine Awp.condF (b := false) rfl rfl ?_
         refine Awp.skip ?_
         refine Awp.regionP C ?_
         refine rvP C (.pv (.lit (.int .i64 (IntKind.i64.wrap ((i1 : Int) + 1))))) ?_
         refine rvP C (.pv (.lit (.int .i64 (IntKind.i64.wrap ((i1 : Int) + 1))))) ?_
         refine rvc_nil ?_
         refine ⟨h10, (), ?_, ?_⟩
         · exact hR
         · exact ⟨fun b => b, WeakerR.ofL (Ks := [9]) hI ⟨⟨rfl, rfl⟩, ⟨rfl, rfl⟩, ⟨rfl, rfl⟩, ⟨rfl, rfl⟩, ⟨lit_cast (wrap_i64 (by omega) (by omega)), rfl⟩, trivial⟩ (okH_map rfl rfl rfl (okH_nil)) rfl⟩
       ·
        replace hR := of_false h16 hR
        refine rvS ?_
        refine rvS ?_
        refine rvS ?_
        refine rvP C (.pv (.lit (.bool false))) ?_
        refine rvP C (.pv (.lit (.bool false))) ?_
        refine rvS ?_
        refine rvS ?_
        refine rvS ?_
        refine rvS ?_
        refine rvc_shutU rfl rfl rfl ?_
        refine rvc_shutU rfl rfl rfl ?_
        refine rvc_shutU rfl rfl rfl ?_
        refine rvc_shutU rfl rfl rfl ?_
        refine rvc_shutU rfl rfl rfl ?_
        refine rvS ?_
        refine rvS ?_
        refine rvc_shutU rfl rfl rfl ?_
        refine rvc_shutU rfl rfl rfl ?_
        refine rvc_shutU rfl rfl rfl ?_
        refine rvc_shutU rfl rfl rfl ?_
        refine rvc_shutU rfl rfl rfl ?_
        refine rvS ?_
        refine rvP C (.pv (.lit (.bool false))) ?_
        refine rvP C (.pv (.lit (.bool false))) ?_
        refine rvc_nil ?_
        refine Awp.condF (b := false) rfl rfl ?_
        refine Awp.skip ?_
        refine Awp.regionP C ?_
        refine rvP C (.pv (.lit (.int .i64 (IntKind.i64.wrap ((i1 : Int) + 1))))) ?_
        refine rvP C (.pv (.lit (.int .i64 (IntKind.i64.wrap ((i1 : Int) + 1))))) ?_
        refine rvc_nil ?_
        refine ⟨h10, (), ?_, ?_⟩
        · exact hR
        · exact ⟨fun b => b, WeakerR.ofL (Ks := [9]) hI ⟨⟨rfl, rfl⟩, ⟨rfl, rfl⟩, ⟨rfl, rfl⟩, ⟨rfl, rfl⟩, ⟨lit_cast (wrap_i64 (by omega) (by omega)), rfl⟩, trivial⟩ (okH_map rfl rfl rfl (okH_nil)) rfl⟩
    ·
     replace hR := of_false h13 hR
     refine rvS ?_
     refine rvS ?_
     refine rvS ?_
     refine rvc_shutU rfl rfl rfl ?_
     refine rvc_shutU rfl rfl rfl ?_
     refine rvc_shutU rfl rfl rfl ?_
     refine rvS ?_
     refine rvP C (.pv (.lit (.bool false))) ?_
     refine rvP C (.pv (.lit (.bool false))) ?_
     refine rvc_nil ?_
     refine Awp.condF (b := false) rfl rfl ?_
     refine Awp.consP C ?_
     refine rvP C (.ptr 7 2) ?_
     refine rvP C (.pv (.lit (.int .i64 x1.ver))) ?_
     refine rvP C (.pv (.lit (.bool (x1.ver != 0)))) ?_
     refine rvP C (.pv (.lit (.bool (x1.ver != 0)))) ?_
     refine rvc_case 69 (x1.ver != 0) rfl (fun h21 => ?_) (fun h21 => ?_)
     ·
      replace hR := of_true h21 hR
      refine rvO C (.ptr 7 0) ?_
      refine rvO C (.pv (.lit (.bool x1.write))) ?_
      refine rvO C (.pv (.lit (.bool (!x1.write)))) ?_
      refine rvP C (.pv (.lit (.bool (!x1.write)))) ?_
      refine rvP C (.pv (.lit (.bool (!x1.write)))) ?_
      refine rvc_case 74 (!x1.write) rfl (fun h22 => ?_) (fun h22 => ?_)
      ·
       replace hR := of_true h22 hR
       refine rvO C (.ptr 8 2) ?_
       refine rvO C (.pv (.lit (.bool (((mGet kI64 x1.ver vc).getD (Stand.mk ⟨#[]⟩ 0 false)).there)))) ?_
       refine rvO C (.pv (.lit (.bool (!(((mGet kI64 x1.ver vc).getD (Stand.mk ⟨#[]⟩ 0 false)).there))))) ?_
       refine rvO C (.pv (.lit (.bool (!(((mGet kI64 x1.ver vc).getD (Stand.mk ⟨#[]⟩ 0 false)).there))))) ?_
       refine rvc_case 78 (!(((mGet kI64 x1.ver vc).getD (Stand.mk ⟨#[]⟩ 0 false)).there)) rfl (fun h23 => ?_) (fun h23 => ?_)
       ·
        replace hR := of_true h23 hR
        refine rvS ?_
        refine rvS ?_
        refine rvS ?_
        refine rvS ?_
        refine rvS ?_
        refine rvO C (.pv (.lit (.bool true))) ?_
        refine rvO C (.pv (.lit (.bool true))) ?_
        refine rvS ?_
        refine rvS ?_
        refine rvS ?_
        refine rvS ?_
        refine rvS ?_
        refine rvO C (.pv (.lit (.bool true))) ?_
        refine rvP C (.pv (.lit (.bool true))) ?_
        refine rvP C (.pv (.lit (.bool true))) ?_
        refine rvc_nil ?_
        refine Awp.condT (b := true) rfl rfl ?_
        refine Awp.consP C ?_
        refine rvP C (.pv (.lit (.bool false))) ?_
        refine rvc_nil ?_
        refine Awp.ret ?_
        subst hR
        exact ⟨.inl rfl, rfl⟩
       ·
        replace hR := of_false h23 hR
        refine rvO C (.ptr 8 0) ?_
        refine rvO C (.pv (.lit (.string (((mGet kI64 x1.ver vc).getD (Stand.mk ⟨#[]⟩ 0 false)).value)))) ?_
        refine rvO C (.ptr 7 1) ?_
        refine rvO C (.pv (.lit (.string x1.value))) ?_
        refine rvO C (.pv (.lit (.bool (!((((mGet kI64 x1.ver vc).getD (Stand.mk ⟨#[]⟩ 0 false)).value).toList == x1.value.toList))))) ?_
        refine rvO C (.pv (.lit (.bool (!((((mGet kI64 x1.ver vc).getD (Stand.mk ⟨#[]⟩ 0 false)).value).toList == x1.value.toList))))) ?_
        refine rvO C (.pv (.lit (.bool (!((((mGet kI64 x1.ver vc).getD (Stand.mk ⟨#[]⟩ 0 false)).value).toList == x1.value.toList))))) ?_
        refine rvc_case 85 (!((((mGet kI64 x1.ver vc).getD (Stand.mk ⟨#[]⟩ 0 false)).value).toList == x1.value.toList)) rfl (fun h24 => ?_) (fun h24 => ?_)
        ·
         replace hR := of_true h24 hR
         refine rvS ?_
         refine rvS ?_
         refine rvS ?_
         refine rvS ?_
         refine rvS ?_
         refine rvO C (.pv (.lit (.bool true))) ?_
         refine rvP C (.pv (.lit (.bool true))) ?_
         refine rvP C (.pv (.lit (.bool true))) ?_
         refine rvc_nil ?_
         refine Awp.condT (b := true) rfl rfl ?_
         refine Awp.consP C ?_
         refine rvP C (.pv (.lit (.bool false))) ?_
         refine rvc_nil ?_
         refine Awp.ret ?_
         subst hR
         exact ⟨.inl rfl, rfl⟩
        ·
         replace hR := of_false h24 hR
         refine rvO C (.ptr 8 1) ?_
         refine rvO C (.pv (.lit (.int .i64 (((mGet kI64 x1.ver vc).getD (Stand.mk ⟨#[]⟩ 0 false)).began)))) ?_
         refine rvO C (.ptr 7 4) ?_
         refine rvO C (.pv (.lit (.int .i64 x1.ended))) ?_
         refine rvO C (.pv (.lit (.bool (decide ((((mGet kI64 x1.ver vc).getD (Stand.mk ⟨#[]⟩ 0 false)).began) ≥ x1.ended))))) ?_
         refine rvO C (.pv (.lit (.bool (decide ((((mGet kI64 x1.ver vc).getD (Stand.mk ⟨#[]⟩ 0 false)).began) ≥ x1.ended))))) ?_
         refine rvP C (.pv (.lit (.bool (decide ((((mGet kI64 x1.ver vc).getD (Stand.mk ⟨#[]⟩ 0 false)).began) ≥ x1.ended))))) ?_
         refine rvP C (.pv (.lit (.bool (decide ((((mGet kI64 x1.ver vc).getD (Stand.mk ⟨#[]⟩ 0 false)).began) ≥ x1.ended))))) ?_
         refine rvc_nil ?_
         refine Awp.cond (b := (decide ((((mGet kI64 x1.ver vc).getD (Stand.mk ⟨#[]⟩ 0 false)).began) ≥ x1.ended))) rfl (fun h25 => ?_) (fun h25 => ?_)
         ·
          replace hR := of_true h25 hR
          refine Awp.consP C ?_
          refine rvP C (.pv (.lit (.bool false))) ?_
          refine rvc_nil ?_
          refine Awp.ret ?_
          subst hR
          exact ⟨.inl rfl, rfl⟩
         ·
          replace hR := of_false h25 hR
          refine Awp.skip ?_
          refine Awp.regionP C ?_
          refine rvP C (.pv (.lit (.int .i64 (IntKind.i64.wrap ((i1 : Int) + 1))))) ?_
          refine rvP C (.pv (.lit (.int .i64 (IntKind.i64.wrap ((i1 : Int) + 1))))) ?_
          refine rvc_nil ?_
          refine ⟨h10, (), ?_, ?_⟩
          · exact hR
          · exact ⟨fun b => b, WeakerR.ofL (Ks := [9]) hI ⟨⟨rfl, rfl⟩, ⟨rfl, rfl⟩, ⟨rfl, rfl⟩, ⟨rfl, rfl⟩, ⟨lit_cast (wrap_i64 (by omega) (by omega)), rfl⟩, trivial⟩ (okH_map rfl rfl rfl (okH_nil)) rfl⟩
      ·
       replace hR := of_false h22 hR
       refine rvS ?_
       refine rvS ?_
       refine rvS ?_
       refine rvS ?_
       refine rvc_shutU rfl rfl rfl ?_
       refine rvc_shutU rfl rfl rfl ?_
       refine rvc_shutU rfl rfl rfl ?_
       refine rvc_shutU rfl rfl rfl ?_
       refine rvc_shutU rfl rfl rfl ?_
       refine rvS ?_
       refine rvS ?_
       refine rvc_shutU rfl rfl rfl ?_
       refine rvc_shutU rfl rfl rfl ?_
       refine rvc_shutU rfl rfl rfl ?_
       refine rvc_shutU rfl rfl rfl ?_
       refine rvc_shutU rfl rfl rfl ?_
       refine rvS ?_
       refine rvP C (.pv (.lit (.bool false))) ?_
       refine rvP C (.pv (.lit (.bool false))) ?_
       refine rvc_nil ?_
       refine Awp.condF (b := false) rfl rfl ?_
       refine Awp.skip ?_
       refine Awp.regionP C ?_
       refine rvP C (.pv (.lit (.int .i64 (IntKind.i64.wrap ((i1 : Int) + 1))))) ?_
       refine rvP C (.pv (.lit (.int .i64 (IntKind.i64.wrap ((i1 : Int) + 1))))) ?_
       refine rvc_nil ?_
       refine ⟨h10, (), ?_, ?_⟩
       · exact hR
       · exact ⟨fun b => b, WeakerR.ofL (Ks := [9]) hI ⟨⟨rfl, rfl⟩, ⟨rfl, rfl⟩, ⟨rfl, rfl⟩, ⟨rfl, rfl⟩, ⟨lit_cast (wrap_i64 (by omega) (by omega)), rfl⟩, trivial⟩ (okH_map rfl rfl rfl (okH_nil)) rfl⟩
     ·
      replace hR := of_false h21 hR
      refine rvS ?_
      refine rvS ?_
      refine rvS ?_
      refine rvP C (.pv (.lit (.bool false))) ?_
      refine rvP C (.pv (.lit (.bool false))) ?_
      refine rvS ?_
      refine rvS ?_
      refine rvS ?_
      refine rvS ?_
      refine rvc_shutU rfl rfl rfl ?_
      refine rvc_shutU rfl rfl rfl ?_
      refine rvc_shutU rfl rfl rfl ?_
      refine rvc_shutU rfl rfl rfl ?_
      refine rvc_shutU rfl rfl rfl ?_
      refine rvS ?_
      refine rvS ?_
      refine rvc_shutU rfl rfl rfl ?_
      refine rvc_shutU rfl rfl rfl ?_
      refine rvc_shutU rfl rfl rfl ?_
      refine rvc_shutU rfl rfl rfl ?_
      refine rvc_shutU rfl rfl rfl ?_
      refine rvS ?_
      refine rvP C (.pv (.lit (.bool false))) ?_
      refine rvP C (.pv (.lit (.bool false))) ?_
      refine rvc_nil ?_
      refine Awp.condF (b := false) rfl rfl ?_
      refine Awp.skip ?_
      refine Awp.regionP C ?_
      refine rvP C (.pv (.lit (.int .i64 (IntKind.i64.wrap ((i1 : Int) + 1))))) ?_
      refine rvP C (.pv (.lit (.int .i64 (IntKind.i64.wrap ((i1 : Int) + 1))))) ?_
      refine rvc_nil ?_
      refine ⟨h10, (), ?_, ?_⟩
      · exact hR
      · exact ⟨fun b => b, WeakerR.ofL (Ks := [9]) hI ⟨⟨rfl, rfl⟩, ⟨rfl, rfl⟩, ⟨rfl, rfl⟩, ⟨rfl, rfl⟩, ⟨lit_cast (wrap_i64 (by omega) (by omega)), rfl⟩, trivial⟩ (okH_map rfl rfl rfl (okH_nil)) rfl⟩
  ·
   have h10 : ¬ i1 < l.D.length := by have := of_decide_eq_false h9; omega
   rw [drop_end h10] at hR
   refine Awp.exit ?_
   refine Awp.consP C ?_
   refine rvP C (sS (some l.nil) eOp l.D) ?_
   refine rvc_un (rexec_call hP C rfl rfl rfl (rising_calls l hl1) ?_)
   refine rvP C (.pv (.lit (.bool (rising l)))) ?_
   refine rvc_nil ?_
   refine Awp.ret ?_
   subst hR
   exact ⟨.inl rfl, rfl⟩
end Go.Proofs.Ytoieegmebadfkaa
namespace Go.Proofs.Ytoieegmebadfkaa
open Go.Am
def okR (a b : Op) : Bool := (a.ended == 0) || !((b.ended != 0) || b.write && (b.ver != 0)) || decide (a.ended ≥ b.began) || !(decide (a.ver > b.ver) || b.write && (a.ver == b.ver))
def okB (L : List Op) (x : Op) : Bool := (x.ver == 0) && (x.value.toList == (⟨#[]⟩ : ByteArray).toList) || L.any fun b => b.write && ((b.ver == x.ver) && ((x.ver != 0) && ((b.value.toList == x.value.toList) && decide (b.began < x.ended))))
structure VP (L : List Op) : Prop where
  w0 : ∀ x ∈ L, x.write = true → x.ended ≠ 0 → x.ver ≠ 0
  one : ∀ (i j : Nat) (x y : Op), L[i]? = some x → L[j]? = some y → i < j → x.write = true → y.write = true → x.ver = y.ver → x.ver = 0
  rd : ∀ x ∈ L, x.write = false → x.ended ≠ 0 → okB L x = true
  ris : ∀ a ∈ L, ∀ b ∈ L, okR a b = true
theorem rl4_eq (x : Op) (kk : Bool) : ∀ (xs : List Op) (i : Nat), rVersions_l4 x kk xs i = (xs.all (okR x) && kk)
  | [], _ => by unfold rVersions_l4; rfl
  | y :: ys, i => by
    unfold rVersions_l4
    rw [rl4_eq x kk ys (i + 1), List.all_cons]
    unfold okR
    rw [show (x.ended == 0) = !(x.ended != 0) by rw [bne, Bool.not_not]]
    generalize ys.all _ = r
    generalize (y.ended != 0) = b1
    generalize (x.ended != 0) = b2
    generalize (decide (x.ended ≥ y.began)) = b3
    generalize (decide (x.ver > y.ver)) = b4
    generalize (x.ver == y.ver) = b5
    generalize (y.ver != 0) = b6
    generalize y.write = b7
    cases b1 <;> cases b2 <;> cases b3 <;> cases b4 <;> cases b5 <;> cases b6 <;> cases b7 <;> simp
def okR1 (a b : Op) : Bool := (a.ended == 0) || ((b.ver == 0) && b.write) || decide (a.ended ≥ b.began) || ((b.ended == 0) && !b.write) || !(decide (a.ver > b.ver) || b.write && (a.ver == b.ver))
theorem ris1_eq (x : Op) (kk : Bool) : ∀ (xs : List Op) (i : Nat), rising_l1 x kk xs i = (xs.all (okR1 x) && kk)
  | [], _ => by unfold rising_l1; rfl
  | y :: ys, i => by
    unfold rising_l1
    rw [ris1_eq x kk ys (i + 1), List.all_cons]
    unfold okR1
    generalize ys.all _ = r
    generalize (x.ended == 0) = b1
    generalize (y.ver == 0) = b2
    generalize (decide (x.ended ≥ y.began)) = b3
    generalize (y.ended == 0) = b4
    generalize (decide (x.ver > y.ver)) = b5
    generalize (x.ver == y.ver) = b6
    generalize y.write = b7
    cases b1 <;> cases b2 <;> cases b3 <;> cases b4 <;> cases b5 <;> cases b6 <;> cases b7 <;> simp
theorem ris0_eq (l : Sl Op) : ∀ (xs : List Op) (i : Nat), rising_l0 l xs i = xs.all fun a => l.D.all (okR1 a)
  | [], _ => by unfold rising_l0; rfl
  | x :: xs, i => by
    unfold rising_l0
    rw [ris1_eq, ris0_eq l xs (i + 1), List.all_cons]
theorem mGet_setI (p q : Int) (b : Stand) : ∀ (D : List (Int × Stand)), mGet kI64 q (mSet kI64 p b D) = if q = p then some b else mGet kI64 q D
  | [] => by
    unfold mSet mGet mGet
    by_cases h : q = p
    · subst h; rw [if_pos (show kI64.eq q q = true from beq_self_eq_true q), if_pos rfl]
    · rw [if_neg (show ¬ kI64.eq q (p, b).1 = true from fun e => h (beq_iff_eq.1 e)), if_neg h]
  | e :: D => by
    unfold mSet
    by_cases h1 : p = e.1
    · rw [if_pos (show kI64.eq p e.1 = true from beq_iff_eq.2 h1)]
      unfold mGet
      by_cases h2 : q = p
      · rw [if_pos h2, if_pos (show kI64.eq q e.1 = true from beq_iff_eq.2 (h2.trans h1))]
      · have h3 : ¬ kI64.eq q e.1 = true := fun x => h2 ((beq_iff_eq.1 x).trans h1.symm)
        rw [if_neg h2, if_neg h3]
        exact (if_neg h3).symm
    · rw [if_neg (show ¬ kI64.eq p e.1 = true from fun x => h1 (beq_iff_eq.1 x))]
      unfold mGet
      by_cases h2 : q = e.1
      · rw [if_pos (show kI64.eq q e.1 = true from beq_iff_eq.2 h2), if_pos (show kI64.eq q e.1 = true from beq_iff_eq.2 h2), if_neg (fun x => h1 (x.symm.trans h2))]
      · rw [if_neg (show ¬ kI64.eq q e.1 = true from fun x => h2 (beq_iff_eq.1 x)), if_neg (show ¬ kI64.eq q e.1 = true from fun x => h2 (beq_iff_eq.1 x)), mGet_setI p q b D]
def isW (v : Int) (w : Op) : Bool := w.write && ((w.ver == v) && (w.ver != 0))
def fnd (P : List Op) (v : Int) : Option Stand := (P.find? (isW v)).map fun w => Stand.mk w.value w.began true
def chk (P : List Op) (x : Op) : Bool := (x.ended == 0) || (bif x.ver == 0 then !x.write && (x.value.toList == (⟨#[]⟩ : ByteArray).toList) else x.write || match fnd P x.ver with
  | none => false
  | some s => (s.value.toList == x.value.toList) && !decide (s.began ≥ x.ended))
theorem fnd_there {P : List Op} {v : Int} {s : Stand} (h : fnd P v = some s) : s.there = true := by
  unfold fnd at h
  cases hf : P.find? (isW v) with
  | none => rw [hf] at h; cases h
  | some w => rw [hf] at h; cases h; rfl
theorem v1_eq (l : Sl Op) (P : List Op) (vc : List (Int × Stand)) (hvc : ∀ v, mGet kI64 v vc = fnd P v) : ∀ (xs : List Op) (i : Nat), versions_l1 l vc xs i = (xs.all (chk P) && rising l)
  | [], _ => by unfold versions_l1; rfl
  | y :: ys, i => by
    unfold versions_l1
    rw [v1_eq l P vc hvc ys (i + 1), List.all_cons, hvc]
    generalize ys.all _ = r
    generalize rising l = q
    unfold chk
    cases (y.ended == 0)
    · rw [cond_false, Bool.false_or]
      by_cases hv : y.ver = 0
      · rw [show (y.ver == 0) = true from beq_iff_eq.2 hv, show (y.ver != 0) = false by simp [hv], cond_true, cond_true]
        cases y.write <;> cases (y.value.toList == (⟨#[]⟩ : ByteArray).toList) <;> simp
      · rw [show (y.ver == 0) = false by simpa using hv, show (y.ver != 0) = true by simpa using hv, cond_false, cond_false, cond_true]
        cases y.write
        · rw [Bool.not_false, cond_true, Bool.false_or]
          cases hf : fnd P y.ver with
          | none => simp
          | some s =>
            have ht := fnd_there hf
            simp only [Option.getD_some, ht]
            cases (s.value.toList == y.value.toList) <;> cases decide (s.began ≥ y.ended) <;> simp
        · simp
    · simp
/-- No write's version is that of one ahead of it. -/
def nd (P : List Op) : List Op → Bool
  | [] => true
  | x :: xs => !(x.write && ((x.ver != 0) && P.any fun w => w.write && (w.ver == x.ver))) && nd (P ++ [x]) xs
theorem fnd_isSome (P : List Op) (v : Int) (hv : v ≠ 0) : (fnd P v).isSome = P.any fun w => w.write && (w.ver == v) := by
  unfold fnd
  have e : isW v = fun w => w.write && (w.ver == v) := by
    funext w
    unfold isW
    by_cases h : w.ver = v
    · rw [show (w.ver == v) = true from beq_iff_eq.2 h, show (w.ver != 0) = true by simpa [h] using hv, Bool.and_true]
    · rw [show (w.ver == v) = false by simpa using h]; simp
  rw [Option.isSome_map, e, Bool.eq_iff_iff, List.find?_isSome, List.any_eq_true]
theorem fnd_append (P : List Op) (x : Op) (v : Int) : fnd (P ++ [x]) v = match fnd P v with
  | some s => some s
  | none => if isW v x then some (Stand.mk x.value x.began true) else none := by
  unfold fnd
  rw [List.find?_append]
  cases hf : P.find? (isW v) with
  | some w => rfl
  | none =>
    simp only [Option.none_or, Option.map_none]
    cases h : isW v x
    · rw [List.find?_cons_of_neg (by rw [h]; decide)]; rfl
    · rw [List.find?_cons_of_pos h]; rfl
theorem v0_eq (l : Sl Op) : ∀ (xs : List Op) (i : Nat) (vc : List (Int × Stand)) (P : List Op), (∀ v, mGet kI64 v vc = fnd P v) → versions_l0 l xs i vc = (nd P xs && (l.D.all (chk (P ++ xs)) && rising l))
  | [], _, vc, P, h => by
    unfold versions_l0 nd
    rw [v1_eq l P vc h, List.append_nil, Bool.true_and]
  | x :: xs, i, vc, P, h => by
    unfold versions_l0 nd
    have ea : P ++ x :: xs = (P ++ [x]) ++ xs := by rw [List.append_assoc]; rfl
    have skip : isW x.ver x = false → ∀ v, mGet kI64 v vc = fnd (P ++ [x]) v := fun hx v => by
      rw [h v, fnd_append]
      cases hf : fnd P v with
      | some s => rfl
      | none =>
        have : isW v x = false := by
          unfold isW at hx ⊢
          by_cases e : x.ver = v
          · rw [← e]; exact hx
          · rw [show (x.ver == v) = false by simpa using e]; simp
        rw [this]; rfl
    cases hw : x.write
    · rw [Bool.not_false, cond_true, Bool.false_and, Bool.not_false, Bool.true_and, v0_eq l xs (i + 1) vc (P ++ [x]) (skip (by unfold isW; rw [hw]; rfl)), ea]
    · rw [Bool.not_true, cond_false, Bool.true_and]
      by_cases hv : x.ver = 0
      · rw [show (x.ver == 0) = true from beq_iff_eq.2 hv, show (x.ver != 0) = false by simp [hv], cond_true, Bool.false_and, Bool.not_false, Bool.true_and, v0_eq l xs (i + 1) vc (P ++ [x]) (skip (by unfold isW; rw [hv]; simp)), ea]
      · rw [show (x.ver == 0) = false by simpa using hv, show (x.ver != 0) = true by simpa using hv, cond_false, Bool.true_and, h, ← fnd_isSome P x.ver hv]
        cases hf : fnd P x.ver with
        | some s => rw [Option.getD_some, fnd_there hf]; rfl
        | none =>
          show (bif false then false else _) = _
          rw [cond_false, Option.isSome_none, Bool.not_false, Bool.true_and, v0_eq l xs (i + 1) _ (P ++ [x]) (fun v => ?_), ea]
          rw [mGet_setI, fnd_append, h]
          by_cases e : v = x.ver
          · rw [if_pos e, e, hf, show isW x.ver x = true by unfold isW; rw [hw]; simpa using hv]; rfl
          · rw [if_neg e]
            cases fnd P v with
            | some s => rfl
            | none => rw [show isW v x = false by unfold isW; rw [show (x.ver == v) = false by simpa using fun q => e q.symm]; simp]; rfl
theorem nd_iff : ∀ (xs P : List Op), nd P xs = true ↔ ∀ j y, xs[j]? = some y → y.write = true → y.ver ≠ 0 → ∀ x ∈ P ++ xs.take j, x.write = true → x.ver ≠ y.ver
  | [], P => by unfold nd; simp
  | x :: xs, P => by
    unfold nd
    rw [Bool.and_eq_true, nd_iff xs (P ++ [x])]
    constructor
    · rintro ⟨h1, h2⟩ j y hj hy hv z hz hzw e
      cases j with
      | zero =>
        simp only [List.getElem?_cons_zero, Option.some.injEq] at hj
        subst hj
        rw [List.take_zero, List.append_nil] at hz
        rw [hy, show (x.ver != 0) = true by simpa using hv, List.any_eq_true.2 ⟨z, hz, by rw [hzw, e]; simp⟩] at h1
        cases h1
      | succ j =>
        rw [List.getElem?_cons_succ] at hj
        refine h2 j y hj hy hv z ?_ hzw e
        rw [List.take_succ_cons] at hz
        rw [List.append_assoc]; exact hz
    · intro h
      constructor
      · cases hx : x.write
        · rfl
        · by_cases hv : x.ver = 0
          · rw [show (x.ver != 0) = false by simp [hv]]; rfl
          · cases ha : P.any fun w => w.write && (w.ver == x.ver)
            · simp
            · obtain ⟨w, hw, e⟩ := List.any_eq_true.1 ha
              simp only [Bool.and_eq_true, beq_iff_eq] at e
              exact absurd e.2 (h 0 x rfl hx hv w (by rw [List.take_zero, List.append_nil]; exact hw) e.1)
      · intro j y hj hy hv z hz hzw
        refine h (j + 1) y (by rw [List.getElem?_cons_succ]; exact hj) hy hv z ?_ hzw
        rw [List.take_succ_cons]
        rw [List.append_assoc] at hz; exact hz
theorem versions_eq (l : Sl Op) : versions l = (nd [] l.D && (l.D.all (chk l.D) && rising l)) := by
  unfold versions
  rw [v0_eq l l.D 0 [] [] (fun v => rfl)]; rfl
theorem versions_iff (l : Sl Op) : versions l = true ↔ VP l.D := by
  rw [versions_eq, Bool.and_eq_true, Bool.and_eq_true, nd_iff]
  have hone : (∀ j y, l.D[j]? = some y → y.write = true → y.ver ≠ 0 → ∀ x ∈ [] ++ l.D.take j, x.write = true → x.ver ≠ y.ver) ↔ ∀ (i j : Nat) (x y : Op), l.D[i]? = some x → l.D[j]? = some y → i < j → x.write = true → y.write = true → x.ver = y.ver → x.ver = 0 := by
    constructor
    · intro h i j x y hi hj hij hx hy e
      by_cases hv : y.ver = 0
      · rw [e, hv]
      · exact absurd e (h j y hj hy hv x (by
          rw [List.nil_append]
          exact List.mem_of_getElem? (i := i) (by rw [List.getElem?_take_of_lt hij]; exact hi)) hx)
    · intro h j y hj hy hv x hx hxw e
      rw [List.nil_append] at hx
      obtain ⟨i, hi⟩ := List.getElem?_of_mem hx
      have hij : i < j := by
        rcases Nat.lt_or_ge i j with h' | h'
        · exact h'
        · rw [List.getElem?_eq_none (by rw [List.length_take]; omega)] at hi; cases hi
      rw [List.getElem?_take_of_lt hij] at hi
      exact hv (e ▸ h i j x y hi hj hij hxw hy e)
  rw [hone]
  have hfind : (∀ (i j : Nat) (x y : Op), l.D[i]? = some x → l.D[j]? = some y → i < j → x.write = true → y.write = true → x.ver = y.ver → x.ver = 0) → ∀ x ∈ l.D, x.write = false → x.ended ≠ 0 → chk l.D x = okB l.D x := by
    intro one x _ hw he
    unfold chk okB
    rw [show (x.ended == 0) = false by simpa using he, Bool.false_or, hw]
    by_cases hv : x.ver = 0
    · rw [show (x.ver == 0) = true from beq_iff_eq.2 hv, cond_true, Bool.not_false, Bool.true_and, show (x.ver != 0) = false by simp [hv]]
      have : (l.D.any fun b => b.write && ((b.ver == x.ver) && (false && ((b.value.toList == x.value.toList) && decide (b.began < x.ended))))) = false := by
        rw [List.any_eq_false]; intro b _; simp
      rw [this, Bool.or_false]
    · rw [show (x.ver == 0) = false by simpa using hv, cond_false, Bool.false_or, Bool.false_and, Bool.false_or, show (x.ver != 0) = true by simpa using hv]
      cases hf : l.D.find? (isW x.ver) with
      | none =>
        have hf' := List.find?_eq_none.1 hf
        have : fnd l.D x.ver = none := by unfold fnd; rw [hf]; rfl
        rw [this]
        symm
        show (l.D.any _) = false
        rw [List.any_eq_false]
        intro b hb e
        simp only [Bool.and_eq_true, beq_iff_eq] at e
        refine hf' b hb ?_
        unfold isW
        rw [e.1, e.2.1]; simpa using hv
      | some w =>
        have hw' := List.find?_some hf
        have hwm := List.mem_of_find?_eq_some hf
        have : fnd l.D x.ver = some (Stand.mk w.value w.began true) := by unfold fnd; rw [hf]; rfl
        rw [this]
        unfold isW at hw'
        simp only [Bool.and_eq_true, beq_iff_eq] at hw'
        show ((w.value.toList == x.value.toList) && !decide (w.began ≥ x.ended)) = _
        have en : (!decide (w.began ≥ x.ended)) = decide (w.began < x.ended) := by
          by_cases h : w.began < x.ended
          · rw [decide_eq_true h, decide_eq_false (by omega)]; rfl
          · rw [decide_eq_false h, decide_eq_true (by omega)]; rfl
        rw [en, Bool.eq_iff_iff, List.any_eq_true]
        constructor
        · intro h
          refine ⟨w, hwm, ?_⟩
          rw [hw'.1, h, hw'.2.1]; simp
        · rintro ⟨b, hb, e⟩
          simp only [Bool.and_eq_true, beq_iff_eq, decide_eq_true_eq] at e
          obtain ⟨i, hi⟩ := List.getElem?_of_mem hwm
          obtain ⟨j, hj⟩ := List.getElem?_of_mem hb
          have hij : i = j := by
            rcases Nat.lt_trichotomy i j with h | h | h
            · exact absurd (one i j w b hi hj h hw'.1 e.1 (hw'.2.1.trans e.2.1.symm)) (by rw [hw'.2.1]; exact hv)
            · exact h
            · exact absurd (one j i b w hj hi h e.1 hw'.1 (e.2.1.trans hw'.2.1.symm)) (by rw [e.2.1]; exact hv)
          subst hij
          rw [hi] at hj
          obtain rfl := Option.some.inj hj
          rw [e.2.2.2.1, decide_eq_true e.2.2.2.2]; simp
  have hR : (∀ x ∈ l.D, x.write = true → x.ended ≠ 0 → x.ver ≠ 0) → ∀ a ∈ l.D, ∀ b ∈ l.D, okR1 a b = okR a b := by
    intro w0 a _ b hb
    unfold okR1 okR
    have hb' := w0 b hb
    have e1 : (b.ended == 0) = !(b.ended != 0) := by rw [bne, Bool.not_not]
    have e2 : (b.ver == 0) = !(b.ver != 0) := by rw [bne, Bool.not_not]
    rw [e1, e2]
    cases h1 : b.write
    · cases (b.ended != 0) <;> cases (b.ver != 0) <;> cases (a.ended == 0) <;> cases decide (a.ended ≥ b.began) <;> cases decide (a.ver > b.ver) <;> cases (a.ver == b.ver) <;> rfl
    · cases h2 : (b.ended != 0)
      · cases (b.ver != 0) <;> cases (a.ended == 0) <;> cases decide (a.ended ≥ b.began) <;> cases decide (a.ver > b.ver) <;> cases (a.ver == b.ver) <;> rfl
      · have h3 : (b.ver != 0) = true := by simpa using hb' h1 (by simpa using h2)
        rw [h3]
        cases (a.ended == 0) <;> cases decide (a.ended ≥ b.began) <;> cases decide (a.ver > b.ver) <;> cases (a.ver == b.ver) <;> rfl
  unfold rising
  rw [ris0_eq, List.all_eq_true, List.all_eq_true]
  constructor
  · rintro ⟨one, h2, h3⟩
    have w0 : ∀ x ∈ l.D, x.write = true → x.ended ≠ 0 → x.ver ≠ 0 := fun x hx hw he hv => by
      have := h2 x hx
      unfold chk at this
      rw [show (x.ended == 0) = false by simpa using he, show (x.ver == 0) = true from beq_iff_eq.2 hv, hw] at this
      cases this
    exact { w0 := w0, one := one, rd := fun x hx hw he => by rw [← hfind one x hx hw he]; exact h2 x hx, ris := fun a ha b hb => by rw [← hR w0 a ha b hb]; exact List.all_eq_true.1 (h3 a ha) b hb }
  · intro h
    refine ⟨h.one, fun x hx => ?_, fun a ha => List.all_eq_true.2 fun b hb => by rw [hR h.w0 a ha b hb]; exact h.ris a ha b hb⟩
    cases hw : x.write
    · by_cases he : x.ended = 0
      · unfold chk; rw [show (x.ended == 0) = true from beq_iff_eq.2 he]; rfl
      · rw [hfind h.one x hx hw he]; exact h.rd x hx hw he
    · unfold chk
      by_cases he : x.ended = 0
      · rw [show (x.ended == 0) = true from beq_iff_eq.2 he]; rfl
      · rw [show (x.ver == 0) = false by simpa using h.w0 x hx hw he, hw]; simp
theorem versions_D {l m : Sl Op} (h : l.D = m.D) : versions l = versions m := by
  rw [Bool.eq_iff_iff, versions_iff, versions_iff, h]
end Go.Proofs.Ytoieegmebadfkaa
namespace Go.Proofs.Ytoieegmebadfkaa
open Go.Am
def jStrong_l0 (calls : (Sl Call)) (recs : (Sl Record)) : List (Nat → Int) → Nat → Bool
  | [], _ => true
  | x :: xs, i => (bif (!(versions (jOps x calls recs))) then false else jStrong_l0 calls recs xs (i + 1) )
def jStrong (calls : (Sl Call)) (recs : (Sl Record)) : Bool :=
  jStrong_l0 calls recs ((jKeys calls).D) 0
theorem jStrong_calls (calls : (Sl Call)) (recs : (Sl Record)) (hl1 : calls.D.length ≤ 1000000) (hl2 : recs.D.length ≤ 1000000) : PCalls Try.prog 15 [sS (some calls.nil) eCall calls.D, sS (some recs.nil) eRecord recs.D] (.pv (.lit (.bool (jStrong calls recs)))) := by
 generalize hR : jStrong calls recs = R
 refine PCalls.of_body tabOk Try.func15 rfl rfl rfl rfl rfl mixed fun E hP C hI => ?_
 refine Awp.consP C ?_
 refine rvP C (.pv (.lit (.bool false))) ?_
 refine rvc_nil ?_
 refine Awp.seq ?_
 refine Awp.consP C ?_
 refine rvP C (sS (some calls.nil) eCall calls.D) ?_
 refine rvc_un (rexec_call hP C rfl rfl rfl (jKeys_calls calls hl1) ?_)
 refine rvP C (.pv (.lit (.int .i64 (((jKeys calls).D).length : Int)))) ?_
 refine rvP C (.pv (.lit (.int .i64 0))) ?_
 refine rvc_nil ?_
 refine Awp.block ?_
 refine Awp.forR (σ := Unit) (((jKeys calls).D).length) (fun i _v => [(0, sS (some calls.nil) eCall calls.D), (1, sS (some recs.nil) eRecord recs.D), (8, sS (some (jKeys calls).nil) (eA8 .u8) ((jKeys calls).D)), (9, .pv (.lit (.int .i64 (((jKeys calls).D).length : Int)))), (10, .pv (.lit (.int .i64 (i : Int))))]) (fun i _v => []) [] (fun i _v => jStrong_l0 calls recs (((jKeys calls).D).drop i) i  = R) () ?_ ?_ (fun i _v h1 hR => ?_)
 · exact hR
 · exact ⟨fun b => b, WeakerR.ofL (Ks := []) hI ⟨⟨rfl, rfl⟩, ⟨rfl, rfl⟩, ⟨rfl, rfl⟩, ⟨rfl, rfl⟩, ⟨rfl, rfl⟩, trivial⟩ (okH_nil) rfl⟩
 have hk_ := jKeys_len (calls := calls) (by omega)
 refine Awp.consP C ?_
 refine rvP C (.pv (.lit (.bool (decide ((i : Int) < (((jKeys calls).D).length : Int)))))) ?_
 refine rvc_nil ?_
 refine Awp.seq ?_
 refine Awp.cond (b := (decide ((i : Int) < (((jKeys calls).D).length : Int)))) rfl (fun h2 => ?_) (fun h2 => ?_)
 ·
  have h3 : i < ((jKeys calls).D).length := by have := of_decide_eq_true h2; omega
  obtain ⟨x, h4⟩ := getX h3
  rw [drop_at h4] at hR
  refine Awp.skip ?_
  refine Awp.seq ?_
  refine Awp.block ?_
  refine Awp.consP C ?_
  refine rvc_un (rexec_idxS C rfl rfl rfl rfl rfl rfl x (Int.natCast_nonneg _) h4 ?_)
  refine rvP C (.agg [.pv (.lit (.int .u8 (x 0))), .pv (.lit (.int .u8 (x 1))), .pv (.lit (.int .u8 (x 2))), .pv (.lit (.int .u8 (x 3))), .pv (.lit (.int .u8 (x 4))), .pv (.lit (.int .u8 (x 5))), .pv (.lit (.int .u8 (x 6))), .pv (.lit (.int .u8 (x 7)))]) ?_
  refine rvc_un (rexec_prim C (δ := { v := .ptr 6 0, new := [(6, .cells [.pv (.lit (.int .u8 0)), .pv (.lit (.int .u8 0)), .pv (.lit (.int .u8 0)), .pv (.lit (.int .u8 0)), .pv (.lit (.int .u8 0)), .pv (.lit (.int .u8 0)), .pv (.lit (.int .u8 0)), .pv (.lit (.int .u8 0))])] }) rfl rfl rfl rfl trivial rfl ?_)
  refine rvc_un (rexec_prim C (δ := { v := .undef, wr := [(6, some (.cells [.pv (.lit (.int .u8 (x 0))), .pv (.lit (.int .u8 (x 1))), .pv (.lit (.int .u8 (x 2))), .pv (.lit (.int .u8 (x 3))), .pv (.lit (.int .u8 (x 4))), .pv (.lit (.int .u8 (x 5))), .pv (.lit (.int .u8 (x 6))), .pv (.lit (.int .u8 (x 7)))]))] }) rfl rfl rfl rfl trivial rfl ?_)
  refine rvc_nil ?_
  refine Awp.consP C ?_
  refine rvP C (.agg [.pv (.lit (.int .u8 (x 0))), .pv (.lit (.int .u8 (x 1))), .pv (.lit (.int .u8 (x 2))), .pv (.lit (.int .u8 (x 3))), .pv (.lit (.int .u8 (x 4))), .pv (.lit (.int .u8 (x 5))), .pv (.lit (.int .u8 (x 6))), .pv (.lit (.int .u8 (x 7)))]) ?_
  refine rvP C (sS (some calls.nil) eCall calls.D) ?_
  refine rvP C (sS (some recs.nil) eRecord recs.D) ?_
  refine rvc_un (rexec_call hP C rfl rfl rfl (jOps_calls x calls recs hl2 hl1) ?_)
  refine rvc_un (rexec_call hP C rfl rfl rfl (versions_calls (jOps x calls recs) (Nat.le_trans jOps_len (by omega))) ?_)
  refine rvP C (.pv (.lit (.bool (!(versions (jOps x calls recs)))))) ?_
  refine rvc_nil ?_
  refine Awp.cond (b := (!(versions (jOps x calls recs)))) rfl (fun h5 => ?_) (fun h5 => ?_)
  ·
   replace hR := of_true h5 hR
   refine Awp.consP C ?_
   refine rvP C (.pv (.lit (.bool false))) ?_
   refine rvc_nil ?_
   refine Awp.ret ?_
   subst hR
   exact ⟨.inl rfl, rfl⟩
  ·
   replace hR := of_false h5 hR
   refine Awp.skip ?_
   refine Awp.regionP C ?_
   refine rvP C (.pv (.lit (.int .i64 (IntKind.i64.wrap ((i : Int) + 1))))) ?_
   refine rvP C (.pv (.lit (.int .i64 (IntKind.i64.wrap ((i : Int) + 1))))) ?_
   refine rvc_nil ?_
   refine ⟨h3, (), ?_, ?_⟩
   · exact hR
   · exact ⟨fun b => b, WeakerR.ofL (Ks := []) hI ⟨⟨rfl, rfl⟩, ⟨rfl, rfl⟩, ⟨rfl, rfl⟩, ⟨rfl, rfl⟩, ⟨lit_cast (wrap_i64 (by omega) (by omega)), rfl⟩, trivial⟩ (okH_nil) rfl⟩
 ·
  have h3 : ¬ i < ((jKeys calls).D).length := by have := of_decide_eq_false h2; omega
  rw [drop_end h3] at hR
  refine Awp.exit ?_
  refine Awp.consP C ?_
  refine rvP C (.pv (.lit (.bool true))) ?_
  refine rvc_nil ?_
  refine Awp.ret ?_
  subst hR
  exact ⟨.inl rfl, rfl⟩
def jAll (calls : (Sl Call)) (recs : (Sl Record)) : Bool :=
  (bif ((jRight recs) == 0) then (bif (jStrong calls recs) then (bif (jValues calls recs) then (bif (jBounds calls) then (jSessions calls) else false) else false) else false) else false)
theorem jAll_calls (calls : (Sl Call)) (recs : (Sl Record)) (hl1 : recs.D.length ≤ 1000000) (hl2 : calls.D.length ≤ 1000000) : PCalls Try.prog 19 [sS (some calls.nil) eCall calls.D, sS (some recs.nil) eRecord recs.D] (.pv (.lit (.bool (jAll calls recs)))) := by
 generalize hR : jAll calls recs = R
 refine PCalls.of_body tabOk Try.func19 rfl rfl rfl rfl rfl mixed fun E hP C hI => ?_
 refine Awp.consP C ?_
 refine rvP C (.pv (.lit (.bool false))) ?_
 refine rvc_nil ?_
 refine Awp.consP C ?_
 refine rvP C (sS (some recs.nil) eRecord recs.D) ?_
 refine rvc_un (rexec_call hP C rfl rfl rfl (jRight_calls recs hl1) ?_)
 refine rvP C (.pv (.lit (.bool ((jRight recs) == 0)))) ?_
 refine rvP C (.pv (.lit (.bool ((jRight recs) == 0)))) ?_
 refine rvc_case 8 ((jRight recs) == 0) rfl (fun h1 => ?_) (fun h1 => ?_)
 ·
  replace hR := of_true h1 hR
  refine rvO C (sS (some calls.nil) eCall calls.D) ?_
  refine rvO C (sS (some recs.nil) eRecord recs.D) ?_
  refine rvc_open rfl rfl rfl (rexec_call hP C rfl rfl rfl (jStrong_calls calls recs hl2 hl1) ?_)
  refine rvP C (.pv (.lit (.bool (jStrong calls recs)))) ?_
  refine rvP C (.pv (.lit (.bool (jStrong calls recs)))) ?_
  refine rvc_case 13 (jStrong calls recs) rfl (fun h2 => ?_) (fun h2 => ?_)
  ·
   replace hR := of_true h2 hR
   refine rvO C (sS (some calls.nil) eCall calls.D) ?_
   refine rvO C (sS (some recs.nil) eRecord recs.D) ?_
   refine rvc_open rfl rfl rfl (rexec_call hP C rfl rfl rfl (jValues_calls calls recs hl1 hl2) ?_)
   refine rvP C (.pv (.lit (.bool (jValues calls recs)))) ?_
   refine rvP C (.pv (.lit (.bool (jValues calls recs)))) ?_
   refine rvc_case 18 (jValues calls recs) rfl (fun h3 => ?_) (fun h3 => ?_)
   ·
    replace hR := of_true h3 hR
    refine rvO C (sS (some calls.nil) eCall calls.D) ?_
    refine rvc_open rfl rfl rfl (rexec_call hP C rfl rfl rfl (jBounds_calls calls hl2) ?_)
    refine rvP C (.pv (.lit (.bool (jBounds calls)))) ?_
    refine rvP C (.pv (.lit (.bool (jBounds calls)))) ?_
    refine rvc_case 22 (jBounds calls) rfl (fun h4 => ?_) (fun h4 => ?_)
    ·
     replace hR := of_true h4 hR
     refine rvO C (sS (some calls.nil) eCall calls.D) ?_
     refine rvc_open rfl rfl rfl (rexec_call hP C rfl rfl rfl (jSessions_calls calls hl2) ?_)
     refine rvP C (.pv (.lit (.bool (jSessions calls)))) ?_
     refine rvP C (.pv (.lit (.bool (jSessions calls)))) ?_
     refine rvc_nil ?_
     refine Awp.ret ?_
     subst hR
     exact ⟨.inl rfl, rfl⟩
    ·
     replace hR := of_false h4 hR
     refine rvS ?_
     refine rvS ?_
     refine rvP C (.pv (.lit (.bool false))) ?_
     refine rvP C (.pv (.lit (.bool false))) ?_
     refine rvc_nil ?_
     refine Awp.ret ?_
     subst hR
     exact ⟨.inl rfl, rfl⟩
   ·
    replace hR := of_false h3 hR
    refine rvS ?_
    refine rvS ?_
    refine rvP C (.pv (.lit (.bool false))) ?_
    refine rvP C (.pv (.lit (.bool false))) ?_
    refine rvS ?_
    refine rvS ?_
    refine rvP C (.pv (.lit (.bool false))) ?_
    refine rvP C (.pv (.lit (.bool false))) ?_
    refine rvc_nil ?_
    refine Awp.ret ?_
    subst hR
    exact ⟨.inl rfl, rfl⟩
  ·
   replace hR := of_false h2 hR
   refine rvS ?_
   refine rvS ?_
   refine rvS ?_
   refine rvP C (.pv (.lit (.bool false))) ?_
   refine rvP C (.pv (.lit (.bool false))) ?_
   refine rvS ?_
   refine rvS ?_
   refine rvP C (.pv (.lit (.bool false))) ?_
   refine rvP C (.pv (.lit (.bool false))) ?_
   refine rvS ?_
   refine rvS ?_
   refine rvP C (.pv (.lit (.bool false))) ?_
   refine rvP C (.pv (.lit (.bool false))) ?_
   refine rvc_nil ?_
   refine Awp.ret ?_
   subst hR
   exact ⟨.inl rfl, rfl⟩
 ·
  replace hR := of_false h1 hR
  refine rvS ?_
  refine rvS ?_
  refine rvS ?_
  refine rvP C (.pv (.lit (.bool false))) ?_
  refine rvP C (.pv (.lit (.bool false))) ?_
  refine rvS ?_
  refine rvS ?_
  refine rvS ?_
  refine rvP C (.pv (.lit (.bool false))) ?_
  refine rvP C (.pv (.lit (.bool false))) ?_
  refine rvS ?_
  refine rvS ?_
  refine rvP C (.pv (.lit (.bool false))) ?_
  refine rvP C (.pv (.lit (.bool false))) ?_
  refine rvS ?_
  refine rvS ?_
  refine rvP C (.pv (.lit (.bool false))) ?_
  refine rvP C (.pv (.lit (.bool false))) ?_
  refine rvc_nil ?_
  refine Awp.ret ?_
  subst hR
  exact ⟨.inl rfl, rfl⟩
end Go.Proofs.Ytoieegmebadfkaa
namespace Go.Proofs.Ytoieegmebadfkaa
open Go.Am
theorem jStrong_l0_eq (calls : Sl Call) (recs : Sl Record) : ∀ (ks : List (Nat → Int)) (i : Nat), jStrong_l0 calls recs ks i = (ks.map kL).all fun k => versions (Sl.mk false (opsOf k recs calls.D))
  | [], _ => by unfold jStrong_l0; rfl
  | k :: ks, i => by
    unfold jStrong_l0
    rw [jStrong_l0_eq calls recs ks (i + 1), List.map_cons, List.all_cons, jOps_eq, versions_D (l := Sl.mk (opsOf (kL k) recs calls.D).isEmpty (opsOf (kL k) recs calls.D)) (m := Sl.mk false (opsOf (kL k) recs calls.D)) rfl]
    cases versions (Sl.mk false (opsOf (kL k) recs calls.D)) <;> rfl
theorem jStrong_iff {calls : Sl Call} (recs : Sl Record) (hL : calls.D.length ≤ 1000000) : jStrong calls recs = true ↔ ∀ x ∈ calls.D, VP (opsOf (kL x.key) recs calls.D) := by
  unfold jStrong
  rw [jStrong_l0_eq, List.all_eq_true]
  obtain ⟨_, p⟩ := jKeys_spec hL
  constructor
  · intro h x hx
    exact (versions_iff _).1 (h (kL x.key) ((p _).2 (List.mem_map_of_mem (f := fun x : Call => kL x.key) hx)))
  · intro h k hk
    obtain ⟨x, hx, rfl⟩ := List.mem_map.1 ((p k).1 hk)
    exact (versions_iff _).2 (h x hx)
def slotP (c : Call) (x : Record) : Bool := decide (kL c.key = kL x.key ∧ c.ver = x.ver)
def okV (recs : Sl Record) (c : Call) : Bool := !ans c || (bif c.write then (match lastC c recs with
    | none => false
    | some w => (w.ver == c.ver) && (decide (kL w.key = kL c.key) && (w.value.toList == c.value.toList)))
  else bif c.ver == 0 then c.value.toList == (⟨#[]⟩ : ByteArray).toList else (match lastP (slotP c) recs.D none with
    | none => false
    | some r => r.value.toList == c.value.toList))
theorem ofSlot (c : Call) (recs : Sl Record) : mGet kSlot (Slot.mk c.key c.ver) (openB recs).of_ = lastP (slotP c) recs.D none := openB_of _ _
theorem jValues_l0_eq (recs : Sl Record) : ∀ (xs : List Call) (i : Nat), jValues_l0 recs xs i = xs.all (okV recs)
  | [], _ => by unfold jValues_l0; rfl
  | x :: xs, i => by
    unfold jValues_l0
    rw [jValues_l0_eq recs xs (i + 1), List.all_cons, jAns_eq, reqOf, ofSlot]
    generalize xs.all (okV recs) = r
    unfold okV
    cases ans x
    · simp
    · rw [Bool.not_true, cond_false, Bool.false_or]
      cases x.write
      · rw [cond_false, cond_false]
        cases (x.ver == 0)
        · rw [cond_false, cond_false]
          cases lastP (slotP x) recs.D none with
          | none => rfl
          | some w =>
            simp only [Option.isSome_some, Bool.not_true, cond_false, Option.getD_some]
            cases (w.value.toList == x.value.toList) <;> rfl
        · rw [cond_true, cond_true]
          cases (x.value.toList == (⟨#[]⟩ : ByteArray).toList) <;> rfl
      · rw [cond_true, cond_true]
        cases lastC x recs with
        | none => rfl
        | some w =>
          simp only [Option.isSome_some, Bool.not_true, cond_false, Option.getD_some, eq8]
          rw [show (w.ver != x.ver) = !(w.ver == x.ver) from rfl]
          cases (w.ver == x.ver) <;> cases decide (kL w.key = kL x.key) <;> cases (w.value.toList == x.value.toList) <;> rfl
theorem jValues_eq (calls : Sl Call) (recs : Sl Record) : jValues calls recs = calls.D.all (okV recs) := jValues_l0_eq recs calls.D 0
def i64 (n : Int) : Prop := -9223372036854775808 ≤ n ∧ n ≤ 9223372036854775807
end Go.Proofs.Ytoieegmebadfkaa
namespace Go.Proofs.Ytoieegmebadfkaa
open Go.Am
def below (recs : List Record) (x : Record) : Bool := (x.ver == 1) || recs.any fun q => decide (kL x.key = kL q.key) && (decide (x.ver > 1) && (q.ver == IntKind.i64.wrap (x.ver - 1)))
theorem eqKeys_l0_of (s2 : Sl (Nat → Int)) : ∀ (xs : List (Nat → Int)) (i : Nat), xs.map kL = (s2.D.drop i).map kL → eqKeys_l0 s2 xs i = true
  | [], _, _ => by unfold eqKeys_l0; rfl
  | x :: xs, i, h => by
    have hi : i < s2.D.length := by
      rcases Nat.lt_or_ge i s2.D.length with h' | h'
      · exact h'
      · rw [List.drop_of_length_le h'] at h; cases h
    rw [List.drop_eq_getElem_cons hi, List.map_cons, List.map_cons] at h
    obtain ⟨h1, h2⟩ := List.cons.inj h
    unfold eqKeys_l0
    rw [Int.toNat_natCast, eq8, getElem!_pos s2.D i hi, decide_eq_true h1, Bool.not_true, cond_false]
    exact eqKeys_l0_of s2 xs (i + 1) h2
theorem eqKeys_of {a b : Sl (Nat → Int)} (h : a.D.map kL = b.D.map kL) : eqKeys a b = true := by
  unfold eqKeys
  have hl := congrArg List.length h
  rw [List.length_map, List.length_map] at hl
  rw [hl, show ((b.D.length : Int) != (b.D.length : Int)) = false by simp, cond_false]
  exact eqKeys_l0_of b a.D 0 (by rw [List.drop_zero]; exact h)
end Go.Proofs.Ytoieegmebadfkaa
