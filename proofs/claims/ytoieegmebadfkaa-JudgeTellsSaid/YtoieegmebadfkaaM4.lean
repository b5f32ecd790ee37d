import Derived.Test.YtoieegmebadfkaaM1
import Derived.Test.YtoieegmebadfkaaM2
import Derived.Test.YtoieegmebadfkaaM3
/- Values. No conditions. -/
namespace Go.Proofs.Ytoieegmebadfkaa
open Go.Am
def jValues_l0 (recs : (Sl Record)) : List Call → Nat → Bool
  | [], _ => true
  | x :: xs, i => (bif (!(jAnswered x)) then jValues_l0 recs xs (i + 1)  else (bif x.write then (bif (!((mGet kReq (jReq x) ((openB recs).req)).isSome)) then false else (bif ((((mGet kReq (jReq x) ((openB recs).req)).getD zeroR).ver) != x.ver) then false else (bif (!(((((mGet kReq (jReq x) ((openB recs).req)).getD zeroR).key 0) == (x.key 0)) && (((((mGet kReq (jReq x) ((openB recs).req)).getD zeroR).key 1) == (x.key 1)) && (((((mGet kReq (jReq x) ((openB recs).req)).getD zeroR).key 2) == (x.key 2)) && (((((mGet kReq (jReq x) ((openB recs).req)).getD zeroR).key 3) == (x.key 3)) && (((((mGet kReq (jReq x) ((openB recs).req)).getD zeroR).key 4) == (x.key 4)) && (((((mGet kReq (jReq x) ((openB recs).req)).getD zeroR).key 5) == (x.key 5)) && (((((mGet kReq (jReq x) ((openB recs).req)).getD zeroR).key 6) == (x.key 6)) && (((((mGet kReq (jReq x) ((openB recs).req)).getD zeroR).key 7) == (x.key 7)) && true))))))))) then false else (bif (!((((mGet kReq (jReq x) ((openB recs).req)).getD zeroR).value).toList == x.value.toList)) then false else jValues_l0 recs xs (i + 1) )))) else (bif (x.ver == 0) then (bif (!(x.value.toList == (⟨#[]⟩ : ByteArray).toList)) then false else jValues_l0 recs xs (i + 1) ) else (bif (!((mGet kSlot (Slot.mk x.key x.ver) ((openB recs).of_)).isSome)) then false else (bif (!((((mGet kSlot (Slot.mk x.key x.ver) ((openB recs).of_)).getD zeroR).value).toList == x.value.toList)) then false else jValues_l0 recs xs (i + 1) )))))
def jValues (calls : (Sl Call)) (recs : (Sl Record)) : Bool :=
  jValues_l0 recs calls.D 0
theorem jValues_calls (calls : (Sl Call)) (recs : (Sl Record)) (hl1 : recs.D.length ≤ 1000000) (hl2 : calls.D.length ≤ 1000000) : PCalls Try.prog 16 [sS (some calls.nil) eCall calls.D, sS (some recs.nil) eRecord recs.D] (.pv (.lit (.bool (jValues calls recs)))) := by
 generalize hR : jValues calls recs = R
 refine PCalls.of_body tabOk Try.func16 rfl rfl rfl rfl rfl mixed fun E hP C hI => ?_
 refine Awp.consP C ?_
 refine rvP C (.pv (.lit (.bool false))) ?_
 refine rvc_nil ?_
 refine Awp.cons C (fun _ => .quiet) (by kernel_rfl) ?_
 refine rvP C (sS (some recs.nil) eRecord recs.D) ?_
 refine rvc_un (rexec_callMaps hP C 513 rfl rfl rfl rfl rfl rfl (openB_calls recs hl1) ?_)
 refine rvc_un (rexec_prim C (δ := { v := .ptr 5 0, new := [(5, .cells [.pv (.lit (.map none)), .pv (.lit (.map none))])] }) rfl rfl rfl rfl trivial rfl ?_)
 refine rvc_un (rexec_prim C (δ := { v := .undef, wr := [(5, some (.cells [.mp 13, .mp 513]))] }) rfl rfl rfl rfl trivial rfl ?_)
 refine rvc_nil ?_
 refine Awp.seq ?_
 refine Awp.consP C ?_
 refine rvP C (sS (some calls.nil) eCall calls.D) ?_
 refine rvP C (.pv (.lit (.int .i64 (calls.D.length : Int)))) ?_
 refine rvP C (.pv (.lit (.int .i64 0))) ?_
 refine rvc_nil ?_
 refine Awp.block ?_
 refine Awp.forR (σ := Unit) (calls.D.length) (fun i _v => [(5, .ptr 5 0), (14, sS (some calls.nil) eCall calls.D), (15, .pv (.lit (.int .i64 (calls.D.length : Int)))), (16, .pv (.lit (.int .i64 (i : Int))))]) (fun i _v => [(13, mapE kSlot vRecord.enc ((openB recs).of_)), (513, mapE kReq vRecord.enc ((openB recs).req)), (5, .cells [.mp 13, .mp 513])]) [5, 13, 513] (fun i _v => jValues_l0 recs (calls.D.drop i) i  = R) () ?_ ?_ (fun i _v h1 hR => ?_)
 · exact hR
 · exact ⟨fun b => b, WeakerR.ofL (Ks := [5, 13, 513]) hI ⟨⟨rfl, rfl⟩, ⟨rfl, rfl⟩, ⟨rfl, rfl⟩, ⟨rfl, rfl⟩, trivial⟩ (okH_map rfl rfl rfl (okH_map rfl rfl rfl (okH_cons rfl rfl rfl rfl (okH_nil)))) rfl⟩
 refine Awp.consP C ?_
 refine rvP C (.pv (.lit (.bool (decide ((i : Int) < (calls.D.length : Int)))))) ?_
 refine rvc_nil ?_
 refine Awp.seq ?_
 refine Awp.cond (b := (decide ((i : Int) < (calls.D.length : Int)))) rfl (fun h2 => ?_) (fun h2 => ?_)
 ·
  have h3 : i < calls.D.length := by have := of_decide_eq_true h2; omega
  obtain ⟨x, h4⟩ := getX h3
  rw [drop_at h4] at hR
  refine Awp.skip ?_
  refine Awp.seq ?_
  refine Awp.block ?_
  refine Awp.consP C ?_
  refine rvc_un (rexec_idxS C rfl rfl rfl rfl rfl rfl x (Int.natCast_nonneg _) h4 ?_)
  refine rvP C (.agg [.pv (.lit (.int .i64 x.client)), .pv (.lit (.int .i64 x.seq)), .pv (.lit (.bool x.write)), .pv (.lit (.int .u8 (x.key 0))), .pv (.lit (.int .u8 (x.key 1))), .pv (.lit (.int .u8 (x.key 2))), .pv (.lit (.int .u8 (x.key 3))), .pv (.lit (.int .u8 (x.key 4))), .pv (.lit (.int .u8 (x.key 5))), .pv (.lit (.int .u8 (x.key 6))), .pv (.lit (.int .u8 (x.key 7))), .pv (.lit (.string x.value)), .pv (.lit (.int .i64 x.mode)), .pv (.lit (.int .i64 x.bound)), .pv (.lit (.int .i64 x.began)), .pv (.lit (.int .i64 x.ended)), .pv (.lit (.int .i64 x.ver)), .pv (.lit (.int .i64 x.err)), .pv (.lit (.int .i64 x.floor))]) ?_
  refine rvc_un (rexec_prim C (δ := { v := .ptr 7 0, new := [(7, .cells [.pv (.lit (.int .i64 0)), .pv (.lit (.int .i64 0)), .pv (.lit (.bool false)), .pv (.lit (.int .u8 0)), .pv (.lit (.int .u8 0)), .pv (.lit (.int .u8 0)), .pv (.lit (.int .u8 0)), .pv (.lit (.int .u8 0)), .pv (.lit (.int .u8 0)), .pv (.lit (.int .u8 0)), .pv (.lit (.int .u8 0)), .pv (.lit (.string ⟨#[]⟩)), .pv (.lit (.int .i64 0)), .pv (.lit (.int .i64 0)), .pv (.lit (.int .i64 0)), .pv (.lit (.int .i64 0)), .pv (.lit (.int .i64 0)), .pv (.lit (.int .i64 0)), .pv (.lit (.int .i64 0))])] }) rfl rfl rfl rfl trivial rfl ?_)
  refine rvc_un (rexec_prim C (δ := { v := .undef, wr := [(7, some (.cells [.pv (.lit (.int .i64 x.client)), .pv (.lit (.int .i64 x.seq)), .pv (.lit (.bool x.write)), .pv (.lit (.int .u8 (x.key 0))), .pv (.lit (.int .u8 (x.key 1))), .pv (.lit (.int .u8 (x.key 2))), .pv (.lit (.int .u8 (x.key 3))), .pv (.lit (.int .u8 (x.key 4))), .pv (.lit (.int .u8 (x.key 5))), .pv (.lit (.int .u8 (x.key 6))), .pv (.lit (.int .u8 (x.key 7))), .pv (.lit (.string x.value)), .pv (.lit (.int .i64 x.mode)), .pv (.lit (.int .i64 x.bound)), .pv (.lit (.int .i64 x.began)), .pv (.lit (.int .i64 x.ended)), .pv (.lit (.int .i64 x.ver)), .pv (.lit (.int .i64 x.err)), .pv (.lit (.int .i64 x.floor))]))] }) rfl rfl rfl rfl trivial rfl ?_)
  refine rvc_nil ?_
  refine Awp.seq ?_
  refine Awp.consP C ?_
  refine rvP C (.agg [.pv (.lit (.int .i64 x.client)), .pv (.lit (.int .i64 x.seq)), .pv (.lit (.bool x.write)), .pv (.lit (.int .u8 (x.key 0))), .pv (.lit (.int .u8 (x.key 1))), .pv (.lit (.int .u8 (x.key 2))), .pv (.lit (.int .u8 (x.key 3))), .pv (.lit (.int .u8 (x.key 4))), .pv (.lit (.int .u8 (x.key 5))), .pv (.lit (.int .u8 (x.key 6))), .pv (.lit (.int .u8 (x.key 7))), .pv (.lit (.string x.value)), .pv (.lit (.int .i64 x.mode)), .pv (.lit (.int .i64 x.bound)), .pv (.lit (.int .i64 x.began)), .pv (.lit (.int .i64 x.ended)), .pv (.lit (.int .i64 x.ver)), .pv (.lit (.int .i64 x.err)), .pv (.lit (.int .i64 x.floor))]) ?_
  refine rvc_un (rexec_call hP C rfl rfl rfl (jAnswered_calls x) ?_)
  refine rvP C (.pv (.lit (.bool (!(jAnswered x))))) ?_
  refine rvc_nil ?_
  refine Awp.cond (b := (!(jAnswered x))) rfl (fun h5 => ?_) (fun h5 => ?_)
  ·
   replace hR := of_true h5 hR
   refine Awp.exit ?_
   refine Awp.regionP C ?_
   refine rvP C (.pv (.lit (.int .i64 (IntKind.i64.wrap ((i : Int) + 1))))) ?_
   refine rvP C (.pv (.lit (.int .i64 (IntKind.i64.wrap ((i : Int) + 1))))) ?_
   refine rvc_nil ?_
   refine ⟨h3, (), ?_, ?_⟩
   · exact hR
   · exact ⟨fun b => b, WeakerR.ofL (Ks := [5, 13, 513]) hI ⟨⟨rfl, rfl⟩, ⟨rfl, rfl⟩, ⟨rfl, rfl⟩, ⟨lit_cast (wrap_i64 (by omega) (by omega)), rfl⟩, trivial⟩ (okH_map rfl rfl rfl (okH_map rfl rfl rfl (okH_cons rfl rfl rfl rfl (okH_nil)))) rfl⟩
  ·
   replace hR := of_false h5 hR
   refine Awp.skip ?_
   refine Awp.consP C ?_
   refine rvP C (.ptr 5 0) ?_
   refine rvP C (.mp 13) ?_
   refine rvP C (.ptr 7 3) ?_
   refine rvP C (.agg [.pv (.lit (.int .u8 (x.key 0))), .pv (.lit (.int .u8 (x.key 1))), .pv (.lit (.int .u8 (x.key 2))), .pv (.lit (.int .u8 (x.key 3))), .pv (.lit (.int .u8 (x.key 4))), .pv (.lit (.int .u8 (x.key 5))), .pv (.lit (.int .u8 (x.key 6))), .pv (.lit (.int .u8 (x.key 7)))]) ?_
   refine rvP C (.ptr 7 16) ?_
   refine rvP C (.pv (.lit (.int .i64 x.ver))) ?_
   refine rvP C (.agg [.pv (.lit (.int .u8 (x.key 0))), .pv (.lit (.int .u8 (x.key 1))), .pv (.lit (.int .u8 (x.key 2))), .pv (.lit (.int .u8 (x.key 3))), .pv (.lit (.int .u8 (x.key 4))), .pv (.lit (.int .u8 (x.key 5))), .pv (.lit (.int .u8 (x.key 6))), .pv (.lit (.int .u8 (x.key 7))), .pv (.lit (.int .i64 x.ver))]) ?_
   refine rvc_un (rexec_lookup hP C rfl (Slot.mk x.key x.ver) zeroR rfl rfl rfl rfl rfl rfl kSlot_ok rfl (.tup [.agg [.pv (.lit (.int .i64 (((mGet kSlot (Slot.mk x.key x.ver) ((openB recs).of_)).getD zeroR).index))), .pv (.lit (.int .i64 (((mGet kSlot (Slot.mk x.key x.ver) ((openB recs).of_)).getD zeroR).epoch))), .pv (.lit (.int .u8 (((mGet kSlot (Slot.mk x.key x.ver) ((openB recs).of_)).getD zeroR).key 0))), .pv (.lit (.int .u8 (((mGet kSlot (Slot.mk x.key x.ver) ((openB recs).of_)).getD zeroR).key 1))), .pv (.lit (.int .u8 (((mGet kSlot (Slot.mk x.key x.ver) ((openB recs).of_)).getD zeroR).key 2))), .pv (.lit (.int .u8 (((mGet kSlot (Slot.mk x.key x.ver) ((openB recs).of_)).getD zeroR).key 3))), .pv (.lit (.int .u8 (((mGet kSlot (Slot.mk x.key x.ver) ((openB recs).of_)).getD zeroR).key 4))), .pv (.lit (.int .u8 (((mGet kSlot (Slot.mk x.key x.ver) ((openB recs).of_)).getD zeroR).key 5))), .pv (.lit (.int .u8 (((mGet kSlot (Slot.mk x.key x.ver) ((openB recs).of_)).getD zeroR).key 6))), .pv (.lit (.int .u8 (((mGet kSlot (Slot.mk x.key x.ver) ((openB recs).of_)).getD zeroR).key 7))), .pv (.lit (.int .i64 (((mGet kSlot (Slot.mk x.key x.ver) ((openB recs).of_)).getD zeroR).ver))), .pv (.lit (.string (((mGet kSlot (Slot.mk x.key x.ver) ((openB recs).of_)).getD zeroR).value))), .pv (.lit (.int .i64 (((mGet kSlot (Slot.mk x.key x.ver) ((openB recs).of_)).getD zeroR).req.client))), .pv (.lit (.int .i64 (((mGet kSlot (Slot.mk x.key x.ver) ((openB recs).of_)).getD zeroR).req.seq)))], .pv (.lit (.bool ((mGet kSlot (Slot.mk x.key x.ver) ((openB recs).of_)).isSome)))]) rfl ?_)
   refine rvP C (.tup [.agg [.pv (.lit (.int .i64 (((mGet kSlot (Slot.mk x.key x.ver) ((openB recs).of_)).getD zeroR).index))), .pv (.lit (.int .i64 (((mGet kSlot (Slot.mk x.key x.ver) ((openB recs).of_)).getD zeroR).epoch))), .pv (.lit (.int .u8 (((mGet kSlot (Slot.mk x.key x.ver) ((openB recs).of_)).getD zeroR).key 0))), .pv (.lit (.int .u8 (((mGet kSlot (Slot.mk x.key x.ver) ((openB recs).of_)).getD zeroR).key 1))), .pv (.lit (.int .u8 (((mGet kSlot (Slot.mk x.key x.ver) ((openB recs).of_)).getD zeroR).key 2))), .pv (.lit (.int .u8 (((mGet kSlot (Slot.mk x.key x.ver) ((openB recs).of_)).getD zeroR).key 3))), .pv (.lit (.int .u8 (((mGet kSlot (Slot.mk x.key x.ver) ((openB recs).of_)).getD zeroR).key 4))), .pv (.lit (.int .u8 (((mGet kSlot (Slot.mk x.key x.ver) ((openB recs).of_)).getD zeroR).key 5))), .pv (.lit (.int .u8 (((mGet kSlot (Slot.mk x.key x.ver) ((openB recs).of_)).getD zeroR).key 6))), .pv (.lit (.int .u8 (((mGet kSlot (Slot.mk x.key x.ver) ((openB recs).of_)).getD zeroR).key 7))), .pv (.lit (.int .i64 (((mGet kSlot (Slot.mk x.key x.ver) ((openB recs).of_)).getD zeroR).ver))), .pv (.lit (.string (((mGet kSlot (Slot.mk x.key x.ver) ((openB recs).of_)).getD zeroR).value))), .pv (.lit (.int .i64 (((mGet kSlot (Slot.mk x.key x.ver) ((openB recs).of_)).getD zeroR).req.client))), .pv (.lit (.int .i64 (((mGet kSlot (Slot.mk x.key x.ver) ((openB recs).of_)).getD zeroR).req.seq)))], .pv (.lit (.bool ((mGet kSlot (Slot.mk x.key x.ver) ((openB recs).of_)).isSome)))]) ?_
   refine rvP C (.agg [.pv (.lit (.int .i64 (((mGet kSlot (Slot.mk x.key x.ver) ((openB recs).of_)).getD zeroR).index))), .pv (.lit (.int .i64 (((mGet kSlot (Slot.mk x.key x.ver) ((openB recs).of_)).getD zeroR).epoch))), .pv (.lit (.int .u8 (((mGet kSlot (Slot.mk x.key x.ver) ((openB recs).of_)).getD zeroR).key 0))), .pv (.lit (.int .u8 (((mGet kSlot (Slot.mk x.key x.ver) ((openB recs).of_)).getD zeroR).key 1))), .pv (.lit (.int .u8 (((mGet kSlot (Slot.mk x.key x.ver) ((openB recs).of_)).getD zeroR).key 2))), .pv (.lit (.int .u8 (((mGet kSlot (Slot.mk x.key x.ver) ((openB recs).of_)).getD zeroR).key 3))), .pv (.lit (.int .u8 (((mGet kSlot (Slot.mk x.key x.ver) ((openB recs).of_)).getD zeroR).key 4))), .pv (.lit (.int .u8 (((mGet kSlot (Slot.mk x.key x.ver) ((openB recs).of_)).getD zeroR).key 5))), .pv (.lit (.int .u8 (((mGet kSlot (Slot.mk x.key x.ver) ((openB recs).of_)).getD zeroR).key 6))), .pv (.lit (.int .u8 (((mGet kSlot (Slot.mk x.key x.ver) ((openB recs).of_)).getD zeroR).key 7))), .pv (.lit (.int .i64 (((mGet kSlot (Slot.mk x.key x.ver) ((openB recs).of_)).getD zeroR).ver))), .pv (.lit (.string (((mGet kSlot (Slot.mk x.key x.ver) ((openB recs).of_)).getD zeroR).value))), .pv (.lit (.int .i64 (((mGet kSlot (Slot.mk x.key x.ver) ((openB recs).of_)).getD zeroR).req.client))), .pv (.lit (.int .i64 (((mGet kSlot (Slot.mk x.key x.ver) ((openB recs).of_)).getD zeroR).req.seq)))]) ?_
   refine rvP C (.pv (.lit (.bool ((mGet kSlot (Slot.mk x.key x.ver) ((openB recs).of_)).isSome)))) ?_
   refine rvc_un (rexec_prim C (δ := { v := .ptr 8 0, new := [(8, .cells [.pv (.lit (.int .i64 0)), .pv (.lit (.int .i64 0)), .pv (.lit (.int .u8 0)), .pv (.lit (.int .u8 0)), .pv (.lit (.int .u8 0)), .pv (.lit (.int .u8 0)), .pv (.lit (.int .u8 0)), .pv (.lit (.int .u8 0)), .pv (.lit (.int .u8 0)), .pv (.lit (.int .u8 0)), .pv (.lit (.int .i64 0)), .pv (.lit (.string ⟨#[]⟩)), .pv (.lit (.int .i64 0)), .pv (.lit (.int .i64 0))])] }) rfl rfl rfl rfl trivial rfl ?_)
   refine rvc_un (rexec_prim C (δ := { v := .undef, wr := [(8, some (.cells [.pv (.lit (.int .i64 (((mGet kSlot (Slot.mk x.key x.ver) ((openB recs).of_)).getD zeroR).index))), .pv (.lit (.int .i64 (((mGet kSlot (Slot.mk x.key x.ver) ((openB recs).of_)).getD zeroR).epoch))), .pv (.lit (.int .u8 (((mGet kSlot (Slot.mk x.key x.ver) ((openB recs).of_)).getD zeroR).key 0))), .pv (.lit (.int .u8 (((mGet kSlot (Slot.mk x.key x.ver) ((openB recs).of_)).getD zeroR).key 1))), .pv (.lit (.int .u8 (((mGet kSlot (Slot.mk x.key x.ver) ((openB recs).of_)).getD zeroR).key 2))), .pv (.lit (.int .u8 (((mGet kSlot (Slot.mk x.key x.ver) ((openB recs).of_)).getD zeroR).key 3))), .pv (.lit (.int .u8 (((mGet kSlot (Slot.mk x.key x.ver) ((openB recs).of_)).getD zeroR).key 4))), .pv (.lit (.int .u8 (((mGet kSlot (Slot.mk x.key x.ver) ((openB recs).of_)).getD zeroR).key 5))), .pv (.lit (.int .u8 (((mGet kSlot (Slot.mk x.key x.ver) ((openB recs).of_)).getD zeroR).key 6))), .pv (.lit (.int .u8 (((mGet kSlot (Slot.mk x.key x.ver) ((openB recs).of_)).getD zeroR).key 7))), .pv (.lit (.int .i64 (((mGet kSlot (Slot.mk x.key x.ver) ((openB recs).of_)).getD zeroR).ver))), .pv (.lit (.string (((mGet kSlot (Slot.mk x.key x.ver) ((openB recs).of_)).getD zeroR).value))), .pv (.lit (.int .i64 (((mGet kSlot (Slot.mk x.key x.ver) ((openB recs).of_)).getD zeroR).req.client))), .pv (.lit (.int .i64 (((mGet kSlot (Slot.mk x.key x.ver) ((openB recs).of_)).getD zeroR).req.seq)))]))] }) rfl rfl rfl rfl trivial rfl ?_)
   refine rvP C (.pv (.lit (.bool ((mGet kSlot (Slot.mk x.key x.ver) ((openB recs).of_)).isSome)))) ?_
   refine rvc_nil ?_
   refine Awp.block ?_
   refine Awp.consP C ?_
   refine rvP C (.ptr 7 2) ?_
   refine rvP C (.pv (.lit (.bool x.write))) ?_
   refine rvP C (.pv (.lit (.bool x.write))) ?_
   refine rvc_nil ?_
   refine Awp.cond (b := x.write) rfl (fun h6 => ?_) (fun h6 => ?_)
   ·
    replace hR := of_true h6 hR
    refine Awp.cons C (fun o => match o.dst with | some 39 => .reads [5] | some 40 => .reads [7] | some 42 => .reads [513] | some 10 => .writes [10] | none => .writes [10] | _ => .pure) (by kernel_rfl) ?_
    refine rvP C (.ptr 5 1) ?_
    refine rvP C (.mp 513) ?_
    refine rvP C (.agg [.pv (.lit (.int .i64 x.client)), .pv (.lit (.int .i64 x.seq)), .pv (.lit (.bool x.write)), .pv (.lit (.int .u8 (x.key 0))), .pv (.lit (.int .u8 (x.key 1))), .pv (.lit (.int .u8 (x.key 2))), .pv (.lit (.int .u8 (x.key 3))), .pv (.lit (.int .u8 (x.key 4))), .pv (.lit (.int .u8 (x.key 5))), .pv (.lit (.int .u8 (x.key 6))), .pv (.lit (.int .u8 (x.key 7))), .pv (.lit (.string x.value)), .pv (.lit (.int .i64 x.mode)), .pv (.lit (.int .i64 x.bound)), .pv (.lit (.int .i64 x.began)), .pv (.lit (.int .i64 x.ended)), .pv (.lit (.int .i64 x.ver)), .pv (.lit (.int .i64 x.err)), .pv (.lit (.int .i64 x.floor))]) ?_
    refine rvc_un (rexec_call hP C rfl rfl rfl (jReq_calls x) ?_)
    refine rvc_un (rexec_lookup hP C rfl (jReq x) zeroR rfl rfl rfl rfl rfl rfl kReq_ok rfl (.tup [.agg [.pv (.lit (.int .i64 (((mGet kReq (jReq x) ((openB recs).req)).getD zeroR).index))), .pv (.lit (.int .i64 (((mGet kReq (jReq x) ((openB recs).req)).getD zeroR).epoch))), .pv (.lit (.int .u8 (((mGet kReq (jReq x) ((openB recs).req)).getD zeroR).key 0))), .pv (.lit (.int .u8 (((mGet kReq (jReq x) ((openB recs).req)).getD zeroR).key 1))), .pv (.lit (.int .u8 (((mGet kReq (jReq x) ((openB recs).req)).getD zeroR).key 2))), .pv (.lit (.int .u8 (((mGet kReq (jReq x) ((openB recs).req)).getD zeroR).key 3))), .pv (.lit (.int .u8 (((mGet kReq (jReq x) ((openB recs).req)).getD zeroR).key 4))), .pv (.lit (.int .u8 (((mGet kReq (jReq x) ((openB recs).req)).getD zeroR).key 5))), .pv (.lit (.int .u8 (((mGet kReq (jReq x) ((openB recs).req)).getD zeroR).key 6))), .pv (.lit (.int .u8 (((mGet kReq (jReq x) ((openB recs).req)).getD zeroR).key 7))), .pv (.lit (.int .i64 (((mGet kReq (jReq x) ((openB recs).req)).getD zeroR).ver))), .pv (.lit (.string (((mGet kReq (jReq x) ((openB recs).req)).getD zeroR).value))), .pv (.lit (.int .i64 (((mGet kReq (jReq x) ((openB recs).req)).getD zeroR).req.client))), .pv (.lit (.int .i64 (((mGet kReq (jReq x) ((openB recs).req)).getD zeroR).req.seq)))], .pv (.lit (.bool ((mGet kReq (jReq x) ((openB recs).req)).isSome)))]) rfl ?_)
    refine rvP C (.tup [.agg [.pv (.lit (.int .i64 (((mGet kReq (jReq x) ((openB recs).req)).getD zeroR).index))), .pv (.lit (.int .i64 (((mGet kReq (jReq x) ((openB recs).req)).getD zeroR).epoch))), .pv (.lit (.int .u8 (((mGet kReq (jReq x) ((openB recs).req)).getD zeroR).key 0))), .pv (.lit (.int .u8 (((mGet kReq (jReq x) ((openB recs).req)).getD zeroR).key 1))), .pv (.lit (.int .u8 (((mGet kReq (jReq x) ((openB recs).req)).getD zeroR).key 2))), .pv (.lit (.int .u8 (((mGet kReq (jReq x) ((openB recs).req)).getD zeroR).key 3))), .pv (.lit (.int .u8 (((mGet kReq (jReq x) ((openB recs).req)).getD zeroR).key 4))), .pv (.lit (.int .u8 (((mGet kReq (jReq x) ((openB recs).req)).getD zeroR).key 5))), .pv (.lit (.int .u8 (((mGet kReq (jReq x) ((openB recs).req)).getD zeroR).key 6))), .pv (.lit (.int .u8 (((mGet kReq (jReq x) ((openB recs).req)).getD zeroR).key 7))), .pv (.lit (.int .i64 (((mGet kReq (jReq x) ((openB recs).req)).getD zeroR).ver))), .pv (.lit (.string (((mGet kReq (jReq x) ((openB recs).req)).getD zeroR).value))), .pv (.lit (.int .i64 (((mGet kReq (jReq x) ((openB recs).req)).getD zeroR).req.client))), .pv (.lit (.int .i64 (((mGet kReq (jReq x) ((openB recs).req)).getD zeroR).req.seq)))], .pv (.lit (.bool ((mGet kReq (jReq x) ((openB recs).req)).isSome)))]) ?_
    refine rvP C (.agg [.pv (.lit (.int .i64 (((mGet kReq (jReq x) ((openB recs).req)).getD zeroR).index))), .pv (.lit (.int .i64 (((mGet kReq (jReq x) ((openB recs).req)).getD zeroR).epoch))), .pv (.lit (.int .u8 (((mGet kReq (jReq x) ((openB recs).req)).getD zeroR).key 0))), .pv (.lit (.int .u8 (((mGet kReq (jReq x) ((openB recs).req)).getD zeroR).key 1))), .pv (.lit (.int .u8 (((mGet kReq (jReq x) ((openB recs).req)).getD zeroR).key 2))), .pv (.lit (.int .u8 (((mGet kReq (jReq x) ((openB recs).req)).getD zeroR).key 3))), .pv (.lit (.int .u8 (((mGet kReq (jReq x) ((openB recs).req)).getD zeroR).key 4))), .pv (.lit (.int .u8 (((mGet kReq (jReq x) ((openB recs).req)).getD zeroR).key 5))), .pv (.lit (.int .u8 (((mGet kReq (jReq x) ((openB recs).req)).getD zeroR).key 6))), .pv (.lit (.int .u8 (((mGet kReq (jReq x) ((openB recs).req)).getD zeroR).key 7))), .pv (.lit (.int .i64 (((mGet kReq (jReq x) ((openB recs).req)).getD zeroR).ver))), .pv (.lit (.string (((mGet kReq (jReq x) ((openB recs).req)).getD zeroR).value))), .pv (.lit (.int .i64 (((mGet kReq (jReq x) ((openB recs).req)).getD zeroR).req.client))), .pv (.lit (.int .i64 (((mGet kReq (jReq x) ((openB recs).req)).getD zeroR).req.seq)))]) ?_
    refine rvP C (.pv (.lit (.bool ((mGet kReq (jReq x) ((openB recs).req)).isSome)))) ?_
    refine rvc_un (rexec_prim C (δ := { v := .ptr 10 0, new := [(10, .cells [.pv (.lit (.int .i64 0)), .pv (.lit (.int .i64 0)), .pv (.lit (.int .u8 0)), .pv (.lit (.int .u8 0)), .pv (.lit (.int .u8 0)), .pv (.lit (.int .u8 0)), .pv (.lit (.int .u8 0)), .pv (.lit (.int .u8 0)), .pv (.lit (.int .u8 0)), .pv (.lit (.int .u8 0)), .pv (.lit (.int .i64 0)), .pv (.lit (.string ⟨#[]⟩)), .pv (.lit (.int .i64 0)), .pv (.lit (.int .i64 0))])] }) rfl rfl rfl rfl trivial rfl ?_)
    refine rvc_un (rexec_prim C (δ := { v := .undef, wr := [(10, some (.cells [.pv (.lit (.int .i64 (((mGet kReq (jReq x) ((openB recs).req)).getD zeroR).index))), .pv (.lit (.int .i64 (((mGet kReq (jReq x) ((openB recs).req)).getD zeroR).epoch))), .pv (.lit (.int .u8 (((mGet kReq (jReq x) ((openB recs).req)).getD zeroR).key 0))), .pv (.lit (.int .u8 (((mGet kReq (jReq x) ((openB recs).req)).getD zeroR).key 1))), .pv (.lit (.int .u8 (((mGet kReq (jReq x) ((openB recs).req)).getD zeroR).key 2))), .pv (.lit (.int .u8 (((mGet kReq (jReq x) ((openB recs).req)).getD zeroR).key 3))), .pv (.lit (.int .u8 (((mGet kReq (jReq x) ((openB recs).req)).getD zeroR).key 4))), .pv (.lit (.int .u8 (((mGet kReq (jReq x) ((openB recs).req)).getD zeroR).key 5))), .pv (.lit (.int .u8 (((mGet kReq (jReq x) ((openB recs).req)).getD zeroR).key 6))), .pv (.lit (.int .u8 (((mGet kReq (jReq x) ((openB recs).req)).getD zeroR).key 7))), .pv (.lit (.int .i64 (((mGet kReq (jReq x) ((openB recs).req)).getD zeroR).ver))), .pv (.lit (.string (((mGet kReq (jReq x) ((openB recs).req)).getD zeroR).value))), .pv (.lit (.int .i64 (((mGet kReq (jReq x) ((openB recs).req)).getD zeroR).req.client))), .pv (.lit (.int .i64 (((mGet kReq (jReq x) ((openB recs).req)).getD zeroR).req.seq)))]))] }) rfl rfl rfl rfl trivial rfl ?_)
    refine rvP C (.pv (.lit (.bool ((mGet kReq (jReq x) ((openB recs).req)).isSome)))) ?_
    refine rvc_nil ?_
    refine Awp.consP C ?_
    refine rvP C (.pv (.lit (.bool ((mGet kReq (jReq x) ((openB recs).req)).isSome)))) ?_
    refine rvP C (.pv (.lit (.bool (!((mGet kReq (jReq x) ((openB recs).req)).isSome))))) ?_
    refine rvP C (.pv (.lit (.bool (!((mGet kReq (jReq x) ((openB recs).req)).isSome))))) ?_
    refine rvc_case 47 (!((mGet kReq (jReq x) ((openB recs).req)).isSome)) rfl (fun h7 => ?_) (fun h7 => ?_)
    ·
     replace hR := of_true h7 hR
     refine rvS ?_
     refine rvS ?_
     refine rvS ?_
     refine rvS ?_
     refine rvS ?_
     refine rvP C (.pv (.lit (.bool true))) ?_
     refine rvP C (.pv (.lit (.bool true))) ?_
     refine rvS ?_
     refine rvS ?_
     refine rvS ?_
     refine rvS ?_
     refine rvS ?_
     refine rvP C (.pv (.lit (.bool true))) ?_
     refine rvP C (.pv (.lit (.bool true))) ?_
     refine rvS ?_
     refine rvS ?_
     refine rvS ?_
     refine rvS ?_
     refine rvS ?_
     refine rvP C (.pv (.lit (.bool true))) ?_
     refine rvc_nil ?_
     refine Awp.condT (b := true) rfl rfl ?_
     refine Awp.consP C ?_
     refine rvP C (.pv (.lit (.bool false))) ?_
     refine rvc_nil ?_
     refine Awp.ret ?_
     subst hR
     exact ⟨.inl rfl, rfl⟩
    ·
     replace hR := of_false h7 hR
     refine rvO C (.ptr 10 10) ?_
     refine rvO C (.pv (.lit (.int .i64 (((mGet kReq (jReq x) ((openB recs).req)).getD zeroR).ver)))) ?_
     refine rvO C (.ptr 7 16) ?_
     refine rvO C (.pv (.lit (.int .i64 x.ver))) ?_
     refine rvO C (.pv (.lit (.bool ((((mGet kReq (jReq x) ((openB recs).req)).getD zeroR).ver) != x.ver)))) ?_
     refine rvP C (.pv (.lit (.bool ((((mGet kReq (jReq x) ((openB recs).req)).getD zeroR).ver) != x.ver)))) ?_
     refine rvP C (.pv (.lit (.bool ((((mGet kReq (jReq x) ((openB recs).req)).getD zeroR).ver) != x.ver)))) ?_
     refine rvc_case 54 ((((mGet kReq (jReq x) ((openB recs).req)).getD zeroR).ver) != x.ver) rfl (fun h8 => ?_) (fun h8 => ?_)
     ·
      replace hR := of_true h8 hR
      refine rvS ?_
      refine rvS ?_
      refine rvS ?_
      refine rvS ?_
      refine rvS ?_
      refine rvP C (.pv (.lit (.bool true))) ?_
      refine rvP C (.pv (.lit (.bool true))) ?_
      refine rvS ?_
      refine rvS ?_
      refine rvS ?_
      refine rvS ?_
      refine rvS ?_
      refine rvP C (.pv (.lit (.bool true))) ?_
      refine rvc_nil ?_
      refine Awp.condT (b := true) rfl rfl ?_
      refine Awp.consP C ?_
      refine rvP C (.pv (.lit (.bool false))) ?_
      refine rvc_nil ?_
      refine Awp.ret ?_
      subst hR
      exact ⟨.inl rfl, rfl⟩
     ·
      replace hR := of_false h8 hR
      refine rvO C (.ptr 10 2) ?_
      refine rvO C (.agg [.pv (.lit (.int .u8 (((mGet kReq (jReq x) ((openB recs).req)).getD zeroR).key 0))), .pv (.lit (.int .u8 (((mGet kReq (jReq x) ((openB recs).req)).getD zeroR).key 1))), .pv (.lit (.int .u8 (((mGet kReq (jReq x) ((openB recs).req)).getD zeroR).key 2))), .pv (.lit (.int .u8 (((mGet kReq (jReq x) ((openB recs).req)).getD zeroR).key 3))), .pv (.lit (.int .u8 (((mGet kReq (jReq x) ((openB recs).req)).getD zeroR).key 4))), .pv (.lit (.int .u8 (((mGet kReq (jReq x) ((openB recs).req)).getD zeroR).key 5))), .pv (.lit (.int .u8 (((mGet kReq (jReq x) ((openB recs).req)).getD zeroR).key 6))), .pv (.lit (.int .u8 (((mGet kReq (jReq x) ((openB recs).req)).getD zeroR).key 7)))]) ?_
      refine rvO C (.ptr 7 3) ?_
      refine rvO C (.agg [.pv (.lit (.int .u8 (x.key 0))), .pv (.lit (.int .u8 (x.key 1))), .pv (.lit (.int .u8 (x.key 2))), .pv (.lit (.int .u8 (x.key 3))), .pv (.lit (.int .u8 (x.key 4))), .pv (.lit (.int .u8 (x.key 5))), .pv (.lit (.int .u8 (x.key 6))), .pv (.lit (.int .u8 (x.key 7)))]) ?_
      refine rvO C (.pv (.lit (.bool (!(((((mGet kReq (jReq x) ((openB recs).req)).getD zeroR).key 0) == (x.key 0)) && (((((mGet kReq (jReq x) ((openB recs).req)).getD zeroR).key 1) == (x.key 1)) && (((((mGet kReq (jReq x) ((openB recs).req)).getD zeroR).key 2) == (x.key 2)) && (((((mGet kReq (jReq x) ((openB recs).req)).getD zeroR).key 3) == (x.key 3)) && (((((mGet kReq (jReq x) ((openB recs).req)).getD zeroR).key 4) == (x.key 4)) && (((((mGet kReq (jReq x) ((openB recs).req)).getD zeroR).key 5) == (x.key 5)) && (((((mGet kReq (jReq x) ((openB recs).req)).getD zeroR).key 6) == (x.key 6)) && (((((mGet kReq (jReq x) ((openB recs).req)).getD zeroR).key 7) == (x.key 7)) && true)))))))))))) ?_
      refine rvP C (.pv (.lit (.bool (!(((((mGet kReq (jReq x) ((openB recs).req)).getD zeroR).key 0) == (x.key 0)) && (((((mGet kReq (jReq x) ((openB recs).req)).getD zeroR).key 1) == (x.key 1)) && (((((mGet kReq (jReq x) ((openB recs).req)).getD zeroR).key 2) == (x.key 2)) && (((((mGet kReq (jReq x) ((openB recs).req)).getD zeroR).key 3) == (x.key 3)) && (((((mGet kReq (jReq x) ((openB recs).req)).getD zeroR).key 4) == (x.key 4)) && (((((mGet kReq (jReq x) ((openB recs).req)).getD zeroR).key 5) == (x.key 5)) && (((((mGet kReq (jReq x) ((openB recs).req)).getD zeroR).key 6) == (x.key 6)) && (((((mGet kReq (jReq x) ((openB recs).req)).getD zeroR).key 7) == (x.key 7)) && true)))))))))))) ?_
      refine rvP C (.pv (.lit (.bool (!(((((mGet kReq (jReq x) ((openB recs).req)).getD zeroR).key 0) == (x.key 0)) && (((((mGet kReq (jReq x) ((openB recs).req)).getD zeroR).key 1) == (x.key 1)) && (((((mGet kReq (jReq x) ((openB recs).req)).getD zeroR).key 2) == (x.key 2)) && (((((mGet kReq (jReq x) ((openB recs).req)).getD zeroR).key 3) == (x.key 3)) && (((((mGet kReq (jReq x) ((openB recs).req)).getD zeroR).key 4) == (x.key 4)) && (((((mGet kReq (jReq x) ((openB recs).req)).getD zeroR).key 5) == (x.key 5)) && (((((mGet kReq (jReq x) ((openB recs).req)).getD zeroR).key 6) == (x.key 6)) && (((((mGet kReq (jReq x) ((openB recs).req)).getD zeroR).key 7) == (x.key 7)) && true)))))))))))) ?_
      refine rvc_case 61 (!(((((mGet kReq (jReq x) ((openB recs).req)).getD zeroR).key 0) == (x.key 0)) && (((((mGet kReq (jReq x) ((openB recs).req)).getD zeroR).key 1) == (x.key 1)) && (((((mGet kReq (jReq x) ((openB recs).req)).getD zeroR).key 2) == (x.key 2)) && (((((mGet kReq (jReq x) ((openB recs).req)).getD zeroR).key 3) == (x.key 3)) && (((((mGet kReq (jReq x) ((openB recs).req)).getD zeroR).key 4) == (x.key 4)) && (((((mGet kReq (jReq x) ((openB recs).req)).getD zeroR).key 5) == (x.key 5)) && (((((mGet kReq (jReq x) ((openB recs).req)).getD zeroR).key 6) == (x.key 6)) && (((((mGet kReq (jReq x) ((openB recs).req)).getD zeroR).key 7) == (x.key 7)) && true))))))))) rfl (fun h9 => ?_) (fun h9 => ?_)
      ·
       replace hR := of_true h9 hR
       refine rvS ?_
       refine rvS ?_
       refine rvS ?_
       refine rvS ?_
       refine rvS ?_
       refine rvP C (.pv (.lit (.bool true))) ?_
       refine rvc_nil ?_
       refine Awp.condT (b := true) rfl rfl ?_
       refine Awp.consP C ?_
       refine rvP C (.pv (.lit (.bool false))) ?_
       refine rvc_nil ?_
       refine Awp.ret ?_
       subst hR
       exact ⟨.inl rfl, rfl⟩
      ·
       replace hR := of_false h9 hR
       refine rvO C (.ptr 10 11) ?_
       refine rvO C (.pv (.lit (.string (((mGet kReq (jReq x) ((openB recs).req)).getD zeroR).value)))) ?_
       refine rvO C (.ptr 7 11) ?_
       refine rvO C (.pv (.lit (.string x.value))) ?_
       refine rvO C (.pv (.lit (.bool (!((((mGet kReq (jReq x) ((openB recs).req)).getD zeroR).value).toList == x.value.toList))))) ?_
       refine rvP C (.pv (.lit (.bool (!((((mGet kReq (jReq x) ((openB recs).req)).getD zeroR).value).toList == x.value.toList))))) ?_
       refine rvc_nil ?_
       refine Awp.cond (b := (!((((mGet kReq (jReq x) ((openB recs).req)).getD zeroR).value).toList == x.value.toList))) rfl (fun h10 => ?_) (fun h10 => ?_)
       ·
        replace hR := of_true h10 hR
        refine Awp.consP C ?_
        refine rvP C (.pv (.lit (.bool false))) ?_
        refine rvc_nil ?_
        refine Awp.ret ?_
        subst hR
        exact ⟨.inl rfl, rfl⟩
       ·
        replace hR := of_false h10 hR
        refine Awp.skip ?_
        refine Awp.regionP C ?_
        refine rvP C (.pv (.lit (.int .i64 (IntKind.i64.wrap ((i : Int) + 1))))) ?_
        refine rvP C (.pv (.lit (.int .i64 (IntKind.i64.wrap ((i : Int) + 1))))) ?_
        refine rvc_nil ?_
        refine ⟨h3, (), ?_, ?_⟩
        · exact hR
        · exact ⟨fun b => b, WeakerR.ofL (Ks := [5, 13, 513]) hI ⟨⟨rfl, rfl⟩, ⟨rfl, rfl⟩, ⟨rfl, rfl⟩, ⟨lit_cast (wrap_i64 (by omega) (by omega)), rfl⟩, trivial⟩ (okH_map rfl rfl rfl (okH_map rfl rfl rfl (okH_cons rfl rfl rfl rfl (okH_nil)))) rfl⟩
   ·
    replace hR := of_false h6 hR
    refine Awp.consP C ?_
    refine rvP C (.ptr 7 16) ?_
    refine rvP C (.pv (.lit (.int .i64 x.ver))) ?_
    refine rvP C (.pv (.lit (.bool (x.ver == 0)))) ?_
    refine rvP C (.pv (.lit (.bool (x.ver == 0)))) ?_
    refine rvc_nil ?_
    refine Awp.cond (b := (x.ver == 0)) rfl (fun h11 => ?_) (fun h11 => ?_)
    ·
     replace hR := of_true h11 hR
     refine Awp.consP C ?_
     refine rvP C (.ptr 7 11) ?_
     refine rvP C (.pv (.lit (.string x.value))) ?_
     refine rvP C (.pv (.lit (.bool (!(x.value.toList == (⟨#[]⟩ : ByteArray).toList))))) ?_
     refine rvc_nil ?_
     refine Awp.cond (b := (!(x.value.toList == (⟨#[]⟩ : ByteArray).toList))) rfl (fun h12 => ?_) (fun h12 => ?_)
     ·
      replace hR := of_true h12 hR
      refine Awp.consP C ?_
      refine rvP C (.pv (.lit (.bool false))) ?_
      refine rvc_nil ?_
      refine Awp.ret ?_
      subst hR
      exact ⟨.inl rfl, rfl⟩
     ·
      replace hR := of_false h12 hR
      refine Awp.skip ?_
      refine Awp.regionP C ?_
      refine rvP C (.pv (.lit (.int .i64 (IntKind.i64.wrap ((i : Int) + 1))))) ?_
      refine rvP C (.pv (.lit (.int .i64 (IntKind.i64.wrap ((i : Int) + 1))))) ?_
      refine rvc_nil ?_
      refine ⟨h3, (), ?_, ?_⟩
      · exact hR
      · exact ⟨fun b => b, WeakerR.ofL (Ks := [5, 13, 513]) hI ⟨⟨rfl, rfl⟩, ⟨rfl, rfl⟩, ⟨rfl, rfl⟩, ⟨lit_cast (wrap_i64 (by omega) (by omega)), rfl⟩, trivial⟩ (okH_map rfl rfl rfl (okH_map rfl rfl rfl (okH_cons rfl rfl rfl rfl (okH_nil)))) rfl⟩
    ·
     replace hR := of_false h11 hR
     refine Awp.consP C ?_
     refine rvP C (.pv (.lit (.bool ((mGet kSlot (Slot.mk x.key x.ver) ((openB recs).of_)).isSome)))) ?_
     refine rvP C (.pv (.lit (.bool (!((mGet kSlot (Slot.mk x.key x.ver) ((openB recs).of_)).isSome))))) ?_
     refine rvP C (.pv (.lit (.bool (!((mGet kSlot (Slot.mk x.key x.ver) ((openB recs).of_)).isSome))))) ?_
     refine rvc_case 78 (!((mGet kSlot (Slot.mk x.key x.ver) ((openB recs).of_)).isSome)) rfl (fun h13 => ?_) (fun h13 => ?_)
     ·
      replace hR := of_true h13 hR
      refine rvS ?_
      refine rvS ?_
      refine rvS ?_
      refine rvS ?_
      refine rvS ?_
      refine rvP C (.pv (.lit (.bool true))) ?_
      refine rvP C (.pv (.lit (.bool true))) ?_
      refine rvc_nil ?_
      refine Awp.condT (b := true) rfl rfl ?_
      refine Awp.consP C ?_
      refine rvP C (.pv (.lit (.bool false))) ?_
      refine rvc_nil ?_
      refine Awp.ret ?_
      subst hR
      exact ⟨.inl rfl, rfl⟩
     ·
      replace hR := of_false h13 hR
      refine rvO C (.ptr 8 11) ?_
      refine rvO C (.pv (.lit (.string (((mGet kSlot (Slot.mk x.key x.ver) ((openB recs).of_)).getD zeroR).value)))) ?_
      refine rvO C (.ptr 7 11) ?_
      refine rvO C (.pv (.lit (.string x.value))) ?_
      refine rvO C (.pv (.lit (.bool (!((((mGet kSlot (Slot.mk x.key x.ver) ((openB recs).of_)).getD zeroR).value).toList == x.value.toList))))) ?_
      refine rvP C (.pv (.lit (.bool (!((((mGet kSlot (Slot.mk x.key x.ver) ((openB recs).of_)).getD zeroR).value).toList == x.value.toList))))) ?_
      refine rvP C (.pv (.lit (.bool (!((((mGet kSlot (Slot.mk x.key x.ver) ((openB recs).of_)).getD zeroR).value).toList == x.value.toList))))) ?_
      refine rvc_nil ?_
      refine Awp.cond (b := (!((((mGet kSlot (Slot.mk x.key x.ver) ((openB recs).of_)).getD zeroR).value).toList == x.value.toList))) rfl (fun h14 => ?_) (fun h14 => ?_)
      ·
       replace hR := of_true h14 hR
       refine Awp.consP C ?_
       refine rvP C (.pv (.lit (.bool false))) ?_
       refine rvc_nil ?_
       refine Awp.ret ?_
       subst hR
       exact ⟨.inl rfl, rfl⟩
      ·
       replace hR := of_false h14 hR
       refine Awp.skip ?_
       refine Awp.regionP C ?_
       refine rvP C (.pv (.lit (.int .i64 (IntKind.i64.wrap ((i : Int) + 1))))) ?_
       refine rvP C (.pv (.lit (.int .i64 (IntKind.i64.wrap ((i : Int) + 1))))) ?_
       refine rvc_nil ?_
       refine ⟨h3, (), ?_, ?_⟩
       · exact hR
       · exact ⟨fun b => b, WeakerR.ofL (Ks := [5, 13, 513]) hI ⟨⟨rfl, rfl⟩, ⟨rfl, rfl⟩, ⟨rfl, rfl⟩, ⟨lit_cast (wrap_i64 (by omega) (by omega)), rfl⟩, trivial⟩ (okH_map rfl rfl rfl (okH_map rfl rfl rfl (okH_cons rfl rfl rfl rfl (okH_nil)))) rfl⟩
 ·
  have h3 : ¬ i < calls.D.length := by have := of_decide_eq_false h2; omega
  rw [drop_end h3] at hR
  refine Awp.exit ?_
  refine Awp.consP C ?_
  refine rvP C (.pv (.lit (.bool true))) ?_
  refine rvc_nil ?_
  refine Awp.ret ?_
  subst hR
  exact ⟨.inl rfl, rfl⟩
def rOfC_l0 (c : Call) : List Record → Nat → Int → Int → Int → ByteArray → Int → Int → Int → Int → Int → Int → Int → Int → Int → Int → Record
  | [], _, vc, vc1, vc2, vc3, vc4, vc5, vc6, vc7, vc8, vc9, vc10, vc11, vc12, vc13 => (Record.mk vc vc1 (ofL [vc6, vc7, vc8, vc9, vc10, vc11, vc12, vc13]) vc2 vc3 (Req.mk vc4 vc5))
  | x :: xs, i, vc, vc1, vc2, vc3, vc4, vc5, vc6, vc7, vc8, vc9, vc10, vc11, vc12, vc13 => (bif (x.req.client == c.client) then (bif (x.req.seq == c.seq) then rOfC_l0 c xs (i + 1) x.index x.epoch x.ver x.value x.req.client x.req.seq (x.key 0) (x.key 1) (x.key 2) (x.key 3) (x.key 4) (x.key 5) (x.key 6) (x.key 7) else rOfC_l0 c xs (i + 1) vc vc1 vc2 vc3 vc4 vc5 vc6 vc7 vc8 vc9 vc10 vc11 vc12 vc13) else rOfC_l0 c xs (i + 1) vc vc1 vc2 vc3 vc4 vc5 vc6 vc7 vc8 vc9 vc10 vc11 vc12 vc13)
def rOfC (c : Call) (recs : (Sl Record)) : Record :=
  rOfC_l0 c recs.D 0 0 0 0 ⟨#[]⟩ 0 0 0 0 0 0 0 0 0 0
theorem rOfC_calls (c : Call) (recs : (Sl Record)) (hl1 : recs.D.length ≤ 1000000) : PCalls Try.prog 35 [.agg [.pv (.lit (.int .i64 c.client)), .pv (.lit (.int .i64 c.seq)), .pv (.lit (.bool c.write)), .pv (.lit (.int .u8 (c.key 0))), .pv (.lit (.int .u8 (c.key 1))), .pv (.lit (.int .u8 (c.key 2))), .pv (.lit (.int .u8 (c.key 3))), .pv (.lit (.int .u8 (c.key 4))), .pv (.lit (.int .u8 (c.key 5))), .pv (.lit (.int .u8 (c.key 6))), .pv (.lit (.int .u8 (c.key 7))), .pv (.lit (.string c.value)), .pv (.lit (.int .i64 c.mode)), .pv (.lit (.int .i64 c.bound)), .pv (.lit (.int .i64 c.began)), .pv (.lit (.int .i64 c.ended)), .pv (.lit (.int .i64 c.ver)), .pv (.lit (.int .i64 c.err)), .pv (.lit (.int .i64 c.floor))], sS (some recs.nil) eRecord recs.D] (.agg [.pv (.lit (.int .i64 ((rOfC c recs).index))), .pv (.lit (.int .i64 ((rOfC c recs).epoch))), .pv (.lit (.int .u8 ((rOfC c recs).key 0))), .pv (.lit (.int .u8 ((rOfC c recs).key 1))), .pv (.lit (.int .u8 ((rOfC c recs).key 2))), .pv (.lit (.int .u8 ((rOfC c recs).key 3))), .pv (.lit (.int .u8 ((rOfC c recs).key 4))), .pv (.lit (.int .u8 ((rOfC c recs).key 5))), .pv (.lit (.int .u8 ((rOfC c recs).key 6))), .pv (.lit (.int .u8 ((rOfC c recs).key 7))), .pv (.lit (.int .i64 ((rOfC c recs).ver))), .pv (.lit (.string ((rOfC c recs).value))), .pv (.lit (.int .i64 ((rOfC c recs).req.client))), .pv (.lit (.int .i64 ((rOfC c recs).req.seq)))]) := by
 generalize hR : rOfC c recs = R
 refine PCalls.of_body tabOk Try.func35 rfl rfl rfl rfl rfl mixed fun E hP C hI => ?_
 refine Awp.consP C ?_
 refine rvc_un (rexec_prim C (δ := { v := .ptr 2 0, new := [(2, .cells [.pv (.lit (.int .i64 c.client)), .pv (.lit (.int .i64 c.seq)), .pv (.lit (.bool c.write)), .pv (.lit (.int .u8 (c.key 0))), .pv (.lit (.int .u8 (c.key 1))), .pv (.lit (.int .u8 (c.key 2))), .pv (.lit (.int .u8 (c.key 3))), .pv (.lit (.int .u8 (c.key 4))), .pv (.lit (.int .u8 (c.key 5))), .pv (.lit (.int .u8 (c.key 6))), .pv (.lit (.int .u8 (c.key 7))), .pv (.lit (.string c.value)), .pv (.lit (.int .i64 c.mode)), .pv (.lit (.int .i64 c.bound)), .pv (.lit (.int .i64 c.began)), .pv (.lit (.int .i64 c.ended)), .pv (.lit (.int .i64 c.ver)), .pv (.lit (.int .i64 c.err)), .pv (.lit (.int .i64 c.floor))])] }) rfl rfl rfl rfl trivial rfl ?_)
 refine rvc_un (rexec_prim C (δ := { v := .ptr 4 0, new := [(4, .cells [.pv (.lit (.int .i64 0)), .pv (.lit (.int .i64 0)), .pv (.lit (.int .u8 0)), .pv (.lit (.int .u8 0)), .pv (.lit (.int .u8 0)), .pv (.lit (.int .u8 0)), .pv (.lit (.int .u8 0)), .pv (.lit (.int .u8 0)), .pv (.lit (.int .u8 0)), .pv (.lit (.int .u8 0)), .pv (.lit (.int .i64 0)), .pv (.lit (.string ⟨#[]⟩)), .pv (.lit (.int .i64 0)), .pv (.lit (.int .i64 0))])] }) rfl rfl rfl rfl trivial rfl ?_)
 refine rvc_nil ?_
 refine Awp.consP C ?_
 refine rvP C (.agg [.pv (.lit (.int .i64 0)), .pv (.lit (.int .i64 0)), .pv (.lit (.int .u8 0)), .pv (.lit (.int .u8 0)), .pv (.lit (.int .u8 0)), .pv (.lit (.int .u8 0)), .pv (.lit (.int .u8 0)), .pv (.lit (.int .u8 0)), .pv (.lit (.int .u8 0)), .pv (.lit (.int .u8 0)), .pv (.lit (.int .i64 0)), .pv (.lit (.string ⟨#[]⟩)), .pv (.lit (.int .i64 0)), .pv (.lit (.int .i64 0))]) ?_
 refine rvc_un (rexec_prim C (δ := { v := .ptr 5 0, new := [(5, .cells [.pv (.lit (.int .i64 0)), .pv (.lit (.int .i64 0)), .pv (.lit (.int .u8 0)), .pv (.lit (.int .u8 0)), .pv (.lit (.int .u8 0)), .pv (.lit (.int .u8 0)), .pv (.lit (.int .u8 0)), .pv (.lit (.int .u8 0)), .pv (.lit (.int .u8 0)), .pv (.lit (.int .u8 0)), .pv (.lit (.int .i64 0)), .pv (.lit (.string ⟨#[]⟩)), .pv (.lit (.int .i64 0)), .pv (.lit (.int .i64 0))])] }) rfl rfl rfl rfl trivial rfl ?_)
 refine rvc_un (rexec_prim C (δ := { v := .undef, wr := [(5, some (.cells [.pv (.lit (.int .i64 0)), .pv (.lit (.int .i64 0)), .pv (.lit (.int .u8 0)), .pv (.lit (.int .u8 0)), .pv (.lit (.int .u8 0)), .pv (.lit (.int .u8 0)), .pv (.lit (.int .u8 0)), .pv (.lit (.int .u8 0)), .pv (.lit (.int .u8 0)), .pv (.lit (.int .u8 0)), .pv (.lit (.int .i64 0)), .pv (.lit (.string ⟨#[]⟩)), .pv (.lit (.int .i64 0)), .pv (.lit (.int .i64 0))]))] }) rfl rfl rfl rfl trivial rfl ?_)
 refine rvc_nil ?_
 refine Awp.seq ?_
 refine Awp.consP C ?_
 refine rvP C (sS (some recs.nil) eRecord recs.D) ?_
 refine rvP C (.pv (.lit (.int .i64 (recs.D.length : Int)))) ?_
 refine rvP C (.pv (.lit (.int .i64 0))) ?_
 refine rvc_nil ?_
 refine Awp.block ?_
 refine Awp.forR (σ := Int × Int × Int × ByteArray × Int × Int × Int × Int × Int × Int × Int × Int × Int × Int) (recs.D.length) (fun i v => [(2, .ptr 2 0), (4, .ptr 4 0), (5, .ptr 5 0), (9, sS (some recs.nil) eRecord recs.D), (10, .pv (.lit (.int .i64 (recs.D.length : Int)))), (11, .pv (.lit (.int .i64 (i : Int))))]) (fun i v => [(2, .cells [.pv (.lit (.int .i64 c.client)), .pv (.lit (.int .i64 c.seq)), .pv (.lit (.bool c.write)), .pv (.lit (.int .u8 (c.key 0))), .pv (.lit (.int .u8 (c.key 1))), .pv (.lit (.int .u8 (c.key 2))), .pv (.lit (.int .u8 (c.key 3))), .pv (.lit (.int .u8 (c.key 4))), .pv (.lit (.int .u8 (c.key 5))), .pv (.lit (.int .u8 (c.key 6))), .pv (.lit (.int .u8 (c.key 7))), .pv (.lit (.string c.value)), .pv (.lit (.int .i64 c.mode)), .pv (.lit (.int .i64 c.bound)), .pv (.lit (.int .i64 c.began)), .pv (.lit (.int .i64 c.ended)), .pv (.lit (.int .i64 c.ver)), .pv (.lit (.int .i64 c.err)), .pv (.lit (.int .i64 c.floor))]), (4, .cells [.pv (.lit (.int .i64 0)), .pv (.lit (.int .i64 0)), .pv (.lit (.int .u8 0)), .pv (.lit (.int .u8 0)), .pv (.lit (.int .u8 0)), .pv (.lit (.int .u8 0)), .pv (.lit (.int .u8 0)), .pv (.lit (.int .u8 0)), .pv (.lit (.int .u8 0)), .pv (.lit (.int .u8 0)), .pv (.lit (.int .i64 0)), .pv (.lit (.string ⟨#[]⟩)), .pv (.lit (.int .i64 0)), .pv (.lit (.int .i64 0))]), (5, .cells [.pv (.lit (.int .i64 v.1)), .pv (.lit (.int .i64 v.2.1)), .pv (.lit (.int .u8 v.2.2.2.2.2.2.1)), .pv (.lit (.int .u8 v.2.2.2.2.2.2.2.1)), .pv (.lit (.int .u8 v.2.2.2.2.2.2.2.2.1)), .pv (.lit (.int .u8 v.2.2.2.2.2.2.2.2.2.1)), .pv (.lit (.int .u8 v.2.2.2.2.2.2.2.2.2.2.1)), .pv (.lit (.int .u8 v.2.2.2.2.2.2.2.2.2.2.2.1)), .pv (.lit (.int .u8 v.2.2.2.2.2.2.2.2.2.2.2.2.1)), .pv (.lit (.int .u8 v.2.2.2.2.2.2.2.2.2.2.2.2.2)), .pv (.lit (.int .i64 v.2.2.1)), .pv (.lit (.string v.2.2.2.1)), .pv (.lit (.int .i64 v.2.2.2.2.1)), .pv (.lit (.int .i64 v.2.2.2.2.2.1))])]) [2, 4, 5] (fun i v => rOfC_l0 c (recs.D.drop i) i v.1 v.2.1 v.2.2.1 v.2.2.2.1 v.2.2.2.2.1 v.2.2.2.2.2.1 v.2.2.2.2.2.2.1 v.2.2.2.2.2.2.2.1 v.2.2.2.2.2.2.2.2.1 v.2.2.2.2.2.2.2.2.2.1 v.2.2.2.2.2.2.2.2.2.2.1 v.2.2.2.2.2.2.2.2.2.2.2.1 v.2.2.2.2.2.2.2.2.2.2.2.2.1 v.2.2.2.2.2.2.2.2.2.2.2.2.2 = R) (0, 0, 0, ⟨#[]⟩, 0, 0, 0, 0, 0, 0, 0, 0, 0, 0) ?_ ?_ (fun i v h1 hR => ?_)
 · exact hR
 · exact ⟨fun b => b, WeakerR.ofL (Ks := [2, 4, 5]) hI ⟨⟨rfl, rfl⟩, ⟨rfl, rfl⟩, ⟨rfl, rfl⟩, ⟨rfl, rfl⟩, ⟨rfl, rfl⟩, ⟨rfl, rfl⟩, trivial⟩ (okH_cons rfl rfl rfl rfl (okH_cons rfl rfl rfl rfl (okH_cons rfl rfl rfl rfl (okH_nil)))) rfl⟩
 obtain ⟨vc, vc1, vc2, vc3, vc4, vc5, vc6, vc7, vc8, vc9, vc10, vc11, vc12, vc13⟩ := v
 refine Awp.consP C ?_
 refine rvP C (.pv (.lit (.bool (decide ((i : Int) < (recs.D.length : Int)))))) ?_
 refine rvc_nil ?_
 refine Awp.seq ?_
 refine Awp.cond (b := (decide ((i : Int) < (recs.D.length : Int)))) rfl (fun h2 => ?_) (fun h2 => ?_)
 ·
  have h3 : i < recs.D.length := by have := of_decide_eq_true h2; omega
  obtain ⟨x, h4⟩ := getX h3
  rw [drop_at h4] at hR
  refine Awp.skip ?_
  refine Awp.seq ?_
  refine Awp.block ?_
  refine Awp.consP C ?_
  refine rvc_un (rexec_idxS C rfl rfl rfl rfl rfl rfl x (Int.natCast_nonneg _) h4 ?_)
  refine rvP C (.agg [.pv (.lit (.int .i64 x.index)), .pv (.lit (.int .i64 x.epoch)), .pv (.lit (.int .u8 (x.key 0))), .pv (.lit (.int .u8 (x.key 1))), .pv (.lit (.int .u8 (x.key 2))), .pv (.lit (.int .u8 (x.key 3))), .pv (.lit (.int .u8 (x.key 4))), .pv (.lit (.int .u8 (x.key 5))), .pv (.lit (.int .u8 (x.key 6))), .pv (.lit (.int .u8 (x.key 7))), .pv (.lit (.int .i64 x.ver)), .pv (.lit (.string x.value)), .pv (.lit (.int .i64 x.req.client)), .pv (.lit (.int .i64 x.req.seq))]) ?_
  refine rvc_un (rexec_prim C (δ := { v := .ptr 7 0, new := [(7, .cells [.pv (.lit (.int .i64 0)), .pv (.lit (.int .i64 0)), .pv (.lit (.int .u8 0)), .pv (.lit (.int .u8 0)), .pv (.lit (.int .u8 0)), .pv (.lit (.int .u8 0)), .pv (.lit (.int .u8 0)), .pv (.lit (.int .u8 0)), .pv (.lit (.int .u8 0)), .pv (.lit (.int .u8 0)), .pv (.lit (.int .i64 0)), .pv (.lit (.string ⟨#[]⟩)), .pv (.lit (.int .i64 0)), .pv (.lit (.int .i64 0))])] }) rfl rfl rfl rfl trivial rfl ?_)
  refine rvc_un (rexec_prim C (δ := { v := .undef, wr := [(7, some (.cells [.pv (.lit (.int .i64 x.index)), .pv (.lit (.int .i64 x.epoch)), .pv (.lit (.int .u8 (x.key 0))), .pv (.lit (.int .u8 (x.key 1))), .pv (.lit (.int .u8 (x.key 2))), .pv (.lit (.int .u8 (x.key 3))), .pv (.lit (.int .u8 (x.key 4))), .pv (.lit (.int .u8 (x.key 5))), .pv (.lit (.int .u8 (x.key 6))), .pv (.lit (.int .u8 (x.key 7))), .pv (.lit (.int .i64 x.ver)), .pv (.lit (.string x.value)), .pv (.lit (.int .i64 x.req.client)), .pv (.lit (.int .i64 x.req.seq))]))] }) rfl rfl rfl rfl trivial rfl ?_)
  refine rvc_nil ?_
  refine Awp.consP C ?_
  refine rvP C (.ptr 7 12) ?_
  refine rvP C (.ptr 7 12) ?_
  refine rvP C (.pv (.lit (.int .i64 x.req.client))) ?_
  refine rvP C (.ptr 2 0) ?_
  refine rvP C (.pv (.lit (.int .i64 c.client))) ?_
  refine rvP C (.pv (.lit (.bool (x.req.client == c.client)))) ?_
  refine rvP C (.pv (.lit (.bool (x.req.client == c.client)))) ?_
  refine rvc_case 21 (x.req.client == c.client) rfl (fun h5 => ?_) (fun h5 => ?_)
  ·
   replace hR := of_true h5 hR
   refine rvO C (.ptr 7 12) ?_
   refine rvO C (.ptr 7 13) ?_
   refine rvO C (.pv (.lit (.int .i64 x.req.seq))) ?_
   refine rvO C (.ptr 2 1) ?_
   refine rvO C (.pv (.lit (.int .i64 c.seq))) ?_
   refine rvO C (.pv (.lit (.bool (x.req.seq == c.seq)))) ?_
   refine rvP C (.pv (.lit (.bool (x.req.seq == c.seq)))) ?_
   refine rvc_nil ?_
   refine Awp.cond (b := (x.req.seq == c.seq)) rfl (fun h6 => ?_) (fun h6 => ?_)
   ·
    replace hR := of_true h6 hR
    refine Awp.regionP C ?_
    refine rvP C (.agg [.pv (.lit (.int .i64 x.index)), .pv (.lit (.int .i64 x.epoch)), .pv (.lit (.int .u8 (x.key 0))), .pv (.lit (.int .u8 (x.key 1))), .pv (.lit (.int .u8 (x.key 2))), .pv (.lit (.int .u8 (x.key 3))), .pv (.lit (.int .u8 (x.key 4))), .pv (.lit (.int .u8 (x.key 5))), .pv (.lit (.int .u8 (x.key 6))), .pv (.lit (.int .u8 (x.key 7))), .pv (.lit (.int .i64 x.ver)), .pv (.lit (.string x.value)), .pv (.lit (.int .i64 x.req.client)), .pv (.lit (.int .i64 x.req.seq))]) ?_
    refine rvc_un (rexec_prim C (δ := { v := .undef, wr := [(5, some (.cells [.pv (.lit (.int .i64 x.index)), .pv (.lit (.int .i64 x.epoch)), .pv (.lit (.int .u8 (x.key 0))), .pv (.lit (.int .u8 (x.key 1))), .pv (.lit (.int .u8 (x.key 2))), .pv (.lit (.int .u8 (x.key 3))), .pv (.lit (.int .u8 (x.key 4))), .pv (.lit (.int .u8 (x.key 5))), .pv (.lit (.int .u8 (x.key 6))), .pv (.lit (.int .u8 (x.key 7))), .pv (.lit (.int .i64 x.ver)), .pv (.lit (.string x.value)), .pv (.lit (.int .i64 x.req.client)), .pv (.lit (.int .i64 x.req.seq))]))] }) rfl rfl rfl rfl trivial rfl ?_)
    refine rvc_nil ?_
    refine Awp.regionP C ?_
    refine rvP C (.pv (.lit (.int .i64 (IntKind.i64.wrap ((i : Int) + 1))))) ?_
    refine rvP C (.pv (.lit (.int .i64 (IntKind.i64.wrap ((i : Int) + 1))))) ?_
    refine rvc_nil ?_
    refine ⟨h3, (x.index, x.epoch, x.ver, x.value, x.req.client, x.req.seq, (x.key 0), (x.key 1), (x.key 2), (x.key 3), (x.key 4), (x.key 5), (x.key 6), (x.key 7)), ?_, ?_⟩
    · exact hR
    · exact ⟨fun b => b, WeakerR.ofL (Ks := [2, 4, 5]) hI ⟨⟨rfl, rfl⟩, ⟨rfl, rfl⟩, ⟨rfl, rfl⟩, ⟨rfl, rfl⟩, ⟨rfl, rfl⟩, ⟨lit_cast (wrap_i64 (by omega) (by omega)), rfl⟩, trivial⟩ (okH_cons rfl rfl rfl rfl (okH_cons rfl rfl rfl rfl (okH_cons rfl rfl rfl rfl (okH_nil)))) rfl⟩
   ·
    replace hR := of_false h6 hR
    refine Awp.skip ?_
    refine Awp.regionP C ?_
    refine rvP C (.pv (.lit (.int .i64 (IntKind.i64.wrap ((i : Int) + 1))))) ?_
    refine rvP C (.pv (.lit (.int .i64 (IntKind.i64.wrap ((i : Int) + 1))))) ?_
    refine rvc_nil ?_
    refine ⟨h3, (vc, vc1, vc2, vc3, vc4, vc5, vc6, vc7, vc8, vc9, vc10, vc11, vc12, vc13), ?_, ?_⟩
    · exact hR
    · exact ⟨fun b => b, WeakerR.ofL (Ks := [2, 4, 5]) hI ⟨⟨rfl, rfl⟩, ⟨rfl, rfl⟩, ⟨rfl, rfl⟩, ⟨rfl, rfl⟩, ⟨rfl, rfl⟩, ⟨lit_cast (wrap_i64 (by omega) (by omega)), rfl⟩, trivial⟩ (okH_cons rfl rfl rfl rfl (okH_cons rfl rfl rfl rfl (okH_cons rfl rfl rfl rfl (okH_nil)))) rfl⟩
  ·
   replace hR := of_false h5 hR
   refine rvS ?_
   refine rvS ?_
   refine rvS ?_
   refine rvS ?_
   refine rvS ?_
   refine rvS ?_
   refine rvP C (.pv (.lit (.bool false))) ?_
   refine rvc_nil ?_
   refine Awp.condF (b := false) rfl rfl ?_
   refine Awp.skip ?_
   refine Awp.regionP C ?_
   refine rvP C (.pv (.lit (.int .i64 (IntKind.i64.wrap ((i : Int) + 1))))) ?_
   refine rvP C (.pv (.lit (.int .i64 (IntKind.i64.wrap ((i : Int) + 1))))) ?_
   refine rvc_nil ?_
   refine ⟨h3, (vc, vc1, vc2, vc3, vc4, vc5, vc6, vc7, vc8, vc9, vc10, vc11, vc12, vc13), ?_, ?_⟩
   · exact hR
   · exact ⟨fun b => b, WeakerR.ofL (Ks := [2, 4, 5]) hI ⟨⟨rfl, rfl⟩, ⟨rfl, rfl⟩, ⟨rfl, rfl⟩, ⟨rfl, rfl⟩, ⟨rfl, rfl⟩, ⟨lit_cast (wrap_i64 (by omega) (by omega)), rfl⟩, trivial⟩ (okH_cons rfl rfl rfl rfl (okH_cons rfl rfl rfl rfl (okH_cons rfl rfl rfl rfl (okH_nil)))) rfl⟩
 ·
  have h3 : ¬ i < recs.D.length := by have := of_decide_eq_false h2; omega
  rw [drop_end h3] at hR
  refine Awp.exit ?_
  refine Awp.consP C ?_
  refine rvP C (.agg [.pv (.lit (.int .i64 vc)), .pv (.lit (.int .i64 vc1)), .pv (.lit (.int .u8 vc6)), .pv (.lit (.int .u8 vc7)), .pv (.lit (.int .u8 vc8)), .pv (.lit (.int .u8 vc9)), .pv (.lit (.int .u8 vc10)), .pv (.lit (.int .u8 vc11)), .pv (.lit (.int .u8 vc12)), .pv (.lit (.int .u8 vc13)), .pv (.lit (.int .i64 vc2)), .pv (.lit (.string vc3)), .pv (.lit (.int .i64 vc4)), .pv (.lit (.int .i64 vc5))]) ?_
  refine rvc_un (rexec_prim C (δ := { v := .undef, wr := [(4, some (.cells [.pv (.lit (.int .i64 vc)), .pv (.lit (.int .i64 vc1)), .pv (.lit (.int .u8 vc6)), .pv (.lit (.int .u8 vc7)), .pv (.lit (.int .u8 vc8)), .pv (.lit (.int .u8 vc9)), .pv (.lit (.int .u8 vc10)), .pv (.lit (.int .u8 vc11)), .pv (.lit (.int .u8 vc12)), .pv (.lit (.int .u8 vc13)), .pv (.lit (.int .i64 vc2)), .pv (.lit (.string vc3)), .pv (.lit (.int .i64 vc4)), .pv (.lit (.int .i64 vc5))]))] }) rfl rfl rfl rfl trivial rfl ?_)
  refine rvc_nil ?_
  refine Awp.ret ?_
  subst hR
  exact ⟨.inl rfl, rfl⟩
def rValues_l1 (x : Call) (kk : Bool → Bool) : List Record → Nat → Bool → Bool
  | [], _, there => kk there
  | x1 :: x1s, i1, there => (bif there then rValues_l1 x kk x1s (i1 + 1) true else (bif (x1.req.client == x.client) then rValues_l1 x kk x1s (i1 + 1) (x1.req.seq == x.seq) else rValues_l1 x kk x1s (i1 + 1) false))
def rValues_l2 (x : Call) (kk : Bool → Bool) : List Record → Nat → Bool → Bool
  | [], _, ok => kk ok
  | x2 :: x2s, i2, ok => (bif (((x2.key 0) == (x.key 0)) && (((x2.key 1) == (x.key 1)) && (((x2.key 2) == (x.key 2)) && (((x2.key 3) == (x.key 3)) && (((x2.key 4) == (x.key 4)) && (((x2.key 5) == (x.key 5)) && (((x2.key 6) == (x.key 6)) && (((x2.key 7) == (x.key 7)) && true)))))))) then (bif (x2.ver == x.ver) then rValues_l2 x kk x2s (i2 + 1) (x2.value.toList == x.value.toList) else rValues_l2 x kk x2s (i2 + 1) ok) else rValues_l2 x kk x2s (i2 + 1) ok)
def rValues_l0 (recs : (Sl Record)) : List Call → Nat → Bool
  | [], _ => true
  | x :: xs, i => (bif (!(rAnswered x)) then rValues_l0 recs xs (i + 1)  else (bif x.write then rValues_l1 x (fun there => (bif (!there) then false else (bif (((rOfC x recs).ver) != x.ver) then false else (bif (!((((rOfC x recs).key 0) == (x.key 0)) && ((((rOfC x recs).key 1) == (x.key 1)) && ((((rOfC x recs).key 2) == (x.key 2)) && ((((rOfC x recs).key 3) == (x.key 3)) && ((((rOfC x recs).key 4) == (x.key 4)) && ((((rOfC x recs).key 5) == (x.key 5)) && ((((rOfC x recs).key 6) == (x.key 6)) && ((((rOfC x recs).key 7) == (x.key 7)) && true))))))))) then false else (bif (!(((rOfC x recs).value).toList == x.value.toList)) then false else rValues_l0 recs xs (i + 1) ))))) recs.D 0 false else (bif (x.ver == 0) then (bif (x.ver != 0) then rValues_l2 x (fun ok => (bif (!ok) then false else rValues_l0 recs xs (i + 1) )) recs.D 0 (x.value.toList == (⟨#[]⟩ : ByteArray).toList) else (bif (!(x.value.toList == (⟨#[]⟩ : ByteArray).toList)) then false else rValues_l0 recs xs (i + 1) )) else (bif (x.ver != 0) then rValues_l2 x (fun ok1 => (bif (!ok1) then false else rValues_l0 recs xs (i + 1) )) recs.D 0 false else false))))
def rValues (calls : (Sl Call)) (recs : (Sl Record)) : Bool :=
  rValues_l0 recs calls.D 0
theorem rValues_calls (calls : (Sl Call)) (recs : (Sl Record)) (hl1 : calls.D.length ≤ 1000000) (hl2 : recs.D.length ≤ 1000000) : PCalls Try.prog 12 [sS (some calls.nil) eCall calls.D, sS (some recs.nil) eRecord recs.D] (.pv (.lit (.bool (rValues calls recs)))) := by
 generalize hR : rValues calls recs = R
 refine PCalls.of_body tabOk Try.func12 rfl rfl rfl rfl rfl mixed fun E hP C hI => ?_
 refine Awp.consP C ?_
 refine rvP C (.pv (.lit (.bool false))) ?_
 refine rvc_nil ?_
 refine Awp.seq ?_
 refine Awp.consP C ?_
 refine rvP C (sS (some calls.nil) eCall calls.D) ?_
 refine rvP C (.pv (.lit (.int .i64 (calls.D.length : Int)))) ?_
 refine rvP C (.pv (.lit (.int .i64 0))) ?_
 refine rvc_nil ?_
 refine Awp.block ?_
 refine Awp.forR (σ := Unit) (calls.D.length) (fun i _v => [(1, sS (some recs.nil) eRecord recs.D), (14, sS (some calls.nil) eCall calls.D), (15, .pv (.lit (.int .i64 (calls.D.length : Int)))), (16, .pv (.lit (.int .i64 (i : Int))))]) (fun i _v => []) [] (fun i _v => rValues_l0 recs (calls.D.drop i) i  = R) () ?_ ?_ (fun i _v h1 hR => ?_)
 · exact hR
 · exact ⟨fun b => b, WeakerR.ofL (Ks := []) hI ⟨⟨rfl, rfl⟩, ⟨rfl, rfl⟩, ⟨rfl, rfl⟩, ⟨rfl, rfl⟩, trivial⟩ (okH_nil) rfl⟩
 refine Awp.consP C ?_
 refine rvP C (.pv (.lit (.bool (decide ((i : Int) < (calls.D.length : Int)))))) ?_
 refine rvc_nil ?_
 refine Awp.seq ?_
 refine Awp.cond (b := (decide ((i : Int) < (calls.D.length : Int)))) rfl (fun h2 => ?_) (fun h2 => ?_)
 ·
  have h3 : i < calls.D.length := by have := of_decide_eq_true h2; omega
  obtain ⟨x, h4⟩ := getX h3
  rw [drop_at h4] at hR
  refine Awp.skip ?_
  refine Awp.seq ?_
  refine Awp.block ?_
  refine Awp.consP C ?_
  refine rvc_un (rexec_idxS C rfl rfl rfl rfl rfl rfl x (Int.natCast_nonneg _) h4 ?_)
  refine rvP C (.agg [.pv (.lit (.int .i64 x.client)), .pv (.lit (.int .i64 x.seq)), .pv (.lit (.bool x.write)), .pv (.lit (.int .u8 (x.key 0))), .pv (.lit (.int .u8 (x.key 1))), .pv (.lit (.int .u8 (x.key 2))), .pv (.lit (.int .u8 (x.key 3))), .pv (.lit (.int .u8 (x.key 4))), .pv (.lit (.int .u8 (x.key 5))), .pv (.lit (.int .u8 (x.key 6))), .pv (.lit (.int .u8 (x.key 7))), .pv (.lit (.string x.value)), .pv (.lit (.int .i64 x.mode)), .pv (.lit (.int .i64 x.bound)), .pv (.lit (.int .i64 x.began)), .pv (.lit (.int .i64 x.ended)), .pv (.lit (.int .i64 x.ver)), .pv (.lit (.int .i64 x.err)), .pv (.lit (.int .i64 x.floor))]) ?_
  refine rvc_un (rexec_prim C (δ := { v := .ptr 6 0, new := [(6, .cells [.pv (.lit (.int .i64 0)), .pv (.lit (.int .i64 0)), .pv (.lit (.bool false)), .pv (.lit (.int .u8 0)), .pv (.lit (.int .u8 0)), .pv (.lit (.int .u8 0)), .pv (.lit (.int .u8 0)), .pv (.lit (.int .u8 0)), .pv (.lit (.int .u8 0)), .pv (.lit (.int .u8 0)), .pv (.lit (.int .u8 0)), .pv (.lit (.string ⟨#[]⟩)), .pv (.lit (.int .i64 0)), .pv (.lit (.int .i64 0)), .pv (.lit (.int .i64 0)), .pv (.lit (.int .i64 0)), .pv (.lit (.int .i64 0)), .pv (.lit (.int .i64 0)), .pv (.lit (.int .i64 0))])] }) rfl rfl rfl rfl trivial rfl ?_)
  refine rvc_un (rexec_prim C (δ := { v := .undef, wr := [(6, some (.cells [.pv (.lit (.int .i64 x.client)), .pv (.lit (.int .i64 x.seq)), .pv (.lit (.bool x.write)), .pv (.lit (.int .u8 (x.key 0))), .pv (.lit (.int .u8 (x.key 1))), .pv (.lit (.int .u8 (x.key 2))), .pv (.lit (.int .u8 (x.key 3))), .pv (.lit (.int .u8 (x.key 4))), .pv (.lit (.int .u8 (x.key 5))), .pv (.lit (.int .u8 (x.key 6))), .pv (.lit (.int .u8 (x.key 7))), .pv (.lit (.string x.value)), .pv (.lit (.int .i64 x.mode)), .pv (.lit (.int .i64 x.bound)), .pv (.lit (.int .i64 x.began)), .pv (.lit (.int .i64 x.ended)), .pv (.lit (.int .i64 x.ver)), .pv (.lit (.int .i64 x.err)), .pv (.lit (.int .i64 x.floor))]))] }) rfl rfl rfl rfl trivial rfl ?_)
  refine rvc_nil ?_
  refine Awp.seq ?_
  refine Awp.consP C ?_
  refine rvP C (.agg [.pv (.lit (.int .i64 x.client)), .pv (.lit (.int .i64 x.seq)), .pv (.lit (.bool x.write)), .pv (.lit (.int .u8 (x.key 0))), .pv (.lit (.int .u8 (x.key 1))), .pv (.lit (.int .u8 (x.key 2))), .pv (.lit (.int .u8 (x.key 3))), .pv (.lit (.int .u8 (x.key 4))), .pv (.lit (.int .u8 (x.key 5))), .pv (.lit (.int .u8 (x.key 6))), .pv (.lit (.int .u8 (x.key 7))), .pv (.lit (.string x.value)), .pv (.lit (.int .i64 x.mode)), .pv (.lit (.int .i64 x.bound)), .pv (.lit (.int .i64 x.began)), .pv (.lit (.int .i64 x.ended)), .pv (.lit (.int .i64 x.ver)), .pv (.lit (.int .i64 x.err)), .pv (.lit (.int .i64 x.floor))]) ?_
  refine rvc_un (rexec_call hP C rfl rfl rfl (rAnswered_calls x) ?_)
  refine rvP C (.pv (.lit (.bool (!(rAnswered x))))) ?_
  refine rvc_nil ?_
  refine Awp.cond (b := (!(rAnswered x))) rfl (fun h5 => ?_) (fun h5 => ?_)
  ·
   replace hR := of_true h5 hR
   refine Awp.exit ?_
   refine Awp.regionP C ?_
   refine rvP C (.pv (.lit (.int .i64 (IntKind.i64.wrap ((i : Int) + 1))))) ?_
   refine rvP C (.pv (.lit (.int .i64 (IntKind.i64.wrap ((i : Int) + 1))))) ?_
   refine rvc_nil ?_
   refine ⟨h3, (), ?_, ?_⟩
   · exact hR
   · exact ⟨fun b => b, WeakerR.ofL (Ks := []) hI ⟨⟨rfl, rfl⟩, ⟨rfl, rfl⟩, ⟨rfl, rfl⟩, ⟨lit_cast (wrap_i64 (by omega) (by omega)), rfl⟩, trivial⟩ (okH_nil) rfl⟩
  ·
   replace hR := of_false h5 hR
   refine Awp.skip ?_
   refine Awp.seq ?_
   refine Awp.consP C ?_
   refine rvP C (.ptr 6 2) ?_
   refine rvP C (.pv (.lit (.bool x.write))) ?_
   refine rvc_nil ?_
   refine Awp.cond (b := x.write) rfl (fun h6 => ?_) (fun h6 => ?_)
   ·
    replace hR := of_true h6 hR
    refine Awp.consP C ?_
    refine rvP C (.pv (.lit (.bool false))) ?_
    refine rvc_nil ?_
    refine Awp.seq ?_
    refine Awp.consP C ?_
    refine rvP C (sS (some recs.nil) eRecord recs.D) ?_
    refine rvP C (.pv (.lit (.int .i64 (recs.D.length : Int)))) ?_
    refine rvP C (.pv (.lit (.int .i64 0))) ?_
    refine rvc_nil ?_
    refine Awp.block ?_
    refine Awp.forR (σ := Bool) (recs.D.length) (fun i1 v => [(1, sS (some recs.nil) eRecord recs.D), (6, .ptr 6 0), (7, .pv (.lit (.bool v))), (14, sS (some calls.nil) eCall calls.D), (15, .pv (.lit (.int .i64 (calls.D.length : Int)))), (16, .pv (.lit (.int .i64 (i : Int)))), (25, sS (some recs.nil) eRecord recs.D), (26, .pv (.lit (.int .i64 (recs.D.length : Int)))), (27, .pv (.lit (.int .i64 (i1 : Int))))]) (fun i1 v => [(6, .cells [.pv (.lit (.int .i64 x.client)), .pv (.lit (.int .i64 x.seq)), .pv (.lit (.bool x.write)), .pv (.lit (.int .u8 (x.key 0))), .pv (.lit (.int .u8 (x.key 1))), .pv (.lit (.int .u8 (x.key 2))), .pv (.lit (.int .u8 (x.key 3))), .pv (.lit (.int .u8 (x.key 4))), .pv (.lit (.int .u8 (x.key 5))), .pv (.lit (.int .u8 (x.key 6))), .pv (.lit (.int .u8 (x.key 7))), .pv (.lit (.string x.value)), .pv (.lit (.int .i64 x.mode)), .pv (.lit (.int .i64 x.bound)), .pv (.lit (.int .i64 x.began)), .pv (.lit (.int .i64 x.ended)), .pv (.lit (.int .i64 x.ver)), .pv (.lit (.int .i64 x.err)), .pv (.lit (.int .i64 x.floor))])]) [6] (fun i1 v => rValues_l1 x (fun there => (bif (!there) then false else (bif (((rOfC x recs).ver) != x.ver) then false else (bif (!((((rOfC x recs).key 0) == (x.key 0)) && ((((rOfC x recs).key 1) == (x.key 1)) && ((((rOfC x recs).key 2) == (x.key 2)) && ((((rOfC x recs).key 3) == (x.key 3)) && ((((rOfC x recs).key 4) == (x.key 4)) && ((((rOfC x recs).key 5) == (x.key 5)) && ((((rOfC x recs).key 6) == (x.key 6)) && ((((rOfC x recs).key 7) == (x.key 7)) && true))))))))) then false else (bif (!(((rOfC x recs).value).toList == x.value.toList)) then false else rValues_l0 recs (calls.D.drop (i + 1)) (i + 1) ))))) (recs.D.drop i1) i1 v = R) false ?_ ?_ (fun i1 there h7 hR => ?_)
    · exact hR
    · exact ⟨fun b => b, WeakerR.ofL (Ks := [6]) hI ⟨⟨rfl, rfl⟩, ⟨rfl, rfl⟩, ⟨rfl, rfl⟩, ⟨rfl, rfl⟩, ⟨rfl, rfl⟩, ⟨rfl, rfl⟩, ⟨rfl, rfl⟩, ⟨rfl, rfl⟩, ⟨rfl, rfl⟩, trivial⟩ (okH_cons rfl rfl rfl rfl (okH_nil)) rfl⟩
    refine Awp.consP C ?_
    refine rvP C (.pv (.lit (.bool (decide ((i1 : Int) < (recs.D.length : Int)))))) ?_
    refine rvc_nil ?_
    refine Awp.seq ?_
    refine Awp.cond (b := (decide ((i1 : Int) < (recs.D.length : Int)))) rfl (fun h8 => ?_) (fun h8 => ?_)
    ·
     have h9 : i1 < recs.D.length := by have := of_decide_eq_true h8; omega
     obtain ⟨x1, h10⟩ := getX h9
     rw [drop_at h10] at hR
     refine Awp.skip ?_
     refine Awp.seq ?_
     refine Awp.block ?_
     refine Awp.consP C ?_
     refine rvc_un (rexec_idxS C rfl rfl rfl rfl rfl rfl x1 (Int.natCast_nonneg _) h10 ?_)
     refine rvP C (.agg [.pv (.lit (.int .i64 x1.index)), .pv (.lit (.int .i64 x1.epoch)), .pv (.lit (.int .u8 (x1.key 0))), .pv (.lit (.int .u8 (x1.key 1))), .pv (.lit (.int .u8 (x1.key 2))), .pv (.lit (.int .u8 (x1.key 3))), .pv (.lit (.int .u8 (x1.key 4))), .pv (.lit (.int .u8 (x1.key 5))), .pv (.lit (.int .u8 (x1.key 6))), .pv (.lit (.int .u8 (x1.key 7))), .pv (.lit (.int .i64 x1.ver)), .pv (.lit (.string x1.value)), .pv (.lit (.int .i64 x1.req.client)), .pv (.lit (.int .i64 x1.req.seq))]) ?_
     refine rvc_un (rexec_prim C (δ := { v := .ptr 9 0, new := [(9, .cells [.pv (.lit (.int .i64 0)), .pv (.lit (.int .i64 0)), .pv (.lit (.int .u8 0)), .pv (.lit (.int .u8 0)), .pv (.lit (.int .u8 0)), .pv (.lit (.int .u8 0)), .pv (.lit (.int .u8 0)), .pv (.lit (.int .u8 0)), .pv (.lit (.int .u8 0)), .pv (.lit (.int .u8 0)), .pv (.lit (.int .i64 0)), .pv (.lit (.string ⟨#[]⟩)), .pv (.lit (.int .i64 0)), .pv (.lit (.int .i64 0))])] }) rfl rfl rfl rfl trivial rfl ?_)
     refine rvc_un (rexec_prim C (δ := { v := .undef, wr := [(9, some (.cells [.pv (.lit (.int .i64 x1.index)), .pv (.lit (.int .i64 x1.epoch)), .pv (.lit (.int .u8 (x1.key 0))), .pv (.lit (.int .u8 (x1.key 1))), .pv (.lit (.int .u8 (x1.key 2))), .pv (.lit (.int .u8 (x1.key 3))), .pv (.lit (.int .u8 (x1.key 4))), .pv (.lit (.int .u8 (x1.key 5))), .pv (.lit (.int .u8 (x1.key 6))), .pv (.lit (.int .u8 (x1.key 7))), .pv (.lit (.int .i64 x1.ver)), .pv (.lit (.string x1.value)), .pv (.lit (.int .i64 x1.req.client)), .pv (.lit (.int .i64 x1.req.seq))]))] }) rfl rfl rfl rfl trivial rfl ?_)
     refine rvc_nil ?_
     refine Awp.regionP C ?_
     refine rvP C (.pv (.lit (.bool there))) ?_
     refine rvP C (.pv (.lit (.bool there))) ?_
     refine rvc_case 32 there rfl (fun h11 => ?_) (fun h11 => ?_)
     ·
      replace hR := of_true h11 hR
      refine rvS ?_
      refine rvS ?_
      refine rvS ?_
      refine rvS ?_
      refine rvS ?_
      refine rvS ?_
      refine rvS ?_
      refine rvc_shutU rfl rfl rfl ?_
      refine rvc_shutU rfl rfl rfl ?_
      refine rvc_shutU rfl rfl rfl ?_
      refine rvc_shutU rfl rfl rfl ?_
      refine rvc_shutU rfl rfl rfl ?_
      refine rvc_shutU rfl rfl rfl ?_
      refine rvS ?_
      refine rvP C (.pv (.lit (.bool true))) ?_
      refine rvP C (.pv (.lit (.bool true))) ?_
      refine rvc_nil ?_
      refine Awp.regionP C ?_
      refine rvP C (.pv (.lit (.int .i64 (IntKind.i64.wrap ((i1 : Int) + 1))))) ?_
      refine rvP C (.pv (.lit (.int .i64 (IntKind.i64.wrap ((i1 : Int) + 1))))) ?_
      refine rvc_nil ?_
      refine ⟨h9, true, ?_, ?_⟩
      · exact hR
      · exact ⟨fun b => b, WeakerR.ofL (Ks := [6]) hI ⟨⟨rfl, rfl⟩, ⟨rfl, rfl⟩, ⟨rfl, rfl⟩, ⟨rfl, rfl⟩, ⟨rfl, rfl⟩, ⟨rfl, rfl⟩, ⟨rfl, rfl⟩, ⟨rfl, rfl⟩, ⟨lit_cast (wrap_i64 (by omega) (by omega)), rfl⟩, trivial⟩ (okH_cons rfl rfl rfl rfl (okH_nil)) rfl⟩
     ·
      replace hR := of_false h11 hR
      refine rvO C (.ptr 9 12) ?_
      refine rvO C (.ptr 9 12) ?_
      refine rvO C (.pv (.lit (.int .i64 x1.req.client))) ?_
      refine rvO C (.ptr 6 0) ?_
      refine rvO C (.pv (.lit (.int .i64 x.client))) ?_
      refine rvO C (.pv (.lit (.bool (x1.req.client == x.client)))) ?_
      refine rvO C (.pv (.lit (.bool (x1.req.client == x.client)))) ?_
      refine rvc_case 39 (x1.req.client == x.client) rfl (fun h12 => ?_) (fun h12 => ?_)
      ·
       replace hR := of_true h12 hR
       refine rvO C (.ptr 9 12) ?_
       refine rvO C (.ptr 9 13) ?_
       refine rvO C (.pv (.lit (.int .i64 x1.req.seq))) ?_
       refine rvO C (.ptr 6 1) ?_
       refine rvO C (.pv (.lit (.int .i64 x.seq))) ?_
       refine rvO C (.pv (.lit (.bool (x1.req.seq == x.seq)))) ?_
       refine rvO C (.pv (.lit (.bool (x1.req.seq == x.seq)))) ?_
       refine rvP C (.pv (.lit (.bool (x1.req.seq == x.seq)))) ?_
       refine rvP C (.pv (.lit (.bool (x1.req.seq == x.seq)))) ?_
       refine rvc_nil ?_
       refine Awp.regionP C ?_
       refine rvP C (.pv (.lit (.int .i64 (IntKind.i64.wrap ((i1 : Int) + 1))))) ?_
       refine rvP C (.pv (.lit (.int .i64 (IntKind.i64.wrap ((i1 : Int) + 1))))) ?_
       refine rvc_nil ?_
       refine ⟨h9, (x1.req.seq == x.seq), ?_, ?_⟩
       · exact hR
       · exact ⟨fun b => b, WeakerR.ofL (Ks := [6]) hI ⟨⟨rfl, rfl⟩, ⟨rfl, rfl⟩, ⟨rfl, rfl⟩, ⟨rfl, rfl⟩, ⟨rfl, rfl⟩, ⟨rfl, rfl⟩, ⟨rfl, rfl⟩, ⟨rfl, rfl⟩, ⟨lit_cast (wrap_i64 (by omega) (by omega)), rfl⟩, trivial⟩ (okH_cons rfl rfl rfl rfl (okH_nil)) rfl⟩
      ·
       replace hR := of_false h12 hR
       refine rvS ?_
       refine rvS ?_
       refine rvS ?_
       refine rvS ?_
       refine rvS ?_
       refine rvS ?_
       refine rvO C (.pv (.lit (.bool false))) ?_
       refine rvP C (.pv (.lit (.bool false))) ?_
       refine rvP C (.pv (.lit (.bool false))) ?_
       refine rvc_nil ?_
       refine Awp.regionP C ?_
       refine rvP C (.pv (.lit (.int .i64 (IntKind.i64.wrap ((i1 : Int) + 1))))) ?_
       refine rvP C (.pv (.lit (.int .i64 (IntKind.i64.wrap ((i1 : Int) + 1))))) ?_
       refine rvc_nil ?_
       refine ⟨h9, false, ?_, ?_⟩
       · exact hR
       · exact ⟨fun b => b, WeakerR.ofL (Ks := [6]) hI ⟨⟨rfl, rfl⟩, ⟨rfl, rfl⟩, ⟨rfl, rfl⟩, ⟨rfl, rfl⟩, ⟨rfl, rfl⟩, ⟨rfl, rfl⟩, ⟨rfl, rfl⟩, ⟨rfl, rfl⟩, ⟨lit_cast (wrap_i64 (by omega) (by omega)), rfl⟩, trivial⟩ (okH_cons rfl rfl rfl rfl (okH_nil)) rfl⟩
    ·
     have h9 : ¬ i1 < recs.D.length := by have := of_decide_eq_false h8; omega
     rw [drop_end h9] at hR
     refine Awp.exit ?_
     refine Awp.consP C ?_
     refine rvP C (.agg [.pv (.lit (.int .i64 x.client)), .pv (.lit (.int .i64 x.seq)), .pv (.lit (.bool x.write)), .pv (.lit (.int .u8 (x.key 0))), .pv (.lit (.int .u8 (x.key 1))), .pv (.lit (.int .u8 (x.key 2))), .pv (.lit (.int .u8 (x.key 3))), .pv (.lit (.int .u8 (x.key 4))), .pv (.lit (.int .u8 (x.key 5))), .pv (.lit (.int .u8 (x.key 6))), .pv (.lit (.int .u8 (x.key 7))), .pv (.lit (.string x.value)), .pv (.lit (.int .i64 x.mode)), .pv (.lit (.int .i64 x.bound)), .pv (.lit (.int .i64 x.began)), .pv (.lit (.int .i64 x.ended)), .pv (.lit (.int .i64 x.ver)), .pv (.lit (.int .i64 x.err)), .pv (.lit (.int .i64 x.floor))]) ?_
     refine rvP C (sS (some recs.nil) eRecord recs.D) ?_
     refine rvc_un (rexec_call hP C rfl rfl rfl (rOfC_calls x recs hl2) ?_)
     refine rvc_un (rexec_prim C (δ := { v := .ptr 10 0, new := [(10, .cells [.pv (.lit (.int .i64 0)), .pv (.lit (.int .i64 0)), .pv (.lit (.int .u8 0)), .pv (.lit (.int .u8 0)), .pv (.lit (.int .u8 0)), .pv (.lit (.int .u8 0)), .pv (.lit (.int .u8 0)), .pv (.lit (.int .u8 0)), .pv (.lit (.int .u8 0)), .pv (.lit (.int .u8 0)), .pv (.lit (.int .i64 0)), .pv (.lit (.string ⟨#[]⟩)), .pv (.lit (.int .i64 0)), .pv (.lit (.int .i64 0))])] }) rfl rfl rfl rfl trivial rfl ?_)
     refine rvc_un (rexec_prim C (δ := { v := .undef, wr := [(10, some (.cells [.pv (.lit (.int .i64 ((rOfC x recs).index))), .pv (.lit (.int .i64 ((rOfC x recs).epoch))), .pv (.lit (.int .u8 ((rOfC x recs).key 0))), .pv (.lit (.int .u8 ((rOfC x recs).key 1))), .pv (.lit (.int .u8 ((rOfC x recs).key 2))), .pv (.lit (.int .u8 ((rOfC x recs).key 3))), .pv (.lit (.int .u8 ((rOfC x recs).key 4))), .pv (.lit (.int .u8 ((rOfC x recs).key 5))), .pv (.lit (.int .u8 ((rOfC x recs).key 6))), .pv (.lit (.int .u8 ((rOfC x recs).key 7))), .pv (.lit (.int .i64 ((rOfC x recs).ver))), .pv (.lit (.string ((rOfC x recs).value))), .pv (.lit (.int .i64 ((rOfC x recs).req.client))), .pv (.lit (.int .i64 ((rOfC x recs).req.seq)))]))] }) rfl rfl rfl rfl trivial rfl ?_)
     refine rvc_nil ?_
     refine Awp.seq ?_
     refine Awp.consP C ?_
     refine rvP C (.pv (.lit (.bool there))) ?_
     refine rvP C (.pv (.lit (.bool (!there)))) ?_
     refine rvP C (.pv (.lit (.bool (!there)))) ?_
     refine rvc_case 54 (!there) rfl (fun h13 => ?_) (fun h13 => ?_)
     ·
      replace hR := of_true h13 hR
      refine rvS ?_
      refine rvS ?_
      refine rvS ?_
      refine rvS ?_
      refine rvS ?_
      refine rvP C (.pv (.lit (.bool true))) ?_
      refine rvP C (.pv (.lit (.bool true))) ?_
      refine rvS ?_
      refine rvS ?_
      refine rvS ?_
      refine rvS ?_
      refine rvS ?_
      refine rvP C (.pv (.lit (.bool true))) ?_
      refine rvP C (.pv (.lit (.bool true))) ?_
      refine rvS ?_
      refine rvS ?_
      refine rvS ?_
      refine rvS ?_
      refine rvS ?_
      refine rvP C (.pv (.lit (.bool true))) ?_
      refine rvc_nil ?_
      refine Awp.condT (b := true) rfl rfl ?_
      refine Awp.consP C ?_
      refine rvP C (.pv (.lit (.bool false))) ?_
      refine rvc_nil ?_
      refine Awp.ret ?_
      subst hR
      exact ⟨.inl rfl, rfl⟩
     ·
      replace hR := of_false h13 hR
      refine rvO C (.ptr 10 10) ?_
      refine rvO C (.pv (.lit (.int .i64 ((rOfC x recs).ver)))) ?_
      refine rvO C (.ptr 6 16) ?_
      refine rvO C (.pv (.lit (.int .i64 x.ver))) ?_
      refine rvO C (.pv (.lit (.bool (((rOfC x recs).ver) != x.ver)))) ?_
      refine rvP C (.pv (.lit (.bool (((rOfC x recs).ver) != x.ver)))) ?_
      refine rvP C (.pv (.lit (.bool (((rOfC x recs).ver) != x.ver)))) ?_
      refine rvc_case 61 (((rOfC x recs).ver) != x.ver) rfl (fun h14 => ?_) (fun h14 => ?_)
      ·
       replace hR := of_true h14 hR
       refine rvS ?_
       refine rvS ?_
       refine rvS ?_
       refine rvS ?_
       refine rvS ?_
       refine rvP C (.pv (.lit (.bool true))) ?_
       refine rvP C (.pv (.lit (.bool true))) ?_
       refine rvS ?_
       refine rvS ?_
       refine rvS ?_
       refine rvS ?_
       refine rvS ?_
       refine rvP C (.pv (.lit (.bool true))) ?_
       refine rvc_nil ?_
       refine Awp.condT (b := true) rfl rfl ?_
       refine Awp.consP C ?_
       refine rvP C (.pv (.lit (.bool false))) ?_
       refine rvc_nil ?_
       refine Awp.ret ?_
       subst hR
       exact ⟨.inl rfl, rfl⟩
      ·
       replace hR := of_false h14 hR
       refine rvO C (.ptr 10 2) ?_
       refine rvO C (.agg [.pv (.lit (.int .u8 ((rOfC x recs).key 0))), .pv (.lit (.int .u8 ((rOfC x recs).key 1))), .pv (.lit (.int .u8 ((rOfC x recs).key 2))), .pv (.lit (.int .u8 ((rOfC x recs).key 3))), .pv (.lit (.int .u8 ((rOfC x recs).key 4))), .pv (.lit (.int .u8 ((rOfC x recs).key 5))), .pv (.lit (.int .u8 ((rOfC x recs).key 6))), .pv (.lit (.int .u8 ((rOfC x recs).key 7)))]) ?_
       refine rvO C (.ptr 6 3) ?_
       refine rvO C (.agg [.pv (.lit (.int .u8 (x.key 0))), .pv (.lit (.int .u8 (x.key 1))), .pv (.lit (.int .u8 (x.key 2))), .pv (.lit (.int .u8 (x.key 3))), .pv (.lit (.int .u8 (x.key 4))), .pv (.lit (.int .u8 (x.key 5))), .pv (.lit (.int .u8 (x.key 6))), .pv (.lit (.int .u8 (x.key 7)))]) ?_
       refine rvO C (.pv (.lit (.bool (!((((rOfC x recs).key 0) == (x.key 0)) && ((((rOfC x recs).key 1) == (x.key 1)) && ((((rOfC x recs).key 2) == (x.key 2)) && ((((rOfC x recs).key 3) == (x.key 3)) && ((((rOfC x recs).key 4) == (x.key 4)) && ((((rOfC x recs).key 5) == (x.key 5)) && ((((rOfC x recs).key 6) == (x.key 6)) && ((((rOfC x recs).key 7) == (x.key 7)) && true)))))))))))) ?_
       refine rvP C (.pv (.lit (.bool (!((((rOfC x recs).key 0) == (x.key 0)) && ((((rOfC x recs).key 1) == (x.key 1)) && ((((rOfC x recs).key 2) == (x.key 2)) && ((((rOfC x recs).key 3) == (x.key 3)) && ((((rOfC x recs).key 4) == (x.key 4)) && ((((rOfC x recs).key 5) == (x.key 5)) && ((((rOfC x recs).key 6) == (x.key 6)) && ((((rOfC x recs).key 7) == (x.key 7)) && true)))))))))))) ?_
       refine rvP C (.pv (.lit (.bool (!((((rOfC x recs).key 0) == (x.key 0)) && ((((rOfC x recs).key 1) == (x.key 1)) && ((((rOfC x recs).key 2) == (x.key 2)) && ((((rOfC x recs).key 3) == (x.key 3)) && ((((rOfC x recs).key 4) == (x.key 4)) && ((((rOfC x recs).key 5) == (x.key 5)) && ((((rOfC x recs).key 6) == (x.key 6)) && ((((rOfC x recs).key 7) == (x.key 7)) && true)))))))))))) ?_
       refine rvc_case 68 (!((((rOfC x recs).key 0) == (x.key 0)) && ((((rOfC x recs).key 1) == (x.key 1)) && ((((rOfC x recs).key 2) == (x.key 2)) && ((((rOfC x recs).key 3) == (x.key 3)) && ((((rOfC x recs).key 4) == (x.key 4)) && ((((rOfC x recs).key 5) == (x.key 5)) && ((((rOfC x recs).key 6) == (x.key 6)) && ((((rOfC x recs).key 7) == (x.key 7)) && true))))))))) rfl (fun h15 => ?_) (fun h15 => ?_)
       ·
        replace hR := of_true h15 hR
        refine rvS ?_
        refine rvS ?_
        refine rvS ?_
        refine rvS ?_
        refine rvS ?_
        refine rvP C (.pv (.lit (.bool true))) ?_
        refine rvc_nil ?_
        refine Awp.condT (b := true) rfl rfl ?_
        refine Awp.consP C ?_
        refine rvP C (.pv (.lit (.bool false))) ?_
        refine rvc_nil ?_
        refine Awp.ret ?_
        subst hR
        exact ⟨.inl rfl, rfl⟩
       ·
        replace hR := of_false h15 hR
        refine rvO C (.ptr 10 11) ?_
        refine rvO C (.pv (.lit (.string ((rOfC x recs).value)))) ?_
        refine rvO C (.ptr 6 11) ?_
        refine rvO C (.pv (.lit (.string x.value))) ?_
        refine rvO C (.pv (.lit (.bool (!(((rOfC x recs).value).toList == x.value.toList))))) ?_
        refine rvP C (.pv (.lit (.bool (!(((rOfC x recs).value).toList == x.value.toList))))) ?_
        refine rvc_nil ?_
        refine Awp.cond (b := (!(((rOfC x recs).value).toList == x.value.toList))) rfl (fun h16 => ?_) (fun h16 => ?_)
        ·
         replace hR := of_true h16 hR
         refine Awp.consP C ?_
         refine rvP C (.pv (.lit (.bool false))) ?_
         refine rvc_nil ?_
         refine Awp.ret ?_
         subst hR
         exact ⟨.inl rfl, rfl⟩
        ·
         replace hR := of_false h16 hR
         refine Awp.skip ?_
         refine Awp.exit ?_
         refine Awp.regionP C ?_
         refine rvP C (.pv (.lit (.int .i64 (IntKind.i64.wrap ((i : Int) + 1))))) ?_
         refine rvP C (.pv (.lit (.int .i64 (IntKind.i64.wrap ((i : Int) + 1))))) ?_
         refine rvc_nil ?_
         refine ⟨h3, (), ?_, ?_⟩
         · exact hR
         · exact ⟨fun b => b, WeakerR.ofL (Ks := []) hI ⟨⟨rfl, rfl⟩, ⟨rfl, rfl⟩, ⟨rfl, rfl⟩, ⟨lit_cast (wrap_i64 (by omega) (by omega)), rfl⟩, trivial⟩ (okH_nil) rfl⟩
   ·
    replace hR := of_false h6 hR
    refine Awp.skip ?_
    refine Awp.consP C ?_
    refine rvP C (.ptr 6 16) ?_
    refine rvP C (.pv (.lit (.int .i64 x.ver))) ?_
    refine rvP C (.pv (.lit (.bool (x.ver == 0)))) ?_
    refine rvP C (.pv (.lit (.bool (x.ver == 0)))) ?_
    refine rvc_case 78 (x.ver == 0) rfl (fun h17 => ?_) (fun h17 => ?_)
    ·
     replace hR := of_true h17 hR
     refine rvO C (.ptr 6 11) ?_
     refine rvO C (.pv (.lit (.string x.value))) ?_
     refine rvO C (.pv (.lit (.bool (x.value.toList == (⟨#[]⟩ : ByteArray).toList)))) ?_
     refine rvP C (.pv (.lit (.bool (x.value.toList == (⟨#[]⟩ : ByteArray).toList)))) ?_
     refine rvP C (.pv (.lit (.bool (x.value.toList == (⟨#[]⟩ : ByteArray).toList)))) ?_
     refine rvc_nil ?_
     refine Awp.seq ?_
     refine Awp.consP C ?_
     refine rvP C (.ptr 6 16) ?_
     refine rvP C (.pv (.lit (.int .i64 x.ver))) ?_
     refine rvP C (.pv (.lit (.bool (x.ver != 0)))) ?_
     refine rvc_nil ?_
     refine Awp.cond (b := (x.ver != 0)) rfl (fun h18 => ?_) (fun h18 => ?_)
     ·
      replace hR := of_true h18 hR
      refine Awp.consP C ?_
      refine rvP C (sS (some recs.nil) eRecord recs.D) ?_
      refine rvP C (.pv (.lit (.int .i64 (recs.D.length : Int)))) ?_
      refine rvP C (.pv (.lit (.int .i64 0))) ?_
      refine rvc_nil ?_
      refine Awp.block ?_
      refine Awp.forR (σ := Bool) (recs.D.length) (fun i2 v => [(1, sS (some recs.nil) eRecord recs.D), (6, .ptr 6 0), (11, .pv (.lit (.bool v))), (14, sS (some calls.nil) eCall calls.D), (15, .pv (.lit (.int .i64 (calls.D.length : Int)))), (16, .pv (.lit (.int .i64 (i : Int)))), (79, .ptr 6 11), (80, .pv (.lit (.string x.value))), (81, .pv (.lit (.bool (x.value.toList == (⟨#[]⟩ : ByteArray).toList)))), (86, sS (some recs.nil) eRecord recs.D), (87, .pv (.lit (.int .i64 (recs.D.length : Int)))), (88, .pv (.lit (.int .i64 (i2 : Int))))]) (fun i2 v => [(6, .cells [.pv (.lit (.int .i64 x.client)), .pv (.lit (.int .i64 x.seq)), .pv (.lit (.bool x.write)), .pv (.lit (.int .u8 (x.key 0))), .pv (.lit (.int .u8 (x.key 1))), .pv (.lit (.int .u8 (x.key 2))), .pv (.lit (.int .u8 (x.key 3))), .pv (.lit (.int .u8 (x.key 4))), .pv (.lit (.int .u8 (x.key 5))), .pv (.lit (.int .u8 (x.key 6))), .pv (.lit (.int .u8 (x.key 7))), .pv (.lit (.string x.value)), .pv (.lit (.int .i64 x.mode)), .pv (.lit (.int .i64 x.bound)), .pv (.lit (.int .i64 x.began)), .pv (.lit (.int .i64 x.ended)), .pv (.lit (.int .i64 x.ver)), .pv (.lit (.int .i64 x.err)), .pv (.lit (.int .i64 x.floor))])]) [6] (fun i2 v => rValues_l2 x (fun ok => (bif (!ok) then false else rValues_l0 recs (calls.D.drop (i + 1)) (i + 1) )) (recs.D.drop i2) i2 v = R) (x.value.toList == (⟨#[]⟩ : ByteArray).toList) ?_ ?_ (fun i2 ok h19 hR => ?_)
      · exact hR
      · exact ⟨fun b => b, WeakerR.ofL (Ks := [6]) hI ⟨⟨rfl, rfl⟩, ⟨rfl, rfl⟩, ⟨rfl, rfl⟩, ⟨rfl, rfl⟩, ⟨rfl, rfl⟩, ⟨rfl, rfl⟩, ⟨rfl, rfl⟩, ⟨rfl, rfl⟩, ⟨rfl, rfl⟩, ⟨rfl, rfl⟩, ⟨rfl, rfl⟩, ⟨rfl, rfl⟩, trivial⟩ (okH_cons rfl rfl rfl rfl (okH_nil)) rfl⟩
      refine Awp.consP C ?_
      refine rvP C (.pv (.lit (.bool (decide ((i2 : Int) < (recs.D.length : Int)))))) ?_
      refine rvc_nil ?_
      refine Awp.seq ?_
      refine Awp.cond (b := (decide ((i2 : Int) < (recs.D.length : Int)))) rfl (fun h20 => ?_) (fun h20 => ?_)
      ·
       have h21 : i2 < recs.D.length := by have := of_decide_eq_true h20; omega
       obtain ⟨x2, h22⟩ := getX h21
       rw [drop_at h22] at hR
       refine Awp.skip ?_
       refine Awp.seq ?_
       refine Awp.block ?_
       refine Awp.consP C ?_
       refine rvc_un (rexec_idxS C rfl rfl rfl rfl rfl rfl x2 (Int.natCast_nonneg _) h22 ?_)
       refine rvP C (.agg [.pv (.lit (.int .i64 x2.index)), .pv (.lit (.int .i64 x2.epoch)), .pv (.lit (.int .u8 (x2.key 0))), .pv (.lit (.int .u8 (x2.key 1))), .pv (.lit (.int .u8 (x2.key 2))), .pv (.lit (.int .u8 (x2.key 3))), .pv (.lit (.int .u8 (x2.key 4))), .pv (.lit (.int .u8 (x2.key 5))), .pv (.lit (.int .u8 (x2.key 6))), .pv (.lit (.int .u8 (x2.key 7))), .pv (.lit (.int .i64 x2.ver)), .pv (.lit (.string x2.value)), .pv (.lit (.int .i64 x2.req.client)), .pv (.lit (.int .i64 x2.req.seq))]) ?_
       refine rvc_un (rexec_prim C (δ := { v := .ptr 13 0, new := [(13, .cells [.pv (.lit (.int .i64 0)), .pv (.lit (.int .i64 0)), .pv (.lit (.int .u8 0)), .pv (.lit (.int .u8 0)), .pv (.lit (.int .u8 0)), .pv (.lit (.int .u8 0)), .pv (.lit (.int .u8 0)), .pv (.lit (.int .u8 0)), .pv (.lit (.int .u8 0)), .pv (.lit (.int .u8 0)), .pv (.lit (.int .i64 0)), .pv (.lit (.string ⟨#[]⟩)), .pv (.lit (.int .i64 0)), .pv (.lit (.int .i64 0))])] }) rfl rfl rfl rfl trivial rfl ?_)
       refine rvc_un (rexec_prim C (δ := { v := .undef, wr := [(13, some (.cells [.pv (.lit (.int .i64 x2.index)), .pv (.lit (.int .i64 x2.epoch)), .pv (.lit (.int .u8 (x2.key 0))), .pv (.lit (.int .u8 (x2.key 1))), .pv (.lit (.int .u8 (x2.key 2))), .pv (.lit (.int .u8 (x2.key 3))), .pv (.lit (.int .u8 (x2.key 4))), .pv (.lit (.int .u8 (x2.key 5))), .pv (.lit (.int .u8 (x2.key 6))), .pv (.lit (.int .u8 (x2.key 7))), .pv (.lit (.int .i64 x2.ver)), .pv (.lit (.string x2.value)), .pv (.lit (.int .i64 x2.req.client)), .pv (.lit (.int .i64 x2.req.seq))]))] }) rfl rfl rfl rfl trivial rfl ?_)
       refine rvc_nil ?_
       refine Awp.consP C ?_
       refine rvP C (.ptr 13 2) ?_
       refine rvP C (.agg [.pv (.lit (.int .u8 (x2.key 0))), .pv (.lit (.int .u8 (x2.key 1))), .pv (.lit (.int .u8 (x2.key 2))), .pv (.lit (.int .u8 (x2.key 3))), .pv (.lit (.int .u8 (x2.key 4))), .pv (.lit (.int .u8 (x2.key 5))), .pv (.lit (.int .u8 (x2.key 6))), .pv (.lit (.int .u8 (x2.key 7)))]) ?_
       refine rvP C (.ptr 6 3) ?_
       refine rvP C (.agg [.pv (.lit (.int .u8 (x.key 0))), .pv (.lit (.int .u8 (x.key 1))), .pv (.lit (.int .u8 (x.key 2))), .pv (.lit (.int .u8 (x.key 3))), .pv (.lit (.int .u8 (x.key 4))), .pv (.lit (.int .u8 (x.key 5))), .pv (.lit (.int .u8 (x.key 6))), .pv (.lit (.int .u8 (x.key 7)))]) ?_
       refine rvP C (.pv (.lit (.bool (((x2.key 0) == (x.key 0)) && (((x2.key 1) == (x.key 1)) && (((x2.key 2) == (x.key 2)) && (((x2.key 3) == (x.key 3)) && (((x2.key 4) == (x.key 4)) && (((x2.key 5) == (x.key 5)) && (((x2.key 6) == (x.key 6)) && (((x2.key 7) == (x.key 7)) && true))))))))))) ?_
       refine rvP C (.pv (.lit (.bool (((x2.key 0) == (x.key 0)) && (((x2.key 1) == (x.key 1)) && (((x2.key 2) == (x.key 2)) && (((x2.key 3) == (x.key 3)) && (((x2.key 4) == (x.key 4)) && (((x2.key 5) == (x.key 5)) && (((x2.key 6) == (x.key 6)) && (((x2.key 7) == (x.key 7)) && true))))))))))) ?_
       refine rvc_case 97 (((x2.key 0) == (x.key 0)) && (((x2.key 1) == (x.key 1)) && (((x2.key 2) == (x.key 2)) && (((x2.key 3) == (x.key 3)) && (((x2.key 4) == (x.key 4)) && (((x2.key 5) == (x.key 5)) && (((x2.key 6) == (x.key 6)) && (((x2.key 7) == (x.key 7)) && true)))))))) rfl (fun h23 => ?_) (fun h23 => ?_)
       ·
        replace hR := of_true h23 hR
        refine rvO C (.ptr 13 10) ?_
        refine rvO C (.pv (.lit (.int .i64 x2.ver))) ?_
        refine rvO C (.ptr 6 16) ?_
        refine rvO C (.pv (.lit (.int .i64 x.ver))) ?_
        refine rvO C (.pv (.lit (.bool (x2.ver == x.ver)))) ?_
        refine rvP C (.pv (.lit (.bool (x2.ver == x.ver)))) ?_
        refine rvc_nil ?_
        refine Awp.cond (b := (x2.ver == x.ver)) rfl (fun h24 => ?_) (fun h24 => ?_)
        ·
         replace hR := of_true h24 hR
         refine Awp.regionP C ?_
         refine rvP C (.ptr 13 11) ?_
         refine rvP C (.pv (.lit (.string x2.value))) ?_
         refine rvP C (.ptr 6 11) ?_
         refine rvP C (.pv (.lit (.string x.value))) ?_
         refine rvP C (.pv (.lit (.bool (x2.value.toList == x.value.toList)))) ?_
         refine rvP C (.pv (.lit (.bool (x2.value.toList == x.value.toList)))) ?_
         refine rvc_nil ?_
         refine Awp.regionP C ?_
         refine rvP C (.pv (.lit (.int .i64 (IntKind.i64.wrap ((i2 : Int) + 1))))) ?_
         refine rvP C (.pv (.lit (.int .i64 (IntKind.i64.wrap ((i2 : Int) + 1))))) ?_
         refine rvc_nil ?_
         refine ⟨h21, (x2.value.toList == x.value.toList), ?_, ?_⟩
         · exact hR
         · exact ⟨fun b => b, WeakerR.ofL (Ks := [6]) hI ⟨⟨rfl, rfl⟩, ⟨rfl, rfl⟩, ⟨rfl, rfl⟩, ⟨rfl, rfl⟩, ⟨rfl, rfl⟩, ⟨rfl, rfl⟩, ⟨rfl, rfl⟩, ⟨rfl, rfl⟩, ⟨rfl, rfl⟩, ⟨rfl, rfl⟩, ⟨rfl, rfl⟩, ⟨lit_cast (wrap_i64 (by omega) (by omega)), rfl⟩, trivial⟩ (okH_cons rfl rfl rfl rfl (okH_nil)) rfl⟩
        ·
         replace hR := of_false h24 hR
         refine Awp.skip ?_
         refine Awp.regionP C ?_
         refine rvP C (.pv (.lit (.int .i64 (IntKind.i64.wrap ((i2 : Int) + 1))))) ?_
         refine rvP C (.pv (.lit (.int .i64 (IntKind.i64.wrap ((i2 : Int) + 1))))) ?_
         refine rvc_nil ?_
         refine ⟨h21, ok, ?_, ?_⟩
         · exact hR
         · exact ⟨fun b => b, WeakerR.ofL (Ks := [6]) hI ⟨⟨rfl, rfl⟩, ⟨rfl, rfl⟩, ⟨rfl, rfl⟩, ⟨rfl, rfl⟩, ⟨rfl, rfl⟩, ⟨rfl, rfl⟩, ⟨rfl, rfl⟩, ⟨rfl, rfl⟩, ⟨rfl, rfl⟩, ⟨rfl, rfl⟩, ⟨rfl, rfl⟩, ⟨lit_cast (wrap_i64 (by omega) (by omega)), rfl⟩, trivial⟩ (okH_cons rfl rfl rfl rfl (okH_nil)) rfl⟩
       ·
        replace hR := of_false h23 hR
        refine rvS ?_
        refine rvS ?_
        refine rvS ?_
        refine rvS ?_
        refine rvS ?_
        refine rvP C (.pv (.lit (.bool false))) ?_
        refine rvc_nil ?_
        refine Awp.condF (b := false) rfl rfl ?_
        refine Awp.skip ?_
        refine Awp.regionP C ?_
        refine rvP C (.pv (.lit (.int .i64 (IntKind.i64.wrap ((i2 : Int) + 1))))) ?_
        refine rvP C (.pv (.lit (.int .i64 (IntKind.i64.wrap ((i2 : Int) + 1))))) ?_
        refine rvc_nil ?_
        refine ⟨h21, ok, ?_, ?_⟩
        · exact hR
        · exact ⟨fun b => b, WeakerR.ofL (Ks := [6]) hI ⟨⟨rfl, rfl⟩, ⟨rfl, rfl⟩, ⟨rfl, rfl⟩, ⟨rfl, rfl⟩, ⟨rfl, rfl⟩, ⟨rfl, rfl⟩, ⟨rfl, rfl⟩, ⟨rfl, rfl⟩, ⟨rfl, rfl⟩, ⟨rfl, rfl⟩, ⟨rfl, rfl⟩, ⟨lit_cast (wrap_i64 (by omega) (by omega)), rfl⟩, trivial⟩ (okH_cons rfl rfl rfl rfl (okH_nil)) rfl⟩
      ·
       have h21 : ¬ i2 < recs.D.length := by have := of_decide_eq_false h20; omega
       rw [drop_end h21] at hR
       refine Awp.exit ?_
       refine Awp.consP C ?_
       refine rvP C (.pv (.lit (.bool ok))) ?_
       refine rvP C (.pv (.lit (.bool (!ok)))) ?_
       refine rvc_nil ?_
       refine Awp.cond (b := (!ok)) rfl (fun h25 => ?_) (fun h25 => ?_)
       ·
        replace hR := of_true h25 hR
        refine Awp.consP C ?_
        refine rvP C (.pv (.lit (.bool false))) ?_
        refine rvc_nil ?_
        refine Awp.ret ?_
        subst hR
        exact ⟨.inl rfl, rfl⟩
       ·
        replace hR := of_false h25 hR
        refine Awp.skip ?_
        refine Awp.regionP C ?_
        refine rvP C (.pv (.lit (.int .i64 (IntKind.i64.wrap ((i : Int) + 1))))) ?_
        refine rvP C (.pv (.lit (.int .i64 (IntKind.i64.wrap ((i : Int) + 1))))) ?_
        refine rvc_nil ?_
        refine ⟨h3, (), ?_, ?_⟩
        · exact hR
        · exact ⟨fun b => b, WeakerR.ofL (Ks := []) hI ⟨⟨rfl, rfl⟩, ⟨rfl, rfl⟩, ⟨rfl, rfl⟩, ⟨lit_cast (wrap_i64 (by omega) (by omega)), rfl⟩, trivial⟩ (okH_nil) rfl⟩
     ·
      replace hR := of_false h18 hR
      refine Awp.skip ?_
      refine Awp.consP C ?_
      refine rvP C (.pv (.lit (.bool (x.value.toList == (⟨#[]⟩ : ByteArray).toList)))) ?_
      refine rvP C (.pv (.lit (.bool (!(x.value.toList == (⟨#[]⟩ : ByteArray).toList))))) ?_
      refine rvc_nil ?_
      refine Awp.cond (b := (!(x.value.toList == (⟨#[]⟩ : ByteArray).toList))) rfl (fun h26 => ?_) (fun h26 => ?_)
      ·
       replace hR := of_true h26 hR
       refine Awp.consP C ?_
       refine rvP C (.pv (.lit (.bool false))) ?_
       refine rvc_nil ?_
       refine Awp.ret ?_
       subst hR
       exact ⟨.inl rfl, rfl⟩
      ·
       replace hR := of_false h26 hR
       refine Awp.skip ?_
       refine Awp.regionP C ?_
       refine rvP C (.pv (.lit (.int .i64 (IntKind.i64.wrap ((i : Int) + 1))))) ?_
       refine rvP C (.pv (.lit (.int .i64 (IntKind.i64.wrap ((i : Int) + 1))))) ?_
       refine rvc_nil ?_
       refine ⟨h3, (), ?_, ?_⟩
       · exact hR
       · exact ⟨fun b => b, WeakerR.ofL (Ks := []) hI ⟨⟨rfl, rfl⟩, ⟨rfl, rfl⟩, ⟨rfl, rfl⟩, ⟨lit_cast (wrap_i64 (by omega) (by omega)), rfl⟩, trivial⟩ (okH_nil) rfl⟩
    ·
     replace hR := of_false h17 hR
     refine rvS ?_
     refine rvS ?_
     refine rvS ?_
     refine rvP C (.pv (.lit (.bool false))) ?_
     refine rvP C (.pv (.lit (.bool false))) ?_
     refine rvc_nil ?_
     refine Awp.seq ?_
     refine Awp.consP C ?_
     refine rvP C (.ptr 6 16) ?_
     refine rvP C (.pv (.lit (.int .i64 x.ver))) ?_
     refine rvP C (.pv (.lit (.bool (x.ver != 0)))) ?_
     refine rvc_nil ?_
     refine Awp.cond (b := (x.ver != 0)) rfl (fun h27 => ?_) (fun h27 => ?_)
     ·
      replace hR := of_true h27 hR
      refine Awp.consP C ?_
      refine rvP C (sS (some recs.nil) eRecord recs.D) ?_
      refine rvP C (.pv (.lit (.int .i64 (recs.D.length : Int)))) ?_
      refine rvP C (.pv (.lit (.int .i64 0))) ?_
      refine rvc_nil ?_
      refine Awp.block ?_
      refine Awp.forR (σ := Bool) (recs.D.length) (fun i3 v => [(1, sS (some recs.nil) eRecord recs.D), (6, .ptr 6 0), (11, .pv (.lit (.bool v))), (14, sS (some calls.nil) eCall calls.D), (15, .pv (.lit (.int .i64 (calls.D.length : Int)))), (16, .pv (.lit (.int .i64 (i : Int)))), (86, sS (some recs.nil) eRecord recs.D), (87, .pv (.lit (.int .i64 (recs.D.length : Int)))), (88, .pv (.lit (.int .i64 (i3 : Int))))]) (fun i3 v => [(6, .cells [.pv (.lit (.int .i64 x.client)), .pv (.lit (.int .i64 x.seq)), .pv (.lit (.bool x.write)), .pv (.lit (.int .u8 (x.key 0))), .pv (.lit (.int .u8 (x.key 1))), .pv (.lit (.int .u8 (x.key 2))), .pv (.lit (.int .u8 (x.key 3))), .pv (.lit (.int .u8 (x.key 4))), .pv (.lit (.int .u8 (x.key 5))), .pv (.lit (.int .u8 (x.key 6))), .pv (.lit (.int .u8 (x.key 7))), .pv (.lit (.string x.value)), .pv (.lit (.int .i64 x.mode)), .pv (.lit (.int .i64 x.bound)), .pv (.lit (.int .i64 x.began)), .pv (.lit (.int .i64 x.ended)), .pv (.lit (.int .i64 x.ver)), .pv (.lit (.int .i64 x.err)), .pv (.lit (.int .i64 x.floor))])]) [6] (fun i3 v => rValues_l2 x (fun ok1 => (bif (!ok1) then false else rValues_l0 recs (calls.D.drop (i + 1)) (i + 1) )) (recs.D.drop i3) i3 v = R) false ?_ ?_ (fun i3 ok1 h28 hR => ?_)
      · exact hR
      · exact ⟨fun b => b, WeakerR.ofL (Ks := [6]) hI ⟨⟨rfl, rfl⟩, ⟨rfl, rfl⟩, ⟨rfl, rfl⟩, ⟨rfl, rfl⟩, ⟨rfl, rfl⟩, ⟨rfl, rfl⟩, ⟨rfl, rfl⟩, ⟨rfl, rfl⟩, ⟨rfl, rfl⟩, trivial⟩ (okH_cons rfl rfl rfl rfl (okH_nil)) rfl⟩
      refine Awp.consP C ?_
      refine rvP C (.pv (.lit (.bool (decide ((i3 : Int) < (recs.D.length : Int)))))) ?_
      refine rvc_nil ?_
      refine Awp.seq ?_
      refine Awp.cond (b := (decide ((i3 : Int) < (recs.D.length : Int)))) rfl (fun h29 => ?_) (fun h29 => ?_)
      ·
       have h30 : i3 < recs.D.length := by have := of_decide_eq_true h29; omega
       obtain ⟨x3, h31⟩ := getX h30
       rw [drop_at h31] at hR
       refine Awp.skip ?_
       refine Awp.seq ?_
       refine Awp.block ?_
       refine Awp.consP C ?_
       refine rvc_un (rexec_idxS C rfl rfl rfl rfl rfl rfl x3 (Int.natCast_nonneg _) h31 ?_)
       refine rvP C (.agg [.pv (.lit (.int .i64 x3.index)), .pv (.lit (.int .i64 x3.epoch)), .pv (.lit (.int .u8 (x3.key 0))), .pv (.lit (.int .u8 (x3.key 1))), .pv (.lit (.int .u8 (x3.key 2))), .pv (.lit (.int .u8 (x3.key 3))), .pv (.lit (.int .u8 (x3.key 4))), .pv (.lit (.int .u8 (x3.key 5))), .pv (.lit (.int .u8 (x3.key 6))), .pv (.lit (.int .u8 (x3.key 7))), .pv (.lit (.int .i64 x3.ver)), .pv (.lit (.string x3.value)), .pv (.lit (.int .i64 x3.req.client)), .pv (.lit (.int .i64 x3.req.seq))]) ?_
       refine rvc_un (rexec_prim C (δ := { v := .ptr 13 0, new := [(13, .cells [.pv (.lit (.int .i64 0)), .pv (.lit (.int .i64 0)), .pv (.lit (.int .u8 0)), .pv (.lit (.int .u8 0)), .pv (.lit (.int .u8 0)), .pv (.lit (.int .u8 0)), .pv (.lit (.int .u8 0)), .pv (.lit (.int .u8 0)), .pv (.lit (.int .u8 0)), .pv (.lit (.int .u8 0)), .pv (.lit (.int .i64 0)), .pv (.lit (.string ⟨#[]⟩)), .pv (.lit (.int .i64 0)), .pv (.lit (.int .i64 0))])] }) rfl rfl rfl rfl trivial rfl ?_)
       refine rvc_un (rexec_prim C (δ := { v := .undef, wr := [(13, some (.cells [.pv (.lit (.int .i64 x3.index)), .pv (.lit (.int .i64 x3.epoch)), .pv (.lit (.int .u8 (x3.key 0))), .pv (.lit (.int .u8 (x3.key 1))), .pv (.lit (.int .u8 (x3.key 2))), .pv (.lit (.int .u8 (x3.key 3))), .pv (.lit (.int .u8 (x3.key 4))), .pv (.lit (.int .u8 (x3.key 5))), .pv (.lit (.int .u8 (x3.key 6))), .pv (.lit (.int .u8 (x3.key 7))), .pv (.lit (.int .i64 x3.ver)), .pv (.lit (.string x3.value)), .pv (.lit (.int .i64 x3.req.client)), .pv (.lit (.int .i64 x3.req.seq))]))] }) rfl rfl rfl rfl trivial rfl ?_)
       refine rvc_nil ?_
       refine Awp.consP C ?_
       refine rvP C (.ptr 13 2) ?_
       refine rvP C (.agg [.pv (.lit (.int .u8 (x3.key 0))), .pv (.lit (.int .u8 (x3.key 1))), .pv (.lit (.int .u8 (x3.key 2))), .pv (.lit (.int .u8 (x3.key 3))), .pv (.lit (.int .u8 (x3.key 4))), .pv (.lit (.int .u8 (x3.key 5))), .pv (.lit (.int .u8 (x3.key 6))), .pv (.lit (.int .u8 (x3.key 7)))]) ?_
       refine rvP C (.ptr 6 3) ?_
       refine rvP C (.agg [.pv (.lit (.int .u8 (x.key 0))), .pv (.lit (.int .u8 (x.key 1))), .pv (.lit (.int .u8 (x.key 2))), .pv (.lit (.int .u8 (x.key 3))), .pv (.lit (.int .u8 (x.key 4))), .pv (.lit (.int .u8 (x.key 5))), .pv (.lit (.int .u8 (x.key 6))), .pv (.lit (.int .u8 (x.key 7)))]) ?_
       refine rvP C (.pv (.lit (.bool (((x3.key 0) == (x.key 0)) && (((x3.key 1) == (x.key 1)) && (((x3.key 2) == (x.key 2)) && (((x3.key 3) == (x.key 3)) && (((x3.key 4) == (x.key 4)) && (((x3.key 5) == (x.key 5)) && (((x3.key 6) == (x.key 6)) && (((x3.key 7) == (x.key 7)) && true))))))))))) ?_
       refine rvP C (.pv (.lit (.bool (((x3.key 0) == (x.key 0)) && (((x3.key 1) == (x.key 1)) && (((x3.key 2) == (x.key 2)) && (((x3.key 3) == (x.key 3)) && (((x3.key 4) == (x.key 4)) && (((x3.key 5) == (x.key 5)) && (((x3.key 6) == (x.key 6)) && (((x3.key 7) == (x.key 7)) && true))))))))))) ?_
       refine rvc_case 97 (((x3.key 0) == (x.key 0)) && (((x3.key 1) == (x.key 1)) && (((x3.key 2) == (x.key 2)) && (((x3.key 3) == (x.key 3)) && (((x3.key 4) == (x.key 4)) && (((x3.key 5) == (x.key 5)) && (((x3.key 6) == (x.key 6)) && (((x3.key 7) == (x.key 7)) && true)))))))) rfl (fun h32 => ?_) (fun h32 => ?_)
       ·
        replace hR := of_true h32 hR
        refine rvO C (.ptr 13 10) ?_
        refine rvO C (.pv (.lit (.int .i64 x3.ver))) ?_
        refine rvO C (.ptr 6 16) ?_
        refine rvO C (.pv (.lit (.int .i64 x.ver))) ?_
        refine rvO C (.pv (.lit (.bool (x3.ver == x.ver)))) ?_
        refine rvP C (.pv (.lit (.bool (x3.ver == x.ver)))) ?_
        refine rvc_nil ?_
        refine Awp.cond (b := (x3.ver == x.ver)) rfl (fun h33 => ?_) (fun h33 => ?_)
        ·
         replace hR := of_true h33 hR
         refine Awp.regionP C ?_
         refine rvP C (.ptr 13 11) ?_
         refine rvP C (.pv (.lit (.string x3.value))) ?_
         refine rvP C (.ptr 6 11) ?_
         refine rvP C (.pv (.lit (.string x.value))) ?_
         refine rvP C (.pv (.lit (.bool (x3.value.toList == x.value.toList)))) ?_
         refine rvP C (.pv (.lit (.bool (x3.value.toList == x.value.toList)))) ?_
         refine rvc_nil ?_
         refine Awp.regionP C ?_
         refine rvP C (.pv (.lit (.int .i64 (IntKind.i64.wrap ((i3 : Int) + 1))))) ?_
         refine rvP C (.pv (.lit (.int .i64 (IntKind.i64.wrap ((i3 : Int) + 1))))) ?_
         refine rvc_nil ?_
         refine ⟨h30, (x3.value.toList == x.value.toList), ?_, ?_⟩
         · exact hR
         · exact ⟨fun b => b, WeakerR.ofL (Ks := [6]) hI ⟨⟨rfl, rfl⟩, ⟨rfl, rfl⟩, ⟨rfl, rfl⟩, ⟨rfl, rfl⟩, ⟨rfl, rfl⟩, ⟨rfl, rfl⟩, ⟨rfl, rfl⟩, ⟨rfl, rfl⟩, ⟨lit_cast (wrap_i64 (by omega) (by omega)), rfl⟩, trivial⟩ (okH_cons rfl rfl rfl rfl (okH_nil)) rfl⟩
        ·
         replace hR := of_false h33 hR
         refine Awp.skip ?_
         refine Awp.regionP C ?_
         refine rvP C (.pv (.lit (.int .i64 (IntKind.i64.wrap ((i3 : Int) + 1))))) ?_
         refine rvP C (.pv (.lit (.int .i64 (IntKind.i64.wrap ((i3 : Int) + 1))))) ?_
         refine rvc_nil ?_
         refine ⟨h30, ok1, ?_, ?_⟩
         · exact hR
         · exact ⟨fun b => b, WeakerR.ofL (Ks := [6]) hI ⟨⟨rfl, rfl⟩, ⟨rfl, rfl⟩, ⟨rfl, rfl⟩, ⟨rfl, rfl⟩, ⟨rfl, rfl⟩, ⟨rfl, rfl⟩, ⟨rfl, rfl⟩, ⟨rfl, rfl⟩, ⟨lit_cast (wrap_i64 (by omega) (by omega)), rfl⟩, trivial⟩ (okH_cons rfl rfl rfl rfl (okH_nil)) rfl⟩
       ·
        replace hR := of_false h32 hR
        refine rvS ?_
        refine rvS ?_
        refine rvS ?_
        refine rvS ?_
        refine rvS ?_
        refine rvP C (.pv (.lit (.bool false))) ?_
        refine rvc_nil ?_
        refine Awp.condF (b := false) rfl rfl ?_
        refine Awp.skip ?_
        refine Awp.regionP C ?_
        refine rvP C (.pv (.lit (.int .i64 (IntKind.i64.wrap ((i3 : Int) + 1))))) ?_
        refine rvP C (.pv (.lit (.int .i64 (IntKind.i64.wrap ((i3 : Int) + 1))))) ?_
        refine rvc_nil ?_
        refine ⟨h30, ok1, ?_, ?_⟩
        · exact hR
        · exact ⟨fun b => b, WeakerR.ofL (Ks := [6]) hI ⟨⟨rfl, rfl⟩, ⟨rfl, rfl⟩, ⟨rfl, rfl⟩, ⟨rfl, rfl⟩, ⟨rfl, rfl⟩, ⟨rfl, rfl⟩, ⟨rfl, rfl⟩, ⟨rfl, rfl⟩, ⟨lit_cast (wrap_i64 (by omega) (by omega)), rfl⟩, trivial⟩ (okH_cons rfl rfl rfl rfl (okH_nil)) rfl⟩
      ·
       have h30 : ¬ i3 < recs.D.length := by have := of_decide_eq_false h29; omega
       rw [drop_end h30] at hR
       refine Awp.exit ?_
       refine Awp.consP C ?_
       refine rvP C (.pv (.lit (.bool ok1))) ?_
       refine rvP C (.pv (.lit (.bool (!ok1)))) ?_
       refine rvc_nil ?_
       refine Awp.cond (b := (!ok1)) rfl (fun h34 => ?_) (fun h34 => ?_)
       ·
        replace hR := of_true h34 hR
        refine Awp.consP C ?_
        refine rvP C (.pv (.lit (.bool false))) ?_
        refine rvc_nil ?_
        refine Awp.ret ?_
        subst hR
        exact ⟨.inl rfl, rfl⟩
       ·
        replace hR := of_false h34 hR
        refine Awp.skip ?_
        refine Awp.regionP C ?_
        refine rvP C (.pv (.lit (.int .i64 (IntKind.i64.wrap ((i : Int) + 1))))) ?_
        refine rvP C (.pv (.lit (.int .i64 (IntKind.i64.wrap ((i : Int) + 1))))) ?_
        refine rvc_nil ?_
        refine ⟨h3, (), ?_, ?_⟩
        · exact hR
        · exact ⟨fun b => b, WeakerR.ofL (Ks := []) hI ⟨⟨rfl, rfl⟩, ⟨rfl, rfl⟩, ⟨rfl, rfl⟩, ⟨lit_cast (wrap_i64 (by omega) (by omega)), rfl⟩, trivial⟩ (okH_nil) rfl⟩
     ·
      replace hR := of_false h27 hR
      refine Awp.skip ?_
      refine Awp.consP C ?_
      refine rvP C (.pv (.lit (.bool false))) ?_
      refine rvP C (.pv (.lit (.bool true))) ?_
      refine rvc_nil ?_
      refine Awp.condT (b := true) rfl rfl ?_
      refine Awp.consP C ?_
      refine rvP C (.pv (.lit (.bool false))) ?_
      refine rvc_nil ?_
      refine Awp.ret ?_
      subst hR
      exact ⟨.inl rfl, rfl⟩
 ·
  have h3 : ¬ i < calls.D.length := by have := of_decide_eq_false h2; omega
  rw [drop_end h3] at hR
  refine Awp.exit ?_
  refine Awp.consP C ?_
  refine rvP C (.pv (.lit (.bool true))) ?_
  refine rvc_nil ?_
  refine Awp.ret ?_
  subst hR
  exact ⟨.inl rfl, rfl⟩
def jAhead_l0 (k : (Nat → Int)) (time : Int) : List Call → Nat → Int → Int
  | [], _, most => most
  | x :: xs, i, most => (bif x.write then (bif (jAnswered x) then (bif (((x.key 0) == (k 0)) && (((x.key 1) == (k 1)) && (((x.key 2) == (k 2)) && (((x.key 3) == (k 3)) && (((x.key 4) == (k 4)) && (((x.key 5) == (k 5)) && (((x.key 6) == (k 6)) && (((x.key 7) == (k 7)) && true)))))))) then (bif (decide (x.ended < time)) then jAhead_l0 k time xs (i + 1) (bif (decide (most < x.ver)) then x.ver else most) else jAhead_l0 k time xs (i + 1) most) else jAhead_l0 k time xs (i + 1) most) else jAhead_l0 k time xs (i + 1) most) else jAhead_l0 k time xs (i + 1) most)
def jAhead (k : (Nat → Int)) (time : Int) (calls : (Sl Call)) : Int :=
  jAhead_l0 k time calls.D 0 0
theorem jAhead_calls (k : (Nat → Int)) (time : Int) (calls : (Sl Call)) (hl1 : calls.D.length ≤ 1000000) : PCalls Try.prog 41 [.agg [.pv (.lit (.int .u8 (k 0))), .pv (.lit (.int .u8 (k 1))), .pv (.lit (.int .u8 (k 2))), .pv (.lit (.int .u8 (k 3))), .pv (.lit (.int .u8 (k 4))), .pv (.lit (.int .u8 (k 5))), .pv (.lit (.int .u8 (k 6))), .pv (.lit (.int .u8 (k 7)))], .pv (.lit (.int .i64 time)), sS (some calls.nil) eCall calls.D] (.pv (.lit (.int .i64 (jAhead k time calls)))) := by
 generalize hR : jAhead k time calls = R
 refine PCalls.of_body tabOk Try.func41 rfl rfl rfl rfl rfl mixed fun E hP C hI => ?_
 refine Awp.consP C ?_
 refine rvc_un (rexec_prim C (δ := { v := .ptr 3 0, new := [(3, .cells [.pv (.lit (.int .u8 (k 0))), .pv (.lit (.int .u8 (k 1))), .pv (.lit (.int .u8 (k 2))), .pv (.lit (.int .u8 (k 3))), .pv (.lit (.int .u8 (k 4))), .pv (.lit (.int .u8 (k 5))), .pv (.lit (.int .u8 (k 6))), .pv (.lit (.int .u8 (k 7)))])] }) rfl rfl rfl rfl trivial rfl ?_)
 refine rvP C (.pv (.lit (.int .i64 0))) ?_
 refine rvc_nil ?_
 refine Awp.consP C ?_
 refine rvP C (.pv (.lit (.int .i64 0))) ?_
 refine rvc_nil ?_
 refine Awp.seq ?_
 refine Awp.consP C ?_
 refine rvP C (sS (some calls.nil) eCall calls.D) ?_
 refine rvP C (.pv (.lit (.int .i64 (calls.D.length : Int)))) ?_
 refine rvP C (.pv (.lit (.int .i64 0))) ?_
 refine rvc_nil ?_
 refine Awp.block ?_
 refine Awp.forR (σ := Int) (calls.D.length) (fun i v => [(1, .pv (.lit (.int .i64 time))), (3, .ptr 3 0), (7, .pv (.lit (.int .i64 v))), (10, sS (some calls.nil) eCall calls.D), (11, .pv (.lit (.int .i64 (calls.D.length : Int)))), (12, .pv (.lit (.int .i64 (i : Int))))]) (fun i v => [(3, .cells [.pv (.lit (.int .u8 (k 0))), .pv (.lit (.int .u8 (k 1))), .pv (.lit (.int .u8 (k 2))), .pv (.lit (.int .u8 (k 3))), .pv (.lit (.int .u8 (k 4))), .pv (.lit (.int .u8 (k 5))), .pv (.lit (.int .u8 (k 6))), .pv (.lit (.int .u8 (k 7)))])]) [3] (fun i v => jAhead_l0 k time (calls.D.drop i) i v = R) 0 ?_ ?_ (fun i most h1 hR => ?_)
 · exact hR
 · exact ⟨fun b => b, WeakerR.ofL (Ks := [3]) hI ⟨⟨rfl, rfl⟩, ⟨rfl, rfl⟩, ⟨rfl, rfl⟩, ⟨rfl, rfl⟩, ⟨rfl, rfl⟩, ⟨rfl, rfl⟩, trivial⟩ (okH_cons rfl rfl rfl rfl (okH_nil)) rfl⟩
 refine Awp.consP C ?_
 refine rvP C (.pv (.lit (.bool (decide ((i : Int) < (calls.D.length : Int)))))) ?_
 refine rvc_nil ?_
 refine Awp.seq ?_
 refine Awp.cond (b := (decide ((i : Int) < (calls.D.length : Int)))) rfl (fun h2 => ?_) (fun h2 => ?_)
 ·
  have h3 : i < calls.D.length := by have := of_decide_eq_true h2; omega
  obtain ⟨x, h4⟩ := getX h3
  rw [drop_at h4] at hR
  refine Awp.skip ?_
  refine Awp.seq ?_
  refine Awp.block ?_
  refine Awp.consP C ?_
  refine rvc_un (rexec_idxS C rfl rfl rfl rfl rfl rfl x (Int.natCast_nonneg _) h4 ?_)
  refine rvP C (.agg [.pv (.lit (.int .i64 x.client)), .pv (.lit (.int .i64 x.seq)), .pv (.lit (.bool x.write)), .pv (.lit (.int .u8 (x.key 0))), .pv (.lit (.int .u8 (x.key 1))), .pv (.lit (.int .u8 (x.key 2))), .pv (.lit (.int .u8 (x.key 3))), .pv (.lit (.int .u8 (x.key 4))), .pv (.lit (.int .u8 (x.key 5))), .pv (.lit (.int .u8 (x.key 6))), .pv (.lit (.int .u8 (x.key 7))), .pv (.lit (.string x.value)), .pv (.lit (.int .i64 x.mode)), .pv (.lit (.int .i64 x.bound)), .pv (.lit (.int .i64 x.began)), .pv (.lit (.int .i64 x.ended)), .pv (.lit (.int .i64 x.ver)), .pv (.lit (.int .i64 x.err)), .pv (.lit (.int .i64 x.floor))]) ?_
  refine rvc_un (rexec_prim C (δ := { v := .ptr 9 0, new := [(9, .cells [.pv (.lit (.int .i64 0)), .pv (.lit (.int .i64 0)), .pv (.lit (.bool false)), .pv (.lit (.int .u8 0)), .pv (.lit (.int .u8 0)), .pv (.lit (.int .u8 0)), .pv (.lit (.int .u8 0)), .pv (.lit (.int .u8 0)), .pv (.lit (.int .u8 0)), .pv (.lit (.int .u8 0)), .pv (.lit (.int .u8 0)), .pv (.lit (.string ⟨#[]⟩)), .pv (.lit (.int .i64 0)), .pv (.lit (.int .i64 0)), .pv (.lit (.int .i64 0)), .pv (.lit (.int .i64 0)), .pv (.lit (.int .i64 0)), .pv (.lit (.int .i64 0)), .pv (.lit (.int .i64 0))])] }) rfl rfl rfl rfl trivial rfl ?_)
  refine rvc_un (rexec_prim C (δ := { v := .undef, wr := [(9, some (.cells [.pv (.lit (.int .i64 x.client)), .pv (.lit (.int .i64 x.seq)), .pv (.lit (.bool x.write)), .pv (.lit (.int .u8 (x.key 0))), .pv (.lit (.int .u8 (x.key 1))), .pv (.lit (.int .u8 (x.key 2))), .pv (.lit (.int .u8 (x.key 3))), .pv (.lit (.int .u8 (x.key 4))), .pv (.lit (.int .u8 (x.key 5))), .pv (.lit (.int .u8 (x.key 6))), .pv (.lit (.int .u8 (x.key 7))), .pv (.lit (.string x.value)), .pv (.lit (.int .i64 x.mode)), .pv (.lit (.int .i64 x.bound)), .pv (.lit (.int .i64 x.began)), .pv (.lit (.int .i64 x.ended)), .pv (.lit (.int .i64 x.ver)), .pv (.lit (.int .i64 x.err)), .pv (.lit (.int .i64 x.floor))]))] }) rfl rfl rfl rfl trivial rfl ?_)
  refine rvc_nil ?_
  refine Awp.consP C ?_
  refine rvP C (.ptr 9 2) ?_
  refine rvP C (.pv (.lit (.bool x.write))) ?_
  refine rvP C (.pv (.lit (.bool x.write))) ?_
  refine rvc_case 18 x.write rfl (fun h5 => ?_) (fun h5 => ?_)
  ·
   replace hR := of_true h5 hR
   refine rvO C (.agg [.pv (.lit (.int .i64 x.client)), .pv (.lit (.int .i64 x.seq)), .pv (.lit (.bool x.write)), .pv (.lit (.int .u8 (x.key 0))), .pv (.lit (.int .u8 (x.key 1))), .pv (.lit (.int .u8 (x.key 2))), .pv (.lit (.int .u8 (x.key 3))), .pv (.lit (.int .u8 (x.key 4))), .pv (.lit (.int .u8 (x.key 5))), .pv (.lit (.int .u8 (x.key 6))), .pv (.lit (.int .u8 (x.key 7))), .pv (.lit (.string x.value)), .pv (.lit (.int .i64 x.mode)), .pv (.lit (.int .i64 x.bound)), .pv (.lit (.int .i64 x.began)), .pv (.lit (.int .i64 x.ended)), .pv (.lit (.int .i64 x.ver)), .pv (.lit (.int .i64 x.err)), .pv (.lit (.int .i64 x.floor))]) ?_
   refine rvc_open rfl rfl rfl (rexec_call hP C rfl rfl rfl (jAnswered_calls x) ?_)
   refine rvP C (.pv (.lit (.bool (jAnswered x)))) ?_
   refine rvP C (.pv (.lit (.bool (jAnswered x)))) ?_
   refine rvc_case 22 (jAnswered x) rfl (fun h6 => ?_) (fun h6 => ?_)
   ·
    replace hR := of_true h6 hR
    refine rvO C (.ptr 9 3) ?_
    refine rvO C (.agg [.pv (.lit (.int .u8 (x.key 0))), .pv (.lit (.int .u8 (x.key 1))), .pv (.lit (.int .u8 (x.key 2))), .pv (.lit (.int .u8 (x.key 3))), .pv (.lit (.int .u8 (x.key 4))), .pv (.lit (.int .u8 (x.key 5))), .pv (.lit (.int .u8 (x.key 6))), .pv (.lit (.int .u8 (x.key 7)))]) ?_
    refine rvO C (.agg [.pv (.lit (.int .u8 (k 0))), .pv (.lit (.int .u8 (k 1))), .pv (.lit (.int .u8 (k 2))), .pv (.lit (.int .u8 (k 3))), .pv (.lit (.int .u8 (k 4))), .pv (.lit (.int .u8 (k 5))), .pv (.lit (.int .u8 (k 6))), .pv (.lit (.int .u8 (k 7)))]) ?_
    refine rvO C (.pv (.lit (.bool (((x.key 0) == (k 0)) && (((x.key 1) == (k 1)) && (((x.key 2) == (k 2)) && (((x.key 3) == (k 3)) && (((x.key 4) == (k 4)) && (((x.key 5) == (k 5)) && (((x.key 6) == (k 6)) && (((x.key 7) == (k 7)) && true))))))))))) ?_
    refine rvP C (.pv (.lit (.bool (((x.key 0) == (k 0)) && (((x.key 1) == (k 1)) && (((x.key 2) == (k 2)) && (((x.key 3) == (k 3)) && (((x.key 4) == (k 4)) && (((x.key 5) == (k 5)) && (((x.key 6) == (k 6)) && (((x.key 7) == (k 7)) && true))))))))))) ?_
    refine rvP C (.pv (.lit (.bool (((x.key 0) == (k 0)) && (((x.key 1) == (k 1)) && (((x.key 2) == (k 2)) && (((x.key 3) == (k 3)) && (((x.key 4) == (k 4)) && (((x.key 5) == (k 5)) && (((x.key 6) == (k 6)) && (((x.key 7) == (k 7)) && true))))))))))) ?_
    refine rvc_case 28 (((x.key 0) == (k 0)) && (((x.key 1) == (k 1)) && (((x.key 2) == (k 2)) && (((x.key 3) == (k 3)) && (((x.key 4) == (k 4)) && (((x.key 5) == (k 5)) && (((x.key 6) == (k 6)) && (((x.key 7) == (k 7)) && true)))))))) rfl (fun h7 => ?_) (fun h7 => ?_)
    ·
     replace hR := of_true h7 hR
     refine rvO C (.ptr 9 15) ?_
     refine rvO C (.pv (.lit (.int .i64 x.ended))) ?_
     refine rvO C (.pv (.lit (.int .i64 time))) ?_
     refine rvO C (.pv (.lit (.bool (decide (x.ended < time))))) ?_
     refine rvP C (.pv (.lit (.bool (decide (x.ended < time))))) ?_
     refine rvc_nil ?_
     refine Awp.cond (b := (decide (x.ended < time))) rfl (fun h8 => ?_) (fun h8 => ?_)
     ·
      replace hR := of_true h8 hR
      refine Awp.regionP C ?_
      refine rvP C (.pv (.lit (.int .i64 most))) ?_
      refine rvP C (.ptr 9 16) ?_
      refine rvP C (.pv (.lit (.int .i64 x.ver))) ?_
      refine rvc_un (rexec_max C rfl rfl rfl ?_)
      refine rvP C (.pv (.lit (.int .i64 (bif (decide (most < x.ver)) then x.ver else most)))) ?_
      refine rvc_nil ?_
      refine Awp.regionP C ?_
      refine rvP C (.pv (.lit (.int .i64 (IntKind.i64.wrap ((i : Int) + 1))))) ?_
      refine rvP C (.pv (.lit (.int .i64 (IntKind.i64.wrap ((i : Int) + 1))))) ?_
      refine rvc_nil ?_
      refine ⟨h3, (bif (decide (most < x.ver)) then x.ver else most), ?_, ?_⟩
      · exact hR
      · exact ⟨fun b => b, WeakerR.ofL (Ks := [3]) hI ⟨⟨rfl, rfl⟩, ⟨rfl, rfl⟩, ⟨rfl, rfl⟩, ⟨rfl, rfl⟩, ⟨rfl, rfl⟩, ⟨lit_cast (wrap_i64 (by omega) (by omega)), rfl⟩, trivial⟩ (okH_cons rfl rfl rfl rfl (okH_nil)) rfl⟩
     ·
      replace hR := of_false h8 hR
      refine Awp.skip ?_
      refine Awp.regionP C ?_
      refine rvP C (.pv (.lit (.int .i64 (IntKind.i64.wrap ((i : Int) + 1))))) ?_
      refine rvP C (.pv (.lit (.int .i64 (IntKind.i64.wrap ((i : Int) + 1))))) ?_
      refine rvc_nil ?_
      refine ⟨h3, most, ?_, ?_⟩
      · exact hR
      · exact ⟨fun b => b, WeakerR.ofL (Ks := [3]) hI ⟨⟨rfl, rfl⟩, ⟨rfl, rfl⟩, ⟨rfl, rfl⟩, ⟨rfl, rfl⟩, ⟨rfl, rfl⟩, ⟨lit_cast (wrap_i64 (by omega) (by omega)), rfl⟩, trivial⟩ (okH_cons rfl rfl rfl rfl (okH_nil)) rfl⟩
    ·
     replace hR := of_false h7 hR
     refine rvS ?_
     refine rvS ?_
     refine rvS ?_
     refine rvS ?_
     refine rvP C (.pv (.lit (.bool false))) ?_
     refine rvc_nil ?_
     refine Awp.condF (b := false) rfl rfl ?_
     refine Awp.skip ?_
     refine Awp.regionP C ?_
     refine rvP C (.pv (.lit (.int .i64 (IntKind.i64.wrap ((i : Int) + 1))))) ?_
     refine rvP C (.pv (.lit (.int .i64 (IntKind.i64.wrap ((i : Int) + 1))))) ?_
     refine rvc_nil ?_
     refine ⟨h3, most, ?_, ?_⟩
     · exact hR
     · exact ⟨fun b => b, WeakerR.ofL (Ks := [3]) hI ⟨⟨rfl, rfl⟩, ⟨rfl, rfl⟩, ⟨rfl, rfl⟩, ⟨rfl, rfl⟩, ⟨rfl, rfl⟩, ⟨lit_cast (wrap_i64 (by omega) (by omega)), rfl⟩, trivial⟩ (okH_cons rfl rfl rfl rfl (okH_nil)) rfl⟩
   ·
    replace hR := of_false h6 hR
    refine rvS ?_
    refine rvS ?_
    refine rvS ?_
    refine rvS ?_
    refine rvP C (.pv (.lit (.bool false))) ?_
    refine rvP C (.pv (.lit (.bool false))) ?_
    refine rvS ?_
    refine rvS ?_
    refine rvS ?_
    refine rvS ?_
    refine rvP C (.pv (.lit (.bool false))) ?_
    refine rvc_nil ?_
    refine Awp.condF (b := false) rfl rfl ?_
    refine Awp.skip ?_
    refine Awp.regionP C ?_
    refine rvP C (.pv (.lit (.int .i64 (IntKind.i64.wrap ((i : Int) + 1))))) ?_
    refine rvP C (.pv (.lit (.int .i64 (IntKind.i64.wrap ((i : Int) + 1))))) ?_
    refine rvc_nil ?_
    refine ⟨h3, most, ?_, ?_⟩
    · exact hR
    · exact ⟨fun b => b, WeakerR.ofL (Ks := [3]) hI ⟨⟨rfl, rfl⟩, ⟨rfl, rfl⟩, ⟨rfl, rfl⟩, ⟨rfl, rfl⟩, ⟨rfl, rfl⟩, ⟨lit_cast (wrap_i64 (by omega) (by omega)), rfl⟩, trivial⟩ (okH_cons rfl rfl rfl rfl (okH_nil)) rfl⟩
  ·
   replace hR := of_false h5 hR
   refine rvS ?_
   refine rvS ?_
   refine rvP C (.pv (.lit (.bool false))) ?_
   refine rvP C (.pv (.lit (.bool false))) ?_
   refine rvS ?_
   refine rvS ?_
   refine rvS ?_
   refine rvS ?_
   refine rvP C (.pv (.lit (.bool false))) ?_
   refine rvP C (.pv (.lit (.bool false))) ?_
   refine rvS ?_
   refine rvS ?_
   refine rvS ?_
   refine rvS ?_
   refine rvP C (.pv (.lit (.bool false))) ?_
   refine rvc_nil ?_
   refine Awp.condF (b := false) rfl rfl ?_
   refine Awp.skip ?_
   refine Awp.regionP C ?_
   refine rvP C (.pv (.lit (.int .i64 (IntKind.i64.wrap ((i : Int) + 1))))) ?_
   refine rvP C (.pv (.lit (.int .i64 (IntKind.i64.wrap ((i : Int) + 1))))) ?_
   refine rvc_nil ?_
   refine ⟨h3, most, ?_, ?_⟩
   · exact hR
   · exact ⟨fun b => b, WeakerR.ofL (Ks := [3]) hI ⟨⟨rfl, rfl⟩, ⟨rfl, rfl⟩, ⟨rfl, rfl⟩, ⟨rfl, rfl⟩, ⟨rfl, rfl⟩, ⟨lit_cast (wrap_i64 (by omega) (by omega)), rfl⟩, trivial⟩ (okH_cons rfl rfl rfl rfl (okH_nil)) rfl⟩
 ·
  have h3 : ¬ i < calls.D.length := by have := of_decide_eq_false h2; omega
  rw [drop_end h3] at hR
  refine Awp.exit ?_
  refine Awp.consP C ?_
  refine rvP C (.pv (.lit (.int .i64 most))) ?_
  refine rvP C (.pv (.lit (.int .i64 most))) ?_
  refine rvc_nil ?_
  refine Awp.ret ?_
  subst hR
  exact ⟨.inl rfl, rfl⟩
def boundsF (c : Call) (c0 : (Sl Call)) : Bool :=
  (bif (!c.write) then (bif (c.mode == 1) then (bif (jAnswered c) then (bif (decide ((jAhead c.key c.began c0) > c.ver)) then (bif (decide (c.bound < 0)) then true else (decide ((IntKind.u64.wrap ((IntKind.u64.wrap (jAhead c.key c.began c0)) - (IntKind.u64.wrap c.ver))) > (IntKind.u64.wrap c.bound)))) else false) else false) else false) else false)
theorem boundsF_calls (c : Call) (c0 : (Sl Call)) (hc : c0.D.length ≤ 1000000) : PCalls Try.prog 40 [.agg [.pv (.lit (.int .i64 c.client)), .pv (.lit (.int .i64 c.seq)), .pv (.lit (.bool c.write)), .pv (.lit (.int .u8 (c.key 0))), .pv (.lit (.int .u8 (c.key 1))), .pv (.lit (.int .u8 (c.key 2))), .pv (.lit (.int .u8 (c.key 3))), .pv (.lit (.int .u8 (c.key 4))), .pv (.lit (.int .u8 (c.key 5))), .pv (.lit (.int .u8 (c.key 6))), .pv (.lit (.int .u8 (c.key 7))), .pv (.lit (.string c.value)), .pv (.lit (.int .i64 c.mode)), .pv (.lit (.int .i64 c.bound)), .pv (.lit (.int .i64 c.began)), .pv (.lit (.int .i64 c.ended)), .pv (.lit (.int .i64 c.ver)), .pv (.lit (.int .i64 c.err)), .pv (.lit (.int .i64 c.floor))], .rp [.sl (some c0.nil) c0.D.length (encL eCall c0.D)]] (.pv (.lit (.bool (boundsF c c0)))) := by
 generalize hR : boundsF c c0 = R
 refine PCalls.of_body tabOk Try.func40 rfl rfl rfl rfl rfl mixed fun E hP C hI => ?_
 refine Awp.consP C ?_
 refine rvc_un (rexec_prim C (δ := { v := .ptr 2 0, new := [(2, .cells [.pv (.lit (.int .i64 c.client)), .pv (.lit (.int .i64 c.seq)), .pv (.lit (.bool c.write)), .pv (.lit (.int .u8 (c.key 0))), .pv (.lit (.int .u8 (c.key 1))), .pv (.lit (.int .u8 (c.key 2))), .pv (.lit (.int .u8 (c.key 3))), .pv (.lit (.int .u8 (c.key 4))), .pv (.lit (.int .u8 (c.key 5))), .pv (.lit (.int .u8 (c.key 6))), .pv (.lit (.int .u8 (c.key 7))), .pv (.lit (.string c.value)), .pv (.lit (.int .i64 c.mode)), .pv (.lit (.int .i64 c.bound)), .pv (.lit (.int .i64 c.began)), .pv (.lit (.int .i64 c.ended)), .pv (.lit (.int .i64 c.ver)), .pv (.lit (.int .i64 c.err)), .pv (.lit (.int .i64 c.floor))])] }) rfl rfl rfl rfl trivial rfl ?_)
 refine rvP C (.pv (.lit (.bool false))) ?_
 refine rvc_nil ?_
 refine Awp.consP C ?_
 refine rvP C (.ptr 2 3) ?_
 refine rvP C (.agg [.pv (.lit (.int .u8 (c.key 0))), .pv (.lit (.int .u8 (c.key 1))), .pv (.lit (.int .u8 (c.key 2))), .pv (.lit (.int .u8 (c.key 3))), .pv (.lit (.int .u8 (c.key 4))), .pv (.lit (.int .u8 (c.key 5))), .pv (.lit (.int .u8 (c.key 6))), .pv (.lit (.int .u8 (c.key 7)))]) ?_
 refine rvP C (.ptr 2 14) ?_
 refine rvP C (.pv (.lit (.int .i64 c.began))) ?_
 refine rvP C (sS (some c0.nil) eCall c0.D) ?_
 refine rvc_un (rexec_call hP C rfl rfl rfl (jAhead_calls c.key c.began c0 (by show c0.D.length ≤ 1000000; omega)) ?_)
 refine rvP C (.pv (.lit (.int .i64 (jAhead c.key c.began c0)))) ?_
 refine rvc_nil ?_
 refine Awp.consP C ?_
 refine rvP C (.ptr 2 2) ?_
 refine rvP C (.pv (.lit (.bool c.write))) ?_
 refine rvP C (.pv (.lit (.bool (!c.write)))) ?_
 refine rvP C (.pv (.lit (.bool (!c.write)))) ?_
 refine rvc_case 14 (!c.write) rfl (fun h1 => ?_) (fun h1 => ?_)
 ·
  replace hR := of_true h1 hR
  refine rvO C (.ptr 2 12) ?_
  refine rvO C (.pv (.lit (.int .i64 c.mode))) ?_
  refine rvO C (.pv (.lit (.bool (c.mode == 1)))) ?_
  refine rvP C (.pv (.lit (.bool (c.mode == 1)))) ?_
  refine rvP C (.pv (.lit (.bool (c.mode == 1)))) ?_
  refine rvc_case 19 (c.mode == 1) rfl (fun h2 => ?_) (fun h2 => ?_)
  ·
   replace hR := of_true h2 hR
   refine rvO C (.agg [.pv (.lit (.int .i64 c.client)), .pv (.lit (.int .i64 c.seq)), .pv (.lit (.bool c.write)), .pv (.lit (.int .u8 (c.key 0))), .pv (.lit (.int .u8 (c.key 1))), .pv (.lit (.int .u8 (c.key 2))), .pv (.lit (.int .u8 (c.key 3))), .pv (.lit (.int .u8 (c.key 4))), .pv (.lit (.int .u8 (c.key 5))), .pv (.lit (.int .u8 (c.key 6))), .pv (.lit (.int .u8 (c.key 7))), .pv (.lit (.string c.value)), .pv (.lit (.int .i64 c.mode)), .pv (.lit (.int .i64 c.bound)), .pv (.lit (.int .i64 c.began)), .pv (.lit (.int .i64 c.ended)), .pv (.lit (.int .i64 c.ver)), .pv (.lit (.int .i64 c.err)), .pv (.lit (.int .i64 c.floor))]) ?_
   refine rvc_open rfl rfl rfl (rexec_call hP C rfl rfl rfl (jAnswered_calls c) ?_)
   refine rvP C (.pv (.lit (.bool (jAnswered c)))) ?_
   refine rvP C (.pv (.lit (.bool (jAnswered c)))) ?_
   refine rvc_case 23 (jAnswered c) rfl (fun h3 => ?_) (fun h3 => ?_)
   ·
    replace hR := of_true h3 hR
    refine rvO C (.pv (.lit (.int .i64 (jAhead c.key c.began c0)))) ?_
    refine rvO C (.ptr 2 16) ?_
    refine rvO C (.pv (.lit (.int .i64 c.ver))) ?_
    refine rvO C (.pv (.lit (.bool (decide ((jAhead c.key c.began c0) > c.ver))))) ?_
    refine rvP C (.pv (.lit (.bool (decide ((jAhead c.key c.began c0) > c.ver))))) ?_
    refine rvP C (.pv (.lit (.bool (decide ((jAhead c.key c.began c0) > c.ver))))) ?_
    refine rvc_case 29 (decide ((jAhead c.key c.began c0) > c.ver)) rfl (fun h4 => ?_) (fun h4 => ?_)
    ·
     replace hR := of_true h4 hR
     refine rvO C (.ptr 2 13) ?_
     refine rvO C (.pv (.lit (.int .i64 c.bound))) ?_
     refine rvO C (.pv (.lit (.bool (decide (c.bound < 0))))) ?_
     refine rvO C (.pv (.lit (.bool (decide (c.bound < 0))))) ?_
     refine rvc_case 33 (decide (c.bound < 0)) rfl (fun h5 => ?_) (fun h5 => ?_)
     ·
      replace hR := of_true h5 hR
      refine rvS ?_
      refine rvS ?_
      refine rvS ?_
      refine rvS ?_
      refine rvS ?_
      refine rvS ?_
      refine rvS ?_
      refine rvS ?_
      refine rvS ?_
      refine rvS ?_
      refine rvO C (.pv (.lit (.bool true))) ?_
      refine rvP C (.pv (.lit (.bool true))) ?_
      refine rvP C (.pv (.lit (.bool true))) ?_
      refine rvc_nil ?_
      refine Awp.ret ?_
      subst hR
      exact ⟨.inl rfl, rfl⟩
     ·
      replace hR := of_false h5 hR
      refine rvO C (.pv (.lit (.int .i64 (jAhead c.key c.began c0)))) ?_
      refine rvO C (.pv (.lit (.int .u64 (IntKind.u64.wrap (jAhead c.key c.began c0))))) ?_
      refine rvO C (.ptr 2 16) ?_
      refine rvO C (.pv (.lit (.int .i64 c.ver))) ?_
      refine rvO C (.pv (.lit (.int .u64 (IntKind.u64.wrap c.ver)))) ?_
      refine rvO C (.pv (.lit (.int .u64 (IntKind.u64.wrap ((IntKind.u64.wrap (jAhead c.key c.began c0)) - (IntKind.u64.wrap c.ver)))))) ?_
      refine rvO C (.ptr 2 13) ?_
      refine rvO C (.pv (.lit (.int .i64 c.bound))) ?_
      refine rvO C (.pv (.lit (.int .u64 (IntKind.u64.wrap c.bound)))) ?_
      refine rvO C (.pv (.lit (.bool (decide ((IntKind.u64.wrap ((IntKind.u64.wrap (jAhead c.key c.began c0)) - (IntKind.u64.wrap c.ver))) > (IntKind.u64.wrap c.bound)))))) ?_
      refine rvO C (.pv (.lit (.bool (decide ((IntKind.u64.wrap ((IntKind.u64.wrap (jAhead c.key c.began c0)) - (IntKind.u64.wrap c.ver))) > (IntKind.u64.wrap c.bound)))))) ?_
      refine rvP C (.pv (.lit (.bool (decide ((IntKind.u64.wrap ((IntKind.u64.wrap (jAhead c.key c.began c0)) - (IntKind.u64.wrap c.ver))) > (IntKind.u64.wrap c.bound)))))) ?_
      refine rvP C (.pv (.lit (.bool (decide ((IntKind.u64.wrap ((IntKind.u64.wrap (jAhead c.key c.began c0)) - (IntKind.u64.wrap c.ver))) > (IntKind.u64.wrap c.bound)))))) ?_
      refine rvc_nil ?_
      refine Awp.ret ?_
      subst hR
      exact ⟨.inl rfl, rfl⟩
    ·
     replace hR := of_false h4 hR
     refine rvS ?_
     refine rvS ?_
     refine rvS ?_
     refine rvS ?_
     refine rvc_shutU rfl rfl rfl ?_
     refine rvc_shutU rfl rfl rfl ?_
     refine rvc_shutU rfl rfl rfl ?_
     refine rvc_shutU rfl rfl rfl ?_
     refine rvc_shutU rfl rfl rfl ?_
     refine rvc_shutU rfl rfl rfl ?_
     refine rvc_shutU rfl rfl rfl ?_
     refine rvc_shutU rfl rfl rfl ?_
     refine rvc_shutU rfl rfl rfl ?_
     refine rvc_shutU rfl rfl rfl ?_
     refine rvS ?_
     refine rvP C (.pv (.lit (.bool false))) ?_
     refine rvP C (.pv (.lit (.bool false))) ?_
     refine rvc_nil ?_
     refine Awp.ret ?_
     subst hR
     exact ⟨.inl rfl, rfl⟩
   ·
    replace hR := of_false h3 hR
    refine rvS ?_
    refine rvS ?_
    refine rvS ?_
    refine rvS ?_
    refine rvP C (.pv (.lit (.bool false))) ?_
    refine rvP C (.pv (.lit (.bool false))) ?_
    refine rvS ?_
    refine rvS ?_
    refine rvS ?_
    refine rvS ?_
    refine rvc_shutU rfl rfl rfl ?_
    refine rvc_shutU rfl rfl rfl ?_
    refine rvc_shutU rfl rfl rfl ?_
    refine rvc_shutU rfl rfl rfl ?_
    refine rvc_shutU rfl rfl rfl ?_
    refine rvc_shutU rfl rfl rfl ?_
    refine rvc_shutU rfl rfl rfl ?_
    refine rvc_shutU rfl rfl rfl ?_
    refine rvc_shutU rfl rfl rfl ?_
    refine rvc_shutU rfl rfl rfl ?_
    refine rvS ?_
    refine rvP C (.pv (.lit (.bool false))) ?_
    refine rvP C (.pv (.lit (.bool false))) ?_
    refine rvc_nil ?_
    refine Awp.ret ?_
    subst hR
    exact ⟨.inl rfl, rfl⟩
  ·
   replace hR := of_false h2 hR
   refine rvS ?_
   refine rvS ?_
   refine rvP C (.pv (.lit (.bool false))) ?_
   refine rvP C (.pv (.lit (.bool false))) ?_
   refine rvS ?_
   refine rvS ?_
   refine rvS ?_
   refine rvS ?_
   refine rvP C (.pv (.lit (.bool false))) ?_
   refine rvP C (.pv (.lit (.bool false))) ?_
   refine rvS ?_
   refine rvS ?_
   refine rvS ?_
   refine rvS ?_
   refine rvc_shutU rfl rfl rfl ?_
   refine rvc_shutU rfl rfl rfl ?_
   refine rvc_shutU rfl rfl rfl ?_
   refine rvc_shutU rfl rfl rfl ?_
   refine rvc_shutU rfl rfl rfl ?_
   refine rvc_shutU rfl rfl rfl ?_
   refine rvc_shutU rfl rfl rfl ?_
   refine rvc_shutU rfl rfl rfl ?_
   refine rvc_shutU rfl rfl rfl ?_
   refine rvc_shutU rfl rfl rfl ?_
   refine rvS ?_
   refine rvP C (.pv (.lit (.bool false))) ?_
   refine rvP C (.pv (.lit (.bool false))) ?_
   refine rvc_nil ?_
   refine Awp.ret ?_
   subst hR
   exact ⟨.inl rfl, rfl⟩
 ·
  replace hR := of_false h1 hR
  refine rvS ?_
  refine rvS ?_
  refine rvS ?_
  refine rvP C (.pv (.lit (.bool false))) ?_
  refine rvP C (.pv (.lit (.bool false))) ?_
  refine rvS ?_
  refine rvS ?_
  refine rvP C (.pv (.lit (.bool false))) ?_
  refine rvP C (.pv (.lit (.bool false))) ?_
  refine rvS ?_
  refine rvS ?_
  refine rvS ?_
  refine rvS ?_
  refine rvP C (.pv (.lit (.bool false))) ?_
  refine rvP C (.pv (.lit (.bool false))) ?_
  refine rvS ?_
  refine rvS ?_
  refine rvS ?_
  refine rvS ?_
  refine rvc_shutU rfl rfl rfl ?_
  refine rvc_shutU rfl rfl rfl ?_
  refine rvc_shutU rfl rfl rfl ?_
  refine rvc_shutU rfl rfl rfl ?_
  refine rvc_shutU rfl rfl rfl ?_
  refine rvc_shutU rfl rfl rfl ?_
  refine rvc_shutU rfl rfl rfl ?_
  refine rvc_shutU rfl rfl rfl ?_
  refine rvc_shutU rfl rfl rfl ?_
  refine rvc_shutU rfl rfl rfl ?_
  refine rvS ?_
  refine rvP C (.pv (.lit (.bool false))) ?_
  refine rvP C (.pv (.lit (.bool false))) ?_
  refine rvc_nil ?_
  refine Awp.ret ?_
  subst hR
  exact ⟨.inl rfl, rfl⟩
def sessF (c : Call) : Bool :=
  (bif (!c.write) then (bif (c.mode == 2) then (bif (jAnswered c) then (decide (c.ver < c.floor)) else false) else false) else false)
theorem sessF_calls (c : Call)  : PCalls Try.prog 42 [.agg [.pv (.lit (.int .i64 c.client)), .pv (.lit (.int .i64 c.seq)), .pv (.lit (.bool c.write)), .pv (.lit (.int .u8 (c.key 0))), .pv (.lit (.int .u8 (c.key 1))), .pv (.lit (.int .u8 (c.key 2))), .pv (.lit (.int .u8 (c.key 3))), .pv (.lit (.int .u8 (c.key 4))), .pv (.lit (.int .u8 (c.key 5))), .pv (.lit (.int .u8 (c.key 6))), .pv (.lit (.int .u8 (c.key 7))), .pv (.lit (.string c.value)), .pv (.lit (.int .i64 c.mode)), .pv (.lit (.int .i64 c.bound)), .pv (.lit (.int .i64 c.began)), .pv (.lit (.int .i64 c.ended)), .pv (.lit (.int .i64 c.ver)), .pv (.lit (.int .i64 c.err)), .pv (.lit (.int .i64 c.floor))]] (.pv (.lit (.bool (sessF c)))) := by
 generalize hR : sessF c = R
 refine PCalls.of_body tabOk Try.func42 rfl rfl rfl rfl rfl mixed fun E hP C hI => ?_
 refine Awp.consP C ?_
 refine rvc_un (rexec_prim C (δ := { v := .ptr 1 0, new := [(1, .cells [.pv (.lit (.int .i64 c.client)), .pv (.lit (.int .i64 c.seq)), .pv (.lit (.bool c.write)), .pv (.lit (.int .u8 (c.key 0))), .pv (.lit (.int .u8 (c.key 1))), .pv (.lit (.int .u8 (c.key 2))), .pv (.lit (.int .u8 (c.key 3))), .pv (.lit (.int .u8 (c.key 4))), .pv (.lit (.int .u8 (c.key 5))), .pv (.lit (.int .u8 (c.key 6))), .pv (.lit (.int .u8 (c.key 7))), .pv (.lit (.string c.value)), .pv (.lit (.int .i64 c.mode)), .pv (.lit (.int .i64 c.bound)), .pv (.lit (.int .i64 c.began)), .pv (.lit (.int .i64 c.ended)), .pv (.lit (.int .i64 c.ver)), .pv (.lit (.int .i64 c.err)), .pv (.lit (.int .i64 c.floor))])] }) rfl rfl rfl rfl trivial rfl ?_)
 refine rvP C (.pv (.lit (.bool false))) ?_
 refine rvc_nil ?_
 refine Awp.consP C ?_
 refine rvP C (.ptr 1 2) ?_
 refine rvP C (.pv (.lit (.bool c.write))) ?_
 refine rvP C (.pv (.lit (.bool (!c.write)))) ?_
 refine rvP C (.pv (.lit (.bool (!c.write)))) ?_
 refine rvc_case 6 (!c.write) rfl (fun h1 => ?_) (fun h1 => ?_)
 ·
  replace hR := of_true h1 hR
  refine rvO C (.ptr 1 12) ?_
  refine rvO C (.pv (.lit (.int .i64 c.mode))) ?_
  refine rvO C (.pv (.lit (.bool (c.mode == 2)))) ?_
  refine rvP C (.pv (.lit (.bool (c.mode == 2)))) ?_
  refine rvP C (.pv (.lit (.bool (c.mode == 2)))) ?_
  refine rvc_case 11 (c.mode == 2) rfl (fun h2 => ?_) (fun h2 => ?_)
  ·
   replace hR := of_true h2 hR
   refine rvO C (.agg [.pv (.lit (.int .i64 c.client)), .pv (.lit (.int .i64 c.seq)), .pv (.lit (.bool c.write)), .pv (.lit (.int .u8 (c.key 0))), .pv (.lit (.int .u8 (c.key 1))), .pv (.lit (.int .u8 (c.key 2))), .pv (.lit (.int .u8 (c.key 3))), .pv (.lit (.int .u8 (c.key 4))), .pv (.lit (.int .u8 (c.key 5))), .pv (.lit (.int .u8 (c.key 6))), .pv (.lit (.int .u8 (c.key 7))), .pv (.lit (.string c.value)), .pv (.lit (.int .i64 c.mode)), .pv (.lit (.int .i64 c.bound)), .pv (.lit (.int .i64 c.began)), .pv (.lit (.int .i64 c.ended)), .pv (.lit (.int .i64 c.ver)), .pv (.lit (.int .i64 c.err)), .pv (.lit (.int .i64 c.floor))]) ?_
   refine rvc_open rfl rfl rfl (rexec_call hP C rfl rfl rfl (jAnswered_calls c) ?_)
   refine rvP C (.pv (.lit (.bool (jAnswered c)))) ?_
   refine rvP C (.pv (.lit (.bool (jAnswered c)))) ?_
   refine rvc_case 15 (jAnswered c) rfl (fun h3 => ?_) (fun h3 => ?_)
   ·
    replace hR := of_true h3 hR
    refine rvO C (.ptr 1 16) ?_
    refine rvO C (.pv (.lit (.int .i64 c.ver))) ?_
    refine rvO C (.ptr 1 18) ?_
    refine rvO C (.pv (.lit (.int .i64 c.floor))) ?_
    refine rvO C (.pv (.lit (.bool (decide (c.ver < c.floor))))) ?_
    refine rvP C (.pv (.lit (.bool (decide (c.ver < c.floor))))) ?_
    refine rvP C (.pv (.lit (.bool (decide (c.ver < c.floor))))) ?_
    refine rvc_nil ?_
    refine Awp.ret ?_
    subst hR
    exact ⟨.inl rfl, rfl⟩
   ·
    replace hR := of_false h3 hR
    refine rvS ?_
    refine rvS ?_
    refine rvS ?_
    refine rvS ?_
    refine rvS ?_
    refine rvP C (.pv (.lit (.bool false))) ?_
    refine rvP C (.pv (.lit (.bool false))) ?_
    refine rvc_nil ?_
    refine Awp.ret ?_
    subst hR
    exact ⟨.inl rfl, rfl⟩
  ·
   replace hR := of_false h2 hR
   refine rvS ?_
   refine rvS ?_
   refine rvP C (.pv (.lit (.bool false))) ?_
   refine rvP C (.pv (.lit (.bool false))) ?_
   refine rvS ?_
   refine rvS ?_
   refine rvS ?_
   refine rvS ?_
   refine rvS ?_
   refine rvP C (.pv (.lit (.bool false))) ?_
   refine rvP C (.pv (.lit (.bool false))) ?_
   refine rvc_nil ?_
   refine Awp.ret ?_
   subst hR
   exact ⟨.inl rfl, rfl⟩
 ·
  replace hR := of_false h1 hR
  refine rvS ?_
  refine rvS ?_
  refine rvS ?_
  refine rvP C (.pv (.lit (.bool false))) ?_
  refine rvP C (.pv (.lit (.bool false))) ?_
  refine rvS ?_
  refine rvS ?_
  refine rvP C (.pv (.lit (.bool false))) ?_
  refine rvP C (.pv (.lit (.bool false))) ?_
  refine rvS ?_
  refine rvS ?_
  refine rvS ?_
  refine rvS ?_
  refine rvS ?_
  refine rvP C (.pv (.lit (.bool false))) ?_
  refine rvP C (.pv (.lit (.bool false))) ?_
  refine rvc_nil ?_
  refine Awp.ret ?_
  subst hR
  exact ⟨.inl rfl, rfl⟩
def rBounds_l1 (x : Call) (kk : Int → Bool) : List Call → Nat → Int → Bool
  | [], _, most => kk most
  | x1 :: x1s, i1, most => (bif x1.write then (bif (rAnswered x1) then (bif (((x1.key 0) == (x.key 0)) && (((x1.key 1) == (x.key 1)) && (((x1.key 2) == (x.key 2)) && (((x1.key 3) == (x.key 3)) && (((x1.key 4) == (x.key 4)) && (((x1.key 5) == (x.key 5)) && (((x1.key 6) == (x.key 6)) && (((x1.key 7) == (x.key 7)) && true)))))))) then (bif (decide (x1.ended < x.began)) then rBounds_l1 x kk x1s (i1 + 1) (bif (decide (most < x1.ver)) then x1.ver else most) else rBounds_l1 x kk x1s (i1 + 1) most) else rBounds_l1 x kk x1s (i1 + 1) most) else rBounds_l1 x kk x1s (i1 + 1) most) else rBounds_l1 x kk x1s (i1 + 1) most)
def rBounds_l0 (calls : (Sl Call)) : List Call → Nat → Bool
  | [], _ => true
  | x :: xs, i => (bif x.write then rBounds_l0 calls xs (i + 1)  else (bif (x.mode != 1) then rBounds_l0 calls xs (i + 1)  else (bif (!(rAnswered x)) then rBounds_l0 calls xs (i + 1)  else rBounds_l1 x (fun most => (bif (decide (most > x.ver)) then (bif (decide (x.bound < 0)) then false else (bif (decide (x.ver < 0)) then (bif (decide (most > (IntKind.i64.wrap (x.ver + x.bound)))) then false else (bif (decide (x.ver ≥ 0)) then (bif (decide ((IntKind.i64.wrap (most - x.ver)) > x.bound)) then false else rBounds_l0 calls xs (i + 1) ) else rBounds_l0 calls xs (i + 1) )) else (bif (decide (x.ver ≥ 0)) then (bif (decide ((IntKind.i64.wrap (most - x.ver)) > x.bound)) then false else rBounds_l0 calls xs (i + 1) ) else rBounds_l0 calls xs (i + 1) ))) else rBounds_l0 calls xs (i + 1) )) calls.D 0 0)))
def rBounds (calls : (Sl Call)) : Bool :=
  rBounds_l0 calls calls.D 0
theorem rBounds_calls (calls : (Sl Call)) (hl1 : calls.D.length ≤ 1000000) : PCalls Try.prog 13 [sS (some calls.nil) eCall calls.D] (.pv (.lit (.bool (rBounds calls)))) := by
 generalize hR : rBounds calls = R
 refine PCalls.of_body tabOk Try.func13 rfl rfl rfl rfl rfl mixed fun E hP C hI => ?_
 refine Awp.consP C ?_
 refine rvP C (.pv (.lit (.bool false))) ?_
 refine rvc_nil ?_
 refine Awp.seq ?_
 refine Awp.consP C ?_
 refine rvP C (sS (some calls.nil) eCall calls.D) ?_
 refine rvP C (.pv (.lit (.int .i64 (calls.D.length : Int)))) ?_
 refine rvP C (.pv (.lit (.int .i64 0))) ?_
 refine rvc_nil ?_
 refine Awp.block ?_
 refine Awp.forR (σ := Unit) (calls.D.length) (fun i _v => [(0, sS (some calls.nil) eCall calls.D), (8, sS (some calls.nil) eCall calls.D), (9, .pv (.lit (.int .i64 (calls.D.length : Int)))), (10, .pv (.lit (.int .i64 (i : Int))))]) (fun i _v => []) [] (fun i _v => rBounds_l0 calls (calls.D.drop i) i  = R) () ?_ ?_ (fun i _v h1 hR => ?_)
 · exact hR
 · exact ⟨fun b => b, WeakerR.ofL (Ks := []) hI ⟨⟨rfl, rfl⟩, ⟨rfl, rfl⟩, ⟨rfl, rfl⟩, ⟨rfl, rfl⟩, trivial⟩ (okH_nil) rfl⟩
 refine Awp.consP C ?_
 refine rvP C (.pv (.lit (.bool (decide ((i : Int) < (calls.D.length : Int)))))) ?_
 refine rvc_nil ?_
 refine Awp.seq ?_
 refine Awp.cond (b := (decide ((i : Int) < (calls.D.length : Int)))) rfl (fun h2 => ?_) (fun h2 => ?_)
 ·
  have h3 : i < calls.D.length := by have := of_decide_eq_true h2; omega
  obtain ⟨x, h4⟩ := getX h3
  rw [drop_at h4] at hR
  refine Awp.skip ?_
  refine Awp.seq ?_
  refine Awp.block ?_
  refine Awp.consP C ?_
  refine rvc_un (rexec_idxS C rfl rfl rfl rfl rfl rfl x (Int.natCast_nonneg _) h4 ?_)
  refine rvP C (.agg [.pv (.lit (.int .i64 x.client)), .pv (.lit (.int .i64 x.seq)), .pv (.lit (.bool x.write)), .pv (.lit (.int .u8 (x.key 0))), .pv (.lit (.int .u8 (x.key 1))), .pv (.lit (.int .u8 (x.key 2))), .pv (.lit (.int .u8 (x.key 3))), .pv (.lit (.int .u8 (x.key 4))), .pv (.lit (.int .u8 (x.key 5))), .pv (.lit (.int .u8 (x.key 6))), .pv (.lit (.int .u8 (x.key 7))), .pv (.lit (.string x.value)), .pv (.lit (.int .i64 x.mode)), .pv (.lit (.int .i64 x.bound)), .pv (.lit (.int .i64 x.began)), .pv (.lit (.int .i64 x.ended)), .pv (.lit (.int .i64 x.ver)), .pv (.lit (.int .i64 x.err)), .pv (.lit (.int .i64 x.floor))]) ?_
  refine rvc_un (rexec_prim C (δ := { v := .ptr 4 0, new := [(4, .cells [.pv (.lit (.int .i64 0)), .pv (.lit (.int .i64 0)), .pv (.lit (.bool false)), .pv (.lit (.int .u8 0)), .pv (.lit (.int .u8 0)), .pv (.lit (.int .u8 0)), .pv (.lit (.int .u8 0)), .pv (.lit (.int .u8 0)), .pv (.lit (.int .u8 0)), .pv (.lit (.int .u8 0)), .pv (.lit (.int .u8 0)), .pv (.lit (.string ⟨#[]⟩)), .pv (.lit (.int .i64 0)), .pv (.lit (.int .i64 0)), .pv (.lit (.int .i64 0)), .pv (.lit (.int .i64 0)), .pv (.lit (.int .i64 0)), .pv (.lit (.int .i64 0)), .pv (.lit (.int .i64 0))])] }) rfl rfl rfl rfl trivial rfl ?_)
  refine rvc_un (rexec_prim C (δ := { v := .undef, wr := [(4, some (.cells [.pv (.lit (.int .i64 x.client)), .pv (.lit (.int .i64 x.seq)), .pv (.lit (.bool x.write)), .pv (.lit (.int .u8 (x.key 0))), .pv (.lit (.int .u8 (x.key 1))), .pv (.lit (.int .u8 (x.key 2))), .pv (.lit (.int .u8 (x.key 3))), .pv (.lit (.int .u8 (x.key 4))), .pv (.lit (.int .u8 (x.key 5))), .pv (.lit (.int .u8 (x.key 6))), .pv (.lit (.int .u8 (x.key 7))), .pv (.lit (.string x.value)), .pv (.lit (.int .i64 x.mode)), .pv (.lit (.int .i64 x.bound)), .pv (.lit (.int .i64 x.began)), .pv (.lit (.int .i64 x.ended)), .pv (.lit (.int .i64 x.ver)), .pv (.lit (.int .i64 x.err)), .pv (.lit (.int .i64 x.floor))]))] }) rfl rfl rfl rfl trivial rfl ?_)
  refine rvc_nil ?_
  refine Awp.seq ?_
  refine Awp.consP C ?_
  refine rvP C (.ptr 4 2) ?_
  refine rvP C (.pv (.lit (.bool x.write))) ?_
  refine rvP C (.pv (.lit (.bool x.write))) ?_
  refine rvc_case 16 x.write rfl (fun h5 => ?_) (fun h5 => ?_)
  ·
   replace hR := of_true h5 hR
   refine rvS ?_
   refine rvS ?_
   refine rvS ?_
   refine rvP C (.pv (.lit (.bool true))) ?_
   refine rvP C (.pv (.lit (.bool true))) ?_
   refine rvS ?_
   refine rvS ?_
   refine rvS ?_
   refine rvP C (.pv (.lit (.bool true))) ?_
   refine rvc_nil ?_
   refine Awp.condT (b := true) rfl rfl ?_
   refine Awp.exit ?_
   refine Awp.regionP C ?_
   refine rvP C (.pv (.lit (.int .i64 (IntKind.i64.wrap ((i : Int) + 1))))) ?_
   refine rvP C (.pv (.lit (.int .i64 (IntKind.i64.wrap ((i : Int) + 1))))) ?_
   refine rvc_nil ?_
   refine ⟨h3, (), ?_, ?_⟩
   · exact hR
   · exact ⟨fun b => b, WeakerR.ofL (Ks := []) hI ⟨⟨rfl, rfl⟩, ⟨rfl, rfl⟩, ⟨rfl, rfl⟩, ⟨lit_cast (wrap_i64 (by omega) (by omega)), rfl⟩, trivial⟩ (okH_nil) rfl⟩
  ·
   replace hR := of_false h5 hR
   refine rvO C (.ptr 4 12) ?_
   refine rvO C (.pv (.lit (.int .i64 x.mode))) ?_
   refine rvO C (.pv (.lit (.bool (x.mode != 1)))) ?_
   refine rvP C (.pv (.lit (.bool (x.mode != 1)))) ?_
   refine rvP C (.pv (.lit (.bool (x.mode != 1)))) ?_
   refine rvc_case 21 (x.mode != 1) rfl (fun h6 => ?_) (fun h6 => ?_)
   ·
    replace hR := of_true h6 hR
    refine rvS ?_
    refine rvS ?_
    refine rvS ?_
    refine rvP C (.pv (.lit (.bool true))) ?_
    refine rvc_nil ?_
    refine Awp.condT (b := true) rfl rfl ?_
    refine Awp.exit ?_
    refine Awp.regionP C ?_
    refine rvP C (.pv (.lit (.int .i64 (IntKind.i64.wrap ((i : Int) + 1))))) ?_
    refine rvP C (.pv (.lit (.int .i64 (IntKind.i64.wrap ((i : Int) + 1))))) ?_
    refine rvc_nil ?_
    refine ⟨h3, (), ?_, ?_⟩
    · exact hR
    · exact ⟨fun b => b, WeakerR.ofL (Ks := []) hI ⟨⟨rfl, rfl⟩, ⟨rfl, rfl⟩, ⟨rfl, rfl⟩, ⟨lit_cast (wrap_i64 (by omega) (by omega)), rfl⟩, trivial⟩ (okH_nil) rfl⟩
   ·
    replace hR := of_false h6 hR
    refine rvO C (.agg [.pv (.lit (.int .i64 x.client)), .pv (.lit (.int .i64 x.seq)), .pv (.lit (.bool x.write)), .pv (.lit (.int .u8 (x.key 0))), .pv (.lit (.int .u8 (x.key 1))), .pv (.lit (.int .u8 (x.key 2))), .pv (.lit (.int .u8 (x.key 3))), .pv (.lit (.int .u8 (x.key 4))), .pv (.lit (.int .u8 (x.key 5))), .pv (.lit (.int .u8 (x.key 6))), .pv (.lit (.int .u8 (x.key 7))), .pv (.lit (.string x.value)), .pv (.lit (.int .i64 x.mode)), .pv (.lit (.int .i64 x.bound)), .pv (.lit (.int .i64 x.began)), .pv (.lit (.int .i64 x.ended)), .pv (.lit (.int .i64 x.ver)), .pv (.lit (.int .i64 x.err)), .pv (.lit (.int .i64 x.floor))]) ?_
    refine rvc_open rfl rfl rfl (rexec_call hP C rfl rfl rfl (rAnswered_calls x) ?_)
    refine rvO C (.pv (.lit (.bool (!(rAnswered x))))) ?_
    refine rvP C (.pv (.lit (.bool (!(rAnswered x))))) ?_
    refine rvc_nil ?_
    refine Awp.cond (b := (!(rAnswered x))) rfl (fun h7 => ?_) (fun h7 => ?_)
    ·
     replace hR := of_true h7 hR
     refine Awp.exit ?_
     refine Awp.regionP C ?_
     refine rvP C (.pv (.lit (.int .i64 (IntKind.i64.wrap ((i : Int) + 1))))) ?_
     refine rvP C (.pv (.lit (.int .i64 (IntKind.i64.wrap ((i : Int) + 1))))) ?_
     refine rvc_nil ?_
     refine ⟨h3, (), ?_, ?_⟩
     · exact hR
     · exact ⟨fun b => b, WeakerR.ofL (Ks := []) hI ⟨⟨rfl, rfl⟩, ⟨rfl, rfl⟩, ⟨rfl, rfl⟩, ⟨lit_cast (wrap_i64 (by omega) (by omega)), rfl⟩, trivial⟩ (okH_nil) rfl⟩
    ·
     replace hR := of_false h7 hR
     refine Awp.skip ?_
     refine Awp.consP C ?_
     refine rvP C (.pv (.lit (.int .i64 0))) ?_
     refine rvc_nil ?_
     refine Awp.seq ?_
     refine Awp.consP C ?_
     refine rvP C (sS (some calls.nil) eCall calls.D) ?_
     refine rvP C (.pv (.lit (.int .i64 (calls.D.length : Int)))) ?_
     refine rvP C (.pv (.lit (.int .i64 0))) ?_
     refine rvc_nil ?_
     refine Awp.block ?_
     refine Awp.forR (σ := Int) (calls.D.length) (fun i1 v => [(0, sS (some calls.nil) eCall calls.D), (4, .ptr 4 0), (5, .pv (.lit (.int .i64 v))), (8, sS (some calls.nil) eCall calls.D), (9, .pv (.lit (.int .i64 (calls.D.length : Int)))), (10, .pv (.lit (.int .i64 (i : Int)))), (17, .ptr 4 12), (18, .pv (.lit (.int .i64 x.mode))), (19, .pv (.lit (.bool (x.mode != 1)))), (22, .agg [.pv (.lit (.int .i64 x.client)), .pv (.lit (.int .i64 x.seq)), .pv (.lit (.bool x.write)), .pv (.lit (.int .u8 (x.key 0))), .pv (.lit (.int .u8 (x.key 1))), .pv (.lit (.int .u8 (x.key 2))), .pv (.lit (.int .u8 (x.key 3))), .pv (.lit (.int .u8 (x.key 4))), .pv (.lit (.int .u8 (x.key 5))), .pv (.lit (.int .u8 (x.key 6))), .pv (.lit (.int .u8 (x.key 7))), .pv (.lit (.string x.value)), .pv (.lit (.int .i64 x.mode)), .pv (.lit (.int .i64 x.bound)), .pv (.lit (.int .i64 x.began)), .pv (.lit (.int .i64 x.ended)), .pv (.lit (.int .i64 x.ver)), .pv (.lit (.int .i64 x.err)), .pv (.lit (.int .i64 x.floor))]), (23, .pv (.lit (.bool (rAnswered x)))), (24, .pv (.lit (.bool (!(rAnswered x))))), (26, sS (some calls.nil) eCall calls.D), (27, .pv (.lit (.int .i64 (calls.D.length : Int)))), (28, .pv (.lit (.int .i64 (i1 : Int))))]) (fun i1 v => [(4, .cells [.pv (.lit (.int .i64 x.client)), .pv (.lit (.int .i64 x.seq)), .pv (.lit (.bool x.write)), .pv (.lit (.int .u8 (x.key 0))), .pv (.lit (.int .u8 (x.key 1))), .pv (.lit (.int .u8 (x.key 2))), .pv (.lit (.int .u8 (x.key 3))), .pv (.lit (.int .u8 (x.key 4))), .pv (.lit (.int .u8 (x.key 5))), .pv (.lit (.int .u8 (x.key 6))), .pv (.lit (.int .u8 (x.key 7))), .pv (.lit (.string x.value)), .pv (.lit (.int .i64 x.mode)), .pv (.lit (.int .i64 x.bound)), .pv (.lit (.int .i64 x.began)), .pv (.lit (.int .i64 x.ended)), .pv (.lit (.int .i64 x.ver)), .pv (.lit (.int .i64 x.err)), .pv (.lit (.int .i64 x.floor))])]) [4] (fun i1 v => rBounds_l1 x (fun most => (bif (decide (most > x.ver)) then (bif (decide (x.bound < 0)) then false else (bif (decide (x.ver < 0)) then (bif (decide (most > (IntKind.i64.wrap (x.ver + x.bound)))) then false else (bif (decide (x.ver ≥ 0)) then (bif (decide ((IntKind.i64.wrap (most - x.ver)) > x.bound)) then false else rBounds_l0 calls (calls.D.drop (i + 1)) (i + 1) ) else rBounds_l0 calls (calls.D.drop (i + 1)) (i + 1) )) else (bif (decide (x.ver ≥ 0)) then (bif (decide ((IntKind.i64.wrap (most - x.ver)) > x.bound)) then false else rBounds_l0 calls (calls.D.drop (i + 1)) (i + 1) ) else rBounds_l0 calls (calls.D.drop (i + 1)) (i + 1) ))) else rBounds_l0 calls (calls.D.drop (i + 1)) (i + 1) )) (calls.D.drop i1) i1 v = R) 0 ?_ ?_ (fun i1 most h8 hR => ?_)
     · exact hR
     · exact ⟨fun b => b, WeakerR.ofL (Ks := [4]) hI ⟨⟨rfl, rfl⟩, ⟨rfl, rfl⟩, ⟨rfl, rfl⟩, ⟨rfl, rfl⟩, ⟨rfl, rfl⟩, ⟨rfl, rfl⟩, ⟨rfl, rfl⟩, ⟨rfl, rfl⟩, ⟨rfl, rfl⟩, ⟨rfl, rfl⟩, ⟨rfl, rfl⟩, ⟨rfl, rfl⟩, ⟨rfl, rfl⟩, ⟨rfl, rfl⟩, ⟨rfl, rfl⟩, trivial⟩ (okH_cons rfl rfl rfl rfl (okH_nil)) rfl⟩
     refine Awp.consP C ?_
     refine rvP C (.pv (.lit (.bool (decide ((i1 : Int) < (calls.D.length : Int)))))) ?_
     refine rvc_nil ?_
     refine Awp.seq ?_
     refine Awp.cond (b := (decide ((i1 : Int) < (calls.D.length : Int)))) rfl (fun h9 => ?_) (fun h9 => ?_)
     ·
      have h10 : i1 < calls.D.length := by have := of_decide_eq_true h9; omega
      obtain ⟨x1, h11⟩ := getX h10
      rw [drop_at h11] at hR
      refine Awp.skip ?_
      refine Awp.seq ?_
      refine Awp.block ?_
      refine Awp.consP C ?_
      refine rvc_un (rexec_idxS C rfl rfl rfl rfl rfl rfl x1 (Int.natCast_nonneg _) h11 ?_)
      refine rvP C (.agg [.pv (.lit (.int .i64 x1.client)), .pv (.lit (.int .i64 x1.seq)), .pv (.lit (.bool x1.write)), .pv (.lit (.int .u8 (x1.key 0))), .pv (.lit (.int .u8 (x1.key 1))), .pv (.lit (.int .u8 (x1.key 2))), .pv (.lit (.int .u8 (x1.key 3))), .pv (.lit (.int .u8 (x1.key 4))), .pv (.lit (.int .u8 (x1.key 5))), .pv (.lit (.int .u8 (x1.key 6))), .pv (.lit (.int .u8 (x1.key 7))), .pv (.lit (.string x1.value)), .pv (.lit (.int .i64 x1.mode)), .pv (.lit (.int .i64 x1.bound)), .pv (.lit (.int .i64 x1.began)), .pv (.lit (.int .i64 x1.ended)), .pv (.lit (.int .i64 x1.ver)), .pv (.lit (.int .i64 x1.err)), .pv (.lit (.int .i64 x1.floor))]) ?_
      refine rvc_un (rexec_prim C (δ := { v := .ptr 7 0, new := [(7, .cells [.pv (.lit (.int .i64 0)), .pv (.lit (.int .i64 0)), .pv (.lit (.bool false)), .pv (.lit (.int .u8 0)), .pv (.lit (.int .u8 0)), .pv (.lit (.int .u8 0)), .pv (.lit (.int .u8 0)), .pv (.lit (.int .u8 0)), .pv (.lit (.int .u8 0)), .pv (.lit (.int .u8 0)), .pv (.lit (.int .u8 0)), .pv (.lit (.string ⟨#[]⟩)), .pv (.lit (.int .i64 0)), .pv (.lit (.int .i64 0)), .pv (.lit (.int .i64 0)), .pv (.lit (.int .i64 0)), .pv (.lit (.int .i64 0)), .pv (.lit (.int .i64 0)), .pv (.lit (.int .i64 0))])] }) rfl rfl rfl rfl trivial rfl ?_)
      refine rvc_un (rexec_prim C (δ := { v := .undef, wr := [(7, some (.cells [.pv (.lit (.int .i64 x1.client)), .pv (.lit (.int .i64 x1.seq)), .pv (.lit (.bool x1.write)), .pv (.lit (.int .u8 (x1.key 0))), .pv (.lit (.int .u8 (x1.key 1))), .pv (.lit (.int .u8 (x1.key 2))), .pv (.lit (.int .u8 (x1.key 3))), .pv (.lit (.int .u8 (x1.key 4))), .pv (.lit (.int .u8 (x1.key 5))), .pv (.lit (.int .u8 (x1.key 6))), .pv (.lit (.int .u8 (x1.key 7))), .pv (.lit (.string x1.value)), .pv (.lit (.int .i64 x1.mode)), .pv (.lit (.int .i64 x1.bound)), .pv (.lit (.int .i64 x1.began)), .pv (.lit (.int .i64 x1.ended)), .pv (.lit (.int .i64 x1.ver)), .pv (.lit (.int .i64 x1.err)), .pv (.lit (.int .i64 x1.floor))]))] }) rfl rfl rfl rfl trivial rfl ?_)
      refine rvc_nil ?_
      refine Awp.consP C ?_
      refine rvP C (.ptr 7 2) ?_
      refine rvP C (.pv (.lit (.bool x1.write))) ?_
      refine rvP C (.pv (.lit (.bool x1.write))) ?_
      refine rvc_case 34 x1.write rfl (fun h12 => ?_) (fun h12 => ?_)
      ·
       replace hR := of_true h12 hR
       refine rvO C (.agg [.pv (.lit (.int .i64 x1.client)), .pv (.lit (.int .i64 x1.seq)), .pv (.lit (.bool x1.write)), .pv (.lit (.int .u8 (x1.key 0))), .pv (.lit (.int .u8 (x1.key 1))), .pv (.lit (.int .u8 (x1.key 2))), .pv (.lit (.int .u8 (x1.key 3))), .pv (.lit (.int .u8 (x1.key 4))), .pv (.lit (.int .u8 (x1.key 5))), .pv (.lit (.int .u8 (x1.key 6))), .pv (.lit (.int .u8 (x1.key 7))), .pv (.lit (.string x1.value)), .pv (.lit (.int .i64 x1.mode)), .pv (.lit (.int .i64 x1.bound)), .pv (.lit (.int .i64 x1.began)), .pv (.lit (.int .i64 x1.ended)), .pv (.lit (.int .i64 x1.ver)), .pv (.lit (.int .i64 x1.err)), .pv (.lit (.int .i64 x1.floor))]) ?_
       refine rvc_open rfl rfl rfl (rexec_call hP C rfl rfl rfl (rAnswered_calls x1) ?_)
       refine rvP C (.pv (.lit (.bool (rAnswered x1)))) ?_
       refine rvP C (.pv (.lit (.bool (rAnswered x1)))) ?_
       refine rvc_case 38 (rAnswered x1) rfl (fun h13 => ?_) (fun h13 => ?_)
       ·
        replace hR := of_true h13 hR
        refine rvO C (.ptr 7 3) ?_
        refine rvO C (.agg [.pv (.lit (.int .u8 (x1.key 0))), .pv (.lit (.int .u8 (x1.key 1))), .pv (.lit (.int .u8 (x1.key 2))), .pv (.lit (.int .u8 (x1.key 3))), .pv (.lit (.int .u8 (x1.key 4))), .pv (.lit (.int .u8 (x1.key 5))), .pv (.lit (.int .u8 (x1.key 6))), .pv (.lit (.int .u8 (x1.key 7)))]) ?_
        refine rvO C (.ptr 4 3) ?_
        refine rvO C (.agg [.pv (.lit (.int .u8 (x.key 0))), .pv (.lit (.int .u8 (x.key 1))), .pv (.lit (.int .u8 (x.key 2))), .pv (.lit (.int .u8 (x.key 3))), .pv (.lit (.int .u8 (x.key 4))), .pv (.lit (.int .u8 (x.key 5))), .pv (.lit (.int .u8 (x.key 6))), .pv (.lit (.int .u8 (x.key 7)))]) ?_
        refine rvO C (.pv (.lit (.bool (((x1.key 0) == (x.key 0)) && (((x1.key 1) == (x.key 1)) && (((x1.key 2) == (x.key 2)) && (((x1.key 3) == (x.key 3)) && (((x1.key 4) == (x.key 4)) && (((x1.key 5) == (x.key 5)) && (((x1.key 6) == (x.key 6)) && (((x1.key 7) == (x.key 7)) && true))))))))))) ?_
        refine rvP C (.pv (.lit (.bool (((x1.key 0) == (x.key 0)) && (((x1.key 1) == (x.key 1)) && (((x1.key 2) == (x.key 2)) && (((x1.key 3) == (x.key 3)) && (((x1.key 4) == (x.key 4)) && (((x1.key 5) == (x.key 5)) && (((x1.key 6) == (x.key 6)) && (((x1.key 7) == (x.key 7)) && true))))))))))) ?_
        refine rvP C (.pv (.lit (.bool (((x1.key 0) == (x.key 0)) && (((x1.key 1) == (x.key 1)) && (((x1.key 2) == (x.key 2)) && (((x1.key 3) == (x.key 3)) && (((x1.key 4) == (x.key 4)) && (((x1.key 5) == (x.key 5)) && (((x1.key 6) == (x.key 6)) && (((x1.key 7) == (x.key 7)) && true))))))))))) ?_
        refine rvc_case 45 (((x1.key 0) == (x.key 0)) && (((x1.key 1) == (x.key 1)) && (((x1.key 2) == (x.key 2)) && (((x1.key 3) == (x.key 3)) && (((x1.key 4) == (x.key 4)) && (((x1.key 5) == (x.key 5)) && (((x1.key 6) == (x.key 6)) && (((x1.key 7) == (x.key 7)) && true)))))))) rfl (fun h14 => ?_) (fun h14 => ?_)
        ·
         replace hR := of_true h14 hR
         refine rvO C (.ptr 7 15) ?_
         refine rvO C (.pv (.lit (.int .i64 x1.ended))) ?_
         refine rvO C (.ptr 4 14) ?_
         refine rvO C (.pv (.lit (.int .i64 x.began))) ?_
         refine rvO C (.pv (.lit (.bool (decide (x1.ended < x.began))))) ?_
         refine rvP C (.pv (.lit (.bool (decide (x1.ended < x.began))))) ?_
         refine rvc_nil ?_
         refine Awp.cond (b := (decide (x1.ended < x.began))) rfl (fun h15 => ?_) (fun h15 => ?_)
         ·
          replace hR := of_true h15 hR
          refine Awp.regionP C ?_
          refine rvP C (.pv (.lit (.int .i64 most))) ?_
          refine rvP C (.ptr 7 16) ?_
          refine rvP C (.pv (.lit (.int .i64 x1.ver))) ?_
          refine rvc_un (rexec_max C rfl rfl rfl ?_)
          refine rvP C (.pv (.lit (.int .i64 (bif (decide (most < x1.ver)) then x1.ver else most)))) ?_
          refine rvc_nil ?_
          refine Awp.regionP C ?_
          refine rvP C (.pv (.lit (.int .i64 (IntKind.i64.wrap ((i1 : Int) + 1))))) ?_
          refine rvP C (.pv (.lit (.int .i64 (IntKind.i64.wrap ((i1 : Int) + 1))))) ?_
          refine rvc_nil ?_
          refine ⟨h10, (bif (decide (most < x1.ver)) then x1.ver else most), ?_, ?_⟩
          · exact hR
          · exact ⟨fun b => b, WeakerR.ofL (Ks := [4]) hI ⟨⟨rfl, rfl⟩, ⟨rfl, rfl⟩, ⟨rfl, rfl⟩, ⟨rfl, rfl⟩, ⟨rfl, rfl⟩, ⟨rfl, rfl⟩, ⟨rfl, rfl⟩, ⟨rfl, rfl⟩, ⟨rfl, rfl⟩, ⟨rfl, rfl⟩, ⟨rfl, rfl⟩, ⟨rfl, rfl⟩, ⟨rfl, rfl⟩, ⟨rfl, rfl⟩, ⟨lit_cast (wrap_i64 (by omega) (by omega)), rfl⟩, trivial⟩ (okH_cons rfl rfl rfl rfl (okH_nil)) rfl⟩
         ·
          replace hR := of_false h15 hR
          refine Awp.skip ?_
          refine Awp.regionP C ?_
          refine rvP C (.pv (.lit (.int .i64 (IntKind.i64.wrap ((i1 : Int) + 1))))) ?_
          refine rvP C (.pv (.lit (.int .i64 (IntKind.i64.wrap ((i1 : Int) + 1))))) ?_
          refine rvc_nil ?_
          refine ⟨h10, most, ?_, ?_⟩
          · exact hR
          · exact ⟨fun b => b, WeakerR.ofL (Ks := [4]) hI ⟨⟨rfl, rfl⟩, ⟨rfl, rfl⟩, ⟨rfl, rfl⟩, ⟨rfl, rfl⟩, ⟨rfl, rfl⟩, ⟨rfl, rfl⟩, ⟨rfl, rfl⟩, ⟨rfl, rfl⟩, ⟨rfl, rfl⟩, ⟨rfl, rfl⟩, ⟨rfl, rfl⟩, ⟨rfl, rfl⟩, ⟨rfl, rfl⟩, ⟨rfl, rfl⟩, ⟨lit_cast (wrap_i64 (by omega) (by omega)), rfl⟩, trivial⟩ (okH_cons rfl rfl rfl rfl (okH_nil)) rfl⟩
        ·
         replace hR := of_false h14 hR
         refine rvS ?_
         refine rvS ?_
         refine rvS ?_
         refine rvS ?_
         refine rvS ?_
         refine rvP C (.pv (.lit (.bool false))) ?_
         refine rvc_nil ?_
         refine Awp.condF (b := false) rfl rfl ?_
         refine Awp.skip ?_
         refine Awp.regionP C ?_
         refine rvP C (.pv (.lit (.int .i64 (IntKind.i64.wrap ((i1 : Int) + 1))))) ?_
         refine rvP C (.pv (.lit (.int .i64 (IntKind.i64.wrap ((i1 : Int) + 1))))) ?_
         refine rvc_nil ?_
         refine ⟨h10, most, ?_, ?_⟩
         · exact hR
         · exact ⟨fun b => b, WeakerR.ofL (Ks := [4]) hI ⟨⟨rfl, rfl⟩, ⟨rfl, rfl⟩, ⟨rfl, rfl⟩, ⟨rfl, rfl⟩, ⟨rfl, rfl⟩, ⟨rfl, rfl⟩, ⟨rfl, rfl⟩, ⟨rfl, rfl⟩, ⟨rfl, rfl⟩, ⟨rfl, rfl⟩, ⟨rfl, rfl⟩, ⟨rfl, rfl⟩, ⟨rfl, rfl⟩, ⟨rfl, rfl⟩, ⟨lit_cast (wrap_i64 (by omega) (by omega)), rfl⟩, trivial⟩ (okH_cons rfl rfl rfl rfl (okH_nil)) rfl⟩
       ·
        replace hR := of_false h13 hR
        refine rvS ?_
        refine rvS ?_
        refine rvS ?_
        refine rvS ?_
        refine rvS ?_
        refine rvP C (.pv (.lit (.bool false))) ?_
        refine rvP C (.pv (.lit (.bool false))) ?_
        refine rvS ?_
        refine rvS ?_
        refine rvS ?_
        refine rvS ?_
        refine rvS ?_
        refine rvP C (.pv (.lit (.bool false))) ?_
        refine rvc_nil ?_
        refine Awp.condF (b := false) rfl rfl ?_
        refine Awp.skip ?_
        refine Awp.regionP C ?_
        refine rvP C (.pv (.lit (.int .i64 (IntKind.i64.wrap ((i1 : Int) + 1))))) ?_
        refine rvP C (.pv (.lit (.int .i64 (IntKind.i64.wrap ((i1 : Int) + 1))))) ?_
        refine rvc_nil ?_
        refine ⟨h10, most, ?_, ?_⟩
        · exact hR
        · exact ⟨fun b => b, WeakerR.ofL (Ks := [4]) hI ⟨⟨rfl, rfl⟩, ⟨rfl, rfl⟩, ⟨rfl, rfl⟩, ⟨rfl, rfl⟩, ⟨rfl, rfl⟩, ⟨rfl, rfl⟩, ⟨rfl, rfl⟩, ⟨rfl, rfl⟩, ⟨rfl, rfl⟩, ⟨rfl, rfl⟩, ⟨rfl, rfl⟩, ⟨rfl, rfl⟩, ⟨rfl, rfl⟩, ⟨rfl, rfl⟩, ⟨lit_cast (wrap_i64 (by omega) (by omega)), rfl⟩, trivial⟩ (okH_cons rfl rfl rfl rfl (okH_nil)) rfl⟩
      ·
       replace hR := of_false h12 hR
       refine rvS ?_
       refine rvS ?_
       refine rvP C (.pv (.lit (.bool false))) ?_
       refine rvP C (.pv (.lit (.bool false))) ?_
       refine rvS ?_
       refine rvS ?_
       refine rvS ?_
       refine rvS ?_
       refine rvS ?_
       refine rvP C (.pv (.lit (.bool false))) ?_
       refine rvP C (.pv (.lit (.bool false))) ?_
       refine rvS ?_
       refine rvS ?_
       refine rvS ?_
       refine rvS ?_
       refine rvS ?_
       refine rvP C (.pv (.lit (.bool false))) ?_
       refine rvc_nil ?_
       refine Awp.condF (b := false) rfl rfl ?_
       refine Awp.skip ?_
       refine Awp.regionP C ?_
       refine rvP C (.pv (.lit (.int .i64 (IntKind.i64.wrap ((i1 : Int) + 1))))) ?_
       refine rvP C (.pv (.lit (.int .i64 (IntKind.i64.wrap ((i1 : Int) + 1))))) ?_
       refine rvc_nil ?_
       refine ⟨h10, most, ?_, ?_⟩
       · exact hR
       · exact ⟨fun b => b, WeakerR.ofL (Ks := [4]) hI ⟨⟨rfl, rfl⟩, ⟨rfl, rfl⟩, ⟨rfl, rfl⟩, ⟨rfl, rfl⟩, ⟨rfl, rfl⟩, ⟨rfl, rfl⟩, ⟨rfl, rfl⟩, ⟨rfl, rfl⟩, ⟨rfl, rfl⟩, ⟨rfl, rfl⟩, ⟨rfl, rfl⟩, ⟨rfl, rfl⟩, ⟨rfl, rfl⟩, ⟨rfl, rfl⟩, ⟨lit_cast (wrap_i64 (by omega) (by omega)), rfl⟩, trivial⟩ (okH_cons rfl rfl rfl rfl (okH_nil)) rfl⟩
     ·
      have h10 : ¬ i1 < calls.D.length := by have := of_decide_eq_false h9; omega
      rw [drop_end h10] at hR
      refine Awp.exit ?_
      refine Awp.consP C ?_
      refine rvP C (.pv (.lit (.int .i64 most))) ?_
      refine rvP C (.ptr 4 16) ?_
      refine rvP C (.pv (.lit (.int .i64 x.ver))) ?_
      refine rvP C (.pv (.lit (.bool (decide (most > x.ver))))) ?_
      refine rvP C (.pv (.lit (.bool (decide (most > x.ver))))) ?_
      refine rvc_case 61 (decide (most > x.ver)) rfl (fun h16 => ?_) (fun h16 => ?_)
      ·
       replace hR := of_true h16 hR
       refine rvO C (.ptr 4 13) ?_
       refine rvO C (.pv (.lit (.int .i64 x.bound))) ?_
       refine rvO C (.pv (.lit (.bool (decide (x.bound < 0))))) ?_
       refine rvO C (.pv (.lit (.bool (decide (x.bound < 0))))) ?_
       refine rvc_case 65 (decide (x.bound < 0)) rfl (fun h17 => ?_) (fun h17 => ?_)
       ·
        replace hR := of_true h17 hR
        refine rvS ?_
        refine rvS ?_
        refine rvS ?_
        refine rvS ?_
        refine rvc_shutU rfl rfl rfl ?_
        refine rvc_shutU rfl rfl rfl ?_
        refine rvc_shutU rfl rfl rfl ?_
        refine rvc_shutU rfl rfl rfl ?_
        refine rvc_shutU rfl rfl rfl ?_
        refine rvc_shutU rfl rfl rfl ?_
        refine rvc_shutU rfl rfl rfl ?_
        refine rvS ?_
        refine rvO C (.pv (.lit (.bool true))) ?_
        refine rvO C (.pv (.lit (.bool true))) ?_
        refine rvS ?_
        refine rvS ?_
        refine rvS ?_
        refine rvS ?_
        refine rvc_shutU rfl rfl rfl ?_
        refine rvc_shutU rfl rfl rfl ?_
        refine rvc_shutU rfl rfl rfl ?_
        refine rvc_shutU rfl rfl rfl ?_
        refine rvc_shutU rfl rfl rfl ?_
        refine rvc_shutU rfl rfl rfl ?_
        refine rvc_shutU rfl rfl rfl ?_
        refine rvS ?_
        refine rvO C (.pv (.lit (.bool true))) ?_
        refine rvP C (.pv (.lit (.bool true))) ?_
        refine rvc_nil ?_
        refine Awp.condT (b := true) rfl rfl ?_
        refine Awp.consP C ?_
        refine rvP C (.pv (.lit (.bool false))) ?_
        refine rvc_nil ?_
        refine Awp.ret ?_
        subst hR
        exact ⟨.inl rfl, rfl⟩
       ·
        replace hR := of_false h17 hR
        refine rvO C (.ptr 4 16) ?_
        refine rvO C (.pv (.lit (.int .i64 x.ver))) ?_
        refine rvO C (.pv (.lit (.bool (decide (x.ver < 0))))) ?_
        refine rvO C (.pv (.lit (.bool (decide (x.ver < 0))))) ?_
        refine rvc_case 69 (decide (x.ver < 0)) rfl (fun h18 => ?_) (fun h18 => ?_)
        ·
         replace hR := of_true h18 hR
         refine rvO C (.pv (.lit (.int .i64 most))) ?_
         refine rvO C (.ptr 4 16) ?_
         refine rvO C (.pv (.lit (.int .i64 x.ver))) ?_
         refine rvO C (.ptr 4 13) ?_
         refine rvO C (.pv (.lit (.int .i64 x.bound))) ?_
         refine rvO C (.pv (.lit (.int .i64 (IntKind.i64.wrap (x.ver + x.bound))))) ?_
         refine rvO C (.pv (.lit (.bool (decide (most > (IntKind.i64.wrap (x.ver + x.bound))))))) ?_
         refine rvO C (.pv (.lit (.bool (decide (most > (IntKind.i64.wrap (x.ver + x.bound))))))) ?_
         refine rvO C (.pv (.lit (.bool (decide (most > (IntKind.i64.wrap (x.ver + x.bound))))))) ?_
         refine rvO C (.pv (.lit (.bool (decide (most > (IntKind.i64.wrap (x.ver + x.bound))))))) ?_
         refine rvc_case 79 (decide (most > (IntKind.i64.wrap (x.ver + x.bound)))) rfl (fun h19 => ?_) (fun h19 => ?_)
         ·
          replace hR := of_true h19 hR
          refine rvS ?_
          refine rvS ?_
          refine rvS ?_
          refine rvS ?_
          refine rvc_shutU rfl rfl rfl ?_
          refine rvc_shutU rfl rfl rfl ?_
          refine rvc_shutU rfl rfl rfl ?_
          refine rvc_shutU rfl rfl rfl ?_
          refine rvc_shutU rfl rfl rfl ?_
          refine rvc_shutU rfl rfl rfl ?_
          refine rvc_shutU rfl rfl rfl ?_
          refine rvS ?_
          refine rvO C (.pv (.lit (.bool true))) ?_
          refine rvP C (.pv (.lit (.bool true))) ?_
          refine rvc_nil ?_
          refine Awp.condT (b := true) rfl rfl ?_
          refine Awp.consP C ?_
          refine rvP C (.pv (.lit (.bool false))) ?_
          refine rvc_nil ?_
          refine Awp.ret ?_
          subst hR
          exact ⟨.inl rfl, rfl⟩
         ·
          replace hR := of_false h19 hR
          refine rvO C (.ptr 4 16) ?_
          refine rvO C (.pv (.lit (.int .i64 x.ver))) ?_
          refine rvO C (.pv (.lit (.bool (decide (x.ver ≥ 0))))) ?_
          refine rvO C (.pv (.lit (.bool (decide (x.ver ≥ 0))))) ?_
          refine rvc_case 83 (decide (x.ver ≥ 0)) rfl (fun h20 => ?_) (fun h20 => ?_)
          ·
           replace hR := of_true h20 hR
           refine rvO C (.pv (.lit (.int .i64 most))) ?_
           refine rvO C (.ptr 4 16) ?_
           refine rvO C (.pv (.lit (.int .i64 x.ver))) ?_
           refine rvO C (.pv (.lit (.int .i64 (IntKind.i64.wrap (most - x.ver))))) ?_
           refine rvO C (.ptr 4 13) ?_
           refine rvO C (.pv (.lit (.int .i64 x.bound))) ?_
           refine rvO C (.pv (.lit (.bool (decide ((IntKind.i64.wrap (most - x.ver)) > x.bound))))) ?_
           refine rvO C (.pv (.lit (.bool (decide ((IntKind.i64.wrap (most - x.ver)) > x.bound))))) ?_
           refine rvO C (.pv (.lit (.bool (decide ((IntKind.i64.wrap (most - x.ver)) > x.bound))))) ?_
           refine rvP C (.pv (.lit (.bool (decide ((IntKind.i64.wrap (most - x.ver)) > x.bound))))) ?_
           refine rvc_nil ?_
           refine Awp.cond (b := (decide ((IntKind.i64.wrap (most - x.ver)) > x.bound))) rfl (fun h21 => ?_) (fun h21 => ?_)
           ·
            replace hR := of_true h21 hR
            refine Awp.consP C ?_
            refine rvP C (.pv (.lit (.bool false))) ?_
            refine rvc_nil ?_
            refine Awp.ret ?_
            subst hR
            exact ⟨.inl rfl, rfl⟩
           ·
            replace hR := of_false h21 hR
            refine Awp.skip ?_
            refine Awp.regionP C ?_
            refine rvP C (.pv (.lit (.int .i64 (IntKind.i64.wrap ((i : Int) + 1))))) ?_
            refine rvP C (.pv (.lit (.int .i64 (IntKind.i64.wrap ((i : Int) + 1))))) ?_
            refine rvc_nil ?_
            refine ⟨h3, (), ?_, ?_⟩
            · exact hR
            · exact ⟨fun b => b, WeakerR.ofL (Ks := []) hI ⟨⟨rfl, rfl⟩, ⟨rfl, rfl⟩, ⟨rfl, rfl⟩, ⟨lit_cast (wrap_i64 (by omega) (by omega)), rfl⟩, trivial⟩ (okH_nil) rfl⟩
          ·
           replace hR := of_false h20 hR
           refine rvS ?_
           refine rvS ?_
           refine rvS ?_
           refine rvS ?_
           refine rvS ?_
           refine rvS ?_
           refine rvS ?_
           refine rvO C (.pv (.lit (.bool false))) ?_
           refine rvO C (.pv (.lit (.bool false))) ?_
           refine rvP C (.pv (.lit (.bool false))) ?_
           refine rvc_nil ?_
           refine Awp.condF (b := false) rfl rfl ?_
           refine Awp.skip ?_
           refine Awp.regionP C ?_
           refine rvP C (.pv (.lit (.int .i64 (IntKind.i64.wrap ((i : Int) + 1))))) ?_
           refine rvP C (.pv (.lit (.int .i64 (IntKind.i64.wrap ((i : Int) + 1))))) ?_
           refine rvc_nil ?_
           refine ⟨h3, (), ?_, ?_⟩
           · exact hR
           · exact ⟨fun b => b, WeakerR.ofL (Ks := []) hI ⟨⟨rfl, rfl⟩, ⟨rfl, rfl⟩, ⟨rfl, rfl⟩, ⟨lit_cast (wrap_i64 (by omega) (by omega)), rfl⟩, trivial⟩ (okH_nil) rfl⟩
        ·
         replace hR := of_false h18 hR
         refine rvS ?_
         refine rvS ?_
         refine rvS ?_
         refine rvS ?_
         refine rvS ?_
         refine rvS ?_
         refine rvS ?_
         refine rvO C (.pv (.lit (.bool false))) ?_
         refine rvO C (.pv (.lit (.bool false))) ?_
         refine rvO C (.pv (.lit (.bool false))) ?_
         refine rvO C (.ptr 4 16) ?_
         refine rvO C (.pv (.lit (.int .i64 x.ver))) ?_
         refine rvO C (.pv (.lit (.bool (decide (x.ver ≥ 0))))) ?_
         refine rvO C (.pv (.lit (.bool (decide (x.ver ≥ 0))))) ?_
         refine rvc_case 83 (decide (x.ver ≥ 0)) rfl (fun h22 => ?_) (fun h22 => ?_)
         ·
          replace hR := of_true h22 hR
          refine rvO C (.pv (.lit (.int .i64 most))) ?_
          refine rvO C (.ptr 4 16) ?_
          refine rvO C (.pv (.lit (.int .i64 x.ver))) ?_
          refine rvO C (.pv (.lit (.int .i64 (IntKind.i64.wrap (most - x.ver))))) ?_
          refine rvO C (.ptr 4 13) ?_
          refine rvO C (.pv (.lit (.int .i64 x.bound))) ?_
          refine rvO C (.pv (.lit (.bool (decide ((IntKind.i64.wrap (most - x.ver)) > x.bound))))) ?_
          refine rvO C (.pv (.lit (.bool (decide ((IntKind.i64.wrap (most - x.ver)) > x.bound))))) ?_
          refine rvO C (.pv (.lit (.bool (decide ((IntKind.i64.wrap (most - x.ver)) > x.bound))))) ?_
          refine rvP C (.pv (.lit (.bool (decide ((IntKind.i64.wrap (most - x.ver)) > x.bound))))) ?_
          refine rvc_nil ?_
          refine Awp.cond (b := (decide ((IntKind.i64.wrap (most - x.ver)) > x.bound))) rfl (fun h23 => ?_) (fun h23 => ?_)
          ·
           replace hR := of_true h23 hR
           refine Awp.consP C ?_
           refine rvP C (.pv (.lit (.bool false))) ?_
           refine rvc_nil ?_
           refine Awp.ret ?_
           subst hR
           exact ⟨.inl rfl, rfl⟩
          ·
           replace hR := of_false h23 hR
           refine Awp.skip ?_
           refine Awp.regionP C ?_
           refine rvP C (.pv (.lit (.int .i64 (IntKind.i64.wrap ((i : Int) + 1))))) ?_
           refine rvP C (.pv (.lit (.int .i64 (IntKind.i64.wrap ((i : Int) + 1))))) ?_
           refine rvc_nil ?_
           refine ⟨h3, (), ?_, ?_⟩
           · exact hR
           · exact ⟨fun b => b, WeakerR.ofL (Ks := []) hI ⟨⟨rfl, rfl⟩, ⟨rfl, rfl⟩, ⟨rfl, rfl⟩, ⟨lit_cast (wrap_i64 (by omega) (by omega)), rfl⟩, trivial⟩ (okH_nil) rfl⟩
         ·
          replace hR := of_false h22 hR
          refine rvS ?_
          refine rvS ?_
          refine rvS ?_
          refine rvS ?_
          refine rvS ?_
          refine rvS ?_
          refine rvS ?_
          refine rvO C (.pv (.lit (.bool false))) ?_
          refine rvO C (.pv (.lit (.bool false))) ?_
          refine rvP C (.pv (.lit (.bool false))) ?_
          refine rvc_nil ?_
          refine Awp.condF (b := false) rfl rfl ?_
          refine Awp.skip ?_
          refine Awp.regionP C ?_
          refine rvP C (.pv (.lit (.int .i64 (IntKind.i64.wrap ((i : Int) + 1))))) ?_
          refine rvP C (.pv (.lit (.int .i64 (IntKind.i64.wrap ((i : Int) + 1))))) ?_
          refine rvc_nil ?_
          refine ⟨h3, (), ?_, ?_⟩
          · exact hR
          · exact ⟨fun b => b, WeakerR.ofL (Ks := []) hI ⟨⟨rfl, rfl⟩, ⟨rfl, rfl⟩, ⟨rfl, rfl⟩, ⟨lit_cast (wrap_i64 (by omega) (by omega)), rfl⟩, trivial⟩ (okH_nil) rfl⟩
      ·
       replace hR := of_false h16 hR
       refine rvS ?_
       refine rvS ?_
       refine rvS ?_
       refine rvS ?_
       refine rvc_shutU rfl rfl rfl ?_
       refine rvc_shutU rfl rfl rfl ?_
       refine rvc_shutU rfl rfl rfl ?_
       refine rvc_shutU rfl rfl rfl ?_
       refine rvc_shutU rfl rfl rfl ?_
       refine rvc_shutU rfl rfl rfl ?_
       refine rvc_shutU rfl rfl rfl ?_
       refine rvc_shutU rfl rfl rfl ?_
       refine rvc_shutU rfl rfl rfl ?_
       refine rvc_shutU rfl rfl rfl ?_
       refine rvc_shutU rfl rfl rfl ?_
       refine rvc_shutU rfl rfl rfl ?_
       refine rvS ?_
       refine rvS ?_
       refine rvc_shutU rfl rfl rfl ?_
       refine rvc_shutU rfl rfl rfl ?_
       refine rvc_shutU rfl rfl rfl ?_
       refine rvc_shutU rfl rfl rfl ?_
       refine rvc_shutU rfl rfl rfl ?_
       refine rvc_shutU rfl rfl rfl ?_
       refine rvc_shutU rfl rfl rfl ?_
       refine rvc_shutU rfl rfl rfl ?_
       refine rvc_shutU rfl rfl rfl ?_
       refine rvc_shutU rfl rfl rfl ?_
       refine rvc_shutU rfl rfl rfl ?_
       refine rvc_shutU rfl rfl rfl ?_
       refine rvS ?_
       refine rvP C (.pv (.lit (.bool false))) ?_
       refine rvc_nil ?_
       refine Awp.condF (b := false) rfl rfl ?_
       refine Awp.skip ?_
       refine Awp.regionP C ?_
       refine rvP C (.pv (.lit (.int .i64 (IntKind.i64.wrap ((i : Int) + 1))))) ?_
       refine rvP C (.pv (.lit (.int .i64 (IntKind.i64.wrap ((i : Int) + 1))))) ?_
       refine rvc_nil ?_
       refine ⟨h3, (), ?_, ?_⟩
       · exact hR
       · exact ⟨fun b => b, WeakerR.ofL (Ks := []) hI ⟨⟨rfl, rfl⟩, ⟨rfl, rfl⟩, ⟨rfl, rfl⟩, ⟨lit_cast (wrap_i64 (by omega) (by omega)), rfl⟩, trivial⟩ (okH_nil) rfl⟩
 ·
  have h3 : ¬ i < calls.D.length := by have := of_decide_eq_false h2; omega
  rw [drop_end h3] at hR
  refine Awp.exit ?_
  refine Awp.consP C ?_
  refine rvP C (.pv (.lit (.bool true))) ?_
  refine rvc_nil ?_
  refine Awp.ret ?_
  subst hR
  exact ⟨.inl rfl, rfl⟩
def rSessions_l0 : List Call → Nat → Bool
  | [], _ => true
  | x :: xs, i => (bif (!x.write) then (bif (x.mode == 2) then (bif (rAnswered x) then (bif (decide (x.ver < x.floor)) then false else rSessions_l0 xs (i + 1) ) else rSessions_l0 xs (i + 1) ) else rSessions_l0 xs (i + 1) ) else rSessions_l0 xs (i + 1) )
def rSessions (calls : (Sl Call)) : Bool :=
  rSessions_l0 calls.D 0
theorem rSessions_calls (calls : (Sl Call)) (hl1 : calls.D.length ≤ 1000000) : PCalls Try.prog 14 [sS (some calls.nil) eCall calls.D] (.pv (.lit (.bool (rSessions calls)))) := by
 generalize hR : rSessions calls = R
 refine PCalls.of_body tabOk Try.func14 rfl rfl rfl rfl rfl mixed fun E hP C hI => ?_
 refine Awp.consP C ?_
 refine rvP C (.pv (.lit (.bool false))) ?_
 refine rvc_nil ?_
 refine Awp.seq ?_
 refine Awp.consP C ?_
 refine rvP C (sS (some calls.nil) eCall calls.D) ?_
 refine rvP C (.pv (.lit (.int .i64 (calls.D.length : Int)))) ?_
 refine rvP C (.pv (.lit (.int .i64 0))) ?_
 refine rvc_nil ?_
 refine Awp.block ?_
 refine Awp.forR (σ := Unit) (calls.D.length) (fun i _v => [(5, sS (some calls.nil) eCall calls.D), (6, .pv (.lit (.int .i64 (calls.D.length : Int)))), (7, .pv (.lit (.int .i64 (i : Int))))]) (fun i _v => []) [] (fun i _v => rSessions_l0 (calls.D.drop i) i  = R) () ?_ ?_ (fun i _v h1 hR => ?_)
 · exact hR
 · exact ⟨fun b => b, WeakerR.ofL (Ks := []) hI ⟨⟨rfl, rfl⟩, ⟨rfl, rfl⟩, ⟨rfl, rfl⟩, trivial⟩ (okH_nil) rfl⟩
 refine Awp.consP C ?_
 refine rvP C (.pv (.lit (.bool (decide ((i : Int) < (calls.D.length : Int)))))) ?_
 refine rvc_nil ?_
 refine Awp.seq ?_
 refine Awp.cond (b := (decide ((i : Int) < (calls.D.length : Int)))) rfl (fun h2 => ?_) (fun h2 => ?_)
 ·
  have h3 : i < calls.D.length := by have := of_decide_eq_true h2; omega
  obtain ⟨x, h4⟩ := getX h3
  rw [drop_at h4] at hR
  refine Awp.skip ?_
  refine Awp.seq ?_
  refine Awp.block ?_
  refine Awp.consP C ?_
  refine rvc_un (rexec_idxS C rfl rfl rfl rfl rfl rfl x (Int.natCast_nonneg _) h4 ?_)
  refine rvP C (.agg [.pv (.lit (.int .i64 x.client)), .pv (.lit (.int .i64 x.seq)), .pv (.lit (.bool x.write)), .pv (.lit (.int .u8 (x.key 0))), .pv (.lit (.int .u8 (x.key 1))), .pv (.lit (.int .u8 (x.key 2))), .pv (.lit (.int .u8 (x.key 3))), .pv (.lit (.int .u8 (x.key 4))), .pv (.lit (.int .u8 (x.key 5))), .pv (.lit (.int .u8 (x.key 6))), .pv (.lit (.int .u8 (x.key 7))), .pv (.lit (.string x.value)), .pv (.lit (.int .i64 x.mode)), .pv (.lit (.int .i64 x.bound)), .pv (.lit (.int .i64 x.began)), .pv (.lit (.int .i64 x.ended)), .pv (.lit (.int .i64 x.ver)), .pv (.lit (.int .i64 x.err)), .pv (.lit (.int .i64 x.floor))]) ?_
  refine rvc_un (rexec_prim C (δ := { v := .ptr 4 0, new := [(4, .cells [.pv (.lit (.int .i64 0)), .pv (.lit (.int .i64 0)), .pv (.lit (.bool false)), .pv (.lit (.int .u8 0)), .pv (.lit (.int .u8 0)), .pv (.lit (.int .u8 0)), .pv (.lit (.int .u8 0)), .pv (.lit (.int .u8 0)), .pv (.lit (.int .u8 0)), .pv (.lit (.int .u8 0)), .pv (.lit (.int .u8 0)), .pv (.lit (.string ⟨#[]⟩)), .pv (.lit (.int .i64 0)), .pv (.lit (.int .i64 0)), .pv (.lit (.int .i64 0)), .pv (.lit (.int .i64 0)), .pv (.lit (.int .i64 0)), .pv (.lit (.int .i64 0)), .pv (.lit (.int .i64 0))])] }) rfl rfl rfl rfl trivial rfl ?_)
  refine rvc_un (rexec_prim C (δ := { v := .undef, wr := [(4, some (.cells [.pv (.lit (.int .i64 x.client)), .pv (.lit (.int .i64 x.seq)), .pv (.lit (.bool x.write)), .pv (.lit (.int .u8 (x.key 0))), .pv (.lit (.int .u8 (x.key 1))), .pv (.lit (.int .u8 (x.key 2))), .pv (.lit (.int .u8 (x.key 3))), .pv (.lit (.int .u8 (x.key 4))), .pv (.lit (.int .u8 (x.key 5))), .pv (.lit (.int .u8 (x.key 6))), .pv (.lit (.int .u8 (x.key 7))), .pv (.lit (.string x.value)), .pv (.lit (.int .i64 x.mode)), .pv (.lit (.int .i64 x.bound)), .pv (.lit (.int .i64 x.began)), .pv (.lit (.int .i64 x.ended)), .pv (.lit (.int .i64 x.ver)), .pv (.lit (.int .i64 x.err)), .pv (.lit (.int .i64 x.floor))]))] }) rfl rfl rfl rfl trivial rfl ?_)
  refine rvc_nil ?_
  refine Awp.consP C ?_
  refine rvP C (.ptr 4 2) ?_
  refine rvP C (.pv (.lit (.bool x.write))) ?_
  refine rvP C (.pv (.lit (.bool (!x.write)))) ?_
  refine rvP C (.pv (.lit (.bool (!x.write)))) ?_
  refine rvc_case 14 (!x.write) rfl (fun h5 => ?_) (fun h5 => ?_)
  ·
   replace hR := of_true h5 hR
   refine rvO C (.ptr 4 12) ?_
   refine rvO C (.pv (.lit (.int .i64 x.mode))) ?_
   refine rvO C (.pv (.lit (.bool (x.mode == 2)))) ?_
   refine rvP C (.pv (.lit (.bool (x.mode == 2)))) ?_
   refine rvP C (.pv (.lit (.bool (x.mode == 2)))) ?_
   refine rvc_case 19 (x.mode == 2) rfl (fun h6 => ?_) (fun h6 => ?_)
   ·
    replace hR := of_true h6 hR
    refine rvO C (.agg [.pv (.lit (.int .i64 x.client)), .pv (.lit (.int .i64 x.seq)), .pv (.lit (.bool x.write)), .pv (.lit (.int .u8 (x.key 0))), .pv (.lit (.int .u8 (x.key 1))), .pv (.lit (.int .u8 (x.key 2))), .pv (.lit (.int .u8 (x.key 3))), .pv (.lit (.int .u8 (x.key 4))), .pv (.lit (.int .u8 (x.key 5))), .pv (.lit (.int .u8 (x.key 6))), .pv (.lit (.int .u8 (x.key 7))), .pv (.lit (.string x.value)), .pv (.lit (.int .i64 x.mode)), .pv (.lit (.int .i64 x.bound)), .pv (.lit (.int .i64 x.began)), .pv (.lit (.int .i64 x.ended)), .pv (.lit (.int .i64 x.ver)), .pv (.lit (.int .i64 x.err)), .pv (.lit (.int .i64 x.floor))]) ?_
    refine rvc_open rfl rfl rfl (rexec_call hP C rfl rfl rfl (rAnswered_calls x) ?_)
    refine rvP C (.pv (.lit (.bool (rAnswered x)))) ?_
    refine rvP C (.pv (.lit (.bool (rAnswered x)))) ?_
    refine rvc_case 23 (rAnswered x) rfl (fun h7 => ?_) (fun h7 => ?_)
    ·
     replace hR := of_true h7 hR
     refine rvO C (.ptr 4 16) ?_
     refine rvO C (.pv (.lit (.int .i64 x.ver))) ?_
     refine rvO C (.ptr 4 18) ?_
     refine rvO C (.pv (.lit (.int .i64 x.floor))) ?_
     refine rvO C (.pv (.lit (.bool (decide (x.ver < x.floor))))) ?_
     refine rvP C (.pv (.lit (.bool (decide (x.ver < x.floor))))) ?_
     refine rvc_nil ?_
     refine Awp.cond (b := (decide (x.ver < x.floor))) rfl (fun h8 => ?_) (fun h8 => ?_)
     ·
      replace hR := of_true h8 hR
      refine Awp.consP C ?_
      refine rvP C (.pv (.lit (.bool false))) ?_
      refine rvc_nil ?_
      refine Awp.ret ?_
      subst hR
      exact ⟨.inl rfl, rfl⟩
     ·
      replace hR := of_false h8 hR
      refine Awp.skip ?_
      refine Awp.regionP C ?_
      refine rvP C (.pv (.lit (.int .i64 (IntKind.i64.wrap ((i : Int) + 1))))) ?_
      refine rvP C (.pv (.lit (.int .i64 (IntKind.i64.wrap ((i : Int) + 1))))) ?_
      refine rvc_nil ?_
      refine ⟨h3, (), ?_, ?_⟩
      · exact hR
      · exact ⟨fun b => b, WeakerR.ofL (Ks := []) hI ⟨⟨rfl, rfl⟩, ⟨rfl, rfl⟩, ⟨lit_cast (wrap_i64 (by omega) (by omega)), rfl⟩, trivial⟩ (okH_nil) rfl⟩
    ·
     replace hR := of_false h7 hR
     refine rvS ?_
     refine rvS ?_
     refine rvS ?_
     refine rvS ?_
     refine rvS ?_
     refine rvP C (.pv (.lit (.bool false))) ?_
     refine rvc_nil ?_
     refine Awp.condF (b := false) rfl rfl ?_
     refine Awp.skip ?_
     refine Awp.regionP C ?_
     refine rvP C (.pv (.lit (.int .i64 (IntKind.i64.wrap ((i : Int) + 1))))) ?_
     refine rvP C (.pv (.lit (.int .i64 (IntKind.i64.wrap ((i : Int) + 1))))) ?_
     refine rvc_nil ?_
     refine ⟨h3, (), ?_, ?_⟩
     · exact hR
     · exact ⟨fun b => b, WeakerR.ofL (Ks := []) hI ⟨⟨rfl, rfl⟩, ⟨rfl, rfl⟩, ⟨lit_cast (wrap_i64 (by omega) (by omega)), rfl⟩, trivial⟩ (okH_nil) rfl⟩
   ·
    replace hR := of_false h6 hR
    refine rvS ?_
    refine rvS ?_
    refine rvP C (.pv (.lit (.bool false))) ?_
    refine rvP C (.pv (.lit (.bool false))) ?_
    refine rvS ?_
    refine rvS ?_
    refine rvS ?_
    refine rvS ?_
    refine rvS ?_
    refine rvP C (.pv (.lit (.bool false))) ?_
    refine rvc_nil ?_
    refine Awp.condF (b := false) rfl rfl ?_
    refine Awp.skip ?_
    refine Awp.regionP C ?_
    refine rvP C (.pv (.lit (.int .i64 (IntKind.i64.wrap ((i : Int) + 1))))) ?_
    refine rvP C (.pv (.lit (.int .i64 (IntKind.i64.wrap ((i : Int) + 1))))) ?_
    refine rvc_nil ?_
    refine ⟨h3, (), ?_, ?_⟩
    · exact hR
    · exact ⟨fun b => b, WeakerR.ofL (Ks := []) hI ⟨⟨rfl, rfl⟩, ⟨rfl, rfl⟩, ⟨lit_cast (wrap_i64 (by omega) (by omega)), rfl⟩, trivial⟩ (okH_nil) rfl⟩
  ·
   replace hR := of_false h5 hR
   refine rvS ?_
   refine rvS ?_
   refine rvS ?_
   refine rvP C (.pv (.lit (.bool false))) ?_
   refine rvP C (.pv (.lit (.bool false))) ?_
   refine rvS ?_
   refine rvS ?_
   refine rvP C (.pv (.lit (.bool false))) ?_
   refine rvP C (.pv (.lit (.bool false))) ?_
   refine rvS ?_
   refine rvS ?_
   refine rvS ?_
   refine rvS ?_
   refine rvS ?_
   refine rvP C (.pv (.lit (.bool false))) ?_
   refine rvc_nil ?_
   refine Awp.condF (b := false) rfl rfl ?_
   refine Awp.skip ?_
   refine Awp.regionP C ?_
   refine rvP C (.pv (.lit (.int .i64 (IntKind.i64.wrap ((i : Int) + 1))))) ?_
   refine rvP C (.pv (.lit (.int .i64 (IntKind.i64.wrap ((i : Int) + 1))))) ?_
   refine rvc_nil ?_
   refine ⟨h3, (), ?_, ?_⟩
   · exact hR
   · exact ⟨fun b => b, WeakerR.ofL (Ks := []) hI ⟨⟨rfl, rfl⟩, ⟨rfl, rfl⟩, ⟨lit_cast (wrap_i64 (by omega) (by omega)), rfl⟩, trivial⟩ (okH_nil) rfl⟩
 ·
  have h3 : ¬ i < calls.D.length := by have := of_decide_eq_false h2; omega
  rw [drop_end h3] at hR
  refine Awp.exit ?_
  refine Awp.consP C ?_
  refine rvP C (.pv (.lit (.bool true))) ?_
  refine rvc_nil ?_
  refine Awp.ret ?_
  subst hR
  exact ⟨.inl rfl, rfl⟩
end Go.Proofs.Ytoieegmebadfkaa
