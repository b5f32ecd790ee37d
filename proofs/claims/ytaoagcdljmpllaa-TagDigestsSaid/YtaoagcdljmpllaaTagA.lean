/- tag.Same tells whether two digests are the same: its contract. No conditions. -/
import Derived.Test.YtaoagcdljmpllaaTab
namespace Go.Proofs.Ytaoagcdljmpllaa
open Go.Am
/-! ### tag.Same -/
def sameN (A B : Nat → Int) : Nat → Int
  | 0 => 0
  | i + 1 => bitI .or .u8 (sameN A B i) (bitI .xor .u8 (A i) (B i))

theorem same_calls (A B : Nat → Int) : PCalls Try.prog 19 [.agg (cI .u8 (tb 16 A)), .agg (cI .u8 (tb 16 B))] (.pv (.lit (.bool (sameN A B 16 == 0)))) := by
  refine PCalls.of_body tabOk Try.func19 rfl rfl rfl (by simp [AV.withinL, AV.within, cI_within]) rfl mixed fun E hP C hI => ?_
  refine Awp.cons C (fun _ => .pure) (by kernel_rfl) ?_ -- region 0 false
  refine rvc_prim C rfl rfl rfl rfl trivial rfl ?_ -- t2 box 
  refine rvc_prim C rfl rfl rfl rfl trivial rfl ?_ -- t3 box 
  refine rvc_prim C rfl rfl rfl rfl trivial rfl ?_ -- t4 assign 
  refine rvc_nil ?_
  refine Awp.cons C (fun _ => .pure) (by kernel_rfl) ?_ -- region 1 false
  refine rvc_prim C rfl rfl rfl rfl trivial rfl ?_ -- t5 assign 
  refine rvc_nil ?_
  refine Awp.seq ?_
  refine Awp.cons C (fun _ => .pure) (by kernel_rfl) ?_ -- region 2 false
  refine rvc_prim C rfl rfl rfl rfl trivial rfl ?_ -- t7 move 
  refine rvc_nil ?_
  refine Awp.block ?_ -- 0
  refine Awp.forN 16 (fun i => [(2, .ptr 2 0), (3, .ptr 3 0), (5, .pv (.lit (.int .u8 (sameN A B i)))), (7, .pv (.lit (.int .i64 i)))]) (fun i => [(2, .cells (cI .u8 (tb 16 A))), (3, .cells (cI .u8 (tb 16 B)))]) [2, 3] ?_ (fun i hi => ?_) ?_
  · exact Weaker.of hI ⟨rfl, rfl, rfl, rfl, trivial⟩ ⟨rfl, rfl, trivial⟩ rfl (by simp [Blk.within, cI_within])
  · have hi' : (0 + (i : Int).toNat * 1) = i := by simp
    refine Awp.cons C (fun _ => .pure) (by kernel_rfl) ?_ -- region 3 false
    refine rvc_prim C rfl rfl rfl rfl trivial rfl ?_ -- t8 binOp Go.BinOp.lss
    refine rvc_nil ?_
    refine Awp.seq ?_
    refine Awp.condT rfl (by simpa using (by omega : (i : Int) < 16)) (Awp.skip ?_)
    refine Awp.seq ?_
    refine Awp.block ?_ -- 1
    refine Awp.cons C (fun _ => .pure) (by kernel_rfl) ?_ -- region 4 false
    refine rvc_prim C rfl rfl rfl rfl trivial rfl ?_ -- t9 move 
    refine rvc_prim C rfl rfl rfl rfl trivial rfl ?_ -- t6 assign 
    refine rvc_nil ?_
    refine Awp.region C (fun _ => .pure) (by kernel_rfl) ?_ -- region 5 true
    refine rvc_prim C rfl rfl rfl rfl trivial rfl ?_ -- t10 move 
    refine rvc_prim C rfl rfl rfl rfl trivial rfl ?_ -- t11 move 
    refine rvc_prim C rfl rfl rfl rfl ⟨by omega, by omega⟩ rfl ?_ -- t12 indexAddr 
    refine rvc_load C rfl rfl rfl rfl rfl (cI_at i hi' (by omega)) ?_ -- t13 load 
    refine rvc_prim C rfl rfl rfl rfl trivial rfl ?_ -- t14 move 
    refine rvc_prim C rfl rfl rfl rfl ⟨by omega, by omega⟩ rfl ?_ -- t15 indexAddr 
    refine rvc_load C rfl rfl rfl rfl rfl (cI_at i hi' (by omega)) ?_ -- t16 load 
    refine rvc_prim C rfl rfl rfl rfl trivial rfl ?_ -- t17 binOp Go.BinOp.xor
    refine rvc_prim C rfl rfl rfl rfl trivial rfl ?_ -- t18 binOp Go.BinOp.or
    refine rvc_prim C rfl rfl rfl rfl trivial rfl ?_ -- t5 assign 
    refine rvc_nil ?_
    refine Awp.region C (fun _ => .pure) (by kernel_rfl) ?_ -- region 6 false
    refine rvc_prim C rfl rfl rfl rfl trivial rfl ?_ -- t19 binOp Go.BinOp.add
    refine rvc_prim C rfl rfl rfl rfl trivial rfl ?_ -- t7 move 
    refine rvc_nil ?_
    have hw : IntKind.i64.wrap ((i : Int) + 1) = ((i + 1 : Nat) : Int) := wrap_i64 (by omega) (by omega)
    exact Weaker.of hI ⟨rfl, rfl, rfl, congrArg (fun x => some (AV.pv (.lit (.int .i64 x)))) hw, trivial⟩ ⟨rfl, rfl, trivial⟩ rfl (by simp [Blk.within, cI_within])
  · refine Awp.cons C (fun _ => .pure) (by kernel_rfl) ?_ -- region 3 false
    refine rvc_prim C rfl rfl rfl rfl trivial rfl ?_ -- t8 binOp Go.BinOp.lss
    refine rvc_nil ?_
    refine Awp.seq ?_
    refine Awp.condF rfl rfl (Awp.exit ?_)
    refine Awp.cons C (fun _ => .pure) (by kernel_rfl) ?_ -- region 7 false
    refine rvc_prim C rfl rfl rfl rfl trivial rfl ?_ -- t20 move 
    refine rvc_prim C rfl rfl rfl rfl trivial rfl ?_ -- t21 binOp Go.BinOp.eql
    refine rvc_prim C rfl rfl rfl rfl trivial rfl ?_ -- t4 assign 
    refine rvc_nil ?_
    refine Awp.ret ?_
    exact ⟨.inl rfl, rfl⟩
end Go.Proofs.Ytaoagcdljmpllaa
