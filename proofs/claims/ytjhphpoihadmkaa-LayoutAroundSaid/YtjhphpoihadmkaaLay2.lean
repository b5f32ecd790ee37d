/- More functions of layout. No conditions. -/
import Derived.Test.YtjhphpoihadmkaaLayQ
namespace Go.Proofs.Ytjhphpoihadmkaa
open Go.Am
def cloneO (s : (Sl Member)) : List Member :=
  s.D
theorem cloneO_calls (s : (Sl Member)) (hn : s.nil = false) (hl1 : s.D.length ≤ 1000000) : OCalls Try.prog 29 [sS (some s.nil) eMember s.D] (.sl 0 0 (cloneO s).length 3 false) (.cells (encC eMember (cloneO s))) := by
  generalize hR : cloneO s = R
  refine OCalls.of_body tabOk Try.func29 rfl rfl rfl rfl rfl (encC_within _ _) mixed fun E hP C hI => ?_
  refine Awp.cons C (fun _ => .pure) (by kernel_rfl) ?_ -- region 0
  refine rvc_un (rexec_prim C (δ := { v := sS (some true) eMember [] }) rfl rfl rfl rfl trivial rfl ?_) -- t2 assign
  refine rvc_nil ?_
  refine Awp.seq ?_
  refine Awp.cons C (fun _ => .pure) (by kernel_rfl) ?_ -- region 1
  refine rvc_un (rexec_prim C (δ := { v := sS (some s.nil) eMember s.D }) rfl rfl rfl rfl trivial rfl ?_) -- t3 move
  refine rvc_un (rexec_eqNil C (f := s.nil) rfl rfl rfl rfl ?_) -- t4 binOp
  refine rvc_nil ?_
  refine Awp.condF (b := s.nil) rfl hn ?_
  refine Awp.skip ?_
  refine Awp.cons C (fun _ => .pure) (by kernel_rfl) ?_ -- region 3
  refine rvc_un (rexec_prim C (δ := { v := .sl 5 0 0 3 true, new := [(5, .cells (encC eMember []))] }) rfl rfl rfl rfl trivial rfl ?_) -- t5 buildSlice
  refine rvc_un (rexec_prim C (δ := { v := sS (some s.nil) eMember s.D }) rfl rfl rfl rfl trivial rfl ?_) -- t6 move
  refine rvc_un (rexec_append C rfl rfl rfl rfl rfl rfl rfl rfl (fun _ h => by cases h) rfl (en := eMember) (D0 := []) (D := s.D) rfl rfl rfl rfl (by first | omega | (simp <;> omega)) (by decide) (nn := s.D.length) (by simp) ?_) -- t7 call
  refine rvc_un (rexec_prim C (δ := { v := .sl 7 0 s.D.length 3 false }) rfl rfl rfl rfl trivial rfl ?_) -- t2 assign
  refine rvc_nil ?_
  refine Awp.weakenR (S := [(2, .sl 0 0 s.D.length 3 false)]) (H := [(0, .cells (encC eMember s.D))]) (U := [0]) (fun x => bif x == 0 then 7 else x) (WeakerR.ofL (Ks := [0]) hI ⟨⟨rfl, rfl⟩, trivial⟩ (okH_list rfl rfl rfl okH_nil) rfl) ?_
  refine Awp.ret ?_
  subst hR
  exact ⟨.inl rfl, rfl, rfl⟩

def headC (c : Chain) : Int :=
  (bif ((check c) != 0) then (-1) else c.members.D[0]!.node)
theorem headC_calls (c : Chain) (hl1 : c.members.D.length ≤ 9223372036854775807) : PCalls Try.prog 20 [.agg [.pv (.lit (.int .i64 c.epoch)), sS (some c.members.nil) eMember c.members.D]] (.pv (.lit (.int .i64 (headC c)))) := by
  generalize hR : headC c = R
  refine PCalls.of_body tabOk Try.func20 rfl rfl rfl rfl rfl mixed fun E hP C hI => ?_
  refine Awp.cons C (fun _ => .pure) (by kernel_rfl) ?_ -- region 0
  refine rvc_un (rexec_prim C (δ := { v := .ptr 1 0, new := [(1, .cells [.pv (.lit (.int .i64 c.epoch)), sS (some c.members.nil) eMember c.members.D])] }) rfl rfl rfl rfl trivial rfl ?_) -- t1 box
  refine rvc_un (rexec_prim C (δ := { v := .pv (.lit (.int .i64 0)) }) rfl rfl rfl rfl trivial rfl ?_) -- t2 assign
  refine rvc_nil ?_
  refine Awp.seq ?_
  refine Awp.cons C (fun _ => .pure) (by kernel_rfl) ?_ -- region 1
  refine rvc_un (rexec_prim C (δ := { v := .agg [.pv (.lit (.int .i64 c.epoch)), sS (some c.members.nil) eMember c.members.D] }) rfl rfl rfl rfl trivial rfl ?_) -- t3 load
  refine rvc_un (rexec_call hP C rfl rfl rfl (check_calls c hl1) ?_) -- t4 call
  refine rvc_un (rexec_prim C (δ := { v := .pv (.lit (.bool ((check c) != 0))) }) rfl rfl rfl rfl trivial rfl ?_) -- t5 binOp
  refine rvc_nil ?_
  refine Awp.cond (b := ((check c) != 0)) rfl (fun h1 => ?_) (fun h1 => ?_)
  ·
    replace hR := of_true h1 hR
    refine Awp.cons C (fun _ => .pure) (by kernel_rfl) ?_ -- region 2
    refine rvc_un (rexec_prim C (δ := { v := .pv (.lit (.int .i64 (-1))) }) rfl rfl rfl rfl trivial rfl ?_) -- t2 assign
    refine rvc_nil ?_
    refine Awp.ret ?_
    subst hR
    exact ⟨.inl rfl, rfl⟩
  ·
    replace hR := of_false h1 hR
    refine Awp.skip ?_
    refine Awp.cons C (fun _ => .pure) (by kernel_rfl) ?_ -- region 3
    refine rvc_un (rexec_prim C (δ := { v := .ptr 1 1 }) rfl rfl rfl rfl trivial rfl ?_) -- t6 fieldAddr
    refine rvc_un (rexec_prim C (δ := { v := sS (some c.members.nil) eMember c.members.D }) rfl rfl rfl rfl trivial rfl ?_) -- t7 load
    have h2 : c.members.D[0]? = some c.members.D[0]! := getE (check_pos h1)
    refine rvc_un (rexec_idxS C rfl rfl rfl rfl rfl rfl (c.members.D[0]!) (Int.natCast_nonneg _) h2 ?_) -- t8 indexAddr
    refine rvc_un (rexec_prim C (δ := { v := .rp [.lit (.int .i64 (c.members.D[0]!.node))] }) rfl rfl rfl rfl trivial rfl ?_) -- t9 fieldAddr
    refine rvc_un (rexec_prim C (δ := { v := .pv (.lit (.int .i64 (c.members.D[0]!.node))) }) rfl rfl rfl rfl trivial rfl ?_) -- t10 load
    refine rvc_un (rexec_prim C (δ := { v := .pv (.lit (.int .i64 (c.members.D[0]!.node))) }) rfl rfl rfl rfl trivial rfl ?_) -- t2 assign
    refine rvc_nil ?_
    refine Awp.ret ?_
    subst hR
    exact ⟨.inl rfl, rfl⟩

def tailC (c : Chain) : Int :=
  (bif ((check c) != 0) then (-1) else c.members.D[(IntKind.i64.wrap ((c.members.D.length : Int) - 1)).toNat]!.node)
theorem tailC_calls (c : Chain) (hl1 : c.members.D.length ≤ 9223372036854775807) : PCalls Try.prog 22 [.agg [.pv (.lit (.int .i64 c.epoch)), sS (some c.members.nil) eMember c.members.D]] (.pv (.lit (.int .i64 (tailC c)))) := by
  generalize hR : tailC c = R
  refine PCalls.of_body tabOk Try.func22 rfl rfl rfl rfl rfl mixed fun E hP C hI => ?_
  refine Awp.cons C (fun _ => .pure) (by kernel_rfl) ?_ -- region 0
  refine rvc_un (rexec_prim C (δ := { v := .ptr 1 0, new := [(1, .cells [.pv (.lit (.int .i64 c.epoch)), sS (some c.members.nil) eMember c.members.D])] }) rfl rfl rfl rfl trivial rfl ?_) -- t1 box
  refine rvc_un (rexec_prim C (δ := { v := .pv (.lit (.int .i64 0)) }) rfl rfl rfl rfl trivial rfl ?_) -- t2 assign
  refine rvc_nil ?_
  refine Awp.seq ?_
  refine Awp.cons C (fun _ => .pure) (by kernel_rfl) ?_ -- region 1
  refine rvc_un (rexec_prim C (δ := { v := .agg [.pv (.lit (.int .i64 c.epoch)), sS (some c.members.nil) eMember c.members.D] }) rfl rfl rfl rfl trivial rfl ?_) -- t3 load
  refine rvc_un (rexec_call hP C rfl rfl rfl (check_calls c hl1) ?_) -- t4 call
  refine rvc_un (rexec_prim C (δ := { v := .pv (.lit (.bool ((check c) != 0))) }) rfl rfl rfl rfl trivial rfl ?_) -- t5 binOp
  refine rvc_nil ?_
  refine Awp.cond (b := ((check c) != 0)) rfl (fun h1 => ?_) (fun h1 => ?_)
  ·
    replace hR := of_true h1 hR
    refine Awp.cons C (fun _ => .pure) (by kernel_rfl) ?_ -- region 2
    refine rvc_un (rexec_prim C (δ := { v := .pv (.lit (.int .i64 (-1))) }) rfl rfl rfl rfl trivial rfl ?_) -- t2 assign
    refine rvc_nil ?_
    refine Awp.ret ?_
    subst hR
    exact ⟨.inl rfl, rfl⟩
  ·
    replace hR := of_false h1 hR
    refine Awp.skip ?_
    refine Awp.cons C (fun _ => .pure) (by kernel_rfl) ?_ -- region 3
    refine rvc_un (rexec_prim C (δ := { v := .ptr 1 1 }) rfl rfl rfl rfl trivial rfl ?_) -- t6 fieldAddr
    refine rvc_un (rexec_prim C (δ := { v := sS (some c.members.nil) eMember c.members.D }) rfl rfl rfl rfl trivial rfl ?_) -- t7 load
    refine rvc_un (rexec_prim C (δ := { v := .ptr 1 1 }) rfl rfl rfl rfl trivial rfl ?_) -- t8 fieldAddr
    refine rvc_un (rexec_prim C (δ := { v := sS (some c.members.nil) eMember c.members.D }) rfl rfl rfl rfl trivial rfl ?_) -- t9 load
    refine rvc_un (rexec_prim C (δ := { v := .pv (.lit (.int .i64 (c.members.D.length : Int))) }) rfl rfl rfl rfl trivial rfl ?_) -- t10 call
    refine rvc_un (rexec_prim C (δ := { v := .pv (.lit (.int .i64 (IntKind.i64.wrap ((c.members.D.length : Int) - 1)))) }) rfl rfl rfl rfl trivial rfl ?_) -- t11 binOp
    have h2 : c.members.D[(IntKind.i64.wrap ((c.members.D.length : Int) - 1)).toNat]? = some c.members.D[(IntKind.i64.wrap ((c.members.D.length : Int) - 1)).toNat]! := getE (by have := check_pos h1; have := wrapI ((c.members.D.length : Int) - 1); omega)
    refine rvc_un (rexec_idxS C rfl rfl rfl rfl rfl rfl (c.members.D[(IntKind.i64.wrap ((c.members.D.length : Int) - 1)).toNat]!) (by have := check_pos h1; have := wrapI ((c.members.D.length : Int) - 1); omega) h2 ?_) -- t12 indexAddr
    refine rvc_un (rexec_prim C (δ := { v := .rp [.lit (.int .i64 (c.members.D[(IntKind.i64.wrap ((c.members.D.length : Int) - 1)).toNat]!.node))] }) rfl rfl rfl rfl trivial rfl ?_) -- t13 fieldAddr
    refine rvc_un (rexec_prim C (δ := { v := .pv (.lit (.int .i64 (c.members.D[(IntKind.i64.wrap ((c.members.D.length : Int) - 1)).toNat]!.node))) }) rfl rfl rfl rfl trivial rfl ?_) -- t14 load
    refine rvc_un (rexec_prim C (δ := { v := .pv (.lit (.int .i64 (c.members.D[(IntKind.i64.wrap ((c.members.D.length : Int) - 1)).toNat]!.node))) }) rfl rfl rfl rfl trivial rfl ?_) -- t2 assign
    refine rvc_nil ?_
    refine Awp.ret ?_
    subst hR
    exact ⟨.inl rfl, rfl⟩

def nextC (c : Chain) (node : Int) : Int :=
  (bif (decide ((place0 c node) < 0)) then (-1) else (bif ((place0 c node) == (IntKind.i64.wrap ((c.members.D.length : Int) - 1))) then (-1) else c.members.D[(IntKind.i64.wrap ((place0 c node) + 1)).toNat]!.node))
theorem nextC_calls (c : Chain) (node : Int) (hl1 : c.members.D.length ≤ 1000000) : PCalls Try.prog 17 [.agg [.pv (.lit (.int .i64 c.epoch)), sS (some c.members.nil) eMember c.members.D], .pv (.lit (.int .i64 node))] (.pv (.lit (.int .i64 (nextC c node)))) := by
  generalize hR : nextC c node = R
  refine PCalls.of_body tabOk Try.func17 rfl rfl rfl rfl rfl mixed fun E hP C hI => ?_
  refine Awp.cons C (fun _ => .pure) (by kernel_rfl) ?_ -- region 0
  refine rvc_un (rexec_prim C (δ := { v := .ptr 2 0, new := [(2, .cells [.pv (.lit (.int .i64 c.epoch)), sS (some c.members.nil) eMember c.members.D])] }) rfl rfl rfl rfl trivial rfl ?_) -- t2 box
  refine rvc_un (rexec_prim C (δ := { v := .pv (.lit (.int .i64 0)) }) rfl rfl rfl rfl trivial rfl ?_) -- t4 assign
  refine rvc_nil ?_
  refine Awp.cons C (fun _ => .pure) (by kernel_rfl) ?_ -- region 1
  refine rvc_un (rexec_prim C (δ := { v := .agg [.pv (.lit (.int .i64 c.epoch)), sS (some c.members.nil) eMember c.members.D] }) rfl rfl rfl rfl trivial rfl ?_) -- t6 load
  refine rvc_un (rexec_prim C (δ := { v := .pv (.lit (.int .i64 node)) }) rfl rfl rfl rfl trivial rfl ?_) -- t7 move
  refine rvc_un (rexec_call hP C rfl rfl rfl (place0_calls c node (Nat.le_trans hl1 (by decide))) ?_) -- t8 call
  refine rvc_un (rexec_prim C (δ := { v := .pv (.lit (.int .i64 (place0 c node))) }) rfl rfl rfl rfl trivial rfl ?_) -- t5 assign
  refine rvc_nil ?_
  refine Awp.seq ?_
  refine Awp.cons C (fun _ => .pure) (by kernel_rfl) ?_ -- region 2
  refine rvc_un (rexec_prim C (δ := { v := .pv (.lit (.int .i64 (place0 c node))) }) rfl rfl rfl rfl trivial rfl ?_) -- t9 move
  refine rvc_un (rexec_prim C (δ := { v := .pv (.lit (.bool (decide ((place0 c node) < 0)))) }) rfl rfl rfl rfl trivial rfl ?_) -- t10 binOp
  refine rvc_un (rexec_prim C (δ := { v := .pv (.lit (.bool (decide ((place0 c node) < 0)))) }) rfl rfl rfl rfl trivial rfl ?_) -- t11 move
  refine rvc_case 11 (decide ((place0 c node) < 0)) rfl (fun h1 => ?_) (fun h1 => ?_)
  ·
    replace hR := of_true h1 hR
    refine rvc_shut rfl rfl rfl rfl ?_ -- t12
    refine rvc_shut rfl rfl rfl rfl ?_ -- t13
    refine rvc_shut rfl rfl rfl rfl ?_ -- t14
    refine rvc_shut rfl rfl rfl rfl ?_ -- t15
    refine rvc_shut rfl rfl rfl rfl ?_ -- t16
    refine rvc_shut rfl rfl rfl rfl ?_ -- t17
    refine rvc_un (rexec_prim C (δ := { v := .pv (.lit (.bool true)) }) rfl rfl rfl rfl trivial rfl ?_) -- t18 pick
    refine rvc_nil ?_
    refine Awp.condT (b := true) rfl rfl ?_
    refine Awp.cons C (fun _ => .pure) (by kernel_rfl) ?_ -- region 3
    refine rvc_un (rexec_prim C (δ := { v := .pv (.lit (.int .i64 (-1))) }) rfl rfl rfl rfl trivial rfl ?_) -- t4 assign
    refine rvc_nil ?_
    refine Awp.ret ?_
    subst hR
    exact ⟨.inl rfl, rfl⟩
  ·
    replace hR := of_false h1 hR
    refine rvc_open rfl rfl rfl (rexec_prim C (δ := { v := .pv (.lit (.int .i64 (place0 c node))) }) rfl rfl rfl rfl trivial rfl ?_) -- t12 move
    refine rvc_open rfl rfl rfl (rexec_prim C (δ := { v := .ptr 2 1 }) rfl rfl rfl rfl trivial rfl ?_) -- t13 fieldAddr
    refine rvc_open rfl rfl rfl (rexec_prim C (δ := { v := sS (some c.members.nil) eMember c.members.D }) rfl rfl rfl rfl trivial rfl ?_) -- t14 load
    refine rvc_open rfl rfl rfl (rexec_prim C (δ := { v := .pv (.lit (.int .i64 (c.members.D.length : Int))) }) rfl rfl rfl rfl trivial rfl ?_) -- t15 call
    refine rvc_open rfl rfl rfl (rexec_prim C (δ := { v := .pv (.lit (.int .i64 (IntKind.i64.wrap ((c.members.D.length : Int) - 1)))) }) rfl rfl rfl rfl trivial rfl ?_) -- t16 binOp
    refine rvc_open rfl rfl rfl (rexec_prim C (δ := { v := .pv (.lit (.bool ((place0 c node) == (IntKind.i64.wrap ((c.members.D.length : Int) - 1))))) }) rfl rfl rfl rfl trivial rfl ?_) -- t17 binOp
    refine rvc_un (rexec_prim C (δ := { v := .pv (.lit (.bool ((place0 c node) == (IntKind.i64.wrap ((c.members.D.length : Int) - 1))))) }) rfl rfl rfl rfl trivial rfl ?_) -- t18 pick
    refine rvc_nil ?_
    refine Awp.cond (b := ((place0 c node) == (IntKind.i64.wrap ((c.members.D.length : Int) - 1)))) rfl (fun h2 => ?_) (fun h2 => ?_)
    ·
      replace hR := of_true h2 hR
      refine Awp.cons C (fun _ => .pure) (by kernel_rfl) ?_ -- region 3
      refine rvc_un (rexec_prim C (δ := { v := .pv (.lit (.int .i64 (-1))) }) rfl rfl rfl rfl trivial rfl ?_) -- t4 assign
      refine rvc_nil ?_
      refine Awp.ret ?_
      subst hR
      exact ⟨.inl rfl, rfl⟩
    ·
      replace hR := of_false h2 hR
      refine Awp.skip ?_
      refine Awp.cons C (fun _ => .pure) (by kernel_rfl) ?_ -- region 4
      refine rvc_un (rexec_prim C (δ := { v := .ptr 2 1 }) rfl rfl rfl rfl trivial rfl ?_) -- t19 fieldAddr
      refine rvc_un (rexec_prim C (δ := { v := sS (some c.members.nil) eMember c.members.D }) rfl rfl rfl rfl trivial rfl ?_) -- t20 load
      refine rvc_un (rexec_prim C (δ := { v := .pv (.lit (.int .i64 (place0 c node))) }) rfl rfl rfl rfl trivial rfl ?_) -- t21 move
      refine rvc_un (rexec_prim C (δ := { v := .pv (.lit (.int .i64 (IntKind.i64.wrap ((place0 c node) + 1)))) }) rfl rfl rfl rfl trivial rfl ?_) -- t22 binOp
      have h3 : c.members.D[(IntKind.i64.wrap ((place0 c node) + 1)).toNat]? = some c.members.D[(IntKind.i64.wrap ((place0 c node) + 1)).toNat]! := getE (by have := wrapI ((place0 c node) + 1); have := wrapI ((c.members.D.length : Int) - 1); have := place0_lt c node; have := of_decide_eq_false h1; have := ne_of_beq_false h2; omega)
      refine rvc_un (rexec_idxS C rfl rfl rfl rfl rfl rfl (c.members.D[(IntKind.i64.wrap ((place0 c node) + 1)).toNat]!) (by have := wrapI ((place0 c node) + 1); have := wrapI ((c.members.D.length : Int) - 1); have := place0_lt c node; have := of_decide_eq_false h1; have := ne_of_beq_false h2; omega) h3 ?_) -- t23 indexAddr
      refine rvc_un (rexec_prim C (δ := { v := .rp [.lit (.int .i64 (c.members.D[(IntKind.i64.wrap ((place0 c node) + 1)).toNat]!.node))] }) rfl rfl rfl rfl trivial rfl ?_) -- t24 fieldAddr
      refine rvc_un (rexec_prim C (δ := { v := .pv (.lit (.int .i64 (c.members.D[(IntKind.i64.wrap ((place0 c node) + 1)).toNat]!.node))) }) rfl rfl rfl rfl trivial rfl ?_) -- t25 load
      refine rvc_un (rexec_prim C (δ := { v := .pv (.lit (.int .i64 (c.members.D[(IntKind.i64.wrap ((place0 c node) + 1)).toNat]!.node))) }) rfl rfl rfl rfl trivial rfl ?_) -- t4 assign
      refine rvc_nil ?_
      refine Awp.ret ?_
      subst hR
      exact ⟨.inl rfl, rfl⟩

end Go.Proofs.Ytjhphpoihadmkaa
