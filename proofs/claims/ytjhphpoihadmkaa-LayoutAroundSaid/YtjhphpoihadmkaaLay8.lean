/- The law of going around. No conditions. -/
import Derived.Test.YtjhphpoihadmkaaLayN
namespace Go.Proofs.Ytjhphpoihadmkaa
open Go.Am
def lawAround_l0 (c : Chain) : Nat → Int → Int → Int → Bool
  | 0, _, _, _ => default
  | nn + 1, seen, last, n => (bif (decide (n ≥ 0)) then (bif (mHas seen n) then false else (bif ((backC c n) != last) then false else lawAround_l0 c nn (mWith seen n) n (nextC c n))) else (bif (seen == (nodes c)) then (bif ((mLen seen) == (c.members.D.length : Int)) then (bif (last == (tailC c)) then (awake ) else false) else false) else false))
def lawAround (c : Chain) : Bool :=
  (bif ((check c) != 0) then (bif ((headC c) == (-1)) then (bif ((tailC c) == (-1)) then (awake ) else false) else false) else lawAround_l0 c ((aroundM c (headC c)) + 1) 0 (-1) (headC c))
theorem lawAround_calls (c : Chain) (hl1 : c.members.D.length ≤ 9223372036854775807) : PCalls Try.prog 6 [.agg [.pv (.lit (.int .i64 c.epoch)), sS (some c.members.nil) eMember c.members.D]] (.pv (.lit (.bool (lawAround c)))) := by
  generalize hR : lawAround c = R
  refine PCalls.of_body tabOk Try.func6 rfl rfl rfl rfl rfl mixed fun E hP C hI => ?_
  refine Awp.cons C (fun _ => .pure) (by kernel_rfl) ?_ -- region 0
  refine rvc_un (rexec_prim C (δ := { v := .ptr 1 0, new := [(1, .cells [.pv (.lit (.int .i64 c.epoch)), sS (some c.members.nil) eMember c.members.D])] }) rfl rfl rfl rfl trivial rfl ?_) -- t1 box
  refine rvc_un (rexec_prim C (δ := { v := .pv (.lit (.bool false)) }) rfl rfl rfl rfl trivial rfl ?_) -- t2 assign
  refine rvc_nil ?_
  refine Awp.seq ?_
  refine Awp.cons C (fun _ => .pure) (by kernel_rfl) ?_ -- region 1
  refine rvc_un (rexec_prim C (δ := { v := .agg [.pv (.lit (.int .i64 c.epoch)), sS (some c.members.nil) eMember c.members.D] }) rfl rfl rfl rfl trivial rfl ?_) -- t6 load
  refine rvc_un (rexec_call hP C rfl rfl rfl (check_calls c hl1) ?_) -- t7 call
  refine rvc_un (rexec_prim C (δ := { v := .pv (.lit (.bool ((check c) != 0))) }) rfl rfl rfl rfl trivial rfl ?_) -- t8 binOp
  refine rvc_nil ?_
  refine Awp.cond (b := ((check c) != 0)) rfl (fun h1 => ?_) (fun h1 => ?_)
  ·
    replace hR := of_true h1 hR
    refine Awp.cons C (fun _ => .pure) (by kernel_rfl) ?_ -- region 2
    refine rvc_un (rexec_prim C (δ := { v := .agg [.pv (.lit (.int .i64 c.epoch)), sS (some c.members.nil) eMember c.members.D] }) rfl rfl rfl rfl trivial rfl ?_) -- t9 load
    refine rvc_un (rexec_call hP C rfl rfl rfl (headC_calls c hl1) ?_) -- t10 call
    refine rvc_un (rexec_prim C (δ := { v := .pv (.lit (.bool ((headC c) == (-1)))) }) rfl rfl rfl rfl trivial rfl ?_) -- t11 binOp
    refine rvc_un (rexec_prim C (δ := { v := .pv (.lit (.bool ((headC c) == (-1)))) }) rfl rfl rfl rfl trivial rfl ?_) -- t12 move
    refine rvc_case 12 ((headC c) == (-1)) rfl (fun h2 => ?_) (fun h2 => ?_)
    ·
      replace hR := of_true h2 hR
      refine rvc_open rfl rfl rfl (rexec_prim C (δ := { v := .agg [.pv (.lit (.int .i64 c.epoch)), sS (some c.members.nil) eMember c.members.D] }) rfl rfl rfl rfl trivial rfl ?_) -- t13 load
      refine rvc_open rfl rfl rfl (rexec_call hP C rfl rfl rfl (tailC_calls c hl1) ?_) -- t14 call
      refine rvc_open rfl rfl rfl (rexec_prim C (δ := { v := .pv (.lit (.bool ((tailC c) == (-1)))) }) rfl rfl rfl rfl trivial rfl ?_) -- t15 binOp
      refine rvc_un (rexec_prim C (δ := { v := .pv (.lit (.bool ((tailC c) == (-1)))) }) rfl rfl rfl rfl trivial rfl ?_) -- t16 pick
      refine rvc_un (rexec_prim C (δ := { v := .pv (.lit (.bool ((tailC c) == (-1)))) }) rfl rfl rfl rfl trivial rfl ?_) -- t17 move
      refine rvc_case 17 ((tailC c) == (-1)) rfl (fun h3 => ?_) (fun h3 => ?_)
      ·
        replace hR := of_true h3 hR
        refine rvc_open rfl rfl rfl (rexec_call hP C rfl rfl rfl (awake_calls ) ?_) -- t18 call
        refine rvc_un (rexec_prim C (δ := { v := .pv (.lit (.bool (awake ))) }) rfl rfl rfl rfl trivial rfl ?_) -- t19 pick
        refine rvc_un (rexec_prim C (δ := { v := .pv (.lit (.bool (awake ))) }) rfl rfl rfl rfl trivial rfl ?_) -- t2 assign
        refine rvc_nil ?_
        refine Awp.ret ?_
        subst hR
        exact ⟨.inl rfl, rfl⟩
      ·
        replace hR := of_false h3 hR
        refine rvc_shut rfl rfl rfl rfl ?_ -- t18
        refine rvc_un (rexec_prim C (δ := { v := .pv (.lit (.bool false)) }) rfl rfl rfl rfl trivial rfl ?_) -- t19 pick
        refine rvc_un (rexec_prim C (δ := { v := .pv (.lit (.bool false)) }) rfl rfl rfl rfl trivial rfl ?_) -- t2 assign
        refine rvc_nil ?_
        refine Awp.ret ?_
        subst hR
        exact ⟨.inl rfl, rfl⟩
    ·
      replace hR := of_false h2 hR
      refine rvc_shut rfl rfl rfl rfl ?_ -- t13
      refine rvc_shut rfl rfl rfl rfl ?_ -- t14
      refine rvc_shut rfl rfl rfl rfl ?_ -- t15
      refine rvc_un (rexec_prim C (δ := { v := .pv (.lit (.bool false)) }) rfl rfl rfl rfl trivial rfl ?_) -- t16 pick
      refine rvc_un (rexec_prim C (δ := { v := .pv (.lit (.bool false)) }) rfl rfl rfl rfl trivial rfl ?_) -- t17 move
      refine rvc_shut rfl rfl rfl rfl ?_ -- t18
      refine rvc_un (rexec_prim C (δ := { v := .pv (.lit (.bool false)) }) rfl rfl rfl rfl trivial rfl ?_) -- t19 pick
      refine rvc_un (rexec_prim C (δ := { v := .pv (.lit (.bool false)) }) rfl rfl rfl rfl trivial rfl ?_) -- t2 assign
      refine rvc_nil ?_
      refine Awp.ret ?_
      subst hR
      exact ⟨.inl rfl, rfl⟩
  ·
    replace hR := of_false h1 hR
    refine Awp.skip ?_
    refine Awp.cons C (fun _ => .pure) (by kernel_rfl) ?_ -- region 3
    refine rvc_un (rexec_prim C (δ := { v := .pv (.lit (.int .u64 0)) }) rfl rfl rfl rfl trivial rfl ?_) -- t3 assign
    refine rvc_nil ?_
    refine Awp.cons C (fun _ => .pure) (by kernel_rfl) ?_ -- region 4
    refine rvc_un (rexec_prim C (δ := { v := .pv (.lit (.int .i64 (-1))) }) rfl rfl rfl rfl trivial rfl ?_) -- t4 assign
    refine rvc_nil ?_
    refine Awp.seq ?_
    refine Awp.cons C (fun _ => .pure) (by kernel_rfl) ?_ -- region 5
    refine rvc_un (rexec_prim C (δ := { v := .agg [.pv (.lit (.int .i64 c.epoch)), sS (some c.members.nil) eMember c.members.D] }) rfl rfl rfl rfl trivial rfl ?_) -- t20 load
    refine rvc_un (rexec_call hP C rfl rfl rfl (headC_calls c hl1) ?_) -- t21 call
    refine rvc_un (rexec_prim C (δ := { v := .pv (.lit (.int .i64 (headC c))) }) rfl rfl rfl rfl trivial rfl ?_) -- t5 assign
    refine rvc_nil ?_
    refine Awp.block ?_
    refine Awp.forM (σ := Int × Int × Int) (fun v => [(1, .ptr 1 0), (3, .pv (.lit (.int .u64 v.1))), (4, .pv (.lit (.int .i64 v.2.1))), (5, .pv (.lit (.int .i64 v.2.2)))]) (fun v => [(1, .cells [.pv (.lit (.int .i64 c.epoch)), sS (some c.members.nil) eMember c.members.D])]) [1] (fun n v => n = (aroundM c v.2.2) ∧ lawAround_l0 c ((aroundM c v.2.2) + 1) v.1 v.2.1 v.2.2 = R) ((aroundM c (headC c))) (0, (-1), (headC c)) ?_ ?_ (fun _ v h4 => ?_)
    · exact ⟨rfl, hR⟩
    · exact ⟨fun b => b, WeakerR.ofL (Ks := [1]) hI ⟨⟨rfl, rfl⟩, ⟨rfl, rfl⟩, ⟨rfl, rfl⟩, ⟨rfl, rfl⟩, trivial⟩ (okH_cons rfl rfl rfl rfl (okH_nil)) rfl⟩
    obtain ⟨seen, last, n⟩ := v
    obtain ⟨rfl, hR⟩ := h4
    refine Awp.seq ?_
    refine Awp.cons C (fun _ => .pure) (by kernel_rfl) ?_ -- region 6
    refine rvc_un (rexec_prim C (δ := { v := .pv (.lit (.int .i64 n)) }) rfl rfl rfl rfl trivial rfl ?_) -- t22 move
    refine rvc_un (rexec_prim C (δ := { v := .pv (.lit (.bool (decide (n ≥ 0)))) }) rfl rfl rfl rfl trivial rfl ?_) -- t23 binOp
    refine rvc_nil ?_
    refine Awp.cond (b := (decide (n ≥ 0))) rfl (fun h6 => ?_) (fun h6 => ?_)
    ·
      replace hR := of_true h6 hR
      refine Awp.skip ?_
      refine Awp.seq ?_
      refine Awp.block ?_
      refine Awp.seq ?_
      refine Awp.cons C (fun _ => .pure) (by kernel_rfl) ?_ -- region 8
      refine rvc_un (rexec_prim C (δ := { v := .pv (.lit (.int .u64 seen)) }) rfl rfl rfl rfl trivial rfl ?_) -- t27 move
      refine rvc_un (rexec_prim C (δ := { v := .pv (.lit (.int .i64 n)) }) rfl rfl rfl rfl trivial rfl ?_) -- t28 move
      refine rvc_un (rexec_call hP C rfl rfl rfl (mHas_calls seen n) ?_) -- t29 call
      refine rvc_un (rexec_prim C (δ := { v := .pv (.lit (.bool (mHas seen n))) }) rfl rfl rfl rfl trivial rfl ?_) -- t30 move
      refine rvc_case 30 (mHas seen n) rfl (fun h7 => ?_) (fun h7 => ?_)
      ·
        replace hR := of_true h7 hR
        refine rvc_shut rfl rfl rfl rfl ?_ -- t31
        refine rvc_shut rfl rfl rfl rfl ?_ -- t32
        refine rvc_shut rfl rfl rfl rfl ?_ -- t33
        refine rvc_shut rfl rfl rfl rfl ?_ -- t34
        refine rvc_shut rfl rfl rfl rfl ?_ -- t35
        refine rvc_un (rexec_prim C (δ := { v := .pv (.lit (.bool true)) }) rfl rfl rfl rfl trivial rfl ?_) -- t36 pick
        refine rvc_nil ?_
        refine Awp.condT (b := true) rfl rfl ?_
        refine Awp.cons C (fun _ => .pure) (by kernel_rfl) ?_ -- region 9
        refine rvc_un (rexec_prim C (δ := { v := .pv (.lit (.bool false)) }) rfl rfl rfl rfl trivial rfl ?_) -- t2 assign
        refine rvc_nil ?_
        refine Awp.ret ?_
        subst hR
        exact ⟨.inl rfl, rfl⟩
      ·
        replace hR := of_false h7 hR
        refine rvc_open rfl rfl rfl (rexec_prim C (δ := { v := .agg [.pv (.lit (.int .i64 c.epoch)), sS (some c.members.nil) eMember c.members.D] }) rfl rfl rfl rfl trivial rfl ?_) -- t31 load
        refine rvc_open rfl rfl rfl (rexec_prim C (δ := { v := .pv (.lit (.int .i64 n)) }) rfl rfl rfl rfl trivial rfl ?_) -- t32 move
        refine rvc_open rfl rfl rfl (rexec_call hP C rfl rfl rfl (backC_calls c n (by show c.members.D.length ≤ 1000000; have := check_len (c := c); have := check_le6 (c := c); have := eq_of_bne_false h1; have := of_decide_eq_true h6; omega)) ?_) -- t33 call
        refine rvc_open rfl rfl rfl (rexec_prim C (δ := { v := .pv (.lit (.int .i64 last)) }) rfl rfl rfl rfl trivial rfl ?_) -- t34 move
        refine rvc_open rfl rfl rfl (rexec_prim C (δ := { v := .pv (.lit (.bool ((backC c n) != last))) }) rfl rfl rfl rfl trivial rfl ?_) -- t35 binOp
        refine rvc_un (rexec_prim C (δ := { v := .pv (.lit (.bool ((backC c n) != last))) }) rfl rfl rfl rfl trivial rfl ?_) -- t36 pick
        refine rvc_nil ?_
        refine Awp.cond (b := ((backC c n) != last)) rfl (fun h8 => ?_) (fun h8 => ?_)
        ·
          replace hR := of_true h8 hR
          refine Awp.cons C (fun _ => .pure) (by kernel_rfl) ?_ -- region 9
          refine rvc_un (rexec_prim C (δ := { v := .pv (.lit (.bool false)) }) rfl rfl rfl rfl trivial rfl ?_) -- t2 assign
          refine rvc_nil ?_
          refine Awp.ret ?_
          subst hR
          exact ⟨.inl rfl, rfl⟩
        ·
          replace hR := of_false h8 hR
          refine Awp.skip ?_
          refine Awp.region C (fun _ => .pure) (by kernel_rfl) ?_ -- region 10
          refine rvc_un (rexec_prim C (δ := { v := .pv (.lit (.int .u64 seen)) }) rfl rfl rfl rfl trivial rfl ?_) -- t37 move
          refine rvc_un (rexec_prim C (δ := { v := .pv (.lit (.int .i64 n)) }) rfl rfl rfl rfl trivial rfl ?_) -- t38 move
          refine rvc_un (rexec_call hP C rfl rfl rfl (mWith_calls seen n) ?_) -- t39 call
          refine rvc_un (rexec_prim C (δ := { v := .pv (.lit (.int .i64 n)) }) rfl rfl rfl rfl trivial rfl ?_) -- t40 move
          refine rvc_un (rexec_prim C (δ := { v := .pv (.lit (.int .u64 (mWith seen n))) }) rfl rfl rfl rfl trivial rfl ?_) -- t3 assign
          refine rvc_un (rexec_prim C (δ := { v := .pv (.lit (.int .i64 n)) }) rfl rfl rfl rfl trivial rfl ?_) -- t4 assign
          refine rvc_nil ?_
          refine Awp.region C (fun _ => .pure) (by kernel_rfl) ?_ -- region 7
          refine rvc_un (rexec_prim C (δ := { v := .agg [.pv (.lit (.int .i64 c.epoch)), sS (some c.members.nil) eMember c.members.D] }) rfl rfl rfl rfl trivial rfl ?_) -- t24 load
          refine rvc_un (rexec_prim C (δ := { v := .pv (.lit (.int .i64 n)) }) rfl rfl rfl rfl trivial rfl ?_) -- t25 move
          refine rvc_un (rexec_call hP C rfl rfl rfl (nextC_calls c n (by show c.members.D.length ≤ 1000000; have := check_len (c := c); have := check_le6 (c := c); have := eq_of_bne_false h1; have := of_decide_eq_true h6; have := eq_of_bne_false h8; omega)) ?_) -- t26 call
          refine rvc_un (rexec_prim C (δ := { v := .pv (.lit (.int .i64 (nextC c n))) }) rfl rfl rfl rfl trivial rfl ?_) -- t5 assign
          refine rvc_nil ?_
          refine ⟨_, ((mWith seen n), n, (nextC c n)), ?_, ⟨rfl, (by rw [show (aroundM c (nextC c n)) + 1 = (aroundM c n) by (have hq := aroundM_next c (of_decide_eq_true ‹decide (n ≥ 0) = true›); omega)]; exact hR)⟩, ?_⟩
          · show (aroundM c (nextC c n)) < (aroundM c n); (have hq := aroundM_next c (of_decide_eq_true ‹decide (n ≥ 0) = true›); omega)
          · exact ⟨fun b => b, WeakerR.ofL (Ks := [1]) hI ⟨⟨rfl, rfl⟩, ⟨rfl, rfl⟩, ⟨rfl, rfl⟩, ⟨rfl, rfl⟩, trivial⟩ (okH_cons rfl rfl rfl rfl (okH_nil)) rfl⟩
    ·
      replace hR := of_false h6 hR
      refine Awp.exit ?_
      have hml := mLen_calls seen
      revert hR hml
      generalize mLen seen = ml
      intro hR hml
      obtain ⟨q, hq⟩ : ∃ q : Bool, q = (ml == (c.members.D.length : Int)) := ⟨_, rfl⟩
      rw [← hq] at hR
      refine Awp.cons C (fun _ => .pure) (by kernel_rfl) ?_ -- region 11
      refine rvc_un (rexec_prim C (δ := { v := .pv (.lit (.int .u64 seen)) }) rfl rfl rfl rfl trivial rfl ?_) -- t41 move
      refine rvc_un (rexec_prim C (δ := { v := .agg [.pv (.lit (.int .i64 c.epoch)), sS (some c.members.nil) eMember c.members.D] }) rfl rfl rfl rfl trivial rfl ?_) -- t42 load
      refine rvc_un (rexec_call hP C rfl rfl rfl (nodes_calls c hl1) ?_) -- t43 call
      refine rvc_un (rexec_prim C (δ := { v := .pv (.lit (.bool (seen == (nodes c)))) }) rfl rfl rfl rfl trivial rfl ?_) -- t44 binOp
      refine rvc_un (rexec_prim C (δ := { v := .pv (.lit (.bool (seen == (nodes c)))) }) rfl rfl rfl rfl trivial rfl ?_) -- t45 move
      refine rvc_case 45 (seen == (nodes c)) rfl (fun h9 => ?_) (fun h9 => ?_)
      ·
        replace hR := of_true h9 hR
        refine rvc_open rfl rfl rfl (rexec_prim C (δ := { v := .pv (.lit (.int .u64 seen)) }) rfl rfl rfl rfl trivial rfl ?_) -- t46 move
        refine rvc_open rfl rfl rfl (rexec_call hP C rfl rfl rfl hml ?_) -- t47 call
        refine rvc_open rfl rfl rfl (rexec_prim C (δ := { v := .ptr 1 1 }) rfl rfl rfl rfl trivial rfl ?_) -- t48 fieldAddr
        refine rvc_open rfl rfl rfl (rexec_prim C (δ := { v := sS (some c.members.nil) eMember c.members.D }) rfl rfl rfl rfl trivial rfl ?_) -- t49 load
        refine rvc_open rfl rfl rfl (rexec_prim C (δ := { v := .pv (.lit (.int .i64 (c.members.D.length : Int))) }) rfl rfl rfl rfl trivial rfl ?_) -- t50 call
        refine rvc_open rfl rfl rfl (rexec_primv C { v := .pv (.lit (.bool q)) } rfl rfl rfl rfl trivial (by rw [hq]) rfl ?_) -- t51 binOp
        refine rvc_un (rexec_prim C (δ := { v := .pv (.lit (.bool q)) }) rfl rfl rfl rfl trivial rfl ?_) -- t52 pick
        refine rvc_un (rexec_prim C (δ := { v := .pv (.lit (.bool q)) }) rfl rfl rfl rfl trivial rfl ?_) -- t53 move
        refine rvc_case 53 q rfl (fun h10 => ?_) (fun h10 => ?_)
        ·
          replace hR := of_true h10 hR
          refine rvc_open rfl rfl rfl (rexec_prim C (δ := { v := .pv (.lit (.int .i64 last)) }) rfl rfl rfl rfl trivial rfl ?_) -- t54 move
          refine rvc_open rfl rfl rfl (rexec_prim C (δ := { v := .agg [.pv (.lit (.int .i64 c.epoch)), sS (some c.members.nil) eMember c.members.D] }) rfl rfl rfl rfl trivial rfl ?_) -- t55 load
          refine rvc_open rfl rfl rfl (rexec_call hP C rfl rfl rfl (tailC_calls c hl1) ?_) -- t56 call
          refine rvc_open rfl rfl rfl (rexec_prim C (δ := { v := .pv (.lit (.bool (last == (tailC c)))) }) rfl rfl rfl rfl trivial rfl ?_) -- t57 binOp
          refine rvc_un (rexec_prim C (δ := { v := .pv (.lit (.bool (last == (tailC c)))) }) rfl rfl rfl rfl trivial rfl ?_) -- t58 pick
          refine rvc_un (rexec_prim C (δ := { v := .pv (.lit (.bool (last == (tailC c)))) }) rfl rfl rfl rfl trivial rfl ?_) -- t59 move
          refine rvc_case 59 (last == (tailC c)) rfl (fun h11 => ?_) (fun h11 => ?_)
          ·
            replace hR := of_true h11 hR
            refine rvc_open rfl rfl rfl (rexec_call hP C rfl rfl rfl (awake_calls ) ?_) -- t60 call
            refine rvc_un (rexec_prim C (δ := { v := .pv (.lit (.bool (awake ))) }) rfl rfl rfl rfl trivial rfl ?_) -- t61 pick
            refine rvc_un (rexec_prim C (δ := { v := .pv (.lit (.bool (awake ))) }) rfl rfl rfl rfl trivial rfl ?_) -- t2 assign
            refine rvc_nil ?_
            refine Awp.ret ?_
            subst hR
            exact ⟨.inl rfl, rfl⟩
          ·
            replace hR := of_false h11 hR
            refine rvc_shut rfl rfl rfl rfl ?_ -- t60
            refine rvc_un (rexec_prim C (δ := { v := .pv (.lit (.bool false)) }) rfl rfl rfl rfl trivial rfl ?_) -- t61 pick
            refine rvc_un (rexec_prim C (δ := { v := .pv (.lit (.bool false)) }) rfl rfl rfl rfl trivial rfl ?_) -- t2 assign
            refine rvc_nil ?_
            refine Awp.ret ?_
            subst hR
            exact ⟨.inl rfl, rfl⟩
        ·
          replace hR := of_false h10 hR
          refine rvc_shut rfl rfl rfl rfl ?_ -- t54
          refine rvc_shut rfl rfl rfl rfl ?_ -- t55
          refine rvc_shut rfl rfl rfl rfl ?_ -- t56
          refine rvc_shut rfl rfl rfl rfl ?_ -- t57
          refine rvc_un (rexec_prim C (δ := { v := .pv (.lit (.bool false)) }) rfl rfl rfl rfl trivial rfl ?_) -- t58 pick
          refine rvc_un (rexec_prim C (δ := { v := .pv (.lit (.bool false)) }) rfl rfl rfl rfl trivial rfl ?_) -- t59 move
          refine rvc_shut rfl rfl rfl rfl ?_ -- t60
          refine rvc_un (rexec_prim C (δ := { v := .pv (.lit (.bool false)) }) rfl rfl rfl rfl trivial rfl ?_) -- t61 pick
          refine rvc_un (rexec_prim C (δ := { v := .pv (.lit (.bool false)) }) rfl rfl rfl rfl trivial rfl ?_) -- t2 assign
          refine rvc_nil ?_
          refine Awp.ret ?_
          subst hR
          exact ⟨.inl rfl, rfl⟩
      ·
        replace hR := of_false h9 hR
        refine rvc_shut rfl rfl rfl rfl ?_ -- t46
        refine rvc_shut rfl rfl rfl rfl ?_ -- t47
        refine rvc_shut rfl rfl rfl rfl ?_ -- t48
        refine rvc_shut rfl rfl rfl rfl ?_ -- t49
        refine rvc_shut rfl rfl rfl rfl ?_ -- t50
        refine rvc_shut rfl rfl rfl rfl ?_ -- t51
        refine rvc_un (rexec_prim C (δ := { v := .pv (.lit (.bool false)) }) rfl rfl rfl rfl trivial rfl ?_) -- t52 pick
        refine rvc_un (rexec_prim C (δ := { v := .pv (.lit (.bool false)) }) rfl rfl rfl rfl trivial rfl ?_) -- t53 move
        refine rvc_shut rfl rfl rfl rfl ?_ -- t54
        refine rvc_shut rfl rfl rfl rfl ?_ -- t55
        refine rvc_shut rfl rfl rfl rfl ?_ -- t56
        refine rvc_shut rfl rfl rfl rfl ?_ -- t57
        refine rvc_un (rexec_prim C (δ := { v := .pv (.lit (.bool false)) }) rfl rfl rfl rfl trivial rfl ?_) -- t58 pick
        refine rvc_un (rexec_prim C (δ := { v := .pv (.lit (.bool false)) }) rfl rfl rfl rfl trivial rfl ?_) -- t59 move
        refine rvc_shut rfl rfl rfl rfl ?_ -- t60
        refine rvc_un (rexec_prim C (δ := { v := .pv (.lit (.bool false)) }) rfl rfl rfl rfl trivial rfl ?_) -- t61 pick
        refine rvc_un (rexec_prim C (δ := { v := .pv (.lit (.bool false)) }) rfl rfl rfl rfl trivial rfl ?_) -- t2 assign
        refine rvc_nil ?_
        refine Awp.ret ?_
        subst hR
        exact ⟨.inl rfl, rfl⟩

end Go.Proofs.Ytjhphpoihadmkaa
