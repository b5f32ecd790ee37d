/- Places and sets by the document. No conditions. -/
import Derived.Test.YtjhphpoihadmkaaLay2
namespace Go.Proofs.Ytjhphpoihadmkaa
open Go.Am
def rEnd (c : Chain) (which : Int) : Int :=
  (bif ((rCheck c) != 0) then (-1) else c.members.D[(IntKind.i64.wrap (which * (IntKind.i64.wrap ((c.members.D.length : Int) - 1)))).toNat]!.node)
theorem rEnd_calls (c : Chain) (which : Int) (hwh : which = 0 ∨ which = 1) (hl1 : c.members.D.length ≤ 9223372036854775807) : PCalls Try.prog 21 [.agg [.pv (.lit (.int .i64 c.epoch)), sS (some c.members.nil) eMember c.members.D], .pv (.lit (.int .i64 which))] (.pv (.lit (.int .i64 (rEnd c which)))) := by
  generalize hR : rEnd c which = R
  refine PCalls.of_body tabOk Try.func21 rfl rfl rfl rfl rfl mixed fun E hP C hI => ?_
  refine Awp.cons C (fun _ => .pure) (by kernel_rfl) ?_ -- region 0
  refine rvc_un (rexec_prim C (δ := { v := .ptr 2 0, new := [(2, .cells [.pv (.lit (.int .i64 c.epoch)), sS (some c.members.nil) eMember c.members.D])] }) rfl rfl rfl rfl trivial rfl ?_) -- t2 box
  refine rvc_un (rexec_prim C (δ := { v := .pv (.lit (.int .i64 0)) }) rfl rfl rfl rfl trivial rfl ?_) -- t4 assign
  refine rvc_nil ?_
  refine Awp.seq ?_
  refine Awp.cons C (fun _ => .pure) (by kernel_rfl) ?_ -- region 1
  refine rvc_un (rexec_prim C (δ := { v := .agg [.pv (.lit (.int .i64 c.epoch)), sS (some c.members.nil) eMember c.members.D] }) rfl rfl rfl rfl trivial rfl ?_) -- t5 load
  refine rvc_un (rexec_call hP C rfl rfl rfl (rCheck_calls c hl1) ?_) -- t6 call
  refine rvc_un (rexec_prim C (δ := { v := .pv (.lit (.bool ((rCheck c) != 0))) }) rfl rfl rfl rfl trivial rfl ?_) -- t7 binOp
  refine rvc_nil ?_
  refine Awp.cond (b := ((rCheck c) != 0)) rfl (fun h1 => ?_) (fun h1 => ?_)
  ·
    replace hR := of_true h1 hR
    refine Awp.cons C (fun _ => .pure) (by kernel_rfl) ?_ -- region 2
    refine rvc_un (rexec_prim C (δ := { v := .pv (.lit (.int .i64 (-1))) }) rfl rfl rfl rfl trivial rfl ?_) -- t4 assign
    refine rvc_nil ?_
    refine Awp.ret ?_
    subst hR
    exact ⟨.inl rfl, rfl⟩
  ·
    replace hR := of_false h1 hR
    refine Awp.skip ?_
    refine Awp.cons C (fun _ => .pure) (by kernel_rfl) ?_ -- region 3
    refine rvc_un (rexec_prim C (δ := { v := .ptr 2 1 }) rfl rfl rfl rfl trivial rfl ?_) -- t8 fieldAddr
    refine rvc_un (rexec_prim C (δ := { v := sS (some c.members.nil) eMember c.members.D }) rfl rfl rfl rfl trivial rfl ?_) -- t9 load
    refine rvc_un (rexec_prim C (δ := { v := .pv (.lit (.int .i64 which)) }) rfl rfl rfl rfl trivial rfl ?_) -- t10 move
    refine rvc_un (rexec_prim C (δ := { v := .ptr 2 1 }) rfl rfl rfl rfl trivial rfl ?_) -- t11 fieldAddr
    refine rvc_un (rexec_prim C (δ := { v := sS (some c.members.nil) eMember c.members.D }) rfl rfl rfl rfl trivial rfl ?_) -- t12 load
    refine rvc_un (rexec_prim C (δ := { v := .pv (.lit (.int .i64 (c.members.D.length : Int))) }) rfl rfl rfl rfl trivial rfl ?_) -- t13 call
    refine rvc_un (rexec_prim C (δ := { v := .pv (.lit (.int .i64 (IntKind.i64.wrap ((c.members.D.length : Int) - 1)))) }) rfl rfl rfl rfl trivial rfl ?_) -- t14 binOp
    refine rvc_un (rexec_prim C (δ := { v := .pv (.lit (.int .i64 (IntKind.i64.wrap (which * (IntKind.i64.wrap ((c.members.D.length : Int) - 1)))))) }) rfl rfl rfl rfl trivial rfl ?_) -- t15 binOp
    have h2 : c.members.D[(IntKind.i64.wrap (which * (IntKind.i64.wrap ((c.members.D.length : Int) - 1)))).toNat]? = some c.members.D[(IntKind.i64.wrap (which * (IntKind.i64.wrap ((c.members.D.length : Int) - 1)))).toNat]! := getE (by have h0 := check_r (eq_of_bne_false h1); have h2 := wrapI ((c.members.D.length : Int) - 1); have h3 := wrapI 0; rcases hwh with h | h <;> rw [h] <;> simp only [Int.zero_mul, Int.one_mul] <;> (try rw [h2 (by omega)]) <;> (try rw [h2 (by omega)]) <;> omega)
    refine rvc_un (rexec_idxS C rfl rfl rfl rfl rfl rfl (c.members.D[(IntKind.i64.wrap (which * (IntKind.i64.wrap ((c.members.D.length : Int) - 1)))).toNat]!) (by have h0 := check_r (eq_of_bne_false h1); have h2 := wrapI ((c.members.D.length : Int) - 1); have h3 := wrapI 0; rcases hwh with h | h <;> rw [h] <;> simp only [Int.zero_mul, Int.one_mul] <;> (try rw [h2 (by omega)]) <;> (try rw [h2 (by omega)]) <;> omega) h2 ?_) -- t16 indexAddr
    refine rvc_un (rexec_prim C (δ := { v := .rp [.lit (.int .i64 (c.members.D[(IntKind.i64.wrap (which * (IntKind.i64.wrap ((c.members.D.length : Int) - 1)))).toNat]!.node))] }) rfl rfl rfl rfl trivial rfl ?_) -- t17 fieldAddr
    refine rvc_un (rexec_prim C (δ := { v := .pv (.lit (.int .i64 (c.members.D[(IntKind.i64.wrap (which * (IntKind.i64.wrap ((c.members.D.length : Int) - 1)))).toNat]!.node))) }) rfl rfl rfl rfl trivial rfl ?_) -- t18 load
    refine rvc_un (rexec_prim C (δ := { v := .pv (.lit (.int .i64 (c.members.D[(IntKind.i64.wrap (which * (IntKind.i64.wrap ((c.members.D.length : Int) - 1)))).toNat]!.node))) }) rfl rfl rfl rfl trivial rfl ?_) -- t4 assign
    refine rvc_nil ?_
    refine Awp.ret ?_
    subst hR
    exact ⟨.inl rfl, rfl⟩

def rSet_l2 (kk : Int → Int) : Nat → Nat → Int → Int
  | 0, _, p => kk p
  | k1 + 1, i2, p => rSet_l2 kk k1 (i2 + 1) (IntKind.u64.wrap (2 * p))
def rSet_l1 (whole : Bool) (i : Nat) (kk : Bool → Int) : List Member → Nat → Bool → Int
  | [], _, has => kk has
  | x :: xs, i1, has => (bif has then rSet_l1 whole i kk xs (i1 + 1) true else (bif (x.node == (i : Int)) then (bif whole then rSet_l1 whole i kk xs (i1 + 1) (!x.fresh) else rSet_l1 whole i kk xs (i1 + 1) true) else rSet_l1 whole i kk xs (i1 + 1) false))
def rSet_l0 (c : Chain) (whole : Bool) : Nat → Nat → Int → Int
  | 0, _, w => w
  | k + 1, i, w => rSet_l1 whole i (fun has => (bif has then rSet_l2 (fun p => rSet_l0 c whole k (i + 1) (IntKind.u64.wrap (w + p))) (i : Int).toNat 0 1 else rSet_l0 c whole k (i + 1) w)) c.members.D 0 false
def rSet (c : Chain) (whole : Bool) : Int :=
  rSet_l0 c whole 64 0 0
theorem rSet_calls (c : Chain) (whole : Bool) (hl1 : c.members.D.length ≤ 1000000) : PCalls Try.prog 24 [.agg [.pv (.lit (.int .i64 c.epoch)), sS (some c.members.nil) eMember c.members.D], .pv (.lit (.bool whole))] (.pv (.lit (.int .u64 (rSet c whole)))) := by
  generalize hR : rSet c whole = R
  refine PCalls.of_body tabOk Try.func24 rfl rfl rfl rfl rfl mixed fun E hP C hI => ?_
  refine Awp.cons C (fun _ => .pure) (by kernel_rfl) ?_ -- region 0
  refine rvc_un (rexec_prim C (δ := { v := .ptr 2 0, new := [(2, .cells [.pv (.lit (.int .i64 c.epoch)), sS (some c.members.nil) eMember c.members.D])] }) rfl rfl rfl rfl trivial rfl ?_) -- t2 box
  refine rvc_un (rexec_prim C (δ := { v := .pv (.lit (.int .u64 0)) }) rfl rfl rfl rfl trivial rfl ?_) -- t4 assign
  refine rvc_nil ?_
  refine Awp.cons C (fun _ => .pure) (by kernel_rfl) ?_ -- region 1
  refine rvc_un (rexec_prim C (δ := { v := .pv (.lit (.int .u64 0)) }) rfl rfl rfl rfl trivial rfl ?_) -- t5 assign
  refine rvc_nil ?_
  refine Awp.seq ?_
  refine Awp.cons C (fun _ => .pure) (by kernel_rfl) ?_ -- region 2
  refine rvc_un (rexec_prim C (δ := { v := .pv (.lit (.int .i64 0)) }) rfl rfl rfl rfl trivial rfl ?_) -- t11 move
  refine rvc_nil ?_
  refine Awp.block ?_
  refine Awp.forR (σ := Int) (64) (fun i v => [(1, .pv (.lit (.bool whole))), (2, .ptr 2 0), (5, .pv (.lit (.int .u64 v))), (11, .pv (.lit (.int .i64 (i : Int))))]) (fun i v => [(2, .cells [.pv (.lit (.int .i64 c.epoch)), sS (some c.members.nil) eMember c.members.D])]) [2] (fun i v => rSet_l0 c whole (64 - i) i v = R) 0 ?_ ?_ (fun i w h1 hR => ?_)
  · exact hR
  · exact ⟨fun b => b, WeakerR.ofL (Ks := [2]) hI ⟨⟨rfl, rfl⟩, ⟨rfl, rfl⟩, ⟨rfl, rfl⟩, ⟨rfl, rfl⟩, trivial⟩ (okH_cons rfl rfl rfl rfl (okH_nil)) rfl⟩
  refine Awp.cons C (fun _ => .pure) (by kernel_rfl) ?_ -- region 3
  refine rvc_un (rexec_prim C (δ := { v := .pv (.lit (.bool (decide ((i : Int) < 64)))) }) rfl rfl rfl rfl trivial rfl ?_)
  refine rvc_nil ?_
  refine Awp.seq ?_
  refine Awp.cond (b := (decide ((i : Int) < 64))) rfl (fun h2 => ?_) (fun h2 => ?_)
  ·
    have h3 : i < 64 := by have := of_decide_eq_true h2; omega
    obtain ⟨k, h4⟩ : ∃ k, 64 - i = k + 1 := ⟨64 - i - 1, by omega⟩
    rw [h4] at hR
    refine Awp.skip ?_
    refine Awp.seq ?_
    refine Awp.block ?_
    refine Awp.cons C (fun _ => .pure) (by kernel_rfl) ?_ -- region 4
    refine rvc_un (rexec_prim C (δ := { v := .pv (.lit (.int .i64 (i : Int))) }) rfl rfl rfl rfl trivial rfl ?_) -- t13 move
    refine rvc_un (rexec_prim C (δ := { v := .pv (.lit (.int .i64 (i : Int))) }) rfl rfl rfl rfl trivial rfl ?_) -- t6 assign
    refine rvc_nil ?_
    refine Awp.cons C (fun _ => .pure) (by kernel_rfl) ?_ -- region 5
    refine rvc_un (rexec_prim C (δ := { v := .pv (.lit (.bool false)) }) rfl rfl rfl rfl trivial rfl ?_) -- t7 assign
    refine rvc_nil ?_
    refine Awp.seq ?_
    refine Awp.cons C (fun _ => .pure) (by kernel_rfl) ?_ -- region 6
    refine rvc_un (rexec_prim C (δ := { v := .ptr 2 1 }) rfl rfl rfl rfl trivial rfl ?_) -- t14 fieldAddr
    refine rvc_un (rexec_prim C (δ := { v := sS (some c.members.nil) eMember c.members.D }) rfl rfl rfl rfl trivial rfl ?_) -- t15 load
    refine rvc_un (rexec_prim C (δ := { v := .pv (.lit (.int .i64 (c.members.D.length : Int))) }) rfl rfl rfl rfl trivial rfl ?_) -- t16 call
    refine rvc_un (rexec_prim C (δ := { v := .pv (.lit (.int .i64 0)) }) rfl rfl rfl rfl trivial rfl ?_) -- t17 move
    refine rvc_nil ?_
    refine Awp.block ?_
    refine Awp.forR (σ := Bool) (c.members.D.length) (fun i1 v => [(1, .pv (.lit (.bool whole))), (2, .ptr 2 0), (5, .pv (.lit (.int .u64 w))), (6, .pv (.lit (.int .i64 (i : Int)))), (7, .pv (.lit (.bool v))), (11, .pv (.lit (.int .i64 (i : Int)))), (15, sS (some c.members.nil) eMember c.members.D), (16, .pv (.lit (.int .i64 (c.members.D.length : Int)))), (17, .pv (.lit (.int .i64 (i1 : Int))))]) (fun i1 v => [(2, .cells [.pv (.lit (.int .i64 c.epoch)), sS (some c.members.nil) eMember c.members.D])]) [2] (fun i1 v => rSet_l1 whole i (fun has => (bif has then rSet_l2 (fun p => rSet_l0 c whole k (i + 1) (IntKind.u64.wrap (w + p))) (i : Int).toNat 0 1 else rSet_l0 c whole k (i + 1) w)) (c.members.D.drop i1) i1 v = R) false ?_ ?_ (fun i1 has h5 hR => ?_)
    · exact hR
    · exact ⟨fun b => b, WeakerR.ofL (Ks := [2]) hI ⟨⟨rfl, rfl⟩, ⟨rfl, rfl⟩, ⟨rfl, rfl⟩, ⟨rfl, rfl⟩, ⟨rfl, rfl⟩, ⟨rfl, rfl⟩, ⟨rfl, rfl⟩, ⟨rfl, rfl⟩, ⟨rfl, rfl⟩, trivial⟩ (okH_cons rfl rfl rfl rfl (okH_nil)) rfl⟩
    refine Awp.cons C (fun _ => .pure) (by kernel_rfl) ?_ -- region 7
    refine rvc_un (rexec_prim C (δ := { v := .pv (.lit (.bool (decide ((i1 : Int) < (c.members.D.length : Int))))) }) rfl rfl rfl rfl trivial rfl ?_)
    refine rvc_nil ?_
    refine Awp.seq ?_
    refine Awp.cond (b := (decide ((i1 : Int) < (c.members.D.length : Int)))) rfl (fun h6 => ?_) (fun h6 => ?_)
    ·
      have h7 : i1 < c.members.D.length := by have := of_decide_eq_true h6; omega
      obtain ⟨x, h8⟩ := getX h7
      rw [drop_at h8] at hR
      refine Awp.skip ?_
      refine Awp.seq ?_
      refine Awp.block ?_
      refine Awp.cons C (fun _ => .pure) (by kernel_rfl) ?_ -- region 8
      refine rvc_un (rexec_idxS C rfl rfl rfl rfl rfl rfl x (Int.natCast_nonneg _) h8 ?_) -- t19 indexAddr
      refine rvc_un (rexec_prim C (δ := { v := .agg [.pv (.lit (.int .i64 x.node)), .pv (.lit (.int .i64 x.site)), .pv (.lit (.bool x.fresh))] }) rfl rfl rfl rfl trivial rfl ?_) -- t20 load
      refine rvc_un (rexec_prim C (δ := { v := .ptr 9 0, new := [(9, .cells [.pv (.lit (.int .i64 0)), .pv (.lit (.int .i64 0)), .pv (.lit (.bool false))])] }) rfl rfl rfl rfl trivial rfl ?_) -- t9 alloc
      refine rvc_un (rexec_prim C (δ := { v := .undef, wr := [(9, some (.cells [.pv (.lit (.int .i64 x.node)), .pv (.lit (.int .i64 x.site)), .pv (.lit (.bool x.fresh))]))] }) rfl rfl rfl rfl trivial rfl ?_) -- tNone store
      refine rvc_nil ?_
      refine Awp.region C (fun _ => .pure) (by kernel_rfl) ?_ -- region 9
      refine rvc_un (rexec_prim C (δ := { v := .pv (.lit (.bool has)) }) rfl rfl rfl rfl trivial rfl ?_) -- t21 move
      refine rvc_un (rexec_prim C (δ := { v := .pv (.lit (.bool has)) }) rfl rfl rfl rfl trivial rfl ?_) -- t22 move
      refine rvc_case 22 has rfl (fun h9 => ?_) (fun h9 => ?_)
      ·
        replace hR := of_true h9 hR
        refine rvc_shut rfl rfl rfl rfl ?_ -- t23
        refine rvc_shut rfl rfl rfl rfl ?_ -- t24
        refine rvc_shut rfl rfl rfl rfl ?_ -- t25
        refine rvc_shut rfl rfl rfl rfl ?_ -- t26
        refine rvc_shut rfl rfl rfl rfl ?_ -- t27
        refine rvc_shutU rfl rfl rfl ?_ -- t28
        refine rvc_shutU rfl rfl rfl ?_ -- t29
        refine rvc_shutU rfl rfl rfl ?_ -- t30
        refine rvc_shutU rfl rfl rfl ?_ -- t31
        refine rvc_shutU rfl rfl rfl ?_ -- t32
        refine rvc_shutU rfl rfl rfl ?_ -- t33
        refine rvc_shut rfl rfl rfl rfl ?_ -- t34
        refine rvc_un (rexec_prim C (δ := { v := .pv (.lit (.bool true)) }) rfl rfl rfl rfl trivial rfl ?_) -- t35 pick
        refine rvc_un (rexec_prim C (δ := { v := .pv (.lit (.bool true)) }) rfl rfl rfl rfl trivial rfl ?_) -- t7 assign
        refine rvc_nil ?_
        refine Awp.region C (fun _ => .pure) (by kernel_rfl) ?_ -- region 10
        refine rvc_un (rexec_prim C (δ := { v := .pv (.lit (.int .i64 (IntKind.i64.wrap ((i1 : Int) + 1)))) }) rfl rfl rfl rfl trivial rfl ?_) -- t36 binOp
        refine rvc_un (rexec_prim C (δ := { v := .pv (.lit (.int .i64 (IntKind.i64.wrap ((i1 : Int) + 1)))) }) rfl rfl rfl rfl trivial rfl ?_) -- t17 move
        refine rvc_nil ?_
        refine ⟨h7, true, ?_, ?_⟩
        · exact hR
        · exact ⟨fun b => b, WeakerR.ofL (Ks := [2]) hI ⟨⟨rfl, rfl⟩, ⟨rfl, rfl⟩, ⟨rfl, rfl⟩, ⟨rfl, rfl⟩, ⟨rfl, rfl⟩, ⟨rfl, rfl⟩, ⟨rfl, rfl⟩, ⟨rfl, rfl⟩, ⟨lit_cast (wrap_i64 (by omega) (by omega)), rfl⟩, trivial⟩ (okH_cons rfl rfl rfl rfl (okH_nil)) rfl⟩
      ·
        replace hR := of_false h9 hR
        refine rvc_open rfl rfl rfl (rexec_prim C (δ := { v := .ptr 9 0 }) rfl rfl rfl rfl trivial rfl ?_) -- t23 fieldAddr
        refine rvc_open rfl rfl rfl (rexec_prim C (δ := { v := .pv (.lit (.int .i64 x.node)) }) rfl rfl rfl rfl trivial rfl ?_) -- t24 load
        refine rvc_open rfl rfl rfl (rexec_prim C (δ := { v := .pv (.lit (.int .i64 (i : Int))) }) rfl rfl rfl rfl trivial rfl ?_) -- t25 move
        refine rvc_open rfl rfl rfl (rexec_prim C (δ := { v := .pv (.lit (.bool (x.node == (i : Int)))) }) rfl rfl rfl rfl trivial rfl ?_) -- t26 binOp
        refine rvc_open rfl rfl rfl (rexec_prim C (δ := { v := .pv (.lit (.bool (x.node == (i : Int)))) }) rfl rfl rfl rfl trivial rfl ?_) -- t27 move
        refine rvc_case 27 (x.node == (i : Int)) rfl (fun h10 => ?_) (fun h10 => ?_)
        ·
          replace hR := of_true h10 hR
          refine rvc_open rfl rfl rfl (rexec_prim C (δ := { v := .pv (.lit (.bool whole)) }) rfl rfl rfl rfl trivial rfl ?_) -- t28 move
          refine rvc_open rfl rfl rfl (rexec_prim C (δ := { v := .pv (.lit (.bool whole)) }) rfl rfl rfl rfl trivial rfl ?_) -- t29 move
          refine rvc_case 29 whole rfl (fun h11 => ?_) (fun h11 => ?_)
          ·
            replace hR := of_true h11 hR
            refine rvc_open rfl rfl rfl (rexec_prim C (δ := { v := .ptr 9 2 }) rfl rfl rfl rfl trivial rfl ?_) -- t30 fieldAddr
            refine rvc_open rfl rfl rfl (rexec_prim C (δ := { v := .pv (.lit (.bool x.fresh)) }) rfl rfl rfl rfl trivial rfl ?_) -- t31 load
            refine rvc_open rfl rfl rfl (rexec_prim C (δ := { v := .pv (.lit (.bool x.fresh)) }) rfl rfl rfl rfl trivial rfl ?_) -- t32 pick
            refine rvc_open rfl rfl rfl (rexec_prim C (δ := { v := .pv (.lit (.bool (!x.fresh))) }) rfl rfl rfl rfl trivial rfl ?_) -- t33 unOp
            refine rvc_open rfl rfl rfl (rexec_prim C (δ := { v := .pv (.lit (.bool (!x.fresh))) }) rfl rfl rfl rfl trivial rfl ?_) -- t34 pick
            refine rvc_un (rexec_prim C (δ := { v := .pv (.lit (.bool (!x.fresh))) }) rfl rfl rfl rfl trivial rfl ?_) -- t35 pick
            refine rvc_un (rexec_prim C (δ := { v := .pv (.lit (.bool (!x.fresh))) }) rfl rfl rfl rfl trivial rfl ?_) -- t7 assign
            refine rvc_nil ?_
            refine Awp.region C (fun _ => .pure) (by kernel_rfl) ?_ -- region 10
            refine rvc_un (rexec_prim C (δ := { v := .pv (.lit (.int .i64 (IntKind.i64.wrap ((i1 : Int) + 1)))) }) rfl rfl rfl rfl trivial rfl ?_) -- t36 binOp
            refine rvc_un (rexec_prim C (δ := { v := .pv (.lit (.int .i64 (IntKind.i64.wrap ((i1 : Int) + 1)))) }) rfl rfl rfl rfl trivial rfl ?_) -- t17 move
            refine rvc_nil ?_
            refine ⟨h7, (!x.fresh), ?_, ?_⟩
            · exact hR
            · exact ⟨fun b => b, WeakerR.ofL (Ks := [2]) hI ⟨⟨rfl, rfl⟩, ⟨rfl, rfl⟩, ⟨rfl, rfl⟩, ⟨rfl, rfl⟩, ⟨rfl, rfl⟩, ⟨rfl, rfl⟩, ⟨rfl, rfl⟩, ⟨rfl, rfl⟩, ⟨lit_cast (wrap_i64 (by omega) (by omega)), rfl⟩, trivial⟩ (okH_cons rfl rfl rfl rfl (okH_nil)) rfl⟩
          ·
            replace hR := of_false h11 hR
            refine rvc_shut rfl rfl rfl rfl ?_ -- t30
            refine rvc_shut rfl rfl rfl rfl ?_ -- t31
            refine rvc_open rfl rfl rfl (rexec_prim C (δ := { v := .pv (.lit (.bool false)) }) rfl rfl rfl rfl trivial rfl ?_) -- t32 pick
            refine rvc_open rfl rfl rfl (rexec_prim C (δ := { v := .pv (.lit (.bool true)) }) rfl rfl rfl rfl trivial rfl ?_) -- t33 unOp
            refine rvc_open rfl rfl rfl (rexec_prim C (δ := { v := .pv (.lit (.bool true)) }) rfl rfl rfl rfl trivial rfl ?_) -- t34 pick
            refine rvc_un (rexec_prim C (δ := { v := .pv (.lit (.bool true)) }) rfl rfl rfl rfl trivial rfl ?_) -- t35 pick
            refine rvc_un (rexec_prim C (δ := { v := .pv (.lit (.bool true)) }) rfl rfl rfl rfl trivial rfl ?_) -- t7 assign
            refine rvc_nil ?_
            refine Awp.region C (fun _ => .pure) (by kernel_rfl) ?_ -- region 10
            refine rvc_un (rexec_prim C (δ := { v := .pv (.lit (.int .i64 (IntKind.i64.wrap ((i1 : Int) + 1)))) }) rfl rfl rfl rfl trivial rfl ?_) -- t36 binOp
            refine rvc_un (rexec_prim C (δ := { v := .pv (.lit (.int .i64 (IntKind.i64.wrap ((i1 : Int) + 1)))) }) rfl rfl rfl rfl trivial rfl ?_) -- t17 move
            refine rvc_nil ?_
            refine ⟨h7, true, ?_, ?_⟩
            · exact hR
            · exact ⟨fun b => b, WeakerR.ofL (Ks := [2]) hI ⟨⟨rfl, rfl⟩, ⟨rfl, rfl⟩, ⟨rfl, rfl⟩, ⟨rfl, rfl⟩, ⟨rfl, rfl⟩, ⟨rfl, rfl⟩, ⟨rfl, rfl⟩, ⟨rfl, rfl⟩, ⟨lit_cast (wrap_i64 (by omega) (by omega)), rfl⟩, trivial⟩ (okH_cons rfl rfl rfl rfl (okH_nil)) rfl⟩
        ·
          replace hR := of_false h10 hR
          refine rvc_shut rfl rfl rfl rfl ?_ -- t28
          refine rvc_shut rfl rfl rfl rfl ?_ -- t29
          refine rvc_shutU rfl rfl rfl ?_ -- t30
          refine rvc_shutU rfl rfl rfl ?_ -- t31
          refine rvc_shut rfl rfl rfl rfl ?_ -- t32
          refine rvc_shut rfl rfl rfl rfl ?_ -- t33
          refine rvc_open rfl rfl rfl (rexec_prim C (δ := { v := .pv (.lit (.bool false)) }) rfl rfl rfl rfl trivial rfl ?_) -- t34 pick
          refine rvc_un (rexec_prim C (δ := { v := .pv (.lit (.bool false)) }) rfl rfl rfl rfl trivial rfl ?_) -- t35 pick
          refine rvc_un (rexec_prim C (δ := { v := .pv (.lit (.bool false)) }) rfl rfl rfl rfl trivial rfl ?_) -- t7 assign
          refine rvc_nil ?_
          refine Awp.region C (fun _ => .pure) (by kernel_rfl) ?_ -- region 10
          refine rvc_un (rexec_prim C (δ := { v := .pv (.lit (.int .i64 (IntKind.i64.wrap ((i1 : Int) + 1)))) }) rfl rfl rfl rfl trivial rfl ?_) -- t36 binOp
          refine rvc_un (rexec_prim C (δ := { v := .pv (.lit (.int .i64 (IntKind.i64.wrap ((i1 : Int) + 1)))) }) rfl rfl rfl rfl trivial rfl ?_) -- t17 move
          refine rvc_nil ?_
          refine ⟨h7, false, ?_, ?_⟩
          · exact hR
          · exact ⟨fun b => b, WeakerR.ofL (Ks := [2]) hI ⟨⟨rfl, rfl⟩, ⟨rfl, rfl⟩, ⟨rfl, rfl⟩, ⟨rfl, rfl⟩, ⟨rfl, rfl⟩, ⟨rfl, rfl⟩, ⟨rfl, rfl⟩, ⟨rfl, rfl⟩, ⟨lit_cast (wrap_i64 (by omega) (by omega)), rfl⟩, trivial⟩ (okH_cons rfl rfl rfl rfl (okH_nil)) rfl⟩
    ·
      have h7 : ¬ i1 < c.members.D.length := by have := of_decide_eq_false h6; omega
      rw [drop_end h7] at hR
      refine Awp.exit ?_
      refine Awp.cons C (fun _ => .pure) (by kernel_rfl) ?_ -- region 11
      refine rvc_un (rexec_prim C (δ := { v := .pv (.lit (.bool has)) }) rfl rfl rfl rfl trivial rfl ?_) -- t37 move
      refine rvc_nil ?_
      refine Awp.cond (b := has) rfl (fun h12 => ?_) (fun h12 => ?_)
      ·
        replace hR := of_true h12 hR
        refine Awp.cons C (fun _ => .pure) (by kernel_rfl) ?_ -- region 12
        refine rvc_un (rexec_prim C (δ := { v := .pv (.lit (.int .u64 1)) }) rfl rfl rfl rfl trivial rfl ?_) -- t10 assign
        refine rvc_nil ?_
        refine Awp.seq ?_
        refine Awp.cons C (fun _ => .pure) (by kernel_rfl) ?_ -- region 13
        refine rvc_un (rexec_prim C (δ := { v := .pv (.lit (.int .i64 (i : Int))) }) rfl rfl rfl rfl trivial rfl ?_) -- t38 move
        refine rvc_un (rexec_prim C (δ := { v := .pv (.lit (.int .i64 0)) }) rfl rfl rfl rfl trivial rfl ?_) -- t39 move
        refine rvc_nil ?_
        refine Awp.block ?_
        refine Awp.forR (σ := Int) ((i : Int).toNat) (fun i2 v => [(1, .pv (.lit (.bool whole))), (2, .ptr 2 0), (5, .pv (.lit (.int .u64 w))), (10, .pv (.lit (.int .u64 v))), (11, .pv (.lit (.int .i64 (i : Int)))), (38, .pv (.lit (.int .i64 (i : Int)))), (39, .pv (.lit (.int .i64 (i2 : Int))))]) (fun i2 v => [(2, .cells [.pv (.lit (.int .i64 c.epoch)), sS (some c.members.nil) eMember c.members.D])]) [2] (fun i2 v => rSet_l2 (fun p => rSet_l0 c whole k (i + 1) (IntKind.u64.wrap (w + p))) ((i : Int).toNat - i2) i2 v = R) 1 ?_ ?_ (fun i2 p h13 hR => ?_)
        · exact hR
        · exact ⟨fun b => b, WeakerR.ofL (Ks := [2]) hI ⟨⟨rfl, rfl⟩, ⟨rfl, rfl⟩, ⟨rfl, rfl⟩, ⟨rfl, rfl⟩, ⟨rfl, rfl⟩, ⟨rfl, rfl⟩, ⟨rfl, rfl⟩, trivial⟩ (okH_cons rfl rfl rfl rfl (okH_nil)) rfl⟩
        refine Awp.cons C (fun _ => .pure) (by kernel_rfl) ?_ -- region 14
        refine rvc_un (rexec_prim C (δ := { v := .pv (.lit (.bool (decide ((i2 : Int) < (i : Int))))) }) rfl rfl rfl rfl trivial rfl ?_)
        refine rvc_nil ?_
        refine Awp.seq ?_
        refine Awp.cond (b := (decide ((i2 : Int) < (i : Int)))) rfl (fun h14 => ?_) (fun h14 => ?_)
        ·
          have h15 : i2 < (i : Int).toNat := by have := of_decide_eq_true h14; omega
          obtain ⟨k1, h16⟩ : ∃ k, (i : Int).toNat - i2 = k + 1 := ⟨(i : Int).toNat - i2 - 1, by omega⟩
          rw [h16] at hR
          refine Awp.skip ?_
          refine Awp.seq ?_
          refine Awp.block ?_
          refine Awp.region C (fun _ => .pure) (by kernel_rfl) ?_ -- region 15
          refine rvc_un (rexec_prim C (δ := { v := .pv (.lit (.int .u64 p)) }) rfl rfl rfl rfl trivial rfl ?_) -- t41 move
          refine rvc_un (rexec_prim C (δ := { v := .pv (.lit (.int .u64 (IntKind.u64.wrap (2 * p)))) }) rfl rfl rfl rfl trivial rfl ?_) -- t42 binOp
          refine rvc_un (rexec_prim C (δ := { v := .pv (.lit (.int .u64 (IntKind.u64.wrap (2 * p)))) }) rfl rfl rfl rfl trivial rfl ?_) -- t10 assign
          refine rvc_nil ?_
          refine Awp.region C (fun _ => .pure) (by kernel_rfl) ?_ -- region 16
          refine rvc_un (rexec_prim C (δ := { v := .pv (.lit (.int .i64 (IntKind.i64.wrap ((i2 : Int) + 1)))) }) rfl rfl rfl rfl trivial rfl ?_) -- t43 binOp
          refine rvc_un (rexec_prim C (δ := { v := .pv (.lit (.int .i64 (IntKind.i64.wrap ((i2 : Int) + 1)))) }) rfl rfl rfl rfl trivial rfl ?_) -- t39 move
          refine rvc_nil ?_
          refine ⟨h15, (IntKind.u64.wrap (2 * p)), ?_, ?_⟩
          · exact (by rw [show (i : Int).toNat - (i2 + 1) = k1 by omega]; exact hR)
          · exact ⟨fun b => b, WeakerR.ofL (Ks := [2]) hI ⟨⟨rfl, rfl⟩, ⟨rfl, rfl⟩, ⟨rfl, rfl⟩, ⟨rfl, rfl⟩, ⟨rfl, rfl⟩, ⟨rfl, rfl⟩, ⟨lit_cast (wrap_i64 (by omega) (by omega)), rfl⟩, trivial⟩ (okH_cons rfl rfl rfl rfl (okH_nil)) rfl⟩
        ·
          rw [show (i : Int).toNat - i2 = 0 by have := of_decide_eq_false h14; omega] at hR
          refine Awp.exit ?_
          refine Awp.region C (fun _ => .pure) (by kernel_rfl) ?_ -- region 17
          refine rvc_un (rexec_prim C (δ := { v := .pv (.lit (.int .u64 w)) }) rfl rfl rfl rfl trivial rfl ?_) -- t44 move
          refine rvc_un (rexec_prim C (δ := { v := .pv (.lit (.int .u64 p)) }) rfl rfl rfl rfl trivial rfl ?_) -- t45 move
          refine rvc_un (rexec_prim C (δ := { v := .pv (.lit (.int .u64 (IntKind.u64.wrap (w + p)))) }) rfl rfl rfl rfl trivial rfl ?_) -- t46 binOp
          refine rvc_un (rexec_prim C (δ := { v := .pv (.lit (.int .u64 (IntKind.u64.wrap (w + p)))) }) rfl rfl rfl rfl trivial rfl ?_) -- t5 assign
          refine rvc_nil ?_
          refine Awp.region C (fun _ => .pure) (by kernel_rfl) ?_ -- region 18
          refine rvc_un (rexec_prim C (δ := { v := .pv (.lit (.int .i64 (IntKind.i64.wrap ((i : Int) + 1)))) }) rfl rfl rfl rfl trivial rfl ?_) -- t47 binOp
          refine rvc_un (rexec_prim C (δ := { v := .pv (.lit (.int .i64 (IntKind.i64.wrap ((i : Int) + 1)))) }) rfl rfl rfl rfl trivial rfl ?_) -- t11 move
          refine rvc_nil ?_
          refine ⟨h3, (IntKind.u64.wrap (w + p)), ?_, ?_⟩
          · exact (by rw [show 64 - (i + 1) = k by omega]; exact hR)
          · exact ⟨fun b => b, WeakerR.ofL (Ks := [2]) hI ⟨⟨rfl, rfl⟩, ⟨rfl, rfl⟩, ⟨rfl, rfl⟩, ⟨lit_cast (wrap_i64 (by omega) (by omega)), rfl⟩, trivial⟩ (okH_cons rfl rfl rfl rfl (okH_nil)) rfl⟩
      ·
        replace hR := of_false h12 hR
        refine Awp.skip ?_
        refine Awp.region C (fun _ => .pure) (by kernel_rfl) ?_ -- region 18
        refine rvc_un (rexec_prim C (δ := { v := .pv (.lit (.int .i64 (IntKind.i64.wrap ((i : Int) + 1)))) }) rfl rfl rfl rfl trivial rfl ?_) -- t47 binOp
        refine rvc_un (rexec_prim C (δ := { v := .pv (.lit (.int .i64 (IntKind.i64.wrap ((i : Int) + 1)))) }) rfl rfl rfl rfl trivial rfl ?_) -- t11 move
        refine rvc_nil ?_
        refine ⟨h3, w, ?_, ?_⟩
        · exact (by rw [show 64 - (i + 1) = k by omega]; exact hR)
        · exact ⟨fun b => b, WeakerR.ofL (Ks := [2]) hI ⟨⟨rfl, rfl⟩, ⟨rfl, rfl⟩, ⟨rfl, rfl⟩, ⟨lit_cast (wrap_i64 (by omega) (by omega)), rfl⟩, trivial⟩ (okH_cons rfl rfl rfl rfl (okH_nil)) rfl⟩
  ·
    rw [show 64 - i = 0 by have := of_decide_eq_false h2; omega] at hR
    refine Awp.exit ?_
    refine Awp.cons C (fun _ => .pure) (by kernel_rfl) ?_ -- region 19
    refine rvc_un (rexec_prim C (δ := { v := .pv (.lit (.int .u64 w)) }) rfl rfl rfl rfl trivial rfl ?_) -- t48 move
    refine rvc_un (rexec_prim C (δ := { v := .pv (.lit (.int .u64 w)) }) rfl rfl rfl rfl trivial rfl ?_) -- t4 assign
    refine rvc_nil ?_
    refine Awp.ret ?_
    subst hR
    exact ⟨.inl rfl, rfl⟩

def rOff (c : Chain) (node : Int) (by_ : Int) : Int :=
  (bif (decide ((rPlace c node) < 0)) then (-1) else (bif (decide ((IntKind.i64.wrap ((rPlace c node) + by_)) < 0)) then (-1) else (bif (decide ((IntKind.i64.wrap ((rPlace c node) + by_)) ≥ (c.members.D.length : Int))) then (-1) else c.members.D[(IntKind.i64.wrap ((rPlace c node) + by_)).toNat]!.node)))
theorem rOff_calls (c : Chain) (node : Int) (by_ : Int) (hl1 : c.members.D.length ≤ 1000000) : PCalls Try.prog 18 [.agg [.pv (.lit (.int .i64 c.epoch)), sS (some c.members.nil) eMember c.members.D], .pv (.lit (.int .i64 node)), .pv (.lit (.int .i64 by_))] (.pv (.lit (.int .i64 (rOff c node by_)))) := by
  generalize hR : rOff c node by_ = R
  refine PCalls.of_body tabOk Try.func18 rfl rfl rfl rfl rfl mixed fun E hP C hI => ?_
  refine Awp.cons C (fun _ => .pure) (by kernel_rfl) ?_ -- region 0
  refine rvc_un (rexec_prim C (δ := { v := .ptr 3 0, new := [(3, .cells [.pv (.lit (.int .i64 c.epoch)), sS (some c.members.nil) eMember c.members.D])] }) rfl rfl rfl rfl trivial rfl ?_) -- t3 box
  refine rvc_un (rexec_prim C (δ := { v := .pv (.lit (.int .i64 0)) }) rfl rfl rfl rfl trivial rfl ?_) -- t6 assign
  refine rvc_nil ?_
  refine Awp.cons C (fun _ => .pure) (by kernel_rfl) ?_ -- region 1
  refine rvc_un (rexec_prim C (δ := { v := .agg [.pv (.lit (.int .i64 c.epoch)), sS (some c.members.nil) eMember c.members.D] }) rfl rfl rfl rfl trivial rfl ?_) -- t8 load
  refine rvc_un (rexec_prim C (δ := { v := .pv (.lit (.int .i64 node)) }) rfl rfl rfl rfl trivial rfl ?_) -- t9 move
  refine rvc_un (rexec_call hP C rfl rfl rfl (rPlace_calls c node (Nat.le_trans hl1 (by decide))) ?_) -- t10 call
  refine rvc_un (rexec_prim C (δ := { v := .pv (.lit (.int .i64 (rPlace c node))) }) rfl rfl rfl rfl trivial rfl ?_) -- t7 assign
  refine rvc_nil ?_
  refine Awp.seq ?_
  refine Awp.cons C (fun _ => .pure) (by kernel_rfl) ?_ -- region 2
  refine rvc_un (rexec_prim C (δ := { v := .pv (.lit (.int .i64 (rPlace c node))) }) rfl rfl rfl rfl trivial rfl ?_) -- t11 move
  refine rvc_un (rexec_prim C (δ := { v := .pv (.lit (.bool (decide ((rPlace c node) < 0)))) }) rfl rfl rfl rfl trivial rfl ?_) -- t12 binOp
  refine rvc_un (rexec_prim C (δ := { v := .pv (.lit (.bool (decide ((rPlace c node) < 0)))) }) rfl rfl rfl rfl trivial rfl ?_) -- t13 move
  refine rvc_case 13 (decide ((rPlace c node) < 0)) rfl (fun h1 => ?_) (fun h1 => ?_)
  ·
    replace hR := of_true h1 hR
    refine rvc_shut rfl rfl rfl rfl ?_ -- t14
    refine rvc_shut rfl rfl rfl rfl ?_ -- t15
    refine rvc_shut rfl rfl rfl rfl ?_ -- t16
    refine rvc_shut rfl rfl rfl rfl ?_ -- t17
    refine rvc_un (rexec_prim C (δ := { v := .pv (.lit (.bool true)) }) rfl rfl rfl rfl trivial rfl ?_) -- t18 pick
    refine rvc_un (rexec_prim C (δ := { v := .pv (.lit (.bool true)) }) rfl rfl rfl rfl trivial rfl ?_) -- t19 move
    refine rvc_shut rfl rfl rfl rfl ?_ -- t20
    refine rvc_shut rfl rfl rfl rfl ?_ -- t21
    refine rvc_shut rfl rfl rfl rfl ?_ -- t22
    refine rvc_shut rfl rfl rfl rfl ?_ -- t23
    refine rvc_shut rfl rfl rfl rfl ?_ -- t24
    refine rvc_shut rfl rfl rfl rfl ?_ -- t25
    refine rvc_shut rfl rfl rfl rfl ?_ -- t26
    refine rvc_un (rexec_prim C (δ := { v := .pv (.lit (.bool true)) }) rfl rfl rfl rfl trivial rfl ?_) -- t27 pick
    refine rvc_nil ?_
    refine Awp.condT (b := true) rfl rfl ?_
    refine Awp.cons C (fun _ => .pure) (by kernel_rfl) ?_ -- region 3
    refine rvc_un (rexec_prim C (δ := { v := .pv (.lit (.int .i64 (-1))) }) rfl rfl rfl rfl trivial rfl ?_) -- t6 assign
    refine rvc_nil ?_
    refine Awp.ret ?_
    subst hR
    exact ⟨.inl rfl, rfl⟩
  ·
    replace hR := of_false h1 hR
    refine rvc_open rfl rfl rfl (rexec_prim C (δ := { v := .pv (.lit (.int .i64 (rPlace c node))) }) rfl rfl rfl rfl trivial rfl ?_) -- t14 move
    refine rvc_open rfl rfl rfl (rexec_prim C (δ := { v := .pv (.lit (.int .i64 by_)) }) rfl rfl rfl rfl trivial rfl ?_) -- t15 move
    refine rvc_open rfl rfl rfl (rexec_prim C (δ := { v := .pv (.lit (.int .i64 (IntKind.i64.wrap ((rPlace c node) + by_)))) }) rfl rfl rfl rfl trivial rfl ?_) -- t16 binOp
    refine rvc_open rfl rfl rfl (rexec_prim C (δ := { v := .pv (.lit (.bool (decide ((IntKind.i64.wrap ((rPlace c node) + by_)) < 0)))) }) rfl rfl rfl rfl trivial rfl ?_) -- t17 binOp
    refine rvc_un (rexec_prim C (δ := { v := .pv (.lit (.bool (decide ((IntKind.i64.wrap ((rPlace c node) + by_)) < 0)))) }) rfl rfl rfl rfl trivial rfl ?_) -- t18 pick
    refine rvc_un (rexec_prim C (δ := { v := .pv (.lit (.bool (decide ((IntKind.i64.wrap ((rPlace c node) + by_)) < 0)))) }) rfl rfl rfl rfl trivial rfl ?_) -- t19 move
    refine rvc_case 19 (decide ((IntKind.i64.wrap ((rPlace c node) + by_)) < 0)) rfl (fun h2 => ?_) (fun h2 => ?_)
    ·
      replace hR := of_true h2 hR
      refine rvc_shut rfl rfl rfl rfl ?_ -- t20
      refine rvc_shut rfl rfl rfl rfl ?_ -- t21
      refine rvc_shut rfl rfl rfl rfl ?_ -- t22
      refine rvc_shut rfl rfl rfl rfl ?_ -- t23
      refine rvc_shut rfl rfl rfl rfl ?_ -- t24
      refine rvc_shut rfl rfl rfl rfl ?_ -- t25
      refine rvc_shut rfl rfl rfl rfl ?_ -- t26
      refine rvc_un (rexec_prim C (δ := { v := .pv (.lit (.bool true)) }) rfl rfl rfl rfl trivial rfl ?_) -- t27 pick
      refine rvc_nil ?_
      refine Awp.condT (b := true) rfl rfl ?_
      refine Awp.cons C (fun _ => .pure) (by kernel_rfl) ?_ -- region 3
      refine rvc_un (rexec_prim C (δ := { v := .pv (.lit (.int .i64 (-1))) }) rfl rfl rfl rfl trivial rfl ?_) -- t6 assign
      refine rvc_nil ?_
      refine Awp.ret ?_
      subst hR
      exact ⟨.inl rfl, rfl⟩
    ·
      replace hR := of_false h2 hR
      refine rvc_open rfl rfl rfl (rexec_prim C (δ := { v := .pv (.lit (.int .i64 (rPlace c node))) }) rfl rfl rfl rfl trivial rfl ?_) -- t20 move
      refine rvc_open rfl rfl rfl (rexec_prim C (δ := { v := .pv (.lit (.int .i64 by_)) }) rfl rfl rfl rfl trivial rfl ?_) -- t21 move
      refine rvc_open rfl rfl rfl (rexec_prim C (δ := { v := .pv (.lit (.int .i64 (IntKind.i64.wrap ((rPlace c node) + by_)))) }) rfl rfl rfl rfl trivial rfl ?_) -- t22 binOp
      refine rvc_open rfl rfl rfl (rexec_prim C (δ := { v := .ptr 3 1 }) rfl rfl rfl rfl trivial rfl ?_) -- t23 fieldAddr
      refine rvc_open rfl rfl rfl (rexec_prim C (δ := { v := sS (some c.members.nil) eMember c.members.D }) rfl rfl rfl rfl trivial rfl ?_) -- t24 load
      refine rvc_open rfl rfl rfl (rexec_prim C (δ := { v := .pv (.lit (.int .i64 (c.members.D.length : Int))) }) rfl rfl rfl rfl trivial rfl ?_) -- t25 call
      refine rvc_open rfl rfl rfl (rexec_prim C (δ := { v := .pv (.lit (.bool (decide ((IntKind.i64.wrap ((rPlace c node) + by_)) ≥ (c.members.D.length : Int))))) }) rfl rfl rfl rfl trivial rfl ?_) -- t26 binOp
      refine rvc_un (rexec_prim C (δ := { v := .pv (.lit (.bool (decide ((IntKind.i64.wrap ((rPlace c node) + by_)) ≥ (c.members.D.length : Int))))) }) rfl rfl rfl rfl trivial rfl ?_) -- t27 pick
      refine rvc_nil ?_
      refine Awp.cond (b := (decide ((IntKind.i64.wrap ((rPlace c node) + by_)) ≥ (c.members.D.length : Int)))) rfl (fun h3 => ?_) (fun h3 => ?_)
      ·
        replace hR := of_true h3 hR
        refine Awp.cons C (fun _ => .pure) (by kernel_rfl) ?_ -- region 3
        refine rvc_un (rexec_prim C (δ := { v := .pv (.lit (.int .i64 (-1))) }) rfl rfl rfl rfl trivial rfl ?_) -- t6 assign
        refine rvc_nil ?_
        refine Awp.ret ?_
        subst hR
        exact ⟨.inl rfl, rfl⟩
      ·
        replace hR := of_false h3 hR
        refine Awp.skip ?_
        refine Awp.cons C (fun _ => .pure) (by kernel_rfl) ?_ -- region 4
        refine rvc_un (rexec_prim C (δ := { v := .ptr 3 1 }) rfl rfl rfl rfl trivial rfl ?_) -- t28 fieldAddr
        refine rvc_un (rexec_prim C (δ := { v := sS (some c.members.nil) eMember c.members.D }) rfl rfl rfl rfl trivial rfl ?_) -- t29 load
        refine rvc_un (rexec_prim C (δ := { v := .pv (.lit (.int .i64 (rPlace c node))) }) rfl rfl rfl rfl trivial rfl ?_) -- t30 move
        refine rvc_un (rexec_prim C (δ := { v := .pv (.lit (.int .i64 by_)) }) rfl rfl rfl rfl trivial rfl ?_) -- t31 move
        refine rvc_un (rexec_prim C (δ := { v := .pv (.lit (.int .i64 (IntKind.i64.wrap ((rPlace c node) + by_)))) }) rfl rfl rfl rfl trivial rfl ?_) -- t32 binOp
        have h4 : c.members.D[(IntKind.i64.wrap ((rPlace c node) + by_)).toNat]? = some c.members.D[(IntKind.i64.wrap ((rPlace c node) + by_)).toNat]! := getE (by have := wrapI ((rPlace c node) + by_); have := rPlace_lt c node; have := of_decide_eq_false h1; have := of_decide_eq_false h2; have := of_decide_eq_false h3; omega)
        refine rvc_un (rexec_idxS C rfl rfl rfl rfl rfl rfl (c.members.D[(IntKind.i64.wrap ((rPlace c node) + by_)).toNat]!) (by have := wrapI ((rPlace c node) + by_); have := rPlace_lt c node; have := of_decide_eq_false h1; have := of_decide_eq_false h2; have := of_decide_eq_false h3; omega) h4 ?_) -- t33 indexAddr
        refine rvc_un (rexec_prim C (δ := { v := .rp [.lit (.int .i64 (c.members.D[(IntKind.i64.wrap ((rPlace c node) + by_)).toNat]!.node))] }) rfl rfl rfl rfl trivial rfl ?_) -- t34 fieldAddr
        refine rvc_un (rexec_prim C (δ := { v := .pv (.lit (.int .i64 (c.members.D[(IntKind.i64.wrap ((rPlace c node) + by_)).toNat]!.node))) }) rfl rfl rfl rfl trivial rfl ?_) -- t35 load
        refine rvc_un (rexec_prim C (δ := { v := .pv (.lit (.int .i64 (c.members.D[(IntKind.i64.wrap ((rPlace c node) + by_)).toNat]!.node))) }) rfl rfl rfl rfl trivial rfl ?_) -- t6 assign
        refine rvc_nil ?_
        refine Awp.ret ?_
        subst hR
        exact ⟨.inl rfl, rfl⟩

def backC (c : Chain) (node : Int) : Int :=
  (bif (decide ((place0 c node) < 1)) then (-1) else c.members.D[(IntKind.i64.wrap ((place0 c node) - 1)).toNat]!.node)
theorem backC_calls (c : Chain) (node : Int) (hl1 : c.members.D.length ≤ 1000000) : PCalls Try.prog 19 [.agg [.pv (.lit (.int .i64 c.epoch)), sS (some c.members.nil) eMember c.members.D], .pv (.lit (.int .i64 node))] (.pv (.lit (.int .i64 (backC c node)))) := by
  generalize hR : backC c node = R
  refine PCalls.of_body tabOk Try.func19 rfl rfl rfl rfl rfl mixed fun E hP C hI => ?_
  refine Awp.cons C (fun _ => .pure) (by kernel_rfl) ?_ -- region 0
  refine rvc_un (rexec_prim C (δ := { v := .ptr 2 0, new := [(2, .cells [.pv (.lit (.int .i64 c.epoch)), sS (some c.members.nil) eMember c.members.D])] }) rfl rfl rfl rfl trivial rfl ?_) -- t2 box
  refine rvc_un (rexec_prim C (δ := { v := .pv (.lit (.int .i64 0)) }) rfl rfl rfl rfl trivial rfl ?_) -- t4 assign
  refine rvc_nil ?_
  refine Awp.cons C (fun _ => .pure) (by kernel_rfl) ?_ -- region 1
  refine rvc_un (rexec_prim C (δ := { v := .agg [.pv (.lit (.int .i64 c.epoch)), sS (some c.members.nil) eMember c.members.D] }) rfl rfl rfl rfl trivial rfl ?_) -- t6 load
  refine rvc_un (rexec_prim C (δ := { v := .pv (.lit (.int .i64 node)) }) rfl rfl rfl rfl trivial rfl ?_) -- t7 move
  refine rvc_un (rexec_call hP C rfl rfl rfl (place0_calls c node (Nat.le_trans hl1 (by decide))) ?_) -- t8 call
  refine rvc_un (rexec_prim C (δ := { v := .pv (.lit (.int .i64 (place0 c node))) }) rfl rfl rfl rfl trivial rfl ?_) -- t5 assign
  refine rvc_nil ?_
  refine Awp.seq ?_
  refine Awp.cons C (fun _ => .pure) (by kernel_rfl) ?_ -- region 2
  refine rvc_un (rexec_prim C (δ := { v := .pv (.lit (.int .i64 (place0 c node))) }) rfl rfl rfl rfl trivial rfl ?_) -- t9 move
  refine rvc_un (rexec_prim C (δ := { v := .pv (.lit (.bool (decide ((place0 c node) < 1)))) }) rfl rfl rfl rfl trivial rfl ?_) -- t10 binOp
  refine rvc_nil ?_
  refine Awp.cond (b := (decide ((place0 c node) < 1))) rfl (fun h1 => ?_) (fun h1 => ?_)
  ·
    replace hR := of_true h1 hR
    refine Awp.cons C (fun _ => .pure) (by kernel_rfl) ?_ -- region 3
    refine rvc_un (rexec_prim C (δ := { v := .pv (.lit (.int .i64 (-1))) }) rfl rfl rfl rfl trivial rfl ?_) -- t4 assign
    refine rvc_nil ?_
    refine Awp.ret ?_
    subst hR
    exact ⟨.inl rfl, rfl⟩
  ·
    replace hR := of_false h1 hR
    refine Awp.skip ?_
    refine Awp.cons C (fun _ => .pure) (by kernel_rfl) ?_ -- region 4
    refine rvc_un (rexec_prim C (δ := { v := .ptr 2 1 }) rfl rfl rfl rfl trivial rfl ?_) -- t11 fieldAddr
    refine rvc_un (rexec_prim C (δ := { v := sS (some c.members.nil) eMember c.members.D }) rfl rfl rfl rfl trivial rfl ?_) -- t12 load
    refine rvc_un (rexec_prim C (δ := { v := .pv (.lit (.int .i64 (place0 c node))) }) rfl rfl rfl rfl trivial rfl ?_) -- t13 move
    refine rvc_un (rexec_prim C (δ := { v := .pv (.lit (.int .i64 (IntKind.i64.wrap ((place0 c node) - 1)))) }) rfl rfl rfl rfl trivial rfl ?_) -- t14 binOp
    have h2 : c.members.D[(IntKind.i64.wrap ((place0 c node) - 1)).toNat]? = some c.members.D[(IntKind.i64.wrap ((place0 c node) - 1)).toNat]! := getE (by have := wrapI ((place0 c node) - 1); have := place0_lt c node; have := of_decide_eq_false h1; omega)
    refine rvc_un (rexec_idxS C rfl rfl rfl rfl rfl rfl (c.members.D[(IntKind.i64.wrap ((place0 c node) - 1)).toNat]!) (by have := wrapI ((place0 c node) - 1); have := place0_lt c node; have := of_decide_eq_false h1; omega) h2 ?_) -- t15 indexAddr
    refine rvc_un (rexec_prim C (δ := { v := .rp [.lit (.int .i64 (c.members.D[(IntKind.i64.wrap ((place0 c node) - 1)).toNat]!.node))] }) rfl rfl rfl rfl trivial rfl ?_) -- t16 fieldAddr
    refine rvc_un (rexec_prim C (δ := { v := .pv (.lit (.int .i64 (c.members.D[(IntKind.i64.wrap ((place0 c node) - 1)).toNat]!.node))) }) rfl rfl rfl rfl trivial rfl ?_) -- t17 load
    refine rvc_un (rexec_prim C (δ := { v := .pv (.lit (.int .i64 (c.members.D[(IntKind.i64.wrap ((place0 c node) - 1)).toNat]!.node))) }) rfl rfl rfl rfl trivial rfl ?_) -- t4 assign
    refine rvc_nil ?_
    refine Awp.ret ?_
    subst hR
    exact ⟨.inl rfl, rfl⟩

end Go.Proofs.Ytjhphpoihadmkaa
