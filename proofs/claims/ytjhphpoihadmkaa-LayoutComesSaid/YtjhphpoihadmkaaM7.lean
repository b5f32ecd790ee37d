import Derived.Test.YtjhphpoihadmkaaM6
import Derived.Test.YtjhphpoihadmkaaM3
import Derived.WalkKit
import Derived.ProofKit
import Derived.OpenShut
import Derived.ShutString
import Derived.ChangeOld
import Derived.Below
import Derived.SizedLaws
/- Whether a chain may come of another one. No conditions. -/
namespace Go.Proofs.Ytjhphpoihadmkaa
open Go.Am
def rFollows_l0 (a : Chain) : List Member → Nat → Int → Bool
  | [], _, last => (decide (last ≥ 0))
  | x :: xs, i, last => (bif (!x.fresh) then (bif (decide ((rPlace a x.node) < 0)) then false else (bif a.members.D[(rPlace a x.node).toNat]!.fresh then false else (bif (decide ((rPlace a x.node) ≥ 0)) then (bif (decide ((rPlace a x.node) < last)) then false else rFollows_l0 a xs (i + 1) (rPlace a x.node)) else rFollows_l0 a xs (i + 1) last))) else (bif (decide ((rPlace a x.node) ≥ 0)) then (bif (decide ((rPlace a x.node) < last)) then false else rFollows_l0 a xs (i + 1) (rPlace a x.node)) else rFollows_l0 a xs (i + 1) last))
def rFollows (a : Chain) (b : Chain) : Bool :=
  (bif ((rCheck a) != 0) then false else (bif ((rCheck b) != 0) then false else (bif (decide (b.epoch ≤ a.epoch)) then false else rFollows_l0 a b.members.D 0 (-1))))
theorem rFollows_calls (a : Chain) (b : Chain) (hl1 : a.members.D.length ≤ 9223372036854775807) (hl2 : b.members.D.length ≤ 9223372036854775807) : PCalls Try.prog 33 [.agg [.pv (.lit (.int .i64 a.epoch)), sS (some a.members.nil) eMember a.members.D], .agg [.pv (.lit (.int .i64 b.epoch)), sS (some b.members.nil) eMember b.members.D]] (.pv (.lit (.bool (rFollows a b)))) := by
  generalize hR : rFollows a b = R
  refine PCalls.of_body tabOk Try.func33 rfl rfl rfl rfl rfl mixed fun E hP C hI => ?_
  refine Awp.cons C (fun _ => .pure) (by kernel_rfl) ?_
  refine rvc_un (rexec_prim C (δ := { v := .ptr 2 0, new := [(2, .cells [.pv (.lit (.int .i64 a.epoch)), sS (some a.members.nil) eMember a.members.D])] }) rfl rfl rfl rfl trivial rfl ?_)
  refine rvc_un (rexec_prim C (δ := { v := .ptr 3 0, new := [(3, .cells [.pv (.lit (.int .i64 b.epoch)), sS (some b.members.nil) eMember b.members.D])] }) rfl rfl rfl rfl trivial rfl ?_)
  refine rvc_un (rexec_prim C (δ := { v := .pv (.lit (.bool false)) }) rfl rfl rfl rfl trivial rfl ?_)
  refine rvc_nil ?_
  refine Awp.seq ?_
  refine Awp.cons C (fun _ => .pure) (by kernel_rfl) ?_
  refine rvc_un (rexec_prim C (δ := { v := .agg [.pv (.lit (.int .i64 a.epoch)), sS (some a.members.nil) eMember a.members.D] }) rfl rfl rfl rfl trivial rfl ?_)
  refine rvc_un (rexec_call hP C rfl rfl rfl (rCheck_calls a hl1) ?_)
  refine rvc_un (rexec_prim C (δ := { v := .pv (.lit (.bool ((rCheck a) != 0))) }) rfl rfl rfl rfl trivial rfl ?_)
  refine rvc_un (rexec_prim C (δ := { v := .pv (.lit (.bool ((rCheck a) != 0))) }) rfl rfl rfl rfl trivial rfl ?_)
  refine rvc_case 12 ((rCheck a) != 0) rfl (fun h1 => ?_) (fun h1 => ?_)
  ·
    replace hR := of_true h1 hR
    refine rvc_shut rfl rfl rfl rfl ?_
    refine rvc_shut rfl rfl rfl rfl ?_
    refine rvc_shut rfl rfl rfl rfl ?_
    refine rvc_un (rexec_prim C (δ := { v := .pv (.lit (.bool true)) }) rfl rfl rfl rfl trivial rfl ?_)
    refine rvc_un (rexec_prim C (δ := { v := .pv (.lit (.bool true)) }) rfl rfl rfl rfl trivial rfl ?_)
    refine rvc_shut rfl rfl rfl rfl ?_
    refine rvc_shut rfl rfl rfl rfl ?_
    refine rvc_shut rfl rfl rfl rfl ?_
    refine rvc_shut rfl rfl rfl rfl ?_
    refine rvc_shut rfl rfl rfl rfl ?_
    refine rvc_un (rexec_prim C (δ := { v := .pv (.lit (.bool true)) }) rfl rfl rfl rfl trivial rfl ?_)
    refine rvc_nil ?_
    refine Awp.condT (b := true) rfl rfl ?_
    refine Awp.cons C (fun _ => .pure) (by kernel_rfl) ?_
    refine rvc_un (rexec_prim C (δ := { v := .pv (.lit (.bool false)) }) rfl rfl rfl rfl trivial rfl ?_)
    refine rvc_nil ?_
    refine Awp.ret ?_
    subst hR
    exact ⟨.inl rfl, rfl⟩
  ·
    replace hR := of_false h1 hR
    refine rvc_open rfl rfl rfl (rexec_prim C (δ := { v := .agg [.pv (.lit (.int .i64 b.epoch)), sS (some b.members.nil) eMember b.members.D] }) rfl rfl rfl rfl trivial rfl ?_)
    refine rvc_open rfl rfl rfl (rexec_call hP C rfl rfl rfl (rCheck_calls b hl2) ?_)
    refine rvc_open rfl rfl rfl (rexec_prim C (δ := { v := .pv (.lit (.bool ((rCheck b) != 0))) }) rfl rfl rfl rfl trivial rfl ?_)
    refine rvc_un (rexec_prim C (δ := { v := .pv (.lit (.bool ((rCheck b) != 0))) }) rfl rfl rfl rfl trivial rfl ?_)
    refine rvc_un (rexec_prim C (δ := { v := .pv (.lit (.bool ((rCheck b) != 0))) }) rfl rfl rfl rfl trivial rfl ?_)
    refine rvc_case 17 ((rCheck b) != 0) rfl (fun h2 => ?_) (fun h2 => ?_)
    ·
      replace hR := of_true h2 hR
      refine rvc_shut rfl rfl rfl rfl ?_
      refine rvc_shut rfl rfl rfl rfl ?_
      refine rvc_shut rfl rfl rfl rfl ?_
      refine rvc_shut rfl rfl rfl rfl ?_
      refine rvc_shut rfl rfl rfl rfl ?_
      refine rvc_un (rexec_prim C (δ := { v := .pv (.lit (.bool true)) }) rfl rfl rfl rfl trivial rfl ?_)
      refine rvc_nil ?_
      refine Awp.condT (b := true) rfl rfl ?_
      refine Awp.cons C (fun _ => .pure) (by kernel_rfl) ?_
      refine rvc_un (rexec_prim C (δ := { v := .pv (.lit (.bool false)) }) rfl rfl rfl rfl trivial rfl ?_)
      refine rvc_nil ?_
      refine Awp.ret ?_
      subst hR
      exact ⟨.inl rfl, rfl⟩
    ·
      replace hR := of_false h2 hR
      refine rvc_open rfl rfl rfl (rexec_prim C (δ := { v := .ptr 3 0 }) rfl rfl rfl rfl trivial rfl ?_)
      refine rvc_open rfl rfl rfl (rexec_prim C (δ := { v := .pv (.lit (.int .i64 b.epoch)) }) rfl rfl rfl rfl trivial rfl ?_)
      refine rvc_open rfl rfl rfl (rexec_prim C (δ := { v := .ptr 2 0 }) rfl rfl rfl rfl trivial rfl ?_)
      refine rvc_open rfl rfl rfl (rexec_prim C (δ := { v := .pv (.lit (.int .i64 a.epoch)) }) rfl rfl rfl rfl trivial rfl ?_)
      refine rvc_open rfl rfl rfl (rexec_prim C (δ := { v := .pv (.lit (.bool (decide (b.epoch ≤ a.epoch)))) }) rfl rfl rfl rfl trivial rfl ?_)
      refine rvc_un (rexec_prim C (δ := { v := .pv (.lit (.bool (decide (b.epoch ≤ a.epoch)))) }) rfl rfl rfl rfl trivial rfl ?_)
      refine rvc_nil ?_
      refine Awp.cond (b := (decide (b.epoch ≤ a.epoch))) rfl (fun h3 => ?_) (fun h3 => ?_)
      ·
        replace hR := of_true h3 hR
        refine Awp.cons C (fun _ => .pure) (by kernel_rfl) ?_
        refine rvc_un (rexec_prim C (δ := { v := .pv (.lit (.bool false)) }) rfl rfl rfl rfl trivial rfl ?_)
        refine rvc_nil ?_
        refine Awp.ret ?_
        subst hR
        exact ⟨.inl rfl, rfl⟩
      ·
        replace hR := of_false h3 hR
        refine Awp.skip ?_
        refine Awp.cons C (fun _ => .pure) (by kernel_rfl) ?_
        refine rvc_un (rexec_prim C (δ := { v := .pv (.lit (.int .i64 (-1))) }) rfl rfl rfl rfl trivial rfl ?_)
        refine rvc_nil ?_
        refine Awp.seq ?_
        refine Awp.cons C (fun _ => .pure) (by kernel_rfl) ?_
        refine rvc_un (rexec_prim C (δ := { v := .ptr 3 1 }) rfl rfl rfl rfl trivial rfl ?_)
        refine rvc_un (rexec_prim C (δ := { v := sS (some b.members.nil) eMember b.members.D }) rfl rfl rfl rfl trivial rfl ?_)
        refine rvc_un (rexec_prim C (δ := { v := .pv (.lit (.int .i64 (b.members.D.length : Int))) }) rfl rfl rfl rfl trivial rfl ?_)
        refine rvc_un (rexec_prim C (δ := { v := .pv (.lit (.int .i64 0)) }) rfl rfl rfl rfl trivial rfl ?_)
        refine rvc_nil ?_
        refine Awp.block ?_
        refine Awp.forR (σ := Int) (b.members.D.length) (fun i v => [(2, .ptr 2 0), (5, .pv (.lit (.int .i64 v))), (25, sS (some b.members.nil) eMember b.members.D), (26, .pv (.lit (.int .i64 (b.members.D.length : Int)))), (27, .pv (.lit (.int .i64 (i : Int))))]) (fun i v => [(2, .cells [.pv (.lit (.int .i64 a.epoch)), sS (some a.members.nil) eMember a.members.D])]) [2] (fun i v => rFollows_l0 a (b.members.D.drop i) i v = R) (-1) ?_ ?_ (fun i last h4 hR => ?_)
        · exact hR
        · exact ⟨fun b => b, WeakerR.ofL (Ks := [2]) hI ⟨⟨rfl, rfl⟩, ⟨rfl, rfl⟩, ⟨rfl, rfl⟩, ⟨rfl, rfl⟩, ⟨rfl, rfl⟩, trivial⟩ (okH_cons rfl rfl rfl rfl (okH_nil)) rfl⟩
        refine Awp.cons C (fun _ => .pure) (by kernel_rfl) ?_
        refine rvc_un (rexec_prim C (δ := { v := .pv (.lit (.bool (decide ((i : Int) < (b.members.D.length : Int))))) }) rfl rfl rfl rfl trivial rfl ?_)
        refine rvc_nil ?_
        refine Awp.seq ?_
        refine Awp.cond (b := (decide ((i : Int) < (b.members.D.length : Int)))) rfl (fun h5 => ?_) (fun h5 => ?_)
        ·
          have h6 : i < b.members.D.length := by have := of_decide_eq_true h5; omega
          obtain ⟨x, h7⟩ := getX h6
          rw [drop_at h7] at hR
          refine Awp.skip ?_
          refine Awp.seq ?_
          refine Awp.block ?_
          refine Awp.cons C (fun _ => .pure) (by kernel_rfl) ?_
          refine rvc_un (rexec_idxS C rfl rfl rfl rfl rfl rfl x (Int.natCast_nonneg _) h7 ?_)
          refine rvc_un (rexec_prim C (δ := { v := .agg [.pv (.lit (.int .i64 x.node)), .pv (.lit (.int .i64 x.site)), .pv (.lit (.bool x.fresh))] }) rfl rfl rfl rfl trivial rfl ?_)
          refine rvc_un (rexec_prim C (δ := { v := .ptr 7 0, new := [(7, .cells [.pv (.lit (.int .i64 0)), .pv (.lit (.int .i64 0)), .pv (.lit (.bool false))])] }) rfl rfl rfl rfl trivial rfl ?_)
          refine rvc_un (rexec_prim C (δ := { v := .undef, wr := [(7, some (.cells [.pv (.lit (.int .i64 x.node)), .pv (.lit (.int .i64 x.site)), .pv (.lit (.bool x.fresh))]))] }) rfl rfl rfl rfl trivial rfl ?_) -- tNone store
          refine rvc_nil ?_
          refine Awp.cons C (fun _ => .pure) (by kernel_rfl) ?_
          refine rvc_un (rexec_prim C (δ := { v := .agg [.pv (.lit (.int .i64 a.epoch)), sS (some a.members.nil) eMember a.members.D] }) rfl rfl rfl rfl trivial rfl ?_)
          refine rvc_un (rexec_prim C (δ := { v := .ptr 7 0 }) rfl rfl rfl rfl trivial rfl ?_)
          refine rvc_un (rexec_prim C (δ := { v := .pv (.lit (.int .i64 x.node)) }) rfl rfl rfl rfl trivial rfl ?_)
          refine rvc_un (rexec_call hP C rfl rfl rfl (rPlace_calls a x.node hl1) ?_)
          refine rvc_un (rexec_prim C (δ := { v := .pv (.lit (.int .i64 (rPlace a x.node))) }) rfl rfl rfl rfl trivial rfl ?_)
          refine rvc_nil ?_
          refine Awp.seq ?_
          refine Awp.cons C (fun _ => .pure) (by kernel_rfl) ?_
          refine rvc_un (rexec_prim C (δ := { v := .ptr 7 2 }) rfl rfl rfl rfl trivial rfl ?_)
          refine rvc_un (rexec_prim C (δ := { v := .pv (.lit (.bool x.fresh)) }) rfl rfl rfl rfl trivial rfl ?_)
          refine rvc_un (rexec_prim C (δ := { v := .pv (.lit (.bool (!x.fresh))) }) rfl rfl rfl rfl trivial rfl ?_)
          refine rvc_un (rexec_prim C (δ := { v := .pv (.lit (.bool (!x.fresh))) }) rfl rfl rfl rfl trivial rfl ?_)
          refine rvc_case 38 (!x.fresh) rfl (fun h8 => ?_) (fun h8 => ?_)
          ·
            replace hR := of_true h8 hR
            refine rvc_open rfl rfl rfl (rexec_prim C (δ := { v := .pv (.lit (.int .i64 (rPlace a x.node))) }) rfl rfl rfl rfl trivial rfl ?_)
            refine rvc_open rfl rfl rfl (rexec_prim C (δ := { v := .pv (.lit (.bool (decide ((rPlace a x.node) < 0)))) }) rfl rfl rfl rfl trivial rfl ?_)
            refine rvc_open rfl rfl rfl (rexec_prim C (δ := { v := .pv (.lit (.bool (decide ((rPlace a x.node) < 0)))) }) rfl rfl rfl rfl trivial rfl ?_)
            refine rvc_case 41 (decide ((rPlace a x.node) < 0)) rfl (fun h9 => ?_) (fun h9 => ?_)
            ·
              replace hR := of_true h9 hR
              refine rvc_shut rfl rfl rfl rfl ?_
              refine rvc_shut rfl rfl rfl rfl ?_
              refine rvc_shut rfl rfl rfl rfl ?_
              refine rvc_shut rfl rfl rfl rfl ?_
              refine rvc_shut rfl rfl rfl rfl ?_
              refine rvc_shut rfl rfl rfl rfl ?_
              refine rvc_open rfl rfl rfl (rexec_prim C (δ := { v := .pv (.lit (.bool true)) }) rfl rfl rfl rfl trivial rfl ?_)
              refine rvc_un (rexec_prim C (δ := { v := .pv (.lit (.bool true)) }) rfl rfl rfl rfl trivial rfl ?_)
              refine rvc_nil ?_
              refine Awp.condT (b := true) rfl rfl ?_
              refine Awp.cons C (fun _ => .pure) (by kernel_rfl) ?_
              refine rvc_un (rexec_prim C (δ := { v := .pv (.lit (.bool false)) }) rfl rfl rfl rfl trivial rfl ?_)
              refine rvc_nil ?_
              refine Awp.ret ?_
              subst hR
              exact ⟨.inl rfl, rfl⟩
            ·
              replace hR := of_false h9 hR
              refine rvc_open rfl rfl rfl (rexec_prim C (δ := { v := .ptr 2 1 }) rfl rfl rfl rfl trivial rfl ?_)
              refine rvc_open rfl rfl rfl (rexec_prim C (δ := { v := sS (some a.members.nil) eMember a.members.D }) rfl rfl rfl rfl trivial rfl ?_)
              refine rvc_open rfl rfl rfl (rexec_prim C (δ := { v := .pv (.lit (.int .i64 (rPlace a x.node))) }) rfl rfl rfl rfl trivial rfl ?_)
              have h10 : a.members.D[(rPlace a x.node).toNat]? = some a.members.D[(rPlace a x.node).toNat]! := getE (by have := check_r (c := a); have := rCheck_le6 (c := a); have := check_r (c := b); have := rCheck_le6 (c := b); have := rPlace_lt a x.node; have := eq_of_bne_false h1; have := eq_of_bne_false h2; have := of_decide_eq_false h3; have := of_decide_eq_true h5; have := of_decide_eq_false h9; omega)
              refine rvc_open rfl rfl rfl (rexec_idxS C rfl rfl rfl rfl rfl rfl (a.members.D[(rPlace a x.node).toNat]!) (by have := check_r (c := a); have := rCheck_le6 (c := a); have := check_r (c := b); have := rCheck_le6 (c := b); have := rPlace_lt a x.node; have := eq_of_bne_false h1; have := eq_of_bne_false h2; have := of_decide_eq_false h3; have := of_decide_eq_true h5; have := of_decide_eq_false h9; omega) h10 ?_)
              refine rvc_open rfl rfl rfl (rexec_prim C (δ := { v := .rp [.lit (.bool (a.members.D[(rPlace a x.node).toNat]!.fresh))] }) rfl rfl rfl rfl trivial rfl ?_)
              refine rvc_open rfl rfl rfl (rexec_prim C (δ := { v := .pv (.lit (.bool (a.members.D[(rPlace a x.node).toNat]!.fresh))) }) rfl rfl rfl rfl trivial rfl ?_)
              refine rvc_open rfl rfl rfl (rexec_prim C (δ := { v := .pv (.lit (.bool (a.members.D[(rPlace a x.node).toNat]!.fresh))) }) rfl rfl rfl rfl trivial rfl ?_)
              refine rvc_un (rexec_prim C (δ := { v := .pv (.lit (.bool (a.members.D[(rPlace a x.node).toNat]!.fresh))) }) rfl rfl rfl rfl trivial rfl ?_)
              refine rvc_nil ?_
              refine Awp.cond (b := a.members.D[(rPlace a x.node).toNat]!.fresh) rfl (fun h11 => ?_) (fun h11 => ?_)
              ·
                replace hR := of_true h11 hR
                refine Awp.cons C (fun _ => .pure) (by kernel_rfl) ?_
                refine rvc_un (rexec_prim C (δ := { v := .pv (.lit (.bool false)) }) rfl rfl rfl rfl trivial rfl ?_)
                refine rvc_nil ?_
                refine Awp.ret ?_
                subst hR
                exact ⟨.inl rfl, rfl⟩
              ·
                replace hR := of_false h11 hR
                refine Awp.skip ?_
                refine Awp.seq ?_
                refine Awp.cons C (fun _ => .pure) (by kernel_rfl) ?_
                refine rvc_un (rexec_prim C (δ := { v := .pv (.lit (.int .i64 (rPlace a x.node))) }) rfl rfl rfl rfl trivial rfl ?_)
                refine rvc_un (rexec_prim C (δ := { v := .pv (.lit (.bool (decide ((rPlace a x.node) ≥ 0)))) }) rfl rfl rfl rfl trivial rfl ?_)
                refine rvc_un (rexec_prim C (δ := { v := .pv (.lit (.bool (decide ((rPlace a x.node) ≥ 0)))) }) rfl rfl rfl rfl trivial rfl ?_)
                refine rvc_case 52 (decide ((rPlace a x.node) ≥ 0)) rfl (fun h12 => ?_) (fun h12 => ?_)
                ·
                  replace hR := of_true h12 hR
                  refine rvc_open rfl rfl rfl (rexec_prim C (δ := { v := .pv (.lit (.int .i64 (rPlace a x.node))) }) rfl rfl rfl rfl trivial rfl ?_)
                  refine rvc_open rfl rfl rfl (rexec_prim C (δ := { v := .pv (.lit (.int .i64 last)) }) rfl rfl rfl rfl trivial rfl ?_)
                  refine rvc_open rfl rfl rfl (rexec_prim C (δ := { v := .pv (.lit (.bool (decide ((rPlace a x.node) < last)))) }) rfl rfl rfl rfl trivial rfl ?_)
                  refine rvc_un (rexec_prim C (δ := { v := .pv (.lit (.bool (decide ((rPlace a x.node) < last)))) }) rfl rfl rfl rfl trivial rfl ?_)
                  refine rvc_nil ?_
                  refine Awp.cond (b := (decide ((rPlace a x.node) < last))) rfl (fun h13 => ?_) (fun h13 => ?_)
                  ·
                    replace hR := of_true h13 hR
                    refine Awp.cons C (fun _ => .pure) (by kernel_rfl) ?_
                    refine rvc_un (rexec_prim C (δ := { v := .pv (.lit (.bool false)) }) rfl rfl rfl rfl trivial rfl ?_)
                    refine rvc_nil ?_
                    refine Awp.ret ?_
                    subst hR
                    exact ⟨.inl rfl, rfl⟩
                  ·
                    replace hR := of_false h13 hR
                    refine Awp.skip ?_
                    refine Awp.cons C (fun _ => .pure) (by kernel_rfl) ?_
                    refine rvc_un (rexec_prim C (δ := { v := .pv (.lit (.int .i64 (rPlace a x.node))) }) rfl rfl rfl rfl trivial rfl ?_)
                    refine rvc_un (rexec_prim C (δ := { v := .pv (.lit (.bool (decide ((rPlace a x.node) ≥ 0)))) }) rfl rfl rfl rfl trivial rfl ?_)
                    refine rvc_nil ?_
                    refine Awp.condT (b := (decide ((rPlace a x.node) ≥ 0))) rfl h12 ?_
                    refine Awp.region C (fun _ => .pure) (by kernel_rfl) ?_
                    refine rvc_un (rexec_prim C (δ := { v := .pv (.lit (.int .i64 (rPlace a x.node))) }) rfl rfl rfl rfl trivial rfl ?_)
                    refine rvc_un (rexec_prim C (δ := { v := .pv (.lit (.int .i64 (rPlace a x.node))) }) rfl rfl rfl rfl trivial rfl ?_)
                    refine rvc_nil ?_
                    refine Awp.region C (fun _ => .pure) (by kernel_rfl) ?_
                    refine rvc_un (rexec_prim C (δ := { v := .pv (.lit (.int .i64 (IntKind.i64.wrap ((i : Int) + 1)))) }) rfl rfl rfl rfl trivial rfl ?_)
                    refine rvc_un (rexec_prim C (δ := { v := .pv (.lit (.int .i64 (IntKind.i64.wrap ((i : Int) + 1)))) }) rfl rfl rfl rfl trivial rfl ?_)
                    refine rvc_nil ?_
                    refine ⟨h6, (rPlace a x.node), ?_, ?_⟩
                    · exact hR
                    · exact ⟨fun b => b, WeakerR.ofL (Ks := [2]) hI ⟨⟨rfl, rfl⟩, ⟨rfl, rfl⟩, ⟨rfl, rfl⟩, ⟨rfl, rfl⟩, ⟨lit_cast (wrap_i64 (by omega) (by omega)), rfl⟩, trivial⟩ (okH_cons rfl rfl rfl rfl (okH_nil)) rfl⟩
                ·
                  replace hR := of_false h12 hR
                  refine rvc_shut rfl rfl rfl rfl ?_
                  refine rvc_shut rfl rfl rfl rfl ?_
                  refine rvc_shut rfl rfl rfl rfl ?_
                  refine rvc_un (rexec_prim C (δ := { v := .pv (.lit (.bool false)) }) rfl rfl rfl rfl trivial rfl ?_)
                  refine rvc_nil ?_
                  refine Awp.condF (b := false) rfl rfl ?_
                  refine Awp.skip ?_
                  refine Awp.cons C (fun _ => .pure) (by kernel_rfl) ?_
                  refine rvc_un (rexec_prim C (δ := { v := .pv (.lit (.int .i64 (rPlace a x.node))) }) rfl rfl rfl rfl trivial rfl ?_)
                  refine rvc_un (rexec_prim C (δ := { v := .pv (.lit (.bool (decide ((rPlace a x.node) ≥ 0)))) }) rfl rfl rfl rfl trivial rfl ?_)
                  refine rvc_nil ?_
                  refine Awp.condF (b := (decide ((rPlace a x.node) ≥ 0))) rfl h12 ?_
                  refine Awp.skip ?_
                  refine Awp.region C (fun _ => .pure) (by kernel_rfl) ?_
                  refine rvc_un (rexec_prim C (δ := { v := .pv (.lit (.int .i64 (IntKind.i64.wrap ((i : Int) + 1)))) }) rfl rfl rfl rfl trivial rfl ?_)
                  refine rvc_un (rexec_prim C (δ := { v := .pv (.lit (.int .i64 (IntKind.i64.wrap ((i : Int) + 1)))) }) rfl rfl rfl rfl trivial rfl ?_)
                  refine rvc_nil ?_
                  refine ⟨h6, last, ?_, ?_⟩
                  · exact hR
                  · exact ⟨fun b => b, WeakerR.ofL (Ks := [2]) hI ⟨⟨rfl, rfl⟩, ⟨rfl, rfl⟩, ⟨rfl, rfl⟩, ⟨rfl, rfl⟩, ⟨lit_cast (wrap_i64 (by omega) (by omega)), rfl⟩, trivial⟩ (okH_cons rfl rfl rfl rfl (okH_nil)) rfl⟩
          ·
            replace hR := of_false h8 hR
            refine rvc_shut rfl rfl rfl rfl ?_
            refine rvc_shut rfl rfl rfl rfl ?_
            refine rvc_shut rfl rfl rfl rfl ?_
            refine rvc_shutU rfl rfl rfl ?_
            refine rvc_shutU rfl rfl rfl ?_
            refine rvc_shutU rfl rfl rfl ?_
            refine rvc_shutU rfl rfl rfl ?_
            refine rvc_shutU rfl rfl rfl ?_
            refine rvc_shutU rfl rfl rfl ?_
            refine rvc_shut rfl rfl rfl rfl ?_
            refine rvc_un (rexec_prim C (δ := { v := .pv (.lit (.bool false)) }) rfl rfl rfl rfl trivial rfl ?_)
            refine rvc_nil ?_
            refine Awp.condF (b := false) rfl rfl ?_
            refine Awp.skip ?_
            refine Awp.seq ?_
            refine Awp.cons C (fun _ => .pure) (by kernel_rfl) ?_
            refine rvc_un (rexec_prim C (δ := { v := .pv (.lit (.int .i64 (rPlace a x.node))) }) rfl rfl rfl rfl trivial rfl ?_)
            refine rvc_un (rexec_prim C (δ := { v := .pv (.lit (.bool (decide ((rPlace a x.node) ≥ 0)))) }) rfl rfl rfl rfl trivial rfl ?_)
            refine rvc_un (rexec_prim C (δ := { v := .pv (.lit (.bool (decide ((rPlace a x.node) ≥ 0)))) }) rfl rfl rfl rfl trivial rfl ?_)
            refine rvc_case 52 (decide ((rPlace a x.node) ≥ 0)) rfl (fun h14 => ?_) (fun h14 => ?_)
            ·
              replace hR := of_true h14 hR
              refine rvc_open rfl rfl rfl (rexec_prim C (δ := { v := .pv (.lit (.int .i64 (rPlace a x.node))) }) rfl rfl rfl rfl trivial rfl ?_)
              refine rvc_open rfl rfl rfl (rexec_prim C (δ := { v := .pv (.lit (.int .i64 last)) }) rfl rfl rfl rfl trivial rfl ?_)
              refine rvc_open rfl rfl rfl (rexec_prim C (δ := { v := .pv (.lit (.bool (decide ((rPlace a x.node) < last)))) }) rfl rfl rfl rfl trivial rfl ?_)
              refine rvc_un (rexec_prim C (δ := { v := .pv (.lit (.bool (decide ((rPlace a x.node) < last)))) }) rfl rfl rfl rfl trivial rfl ?_)
              refine rvc_nil ?_
              refine Awp.cond (b := (decide ((rPlace a x.node) < last))) rfl (fun h15 => ?_) (fun h15 => ?_)
              ·
                replace hR := of_true h15 hR
                refine Awp.cons C (fun _ => .pure) (by kernel_rfl) ?_
                refine rvc_un (rexec_prim C (δ := { v := .pv (.lit (.bool false)) }) rfl rfl rfl rfl trivial rfl ?_)
                refine rvc_nil ?_
                refine Awp.ret ?_
                subst hR
                exact ⟨.inl rfl, rfl⟩
              ·
                replace hR := of_false h15 hR
                refine Awp.skip ?_
                refine Awp.cons C (fun _ => .pure) (by kernel_rfl) ?_
                refine rvc_un (rexec_prim C (δ := { v := .pv (.lit (.int .i64 (rPlace a x.node))) }) rfl rfl rfl rfl trivial rfl ?_)
                refine rvc_un (rexec_prim C (δ := { v := .pv (.lit (.bool (decide ((rPlace a x.node) ≥ 0)))) }) rfl rfl rfl rfl trivial rfl ?_)
                refine rvc_nil ?_
                refine Awp.condT (b := (decide ((rPlace a x.node) ≥ 0))) rfl h14 ?_
                refine Awp.region C (fun _ => .pure) (by kernel_rfl) ?_
                refine rvc_un (rexec_prim C (δ := { v := .pv (.lit (.int .i64 (rPlace a x.node))) }) rfl rfl rfl rfl trivial rfl ?_)
                refine rvc_un (rexec_prim C (δ := { v := .pv (.lit (.int .i64 (rPlace a x.node))) }) rfl rfl rfl rfl trivial rfl ?_)
                refine rvc_nil ?_
                refine Awp.region C (fun _ => .pure) (by kernel_rfl) ?_
                refine rvc_un (rexec_prim C (δ := { v := .pv (.lit (.int .i64 (IntKind.i64.wrap ((i : Int) + 1)))) }) rfl rfl rfl rfl trivial rfl ?_)
                refine rvc_un (rexec_prim C (δ := { v := .pv (.lit (.int .i64 (IntKind.i64.wrap ((i : Int) + 1)))) }) rfl rfl rfl rfl trivial rfl ?_)
                refine rvc_nil ?_
                refine ⟨h6, (rPlace a x.node), ?_, ?_⟩
                · exact hR
                · exact ⟨fun b => b, WeakerR.ofL (Ks := [2]) hI ⟨⟨rfl, rfl⟩, ⟨rfl, rfl⟩, ⟨rfl, rfl⟩, ⟨rfl, rfl⟩, ⟨lit_cast (wrap_i64 (by omega) (by omega)), rfl⟩, trivial⟩ (okH_cons rfl rfl rfl rfl (okH_nil)) rfl⟩
            ·
              replace hR := of_false h14 hR
              refine rvc_shut rfl rfl rfl rfl ?_
              refine rvc_shut rfl rfl rfl rfl ?_
              refine rvc_shut rfl rfl rfl rfl ?_
              refine rvc_un (rexec_prim C (δ := { v := .pv (.lit (.bool false)) }) rfl rfl rfl rfl trivial rfl ?_)
              refine rvc_nil ?_
              refine Awp.condF (b := false) rfl rfl ?_
              refine Awp.skip ?_
              refine Awp.cons C (fun _ => .pure) (by kernel_rfl) ?_
              refine rvc_un (rexec_prim C (δ := { v := .pv (.lit (.int .i64 (rPlace a x.node))) }) rfl rfl rfl rfl trivial rfl ?_)
              refine rvc_un (rexec_prim C (δ := { v := .pv (.lit (.bool (decide ((rPlace a x.node) ≥ 0)))) }) rfl rfl rfl rfl trivial rfl ?_)
              refine rvc_nil ?_
              refine Awp.condF (b := (decide ((rPlace a x.node) ≥ 0))) rfl h14 ?_
              refine Awp.skip ?_
              refine Awp.region C (fun _ => .pure) (by kernel_rfl) ?_
              refine rvc_un (rexec_prim C (δ := { v := .pv (.lit (.int .i64 (IntKind.i64.wrap ((i : Int) + 1)))) }) rfl rfl rfl rfl trivial rfl ?_)
              refine rvc_un (rexec_prim C (δ := { v := .pv (.lit (.int .i64 (IntKind.i64.wrap ((i : Int) + 1)))) }) rfl rfl rfl rfl trivial rfl ?_)
              refine rvc_nil ?_
              refine ⟨h6, last, ?_, ?_⟩
              · exact hR
              · exact ⟨fun b => b, WeakerR.ofL (Ks := [2]) hI ⟨⟨rfl, rfl⟩, ⟨rfl, rfl⟩, ⟨rfl, rfl⟩, ⟨rfl, rfl⟩, ⟨lit_cast (wrap_i64 (by omega) (by omega)), rfl⟩, trivial⟩ (okH_cons rfl rfl rfl rfl (okH_nil)) rfl⟩
        ·
          have h6 : ¬ i < b.members.D.length := by have := of_decide_eq_false h5; omega
          rw [drop_end h6] at hR
          refine Awp.exit ?_
          refine Awp.cons C (fun _ => .pure) (by kernel_rfl) ?_
          refine rvc_un (rexec_prim C (δ := { v := .pv (.lit (.int .i64 last)) }) rfl rfl rfl rfl trivial rfl ?_)
          refine rvc_un (rexec_prim C (δ := { v := .pv (.lit (.bool (decide (last ≥ 0)))) }) rfl rfl rfl rfl trivial rfl ?_)
          refine rvc_un (rexec_prim C (δ := { v := .pv (.lit (.bool (decide (last ≥ 0)))) }) rfl rfl rfl rfl trivial rfl ?_)
          refine rvc_nil ?_
          refine Awp.ret ?_
          subst hR
          exact ⟨.inl rfl, rfl⟩

def isSorted_l0 (x : (Sl Int)) : Nat → Int → Bool
  | 0, _ => default
  | nn + 1, i => (bif (decide (i > 0)) then (bif (less (x.D[i.toNat]!) (x.D[(IntKind.i64.wrap (i - 1)).toNat]!)) then false else isSorted_l0 x nn (IntKind.i64.wrap (i - 1))) else true)
def isSorted (x : (Sl Int)) : Bool :=
  isSorted_l0 x ((IntKind.i64.wrap ((x.D.length : Int) - 1)).toNat + 1) (IntKind.i64.wrap ((x.D.length : Int) - 1))
theorem isSorted_calls (x : (Sl Int)) (hl1 : x.D.length ≤ 1000000) : PCalls Try.prog 49 [sS (some x.nil) (eI .i64) x.D] (.pv (.lit (.bool (isSorted x)))) := by
  generalize hR : isSorted x = R
  refine PCalls.of_body tabOk Try.func49 rfl rfl rfl rfl rfl mixed fun E hP C hI => ?_
  refine Awp.cons C (fun _ => .pure) (by kernel_rfl) ?_
  refine rvc_un (rexec_prim C (δ := { v := .pv (.lit (.bool false)) }) rfl rfl rfl rfl trivial rfl ?_)
  refine rvc_nil ?_
  refine Awp.seq ?_
  refine Awp.cons C (fun _ => .pure) (by kernel_rfl) ?_
  refine rvc_un (rexec_prim C (δ := { v := sS (some x.nil) (eI .i64) x.D }) rfl rfl rfl rfl trivial rfl ?_)
  refine rvc_un (rexec_prim C (δ := { v := .pv (.lit (.int .i64 (x.D.length : Int))) }) rfl rfl rfl rfl trivial rfl ?_)
  refine rvc_un (rexec_prim C (δ := { v := .pv (.lit (.int .i64 (IntKind.i64.wrap ((x.D.length : Int) - 1)))) }) rfl rfl rfl rfl trivial rfl ?_)
  refine rvc_un (rexec_prim C (δ := { v := .pv (.lit (.int .i64 (IntKind.i64.wrap ((x.D.length : Int) - 1)))) }) rfl rfl rfl rfl trivial rfl ?_)
  refine rvc_nil ?_
  refine Awp.block ?_
  refine Awp.forM (σ := Int) (fun v => [(0, sS (some x.nil) (eI .i64) x.D), (3, .pv (.lit (.int .i64 v)))]) (fun v => []) [] (fun n v => n = v.toNat ∧ isSorted_l0 x (v.toNat + 1) v = R ∧ (-1 ≤ v ∧ v < (x.D.length : Int))) ((IntKind.i64.wrap ((x.D.length : Int) - 1)).toNat) (IntKind.i64.wrap ((x.D.length : Int) - 1)) ?_ ?_ (fun _ i h1 => ?_)
  · exact ⟨rfl, hR, (by have := wrapI ((x.D.length : Int) - 1); omega)⟩
  · exact ⟨fun b => b, WeakerR.ofL (Ks := []) hI ⟨⟨rfl, rfl⟩, ⟨rfl, rfl⟩, trivial⟩ (okH_nil) rfl⟩
  obtain ⟨rfl, hR, hV⟩ := h1
  refine Awp.seq ?_
  refine Awp.cons C (fun _ => .pure) (by kernel_rfl) ?_
  refine rvc_un (rexec_prim C (δ := { v := .pv (.lit (.int .i64 i)) }) rfl rfl rfl rfl trivial rfl ?_)
  refine rvc_un (rexec_prim C (δ := { v := .pv (.lit (.bool (decide (i > 0)))) }) rfl rfl rfl rfl trivial rfl ?_)
  refine rvc_nil ?_
  refine Awp.cond (b := (decide (i > 0))) rfl (fun h3 => ?_) (fun h3 => ?_)
  ·
    replace hR := of_true h3 hR
    refine Awp.skip ?_
    refine Awp.seq ?_
    refine Awp.block ?_
    refine Awp.cons C (fun _ => .pure) (by kernel_rfl) ?_
    refine rvc_un (rexec_prim C (δ := { v := sS (some x.nil) (eI .i64) x.D }) rfl rfl rfl rfl trivial rfl ?_)
    refine rvc_un (rexec_prim C (δ := { v := .pv (.lit (.int .i64 i)) }) rfl rfl rfl rfl trivial rfl ?_)
    have h4 : x.D[i.toNat]? = some x.D[i.toNat]! := getE (by have := of_decide_eq_true h3; omega)
    refine rvc_un (rexec_idxS C rfl rfl rfl rfl rfl rfl (x.D[i.toNat]!) (by have := of_decide_eq_true h3; omega) h4 ?_)
    refine rvc_un (rexec_prim C (δ := { v := .pv (.lit (.int .i64 (x.D[i.toNat]!))) }) rfl rfl rfl rfl trivial rfl ?_)
    refine rvc_un (rexec_prim C (δ := { v := sS (some x.nil) (eI .i64) x.D }) rfl rfl rfl rfl trivial rfl ?_)
    refine rvc_un (rexec_prim C (δ := { v := .pv (.lit (.int .i64 i)) }) rfl rfl rfl rfl trivial rfl ?_)
    refine rvc_un (rexec_prim C (δ := { v := .pv (.lit (.int .i64 (IntKind.i64.wrap (i - 1)))) }) rfl rfl rfl rfl trivial rfl ?_)
    have h5 : x.D[(IntKind.i64.wrap (i - 1)).toNat]? = some x.D[(IntKind.i64.wrap (i - 1)).toNat]! := getE (by have := wrapI (i - 1); have := of_decide_eq_true h3; omega)
    refine rvc_un (rexec_idxS C rfl rfl rfl rfl rfl rfl (x.D[(IntKind.i64.wrap (i - 1)).toNat]!) (by have := wrapI (i - 1); have := of_decide_eq_true h3; omega) h5 ?_)
    refine rvc_un (rexec_prim C (δ := { v := .pv (.lit (.int .i64 (x.D[(IntKind.i64.wrap (i - 1)).toNat]!))) }) rfl rfl rfl rfl trivial rfl ?_)
    refine rvc_un (rexec_call hP C rfl rfl rfl (less_calls (x.D[i.toNat]!) (x.D[(IntKind.i64.wrap (i - 1)).toNat]!)) ?_)
    refine rvc_nil ?_
    refine Awp.cond (b := (less (x.D[i.toNat]!) (x.D[(IntKind.i64.wrap (i - 1)).toNat]!))) rfl (fun h6 => ?_) (fun h6 => ?_)
    ·
      replace hR := of_true h6 hR
      refine Awp.cons C (fun _ => .pure) (by kernel_rfl) ?_
      refine rvc_un (rexec_prim C (δ := { v := .pv (.lit (.bool false)) }) rfl rfl rfl rfl trivial rfl ?_)
      refine rvc_nil ?_
      refine Awp.ret ?_
      subst hR
      exact ⟨.inl rfl, rfl⟩
    ·
      replace hR := of_false h6 hR
      refine Awp.skip ?_
      refine Awp.region C (fun _ => .pure) (by kernel_rfl) ?_
      refine rvc_un (rexec_prim C (δ := { v := .pv (.lit (.int .i64 i)) }) rfl rfl rfl rfl trivial rfl ?_)
      refine rvc_un (rexec_prim C (δ := { v := .pv (.lit (.int .i64 (IntKind.i64.wrap (i - 1)))) }) rfl rfl rfl rfl trivial rfl ?_)
      refine rvc_un (rexec_prim C (δ := { v := .pv (.lit (.int .i64 (IntKind.i64.wrap (i - 1)))) }) rfl rfl rfl rfl trivial rfl ?_)
      refine rvc_nil ?_
      refine ⟨_, (IntKind.i64.wrap (i - 1)), ?_, ⟨rfl, (by rw [show ((IntKind.i64.wrap (i - 1)).toNat) + 1 = i.toNat by have := wrapI (i - 1); have := of_decide_eq_true h3; first | omega | (simp only [List.length_drop]; omega)]; exact hR), (by have := wrapI (i - 1); have := of_decide_eq_true h3; omega)⟩, ?_⟩
      · show (IntKind.i64.wrap (i - 1)).toNat < i.toNat; have := wrapI (i - 1); have := of_decide_eq_true h3; first | omega | (simp only [List.length_drop]; omega)
      · exact ⟨fun b => b, WeakerR.ofL (Ks := []) hI ⟨⟨rfl, rfl⟩, ⟨rfl, rfl⟩, trivial⟩ (okH_nil) rfl⟩
  ·
    replace hR := of_false h3 hR
    refine Awp.exit ?_
    refine Awp.cons C (fun _ => .pure) (by kernel_rfl) ?_
    refine rvc_un (rexec_prim C (δ := { v := .pv (.lit (.bool true)) }) rfl rfl rfl rfl trivial rfl ?_)
    refine rvc_nil ?_
    refine Awp.ret ?_
    subst hR
    exact ⟨.inl rfl, rfl⟩

def follows_l0 (a : Chain) : List Member → Nat → (List Int) → Bool
  | [], _, stay => (bif (isSorted (Sl.mk stay.isEmpty stay)) then (decide ((stay.length : Int) > 0)) else false)
  | x :: xs, i, stay => (bif (decide ((placeIn a x.node) ≥ 0)) then follows_l0 a xs (i + 1) (stay ++ [(placeIn a x.node)]) else follows_l0 a xs (i + 1) stay)
def follows (a : Chain) (b : Chain) : Bool :=
  (bif ((check a) != 0) then false else (bif ((check b) != 0) then false else (bif (decide (a.epoch ≥ b.epoch)) then false else (bif ((mBut (whole b) (whole a)) != 0) then false else follows_l0 a b.members.D 0 []))))
theorem follows_calls (a : Chain) (b : Chain) (hl1 : a.members.D.length ≤ 9223372036854775807) (hl2 : b.members.D.length ≤ 9223372036854775807) : PCalls Try.prog 32 [.agg [.pv (.lit (.int .i64 a.epoch)), sS (some a.members.nil) eMember a.members.D], .agg [.pv (.lit (.int .i64 b.epoch)), sS (some b.members.nil) eMember b.members.D]] (.pv (.lit (.bool (follows a b)))) := by
  generalize hR : follows a b = R
  refine PCalls.of_body tabOk Try.func32 rfl rfl rfl rfl rfl mixed fun E hP C hI => ?_
  refine Awp.cons C (fun _ => .pure) (by kernel_rfl) ?_
  refine rvc_un (rexec_prim C (δ := { v := .ptr 2 0, new := [(2, .cells [.pv (.lit (.int .i64 a.epoch)), sS (some a.members.nil) eMember a.members.D])] }) rfl rfl rfl rfl trivial rfl ?_)
  refine rvc_un (rexec_prim C (δ := { v := .ptr 3 0, new := [(3, .cells [.pv (.lit (.int .i64 b.epoch)), sS (some b.members.nil) eMember b.members.D])] }) rfl rfl rfl rfl trivial rfl ?_)
  refine rvc_un (rexec_prim C (δ := { v := .pv (.lit (.bool false)) }) rfl rfl rfl rfl trivial rfl ?_)
  refine rvc_nil ?_
  refine Awp.seq ?_
  refine Awp.cons C (fun _ => .pure) (by kernel_rfl) ?_
  refine rvc_un (rexec_prim C (δ := { v := .agg [.pv (.lit (.int .i64 a.epoch)), sS (some a.members.nil) eMember a.members.D] }) rfl rfl rfl rfl trivial rfl ?_)
  refine rvc_un (rexec_call hP C rfl rfl rfl (check_calls a hl1) ?_)
  refine rvc_un (rexec_prim C (δ := { v := .pv (.lit (.bool ((check a) != 0))) }) rfl rfl rfl rfl trivial rfl ?_)
  refine rvc_un (rexec_prim C (δ := { v := .pv (.lit (.bool ((check a) != 0))) }) rfl rfl rfl rfl trivial rfl ?_)
  refine rvc_case 12 ((check a) != 0) rfl (fun h1 => ?_) (fun h1 => ?_)
  ·
    replace hR := of_true h1 hR
    refine rvc_shut rfl rfl rfl rfl ?_
    refine rvc_shut rfl rfl rfl rfl ?_
    refine rvc_shut rfl rfl rfl rfl ?_
    refine rvc_un (rexec_prim C (δ := { v := .pv (.lit (.bool true)) }) rfl rfl rfl rfl trivial rfl ?_)
    refine rvc_un (rexec_prim C (δ := { v := .pv (.lit (.bool true)) }) rfl rfl rfl rfl trivial rfl ?_)
    refine rvc_shut rfl rfl rfl rfl ?_
    refine rvc_shut rfl rfl rfl rfl ?_
    refine rvc_shut rfl rfl rfl rfl ?_
    refine rvc_shut rfl rfl rfl rfl ?_
    refine rvc_shut rfl rfl rfl rfl ?_
    refine rvc_un (rexec_prim C (δ := { v := .pv (.lit (.bool true)) }) rfl rfl rfl rfl trivial rfl ?_)
    refine rvc_un (rexec_prim C (δ := { v := .pv (.lit (.bool true)) }) rfl rfl rfl rfl trivial rfl ?_)
    refine rvc_shut rfl rfl rfl rfl ?_
    refine rvc_shut rfl rfl rfl rfl ?_
    refine rvc_shut rfl rfl rfl rfl ?_
    refine rvc_shut rfl rfl rfl rfl ?_
    refine rvc_shut rfl rfl rfl rfl ?_
    refine rvc_shut rfl rfl rfl rfl ?_
    refine rvc_un (rexec_prim C (δ := { v := .pv (.lit (.bool true)) }) rfl rfl rfl rfl trivial rfl ?_)
    refine rvc_nil ?_
    refine Awp.condT (b := true) rfl rfl ?_
    refine Awp.cons C (fun _ => .pure) (by kernel_rfl) ?_
    refine rvc_un (rexec_prim C (δ := { v := .pv (.lit (.bool false)) }) rfl rfl rfl rfl trivial rfl ?_)
    refine rvc_nil ?_
    refine Awp.ret ?_
    subst hR
    exact ⟨.inl rfl, rfl⟩
  ·
    replace hR := of_false h1 hR
    refine rvc_open rfl rfl rfl (rexec_prim C (δ := { v := .agg [.pv (.lit (.int .i64 b.epoch)), sS (some b.members.nil) eMember b.members.D] }) rfl rfl rfl rfl trivial rfl ?_)
    refine rvc_open rfl rfl rfl (rexec_call hP C rfl rfl rfl (check_calls b hl2) ?_)
    refine rvc_open rfl rfl rfl (rexec_prim C (δ := { v := .pv (.lit (.bool ((check b) != 0))) }) rfl rfl rfl rfl trivial rfl ?_)
    refine rvc_un (rexec_prim C (δ := { v := .pv (.lit (.bool ((check b) != 0))) }) rfl rfl rfl rfl trivial rfl ?_)
    refine rvc_un (rexec_prim C (δ := { v := .pv (.lit (.bool ((check b) != 0))) }) rfl rfl rfl rfl trivial rfl ?_)
    refine rvc_case 17 ((check b) != 0) rfl (fun h2 => ?_) (fun h2 => ?_)
    ·
      replace hR := of_true h2 hR
      refine rvc_shut rfl rfl rfl rfl ?_
      refine rvc_shut rfl rfl rfl rfl ?_
      refine rvc_shut rfl rfl rfl rfl ?_
      refine rvc_shut rfl rfl rfl rfl ?_
      refine rvc_shut rfl rfl rfl rfl ?_
      refine rvc_un (rexec_prim C (δ := { v := .pv (.lit (.bool true)) }) rfl rfl rfl rfl trivial rfl ?_)
      refine rvc_un (rexec_prim C (δ := { v := .pv (.lit (.bool true)) }) rfl rfl rfl rfl trivial rfl ?_)
      refine rvc_shut rfl rfl rfl rfl ?_
      refine rvc_shut rfl rfl rfl rfl ?_
      refine rvc_shut rfl rfl rfl rfl ?_
      refine rvc_shut rfl rfl rfl rfl ?_
      refine rvc_shut rfl rfl rfl rfl ?_
      refine rvc_shut rfl rfl rfl rfl ?_
      refine rvc_un (rexec_prim C (δ := { v := .pv (.lit (.bool true)) }) rfl rfl rfl rfl trivial rfl ?_)
      refine rvc_nil ?_
      refine Awp.condT (b := true) rfl rfl ?_
      refine Awp.cons C (fun _ => .pure) (by kernel_rfl) ?_
      refine rvc_un (rexec_prim C (δ := { v := .pv (.lit (.bool false)) }) rfl rfl rfl rfl trivial rfl ?_)
      refine rvc_nil ?_
      refine Awp.ret ?_
      subst hR
      exact ⟨.inl rfl, rfl⟩
    ·
      replace hR := of_false h2 hR
      refine rvc_open rfl rfl rfl (rexec_prim C (δ := { v := .ptr 2 0 }) rfl rfl rfl rfl trivial rfl ?_)
      refine rvc_open rfl rfl rfl (rexec_prim C (δ := { v := .pv (.lit (.int .i64 a.epoch)) }) rfl rfl rfl rfl trivial rfl ?_)
      refine rvc_open rfl rfl rfl (rexec_prim C (δ := { v := .ptr 3 0 }) rfl rfl rfl rfl trivial rfl ?_)
      refine rvc_open rfl rfl rfl (rexec_prim C (δ := { v := .pv (.lit (.int .i64 b.epoch)) }) rfl rfl rfl rfl trivial rfl ?_)
      refine rvc_open rfl rfl rfl (rexec_prim C (δ := { v := .pv (.lit (.bool (decide (a.epoch ≥ b.epoch)))) }) rfl rfl rfl rfl trivial rfl ?_)
      refine rvc_un (rexec_prim C (δ := { v := .pv (.lit (.bool (decide (a.epoch ≥ b.epoch)))) }) rfl rfl rfl rfl trivial rfl ?_)
      refine rvc_un (rexec_prim C (δ := { v := .pv (.lit (.bool (decide (a.epoch ≥ b.epoch)))) }) rfl rfl rfl rfl trivial rfl ?_)
      refine rvc_case 24 (decide (a.epoch ≥ b.epoch)) rfl (fun h3 => ?_) (fun h3 => ?_)
      ·
        replace hR := of_true h3 hR
        refine rvc_shut rfl rfl rfl rfl ?_
        refine rvc_shut rfl rfl rfl rfl ?_
        refine rvc_shut rfl rfl rfl rfl ?_
        refine rvc_shut rfl rfl rfl rfl ?_
        refine rvc_shut rfl rfl rfl rfl ?_
        refine rvc_shut rfl rfl rfl rfl ?_
        refine rvc_un (rexec_prim C (δ := { v := .pv (.lit (.bool true)) }) rfl rfl rfl rfl trivial rfl ?_)
        refine rvc_nil ?_
        refine Awp.condT (b := true) rfl rfl ?_
        refine Awp.cons C (fun _ => .pure) (by kernel_rfl) ?_
        refine rvc_un (rexec_prim C (δ := { v := .pv (.lit (.bool false)) }) rfl rfl rfl rfl trivial rfl ?_)
        refine rvc_nil ?_
        refine Awp.ret ?_
        subst hR
        exact ⟨.inl rfl, rfl⟩
      ·
        replace hR := of_false h3 hR
        refine rvc_open rfl rfl rfl (rexec_prim C (δ := { v := .agg [.pv (.lit (.int .i64 b.epoch)), sS (some b.members.nil) eMember b.members.D] }) rfl rfl rfl rfl trivial rfl ?_)
        refine rvc_open rfl rfl rfl (rexec_call hP C rfl rfl rfl (whole_calls b hl2) ?_)
        refine rvc_open rfl rfl rfl (rexec_prim C (δ := { v := .agg [.pv (.lit (.int .i64 a.epoch)), sS (some a.members.nil) eMember a.members.D] }) rfl rfl rfl rfl trivial rfl ?_)
        refine rvc_open rfl rfl rfl (rexec_call hP C rfl rfl rfl (whole_calls a hl1) ?_)
        refine rvc_open rfl rfl rfl (rexec_call hP C rfl rfl rfl (mBut_calls (whole b) (whole a)) ?_)
        refine rvc_open rfl rfl rfl (rexec_prim C (δ := { v := .pv (.lit (.bool ((mBut (whole b) (whole a)) != 0))) }) rfl rfl rfl rfl trivial rfl ?_)
        refine rvc_un (rexec_prim C (δ := { v := .pv (.lit (.bool ((mBut (whole b) (whole a)) != 0))) }) rfl rfl rfl rfl trivial rfl ?_)
        refine rvc_nil ?_
        refine Awp.cond (b := ((mBut (whole b) (whole a)) != 0)) rfl (fun h4 => ?_) (fun h4 => ?_)
        ·
          replace hR := of_true h4 hR
          refine Awp.cons C (fun _ => .pure) (by kernel_rfl) ?_
          refine rvc_un (rexec_prim C (δ := { v := .pv (.lit (.bool false)) }) rfl rfl rfl rfl trivial rfl ?_)
          refine rvc_nil ?_
          refine Awp.ret ?_
          subst hR
          exact ⟨.inl rfl, rfl⟩
        ·
          replace hR := of_false h4 hR
          refine Awp.skip ?_
          refine Awp.cons C (fun _ => .pure) (by kernel_rfl) ?_
          refine rvc_un (rexec_prim C (δ := { v := sS (some true) (eI .i64) [] }) rfl rfl rfl rfl trivial rfl ?_)
          refine rvc_nil ?_
          refine Awp.seq ?_
          refine Awp.cons C (fun _ => .pure) (by kernel_rfl) ?_
          refine rvc_un (rexec_prim C (δ := { v := .ptr 3 1 }) rfl rfl rfl rfl trivial rfl ?_)
          refine rvc_un (rexec_prim C (δ := { v := sS (some b.members.nil) eMember b.members.D }) rfl rfl rfl rfl trivial rfl ?_)
          refine rvc_un (rexec_prim C (δ := { v := .pv (.lit (.int .i64 (b.members.D.length : Int))) }) rfl rfl rfl rfl trivial rfl ?_)
          refine rvc_un (rexec_prim C (δ := { v := .pv (.lit (.int .i64 0)) }) rfl rfl rfl rfl trivial rfl ?_)
          refine rvc_nil ?_
          refine Awp.block ?_
          refine Awp.forR (σ := ((List Int))) (b.members.D.length) (fun i v => [(2, .ptr 2 0), (5, grow 900 (eI .i64) v), (33, sS (some b.members.nil) eMember b.members.D), (34, .pv (.lit (.int .i64 (b.members.D.length : Int)))), (35, .pv (.lit (.int .i64 (i : Int))))]) (fun i v => (growH 900 (eI .i64) v ++ ([(2, .cells [.pv (.lit (.int .i64 a.epoch)), sS (some a.members.nil) eMember a.members.D])]))) [2, 900] (fun i v => (follows_l0 a (b.members.D.drop i) i v = R) ∧ (v.length ≤ i)) [] ?_ ?_ (fun i stay h5 hR => ?_)
          · exact ⟨hR, (by first | omega | (simp <;> omega))⟩
          · exact ⟨fun b => b, WeakerR.ofL (Ks := [2, 900]) hI ⟨⟨rfl, rfl⟩, ⟨rfl, rfl⟩, ⟨rfl, rfl⟩, ⟨rfl, rfl⟩, ⟨rfl, rfl⟩, trivial⟩ (okH_grow (fun hne => absurd rfl hne) rfl rfl (okH_cons rfl rfl rfl rfl (okH_nil))) rfl⟩
          obtain ⟨hR, hi_stay⟩ := hR
          replace hi_stay : stay.length ≤ i := hi_stay
          by_cases h6 : stay = []
          ·
            refine Awp.wordsR [(2, .ptr 2 0), (5, sS (some stay.isEmpty) (eI .i64) stay), (33, sS (some b.members.nil) eMember b.members.D), (34, .pv (.lit (.int .i64 (b.members.D.length : Int)))), (35, .pv (.lit (.int .i64 (i : Int))))] [(2, .cells [.pv (.lit (.int .i64 a.epoch)), sS (some a.members.nil) eMember a.members.D])] [2] (WeakerR.ofL (Ks := [2]) hI ⟨⟨rfl, rfl⟩, ⟨(by exact grow_at_nil (b := 900) (e := (eI .i64)) (l := stay) rfl h6), rfl⟩, ⟨rfl, rfl⟩, ⟨rfl, rfl⟩, ⟨rfl, rfl⟩, trivial⟩ (okH_cons (look_nil h6 rfl) rfl rfl rfl (okH_nil)) rfl) ?_
            refine Awp.cons C (fun _ => .pure) (by kernel_rfl) ?_
            refine rvc_un (rexec_prim C (δ := { v := .pv (.lit (.bool (decide ((i : Int) < (b.members.D.length : Int))))) }) rfl rfl rfl rfl trivial rfl ?_)
            refine rvc_nil ?_
            refine Awp.seq ?_
            refine Awp.cond (b := (decide ((i : Int) < (b.members.D.length : Int)))) rfl (fun h7 => ?_) (fun h7 => ?_)
            ·
              have h8 : i < b.members.D.length := by have := of_decide_eq_true h7; omega
              obtain ⟨x, h9⟩ := getX h8
              rw [drop_at h9] at hR
              refine Awp.skip ?_
              refine Awp.seq ?_
              refine Awp.block ?_
              refine Awp.cons C (fun _ => .pure) (by kernel_rfl) ?_
              refine rvc_un (rexec_idxS C rfl rfl rfl rfl rfl rfl x (Int.natCast_nonneg _) h9 ?_)
              refine rvc_un (rexec_prim C (δ := { v := .agg [.pv (.lit (.int .i64 x.node)), .pv (.lit (.int .i64 x.site)), .pv (.lit (.bool x.fresh))] }) rfl rfl rfl rfl trivial rfl ?_)
              refine rvc_un (rexec_prim C (δ := { v := .ptr 7 0, new := [(7, .cells [.pv (.lit (.int .i64 0)), .pv (.lit (.int .i64 0)), .pv (.lit (.bool false))])] }) rfl rfl rfl rfl trivial rfl ?_)
              refine rvc_un (rexec_prim C (δ := { v := .undef, wr := [(7, some (.cells [.pv (.lit (.int .i64 x.node)), .pv (.lit (.int .i64 x.site)), .pv (.lit (.bool x.fresh))]))] }) rfl rfl rfl rfl trivial rfl ?_) -- tNone store
              refine rvc_nil ?_
              refine Awp.cons C (fun _ => .pure) (by kernel_rfl) ?_
              refine rvc_un (rexec_prim C (δ := { v := .agg [.pv (.lit (.int .i64 a.epoch)), sS (some a.members.nil) eMember a.members.D] }) rfl rfl rfl rfl trivial rfl ?_)
              refine rvc_un (rexec_prim C (δ := { v := .ptr 7 0 }) rfl rfl rfl rfl trivial rfl ?_)
              refine rvc_un (rexec_prim C (δ := { v := .pv (.lit (.int .i64 x.node)) }) rfl rfl rfl rfl trivial rfl ?_)
              refine rvc_un (rexec_call hP C rfl rfl rfl (placeIn_calls a x.node hl1) ?_)
              refine rvc_un (rexec_prim C (δ := { v := .pv (.lit (.int .i64 (placeIn a x.node))) }) rfl rfl rfl rfl trivial rfl ?_)
              refine rvc_nil ?_
              refine Awp.cons C (fun _ => .pure) (by kernel_rfl) ?_
              refine rvc_un (rexec_prim C (δ := { v := .pv (.lit (.int .i64 (placeIn a x.node))) }) rfl rfl rfl rfl trivial rfl ?_)
              refine rvc_un (rexec_prim C (δ := { v := .pv (.lit (.bool (decide ((placeIn a x.node) ≥ 0)))) }) rfl rfl rfl rfl trivial rfl ?_)
              refine rvc_nil ?_
              refine Awp.cond (b := (decide ((placeIn a x.node) ≥ 0))) rfl (fun h10 => ?_) (fun h10 => ?_)
              ·
                replace hR := of_true h10 hR
                refine Awp.region C (fun _ => .pure) (by kernel_rfl) ?_
                refine rvc_un (rexec_prim C (δ := { v := sS (some stay.isEmpty) (eI .i64) stay }) rfl rfl rfl rfl trivial rfl ?_)
                refine rvc_un (rexec_prim C (δ := { v := .pv (.lit (.int .i64 (placeIn a x.node))) }) rfl rfl rfl rfl trivial rfl ?_)
                refine rvc_un (rexec_buildSliceF C (eI .i64) [(placeIn a x.node)] rfl rfl rfl rfl rfl rfl rfl (by decide) rfl ?_)
                refine rvc_un (rexec_appendG C rfl rfl rfl rfl rfl rfl rfl rfl (fun _ h => by cases h) rfl (en := (eI .i64)) (l := stay) (D := [(placeIn a x.node)]) rfl rfl h6 (by rw [h6]; rfl) (by simp) (by have := check_len (c := a); have := check_le6 (c := a); have := check_len (c := b); have := check_le6 (c := b); have := placeIn_lt a x.node; have := eq_of_bne_false h1; have := eq_of_bne_false h2; have := of_decide_eq_false h3; have := eq_of_bne_false h4; have := of_decide_eq_true h7; have := of_decide_eq_true h10; first | omega | (simp <;> omega)) (by decide) (nn := (stay ++ [(placeIn a x.node)]).length) (by simp) ?_)
                refine rvc_un (rexec_prim C (δ := { v := .sl 48 0 ((stay ++ [(placeIn a x.node)]).length) 1 false }) rfl rfl rfl rfl trivial rfl ?_)
                refine rvc_nil ?_
                refine Awp.region C (fun _ => .pure) (by kernel_rfl) ?_
                refine rvc_un (rexec_prim C (δ := { v := .pv (.lit (.int .i64 (IntKind.i64.wrap ((i : Int) + 1)))) }) rfl rfl rfl rfl trivial rfl ?_)
                refine rvc_un (rexec_prim C (δ := { v := .pv (.lit (.int .i64 (IntKind.i64.wrap ((i : Int) + 1)))) }) rfl rfl rfl rfl trivial rfl ?_)
                refine rvc_nil ?_
                refine ⟨h8, (stay ++ [(placeIn a x.node)]), ?_, ?_⟩
                · exact ⟨hR, (by first | omega | (simp <;> omega))⟩
                · exact ⟨fun b => bif b == 900 then 48 else (fun b => b) b, WeakerR.ofL (Ks := [2, 900]) hI ⟨⟨rfl, rfl⟩, ⟨grow_to rfl rfl app_ne rfl rfl, grow_within rfl⟩, ⟨rfl, rfl⟩, ⟨rfl, rfl⟩, ⟨lit_cast (wrap_i64 (by omega) (by omega)), rfl⟩, trivial⟩ (okH_grow (fun _ => rfl) rfl rfl (okH_cons rfl rfl rfl rfl (okH_nil))) rfl⟩
              ·
                replace hR := of_false h10 hR
                refine Awp.skip ?_
                refine Awp.region C (fun _ => .pure) (by kernel_rfl) ?_
                refine rvc_un (rexec_prim C (δ := { v := .pv (.lit (.int .i64 (IntKind.i64.wrap ((i : Int) + 1)))) }) rfl rfl rfl rfl trivial rfl ?_)
                refine rvc_un (rexec_prim C (δ := { v := .pv (.lit (.int .i64 (IntKind.i64.wrap ((i : Int) + 1)))) }) rfl rfl rfl rfl trivial rfl ?_)
                refine rvc_nil ?_
                refine ⟨h8, stay, ?_, ?_⟩
                · exact ⟨hR, (by first | omega | (simp <;> omega))⟩
                · exact ⟨fun b => b, WeakerR.ofL (Ks := [2, 900]) hI ⟨⟨rfl, rfl⟩, ⟨grow_to_nil rfl h6 (.inr rfl), grow_within rfl⟩, ⟨rfl, rfl⟩, ⟨rfl, rfl⟩, ⟨lit_cast (wrap_i64 (by omega) (by omega)), rfl⟩, trivial⟩ (okH_grow (fun hne => absurd h6 hne) rfl rfl (okH_cons rfl rfl rfl rfl (okH_nil))) rfl⟩
            ·
              have h8 : ¬ i < b.members.D.length := by have := of_decide_eq_false h7; omega
              rw [drop_end h8] at hR
              refine Awp.exit ?_
              refine Awp.cons C (fun _ => .pure) (by kernel_rfl) ?_
              refine rvc_un (rexec_prim C (δ := { v := sS (some stay.isEmpty) (eI .i64) stay }) rfl rfl rfl rfl trivial rfl ?_)
              refine rvc_un (rexec_call hP C rfl rfl rfl (isSorted_calls (Sl.mk stay.isEmpty stay) (by show stay.length ≤ 1000000; have := check_len (c := a); have := check_le6 (c := a); have := check_len (c := b); have := check_le6 (c := b); have := eq_of_bne_false h1; have := eq_of_bne_false h2; have := of_decide_eq_false h3; have := eq_of_bne_false h4; have := of_decide_eq_false h7; omega)) ?_)
              refine rvc_un (rexec_prim C (δ := { v := .pv (.lit (.bool (isSorted (Sl.mk stay.isEmpty stay)))) }) rfl rfl rfl rfl trivial rfl ?_)
              refine rvc_case 52 (isSorted (Sl.mk stay.isEmpty stay)) rfl (fun h11 => ?_) (fun h11 => ?_)
              ·
                replace hR := of_true h11 hR
                refine rvc_open rfl rfl rfl (rexec_prim C (δ := { v := sS (some stay.isEmpty) (eI .i64) stay }) rfl rfl rfl rfl trivial rfl ?_)
                refine rvc_open rfl rfl rfl (rexec_prim C (δ := { v := .pv (.lit (.int .i64 (stay.length : Int))) }) rfl rfl rfl rfl trivial rfl ?_)
                refine rvc_open rfl rfl rfl (rexec_prim C (δ := { v := .pv (.lit (.bool (decide ((stay.length : Int) > 0)))) }) rfl rfl rfl rfl trivial rfl ?_)
                refine rvc_un (rexec_prim C (δ := { v := .pv (.lit (.bool (decide ((stay.length : Int) > 0)))) }) rfl rfl rfl rfl trivial rfl ?_)
                refine rvc_un (rexec_prim C (δ := { v := .pv (.lit (.bool (decide ((stay.length : Int) > 0)))) }) rfl rfl rfl rfl trivial rfl ?_)
                refine rvc_nil ?_
                refine Awp.ret ?_
                subst hR
                exact ⟨.inl rfl, rfl⟩
              ·
                replace hR := of_false h11 hR
                refine rvc_shut rfl rfl rfl rfl ?_
                refine rvc_shut rfl rfl rfl rfl ?_
                refine rvc_shut rfl rfl rfl rfl ?_
                refine rvc_un (rexec_prim C (δ := { v := .pv (.lit (.bool false)) }) rfl rfl rfl rfl trivial rfl ?_)
                refine rvc_un (rexec_prim C (δ := { v := .pv (.lit (.bool false)) }) rfl rfl rfl rfl trivial rfl ?_)
                refine rvc_nil ?_
                refine Awp.ret ?_
                subst hR
                exact ⟨.inl rfl, rfl⟩
          ·
            refine Awp.wordsR [(2, .ptr 2 0), (5, .sl 900 0 stay.length 1 false), (33, sS (some b.members.nil) eMember b.members.D), (34, .pv (.lit (.int .i64 (b.members.D.length : Int)))), (35, .pv (.lit (.int .i64 (i : Int))))] [(900, .cells (encC (eI .i64) stay)), (2, .cells [.pv (.lit (.int .i64 a.epoch)), sS (some a.members.nil) eMember a.members.D])] [2, 900] (WeakerR.ofL (Ks := [2, 900]) hI ⟨⟨rfl, rfl⟩, ⟨(by exact grow_at_cons (b := 900) (b' := 900) (e := (eI .i64)) (l := stay) rfl h6 rfl rfl rfl), rfl⟩, ⟨rfl, rfl⟩, ⟨rfl, rfl⟩, ⟨rfl, rfl⟩, trivial⟩ (okH_list (look_cons h6 rfl) rfl rfl (okH_cons (look_cons h6 rfl) rfl rfl rfl (okH_nil))) rfl) ?_
            refine Awp.cons C (fun _ => .pure) (by kernel_rfl) ?_
            refine rvc_un (rexec_prim C (δ := { v := .pv (.lit (.bool (decide ((i : Int) < (b.members.D.length : Int))))) }) rfl rfl rfl rfl trivial rfl ?_)
            refine rvc_nil ?_
            refine Awp.seq ?_
            refine Awp.cond (b := (decide ((i : Int) < (b.members.D.length : Int)))) rfl (fun h12 => ?_) (fun h12 => ?_)
            ·
              have h13 : i < b.members.D.length := by have := of_decide_eq_true h12; omega
              obtain ⟨x, h14⟩ := getX h13
              rw [drop_at h14] at hR
              refine Awp.skip ?_
              refine Awp.seq ?_
              refine Awp.block ?_
              refine Awp.cons C (fun _ => .pure) (by kernel_rfl) ?_
              refine rvc_un (rexec_idxS C rfl rfl rfl rfl rfl rfl x (Int.natCast_nonneg _) h14 ?_)
              refine rvc_un (rexec_prim C (δ := { v := .agg [.pv (.lit (.int .i64 x.node)), .pv (.lit (.int .i64 x.site)), .pv (.lit (.bool x.fresh))] }) rfl rfl rfl rfl trivial rfl ?_)
              refine rvc_un (rexec_prim C (δ := { v := .ptr 7 0, new := [(7, .cells [.pv (.lit (.int .i64 0)), .pv (.lit (.int .i64 0)), .pv (.lit (.bool false))])] }) rfl rfl rfl rfl trivial rfl ?_)
              refine rvc_un (rexec_prim C (δ := { v := .undef, wr := [(7, some (.cells [.pv (.lit (.int .i64 x.node)), .pv (.lit (.int .i64 x.site)), .pv (.lit (.bool x.fresh))]))] }) rfl rfl rfl rfl trivial rfl ?_) -- tNone store
              refine rvc_nil ?_
              refine Awp.cons C (fun _ => .pure) (by kernel_rfl) ?_
              refine rvc_un (rexec_prim C (δ := { v := .agg [.pv (.lit (.int .i64 a.epoch)), sS (some a.members.nil) eMember a.members.D] }) rfl rfl rfl rfl trivial rfl ?_)
              refine rvc_un (rexec_prim C (δ := { v := .ptr 7 0 }) rfl rfl rfl rfl trivial rfl ?_)
              refine rvc_un (rexec_prim C (δ := { v := .pv (.lit (.int .i64 x.node)) }) rfl rfl rfl rfl trivial rfl ?_)
              refine rvc_un (rexec_call hP C rfl rfl rfl (placeIn_calls a x.node hl1) ?_)
              refine rvc_un (rexec_prim C (δ := { v := .pv (.lit (.int .i64 (placeIn a x.node))) }) rfl rfl rfl rfl trivial rfl ?_)
              refine rvc_nil ?_
              refine Awp.cons C (fun _ => .pure) (by kernel_rfl) ?_
              refine rvc_un (rexec_prim C (δ := { v := .pv (.lit (.int .i64 (placeIn a x.node))) }) rfl rfl rfl rfl trivial rfl ?_)
              refine rvc_un (rexec_prim C (δ := { v := .pv (.lit (.bool (decide ((placeIn a x.node) ≥ 0)))) }) rfl rfl rfl rfl trivial rfl ?_)
              refine rvc_nil ?_
              refine Awp.cond (b := (decide ((placeIn a x.node) ≥ 0))) rfl (fun h15 => ?_) (fun h15 => ?_)
              ·
                replace hR := of_true h15 hR
                refine Awp.region C (fun _ => .pure) (by kernel_rfl) ?_
                refine rvc_un (rexec_prim C (δ := { v := .sl 900 0 stay.length 1 false }) rfl rfl rfl rfl trivial rfl ?_)
                refine rvc_un (rexec_prim C (δ := { v := .pv (.lit (.int .i64 (placeIn a x.node))) }) rfl rfl rfl rfl trivial rfl ?_)
                refine rvc_un (rexec_buildSliceF C (eI .i64) [(placeIn a x.node)] rfl rfl rfl rfl rfl rfl rfl (by decide) rfl ?_)
                refine rvc_un (rexec_append C rfl rfl rfl rfl rfl rfl rfl rfl (fun _ h => by cases h) rfl (en := (eI .i64)) (D0 := stay) (D := [(placeIn a x.node)]) rfl rfl rfl rfl (by have := check_len (c := a); have := check_le6 (c := a); have := check_len (c := b); have := check_le6 (c := b); have := placeIn_lt a x.node; have := eq_of_bne_false h1; have := eq_of_bne_false h2; have := of_decide_eq_false h3; have := eq_of_bne_false h4; have := of_decide_eq_true h12; have := of_decide_eq_true h15; first | omega | (simp <;> omega)) (by decide) (nn := (stay ++ [(placeIn a x.node)]).length) (by simp) ?_)
                refine rvc_un (rexec_prim C (δ := { v := .sl 48 0 ((stay ++ [(placeIn a x.node)]).length) 1 false }) rfl rfl rfl rfl trivial rfl ?_)
                refine rvc_nil ?_
                refine Awp.region C (fun _ => .pure) (by kernel_rfl) ?_
                refine rvc_un (rexec_prim C (δ := { v := .pv (.lit (.int .i64 (IntKind.i64.wrap ((i : Int) + 1)))) }) rfl rfl rfl rfl trivial rfl ?_)
                refine rvc_un (rexec_prim C (δ := { v := .pv (.lit (.int .i64 (IntKind.i64.wrap ((i : Int) + 1)))) }) rfl rfl rfl rfl trivial rfl ?_)
                refine rvc_nil ?_
                refine ⟨h13, (stay ++ [(placeIn a x.node)]), ?_, ?_⟩
                · exact ⟨hR, (by first | omega | (simp <;> omega))⟩
                · exact ⟨fun b => bif b == 900 then 48 else (fun b => b) b, WeakerR.ofL (Ks := [2, 900]) hI ⟨⟨rfl, rfl⟩, ⟨grow_to rfl rfl app_ne rfl rfl, grow_within rfl⟩, ⟨rfl, rfl⟩, ⟨rfl, rfl⟩, ⟨lit_cast (wrap_i64 (by omega) (by omega)), rfl⟩, trivial⟩ (okH_grow (fun _ => rfl) rfl rfl (okH_cons rfl rfl rfl rfl (okH_nil))) rfl⟩
              ·
                replace hR := of_false h15 hR
                refine Awp.skip ?_
                refine Awp.region C (fun _ => .pure) (by kernel_rfl) ?_
                refine rvc_un (rexec_prim C (δ := { v := .pv (.lit (.int .i64 (IntKind.i64.wrap ((i : Int) + 1)))) }) rfl rfl rfl rfl trivial rfl ?_)
                refine rvc_un (rexec_prim C (δ := { v := .pv (.lit (.int .i64 (IntKind.i64.wrap ((i : Int) + 1)))) }) rfl rfl rfl rfl trivial rfl ?_)
                refine rvc_nil ?_
                refine ⟨h13, stay, ?_, ?_⟩
                · exact ⟨hR, (by first | omega | (simp <;> omega))⟩
                · exact ⟨fun b => b, WeakerR.ofL (Ks := [2, 900]) hI ⟨⟨rfl, rfl⟩, ⟨grow_to rfl rfl h6 rfl rfl, grow_within rfl⟩, ⟨rfl, rfl⟩, ⟨rfl, rfl⟩, ⟨lit_cast (wrap_i64 (by omega) (by omega)), rfl⟩, trivial⟩ (okH_grow (fun _ => rfl) rfl rfl (okH_cons rfl rfl rfl rfl (okH_nil))) rfl⟩
            ·
              have h13 : ¬ i < b.members.D.length := by have := of_decide_eq_false h12; omega
              rw [drop_end h13] at hR
              refine Awp.exit ?_
              refine Awp.freezeW 900 (encL (eI .i64) stay) ?_ [(5, sS (some stay.isEmpty) (eI .i64) stay)] [(2, .cells [.pv (.lit (.int .i64 a.epoch)), sS (some a.members.nil) eMember a.members.D])] ?_ ?_ ?_
              · rfl
              · exact ⟨⟨_, rfl, .inl (.inr ⟨_, _, _, rfl, by rw [ne_isEmpty h6]; rfl⟩)⟩, trivial⟩
              · exact ⟨⟨(by show (2 : Nat) ≠ 900; decide), .inl rfl⟩, trivial⟩
              refine Awp.cons C (fun _ => .pure) (by kernel_rfl) ?_
              refine rvc_un (rexec_prim C (δ := { v := sS (some stay.isEmpty) (eI .i64) stay }) rfl rfl rfl rfl trivial rfl ?_)
              refine rvc_un (rexec_call hP C rfl rfl rfl (isSorted_calls (Sl.mk stay.isEmpty stay) (by show stay.length ≤ 1000000; have := check_len (c := a); have := check_le6 (c := a); have := check_len (c := b); have := check_le6 (c := b); have := eq_of_bne_false h1; have := eq_of_bne_false h2; have := of_decide_eq_false h3; have := eq_of_bne_false h4; have := of_decide_eq_false h12; omega)) ?_)
              refine rvc_un (rexec_prim C (δ := { v := .pv (.lit (.bool (isSorted (Sl.mk stay.isEmpty stay)))) }) rfl rfl rfl rfl trivial rfl ?_)
              refine rvc_case 52 (isSorted (Sl.mk stay.isEmpty stay)) rfl (fun h16 => ?_) (fun h16 => ?_)
              ·
                replace hR := of_true h16 hR
                refine rvc_open rfl rfl rfl (rexec_prim C (δ := { v := sS (some stay.isEmpty) (eI .i64) stay }) rfl rfl rfl rfl trivial rfl ?_)
                refine rvc_open rfl rfl rfl (rexec_prim C (δ := { v := .pv (.lit (.int .i64 (stay.length : Int))) }) rfl rfl rfl rfl trivial rfl ?_)
                refine rvc_open rfl rfl rfl (rexec_prim C (δ := { v := .pv (.lit (.bool (decide ((stay.length : Int) > 0)))) }) rfl rfl rfl rfl trivial rfl ?_)
                refine rvc_un (rexec_prim C (δ := { v := .pv (.lit (.bool (decide ((stay.length : Int) > 0)))) }) rfl rfl rfl rfl trivial rfl ?_)
                refine rvc_un (rexec_prim C (δ := { v := .pv (.lit (.bool (decide ((stay.length : Int) > 0)))) }) rfl rfl rfl rfl trivial rfl ?_)
                refine rvc_nil ?_
                refine Awp.ret ?_
                subst hR
                exact ⟨.inl rfl, rfl⟩
              ·
                replace hR := of_false h16 hR
                refine rvc_shut rfl rfl rfl rfl ?_
                refine rvc_shut rfl rfl rfl rfl ?_
                refine rvc_shut rfl rfl rfl rfl ?_
                refine rvc_un (rexec_prim C (δ := { v := .pv (.lit (.bool false)) }) rfl rfl rfl rfl trivial rfl ?_)
                refine rvc_un (rexec_prim C (δ := { v := .pv (.lit (.bool false)) }) rfl rfl rfl rfl trivial rfl ?_)
                refine rvc_nil ?_
                refine Awp.ret ?_
                subst hR
                exact ⟨.inl rfl, rfl⟩

end Go.Proofs.Ytjhphpoihadmkaa

/- The law of that. No conditions. -/
namespace Go.Proofs.Ytjhphpoihadmkaa
open Go.Am
def lawFollows (a : Chain) (b : Chain) : Bool :=
  (bif (decide ((IntKind.i64.wrap ((a.members.D.length : Int) + (b.members.D.length : Int))) > 60)) then (awake ) else (bif ((follows a b) == (rFollows a b)) then (awake ) else false))
theorem lawFollows_calls (a : Chain) (b : Chain) (hl1 : a.members.D.length ≤ 9223372036854775807) (hl2 : b.members.D.length ≤ 9223372036854775807) : PCalls Try.prog 8 [.agg [.pv (.lit (.int .i64 a.epoch)), sS (some a.members.nil) eMember a.members.D], .agg [.pv (.lit (.int .i64 b.epoch)), sS (some b.members.nil) eMember b.members.D]] (.pv (.lit (.bool (lawFollows a b)))) := by
  generalize hR : lawFollows a b = R
  refine PCalls.of_body tabOk Try.func8 rfl rfl rfl rfl rfl mixed fun E hP C hI => ?_
  refine Awp.cons C (fun _ => .pure) (by kernel_rfl) ?_
  refine rvc_un (rexec_prim C (δ := { v := .ptr 2 0, new := [(2, .cells [.pv (.lit (.int .i64 a.epoch)), sS (some a.members.nil) eMember a.members.D])] }) rfl rfl rfl rfl trivial rfl ?_)
  refine rvc_un (rexec_prim C (δ := { v := .ptr 3 0, new := [(3, .cells [.pv (.lit (.int .i64 b.epoch)), sS (some b.members.nil) eMember b.members.D])] }) rfl rfl rfl rfl trivial rfl ?_)
  refine rvc_un (rexec_prim C (δ := { v := .pv (.lit (.bool false)) }) rfl rfl rfl rfl trivial rfl ?_)
  refine rvc_nil ?_
  refine Awp.seq ?_
  refine Awp.cons C (fun _ => .pure) (by kernel_rfl) ?_
  refine rvc_un (rexec_prim C (δ := { v := .ptr 2 1 }) rfl rfl rfl rfl trivial rfl ?_)
  refine rvc_un (rexec_prim C (δ := { v := sS (some a.members.nil) eMember a.members.D }) rfl rfl rfl rfl trivial rfl ?_)
  refine rvc_un (rexec_prim C (δ := { v := .pv (.lit (.int .i64 (a.members.D.length : Int))) }) rfl rfl rfl rfl trivial rfl ?_)
  refine rvc_un (rexec_prim C (δ := { v := .ptr 3 1 }) rfl rfl rfl rfl trivial rfl ?_)
  refine rvc_un (rexec_prim C (δ := { v := sS (some b.members.nil) eMember b.members.D }) rfl rfl rfl rfl trivial rfl ?_)
  refine rvc_un (rexec_prim C (δ := { v := .pv (.lit (.int .i64 (b.members.D.length : Int))) }) rfl rfl rfl rfl trivial rfl ?_)
  refine rvc_un (rexec_prim C (δ := { v := .pv (.lit (.int .i64 (IntKind.i64.wrap ((a.members.D.length : Int) + (b.members.D.length : Int))))) }) rfl rfl rfl rfl trivial rfl ?_)
  refine rvc_un (rexec_prim C (δ := { v := .pv (.lit (.bool (decide ((IntKind.i64.wrap ((a.members.D.length : Int) + (b.members.D.length : Int))) > 60)))) }) rfl rfl rfl rfl trivial rfl ?_)
  refine rvc_nil ?_
  refine Awp.cond (b := (decide ((IntKind.i64.wrap ((a.members.D.length : Int) + (b.members.D.length : Int))) > 60))) rfl (fun h1 => ?_) (fun h1 => ?_)
  ·
    replace hR := of_true h1 hR
    refine Awp.cons C (fun _ => .pure) (by kernel_rfl) ?_
    refine rvc_un (rexec_call hP C rfl rfl rfl (awake_calls ) ?_)
    refine rvc_un (rexec_prim C (δ := { v := .pv (.lit (.bool (awake ))) }) rfl rfl rfl rfl trivial rfl ?_)
    refine rvc_nil ?_
    refine Awp.ret ?_
    subst hR
    exact ⟨.inl rfl, rfl⟩
  ·
    replace hR := of_false h1 hR
    refine Awp.skip ?_
    refine Awp.cons C (fun _ => .pure) (by kernel_rfl) ?_
    refine rvc_un (rexec_prim C (δ := { v := .agg [.pv (.lit (.int .i64 a.epoch)), sS (some a.members.nil) eMember a.members.D] }) rfl rfl rfl rfl trivial rfl ?_)
    refine rvc_un (rexec_prim C (δ := { v := .agg [.pv (.lit (.int .i64 b.epoch)), sS (some b.members.nil) eMember b.members.D] }) rfl rfl rfl rfl trivial rfl ?_)
    refine rvc_un (rexec_call hP C rfl rfl rfl (follows_calls a b hl1 hl2) ?_)
    refine rvc_un (rexec_prim C (δ := { v := .agg [.pv (.lit (.int .i64 a.epoch)), sS (some a.members.nil) eMember a.members.D] }) rfl rfl rfl rfl trivial rfl ?_)
    refine rvc_un (rexec_prim C (δ := { v := .agg [.pv (.lit (.int .i64 b.epoch)), sS (some b.members.nil) eMember b.members.D] }) rfl rfl rfl rfl trivial rfl ?_)
    refine rvc_un (rexec_call hP C rfl rfl rfl (rFollows_calls a b hl1 hl2) ?_)
    refine rvc_un (rexec_prim C (δ := { v := .pv (.lit (.bool ((follows a b) == (rFollows a b)))) }) rfl rfl rfl rfl trivial rfl ?_)
    refine rvc_un (rexec_prim C (δ := { v := .pv (.lit (.bool ((follows a b) == (rFollows a b)))) }) rfl rfl rfl rfl trivial rfl ?_)
    refine rvc_case 21 ((follows a b) == (rFollows a b)) rfl (fun h2 => ?_) (fun h2 => ?_)
    ·
      replace hR := of_true h2 hR
      refine rvc_open rfl rfl rfl (rexec_call hP C rfl rfl rfl (awake_calls ) ?_)
      refine rvc_un (rexec_prim C (δ := { v := .pv (.lit (.bool (awake ))) }) rfl rfl rfl rfl trivial rfl ?_)
      refine rvc_un (rexec_prim C (δ := { v := .pv (.lit (.bool (awake ))) }) rfl rfl rfl rfl trivial rfl ?_)
      refine rvc_nil ?_
      refine Awp.ret ?_
      subst hR
      exact ⟨.inl rfl, rfl⟩
    ·
      replace hR := of_false h2 hR
      refine rvc_shut rfl rfl rfl rfl ?_
      refine rvc_un (rexec_prim C (δ := { v := .pv (.lit (.bool false)) }) rfl rfl rfl rfl trivial rfl ?_)
      refine rvc_un (rexec_prim C (δ := { v := .pv (.lit (.bool false)) }) rfl rfl rfl rfl trivial rfl ?_)
      refine rvc_nil ?_
      refine Awp.ret ?_
      subst hR
      exact ⟨.inl rfl, rfl⟩

end Go.Proofs.Ytjhphpoihadmkaa

/- The law LayoutFollows in plain Lean: its model answers true. No conditions. -/
namespace Go.Proofs.Ytjhphpoihadmkaa
open Go.Am

theorem ok_apart : ∀ (l pre : List Member), okFrom pre l = true → ∀ y ∈ l, ∀ z ∈ pre, z.node ≠ y.node
  | [], _, _, y, hy, _, _ => by cases hy
  | x :: l, pre, h, y, hy, z, hz => by
    simp only [okFrom, Bool.and_eq_true] at h
    obtain ⟨⟨_, h2⟩, h3⟩ := h
    cases hy with
    | head =>
      have := List.all_eq_true.1 h2 z hz
      simp at this
      exact this.1
    | tail _ hm => exact ok_apart l (pre ++ [x]) h3 y hm z (by simp [hz])
theorem unique_at (n : Int) : ∀ (l pre : List Member), okFrom pre l = true → (l.any fun y => y.node == n && !y.fresh) = (decide (0 ≤ rPlace_l0 n l pre.length) && !((pre ++ l)[(rPlace_l0 n l pre.length).toNat]!.fresh))
  | [], _, _ => by simp [rPlace_l0]
  | x :: l, pre, h => by
    have h' := h
    simp only [okFrom, Bool.and_eq_true] at h
    obtain ⟨_, h3⟩ := h
    cases hx : x.node == n
    · have ih := unique_at n l (pre ++ [x]) h3
      have hl : (pre ++ [x]).length = pre.length + 1 := by simp
      rw [hl] at ih
      simp only [List.any_cons, hx, Bool.false_and, Bool.false_or, rPlace_l0, cond_false, ih]
      simp
    · have hnone : (l.any fun y => y.node == n && !y.fresh) = false := by
        rw [Bool.eq_false_iff]
        intro he
        obtain ⟨y, hy, he⟩ := List.any_eq_true.1 he
        have := ok_apart l (pre ++ [x]) h3 y hy x (by simp)
        simp only [Bool.and_eq_true, beq_iff_eq] at he hx
        exact this (hx.trans he.1.symm)
      simp only [List.any_cons, hx, Bool.true_and, hnone, Bool.or_false, rPlace_l0, cond_true]
      simp

theorem ok_of_check {c : Chain} (h : check c = 0) : okFrom [] c.members.D = true := by
  unfold check at h
  obtain ⟨_, h⟩ := bif_const (by decide) h
  obtain ⟨_, h⟩ := bif_const (by decide) h
  obtain ⟨_, h⟩ := bif_const (by decide) h
  obtain ⟨_, h⟩ := bif_const (by decide) h
  have h1 : check_l0 c.members.D 0 0 0 = bif okFrom [] c.members.D then 0 else 80 := check_l0_eq c.members.D [] 0 0 0 ⟨by decide, fun n hn => by
    have := has_nat (S := 0) (n := n) (by decide) (by omega)
    rw [this]; simp, fun y hy => (by cases hy), .inl rfl⟩
  rw [h1] at h
  cases ho : okFrom [] c.members.D
  · rw [ho] at h; cases h
  · rfl
theorem ok_member : ∀ (l pre : List Member), okFrom pre l = true → ∀ y ∈ l, member y = true
  | [], _, _, y, hy => by cases hy
  | x :: l, pre, h, y, hy => by
    simp only [okFrom, Bool.and_eq_true] at h
    cases hy with
    | head => exact h.1.1
    | tail _ hm => exact ok_member l (pre ++ [x]) h.2 y hm

def goodNF (a : Chain) (x : Member) : Bool := x.fresh || (decide (0 ≤ rPlace a x.node) && !(a.members.D[(rPlace a x.node).toNat]!.fresh))
def asc (last : Int) : List Int → Bool
  | [] => true
  | p :: ps => !(decide (p < last)) && asc p ps
def stayOf (a : Chain) : List Member → List Int
  | [] => []
  | x :: l => if 0 ≤ rPlace a x.node then rPlace a x.node :: stayOf a l else stayOf a l
theorem rFollows_l0_eq (a : Chain) : ∀ (l : List Member) (i : Nat) (last : Int), rFollows_l0 a l i last = (l.all (goodNF a) && asc last (stayOf a l) && (decide (last ≥ 0) || !(stayOf a l).isEmpty))
  | [], _, last => by simp [rFollows_l0, stayOf, asc]
  | x :: l, i, last => by
    have h1 := rFollows_l0_eq a l (i + 1) last
    have h2 := rFollows_l0_eq a l (i + 1) (rPlace a x.node)
    simp only [rFollows_l0, List.all_cons, stayOf, goodNF]
    by_cases hp : 0 ≤ rPlace a x.node
    · have e1 : decide (rPlace a x.node < 0) = false := by simp; omega
      have e2 : decide (rPlace a x.node ≥ 0) = true := by simp; omega
      have e3 : decide (0 ≤ rPlace a x.node) = true := by simp; omega
      simp only [e1, e2, if_pos hp, asc, h2, Bool.true_and, cond_true, cond_false, List.isEmpty_cons, Bool.not_false, Bool.or_true, Bool.and_true, Bool.true_or]
      cases x.fresh <;> cases (a.members.D[(rPlace a x.node).toNat]!).fresh <;> cases decide (rPlace a x.node < last) <;> simp
    · have e1 : decide (rPlace a x.node < 0) = true := by simp; omega
      have e2 : decide (rPlace a x.node ≥ 0) = false := by simp; omega
      have e3 : decide (0 ≤ rPlace a x.node) = false := by simp; omega
      simp only [e1, e2, if_neg hp, h1, Bool.false_and, cond_true, cond_false, Bool.or_false]
      cases x.fresh <;> simp
theorem follows_l0_eq (a : Chain) (hp : ∀ n, placeIn a n = rPlace a n) : ∀ (l : List Member) (i : Nat) (stay : List Int), follows_l0 a l i stay = (isSorted ⟨(stay ++ stayOf a l).isEmpty, stay ++ stayOf a l⟩ && decide (((stay ++ stayOf a l).length : Int) > 0))
  | [], _, stay => by
    simp only [follows_l0, stayOf, List.append_nil]
    cases isSorted ⟨stay.isEmpty, stay⟩ <;> rfl
  | x :: l, i, stay => by
    show (bif decide (placeIn a x.node ≥ 0) then follows_l0 a l (i + 1) (stay ++ [placeIn a x.node]) else follows_l0 a l (i + 1) stay) = _
    rw [hp]
    by_cases h : 0 ≤ rPlace a x.node
    · have e2 : decide (rPlace a x.node ≥ 0) = true := by simp; omega
      have hs : stayOf a (x :: l) = rPlace a x.node :: stayOf a l := by simp [stayOf, h]
      rw [e2, hs, cond_true, follows_l0_eq a hp l, List.append_assoc, List.singleton_append]
    · have e2 : decide (rPlace a x.node ≥ 0) = false := by simp; omega
      have hs : stayOf a (x :: l) = stayOf a l := by simp [stayOf, h]
      rw [e2, hs, cond_false, follows_l0_eq a hp l]
theorem less_eq (x y : Int) : less x y = decide (x < y) := by unfold less isNaN; simp
theorem isSorted_l0_eq (x : Sl Int) : ∀ (i : Nat), i ≤ 1000000 → isSorted_l0 x (i + 1) (i : Int) = (List.range i).all fun j => !(decide (x.D[j + 1]! < x.D[j]!))
  | 0, _ => by simp [isSorted_l0]
  | i + 1, hi => by
    have ih := isSorted_l0_eq x i (by omega)
    have e1 : decide (((i + 1 : Nat) : Int) > 0) = true := by simp
    have e2 : IntKind.i64.wrap (((i + 1 : Nat) : Int) - 1) = (i : Int) := by rw [wrapI _ (by omega)]; omega
    rw [isSorted_l0, e1, e2, cond_true, less_eq, ih, List.range_succ, List.all_append]
    simp only [Int.toNat_natCast, List.all_cons, List.all_nil, Bool.and_true]
    cases decide (x.D[i + 1]! < x.D[i]!) <;> simp
theorem asc_eq : ∀ (ps : List Int) (p : Int), asc p ps = (List.range ps.length).all fun j => !(decide ((p :: ps)[j + 1]! < (p :: ps)[j]!))
  | [], _ => rfl
  | q :: ps, p => by
    rw [asc, asc_eq ps q, List.length_cons, List.range_succ_eq_map]
    rw [List.all_cons, List.all_map]
    rfl
theorem isSorted_eq (f : Bool) : ∀ (l : List Int), l.length ≤ 1000000 → isSorted ⟨f, l⟩ = match l with | [] => true | p :: ps => asc p ps
  | [], _ => by
    unfold isSorted
    have : IntKind.i64.wrap (((([] : List Int).length : Nat) : Int) - 1) = -1 := by rw [wrapI _ (by simp)]; rfl
    simp only [this]
    rfl
  | p :: ps, h => by
    unfold isSorted
    have : IntKind.i64.wrap ((((p :: ps).length : Nat) : Int) - 1) = (ps.length : Int) := by
      rw [wrapI _ (by simp only [List.length_cons] at h ⊢; omega)]; simp
    simp only [this, Int.toNat_natCast]
    rw [isSorted_l0_eq _ _ (by simp only [List.length_cons] at h; omega), asc_eq]
theorem stay_len (a : Chain) : ∀ (l : List Member), (stayOf a l).length ≤ l.length
  | [] => Nat.le_refl _
  | x :: l => by
    have := stay_len a l
    simp only [stayOf, List.length_cons]
    split
    · simp only [List.length_cons]; omega
    · omega
theorem stay_pos (a : Chain) : ∀ (l : List Member), ∀ p ∈ stayOf a l, 0 ≤ p
  | [], p, hp => by cases hp
  | x :: l, p, hp => by
    simp only [stayOf] at hp
    split at hp
    · cases hp with
      | head => assumption
      | tail _ hm => exact stay_pos a l p hm
    · exact stay_pos a l p hp

theorem but_zero {s t : Nat} (_ : s < 18446744073709551616) (_ : t < 18446744073709551616) : mBut (s : Int) (t : Int) = 0 ↔ ∀ n, n < 64 → s.testBit n = true → t.testBit n = true := by
  have e1 : mBut (s : Int) (t : Int) = (((BitVec.ofNat 64 s &&& ~~~ BitVec.ofNat 64 t : BitVec 64).toNat : Nat) : Int) := by
    show IntKind.u64.wrap (((BitVec.ofInt 64 (s : Int) &&& ~~~ BitVec.ofInt 64 (t : Int) : BitVec 64).toNat : Nat) : Int) = _
    rw [BitVec.ofInt_natCast, BitVec.ofInt_natCast, wrap64]
    have := (BitVec.ofNat 64 s &&& ~~~ BitVec.ofNat 64 t : BitVec 64).isLt
    have h' : (2 : Nat) ^ 64 = 18446744073709551616 := by decide
    omega
  rw [e1]
  constructor
  · intro h n hn hsn
    have h0 : (BitVec.ofNat 64 s &&& ~~~ BitVec.ofNat 64 t : BitVec 64) = 0#64 := BitVec.eq_of_toNat_eq (by simpa using h)
    have := congrArg (fun v => v.getLsbD n) h0
    simp only [BitVec.getLsbD_and, BitVec.getLsbD_not, BitVec.getLsbD_ofNat, hn, decide_true, Bool.true_and, hsn] at this
    cases ht' : t.testBit n
    · rw [ht'] at this; simp at this
    · rfl
  · intro h
    have h0 : (BitVec.ofNat 64 s &&& ~~~ BitVec.ofNat 64 t : BitVec 64) = 0#64 := by
      apply BitVec.eq_of_getLsbD_eq
      intro n hn
      simp only [BitVec.getLsbD_and, BitVec.getLsbD_not, BitVec.getLsbD_ofNat, hn, decide_true, Bool.true_and]
      cases hs' : s.testBit n
      · simp
      · rw [h n hn hs']; simp
    rw [h0]; rfl

theorem follows_eq (a b : Chain) : follows a b = rFollows a b := by
  unfold follows rFollows
  rw [← check_eq, ← check_eq]
  cases ha : check a != 0
  case true => rfl
  cases hb : check b != 0
  case true => rfl
  have ha := eq_of_bne_false ha
  have hb := eq_of_bne_false hb
  simp only [cond_false]
  rw [show decide (a.epoch ≥ b.epoch) = decide (b.epoch ≤ a.epoch) from rfl]
  cases he : decide (b.epoch ≤ a.epoch)
  case true => rfl
  simp only [cond_false]
  have hp : ∀ n, placeIn a n = rPlace a n := fun n => by
    rw [← place_eq]; unfold place0; rw [ha]; rfl
  have hl := stay_len a b.members.D
  have hb6 := check_le6 hb
  rw [rFollows_l0_eq, follows_l0_eq a hp, List.nil_append, isSorted_eq _ _ (by omega)]
  obtain ⟨b1, b2⟩ := whole_l0_eq b.members.D 0 0 (by decide)
  obtain ⟨a1, a2⟩ := whole_l0_eq a.members.D 0 0 (by decide)
  have hoka := ok_of_check ha
  have hokb := ok_of_check hb
  have hgood : ∀ x ∈ b.members.D, goodNF a x = (x.fresh || a.members.D.any fun y => y.node == x.node && !y.fresh) := fun x _ => by
    have := unique_at x.node a.members.D [] hoka
    simp only [List.length_nil, List.nil_append] at this
    have hr : rPlace a x.node = rPlace_l0 x.node a.members.D 0 := by unfold rPlace; rw [← check_eq, ha]; rfl
    rw [goodNF, hr, this]
  have hbut : (mBut (whole b) (whole a) != 0) = !(b.members.D.all (goodNF a)) := by
    have e : mBut (whole b) (whole a) = 0 ↔ b.members.D.all (goodNF a) = true := by
      unfold whole
      rw [show (0 : Int) = ((0 : Nat) : Int) from rfl, b1, a1]
      rw [show ((0 : Nat) : Int) = (0 : Int) from rfl, but_zero b2 a2, List.all_eq_true]
      constructor
      · intro h x hx
        rw [hgood x hx]
        cases hf : x.fresh
        · obtain ⟨m1, m2, _, _⟩ := (member_iff x).1 (ok_member _ _ hokb x hx)
          obtain ⟨k, hk⟩ : ∃ k : Nat, x.node = (k : Int) := ⟨x.node.toNat, by omega⟩
          have := h k (by omega) (by
            rw [bits_test _ (by omega)]
            have : (b.members.D.any fun y => y.node == (k : Int) && !y.fresh) = true := List.any_eq_true.2 ⟨x, hx, by simp [hk, hf]⟩
            rw [this]; simp)
          rw [bits_test _ (by omega)] at this
          simpa [hk] using this
        · rfl
      · intro h n hn hbn
        rw [bits_test _ hn] at hbn ⊢
        have hbn : (b.members.D.any fun y => y.node == (n : Int) && !y.fresh) = true := by simpa using hbn
        obtain ⟨x, hx, hxx⟩ := List.any_eq_true.1 hbn
        simp only [Bool.and_eq_true, beq_iff_eq, Bool.not_eq_true'] at hxx
        have := h x hx
        rw [hgood x hx, hxx.2, hxx.1] at this
        simp only [Bool.false_or] at this
        rw [this]; simp
    cases hall : b.members.D.all (goodNF a)
    · rw [hall] at e
      have : mBut (whole b) (whole a) ≠ 0 := fun h => by have := e.1 h; cases this
      simp [this]
    · rw [hall] at e
      rw [e.2 rfl]; rfl
  rw [hbut]
  cases hall : b.members.D.all (goodNF a)
  · rfl
  · simp only [Bool.not_true, cond_false, Bool.true_and]
    cases hst : stayOf a b.members.D with
    | nil => simp
    | cons p ps =>
      have hp0 : 0 ≤ p := stay_pos a b.members.D p (by rw [hst]; exact List.mem_cons_self ..)
      have e1 : decide (p < -1) = false := by simp; omega
      simp [asc, e1]
theorem lawFollows_true (a b : Chain) : lawFollows a b = true := by
  unfold lawFollows
  rw [awake_true, follows_eq]
  simp
end Go.Proofs.Ytjhphpoihadmkaa

/- Going around a chain: the measure. No conditions. -/
namespace Go.Proofs.Ytjhphpoihadmkaa
open Go.Am
def aroundM (c : Chain) (n : Int) : Nat := if n < 0 then 0 else if place0 c n < 0 then 1 else ((c.members.D.length : Int) - place0 c n).toNat
theorem rPlace_at : ∀ (l pre : List Member) (i p : Nat), okFrom pre l = true → p < l.length → rPlace_l0 l[p]!.node l i = ((i + p : Nat) : Int)
  | [], _, _, _, _, hp => by simp at hp
  | x :: l, pre, i, p, h, hp => by
    unfold rPlace_l0
    cases p with
    | zero => simp
    | succ p =>
      have h' := h
      simp only [okFrom, Bool.and_eq_true] at h
      obtain ⟨_, h3⟩ := h
      have hp' : p < l.length := by simpa using hp
      have e : (x :: l)[p + 1]! = l[p]! := by simp
      have hm : l[p]! ∈ l := by rw [getElem!_pos l p hp']; exact List.getElem_mem hp'
      have hne := ok_apart l (pre ++ [x]) h3 _ hm x (by simp)
      have : (x.node == l[p]!.node) = false := by rw [beq_eq_false_iff_ne]; exact hne
      rw [e, this, cond_false, rPlace_at l (pre ++ [x]) (i + 1) p h3 hp']
      rw [show i + 1 + p = i + (p + 1) by omega]
theorem place_at {c : Chain} (hc : check c = 0) {p : Nat} (hp : p < c.members.D.length) : place0 c c.members.D[p]!.node = (p : Int) := by
  rw [place_eq]; unfold rPlace
  rw [← check_eq, hc]
  have := rPlace_at c.members.D [] 0 p (ok_of_check hc) hp
  rw [Nat.zero_add] at this
  exact this
theorem node_ok {c : Chain} (hc : check c = 0) {p : Nat} (hp : p < c.members.D.length) : 0 ≤ c.members.D[p]!.node ∧ c.members.D[p]!.node ≤ 5 := by
  have hm : c.members.D[p]! ∈ c.members.D := by rw [getElem!_pos _ p hp]; exact List.getElem_mem hp
  have := (member_iff _).1 (ok_member _ _ (ok_of_check hc) _ hm)
  exact ⟨this.1, this.2.1⟩
theorem check_of_place {c : Chain} {n : Int} (h : 0 ≤ place0 c n) : check c = 0 := by
  unfold place0 at h
  cases hc : check c != 0
  · exact eq_of_bne_false hc
  · rw [hc] at h; simp at h
/-- Who stands at a place; behind the last one: nobody. -/
def nodeAt (c : Chain) (p : Nat) : Int := if p < c.members.D.length then c.members.D[p]!.node else -1
theorem next_of {c : Chain} {n : Int} {p : Nat} (hc : check c = 0) (h : place0 c n = (p : Int)) : nextC c n = nodeAt c (p + 1) := by
  have hl := check_le6 hc
  have hlt := (place0_lt c n).1
  have w1 := wrapI ((c.members.D.length : Int) - 1) (by omega)
  have w2 := wrapI ((p : Int) + 1) (by omega)
  unfold nextC nodeAt
  rw [h, w1, w2]
  have e0 : decide ((p : Int) < 0) = false := by simp
  rw [e0, cond_false]
  by_cases hp : p + 1 < c.members.D.length
  · have e1 : ((p : Int) == (c.members.D.length : Int) - 1) = false := by rw [beq_eq_false_iff_ne]; omega
    rw [e1, if_pos hp, cond_false, show ((p : Int) + 1).toNat = p + 1 by omega]
  · have e1 : ((p : Int) == (c.members.D.length : Int) - 1) = true := by rw [beq_iff_eq]; omega
    rw [e1, if_neg hp, cond_true]
theorem back_of {c : Chain} {n : Int} {p : Nat} (hc : check c = 0) (h : place0 c n = (p : Int)) : backC c n = if p = 0 then -1 else c.members.D[p - 1]!.node := by
  have hl := check_le6 hc
  have hlt := (place0_lt c n).1
  have w2 := wrapI ((p : Int) - 1) (by omega)
  unfold backC
  rw [h, w2]
  by_cases hp : p = 0
  · subst hp; rfl
  · have e0 : decide ((p : Int) < 1) = false := by simp; omega
    rw [e0, if_neg hp, cond_false, show ((p : Int) - 1).toNat = p - 1 by omega]
theorem aroundM_next (c : Chain) {n : Int} (h : n ≥ 0) : aroundM c (nextC c n) + 1 = aroundM c n := by
  unfold aroundM
  rw [if_neg (show ¬ n < 0 by omega)]
  by_cases hp : place0 c n < 0
  · have e : nextC c n = -1 := by unfold nextC; rw [decide_eq_true hp]; rfl
    rw [e, if_pos hp]; rfl
  · rw [if_neg hp]
    have hc := check_of_place (c := c) (n := n) (by omega)
    obtain ⟨p, hpp⟩ : ∃ p : Nat, place0 c n = (p : Int) := ⟨(place0 c n).toNat, by omega⟩
    have hlt := (place0_lt c n).1
    rw [next_of hc hpp, hpp]
    unfold nodeAt
    by_cases hp1 : p + 1 < c.members.D.length
    · have := node_ok hc hp1
      rw [if_pos hp1, place_at hc hp1, if_neg (by omega), if_neg (by omega)]; omega
    · rw [if_neg hp1]
      simp; omega
end Go.Proofs.Ytjhphpoihadmkaa

/- The law of going around. No conditions. -/
namespace Go.Proofs.Ytjhphpoihadmkaa
open Go.Am
def lawAround_l0 (c : Chain) : Nat → Int → Int → Int → Bool
  | 0, _, _, _ => default
  | nn + 1, seen, last, n => (bif (decide (n ≥ 0)) then (bif (mHas seen n) then false else (bif ((backC c n) != last) then false else lawAround_l0 c nn (mWith seen n) n (nextC c n))) else (bif (seen == (nodes c)) then (bif ((mLen seen) == (c.members.D.length : Int)) then (bif (last == (tailC c)) then (awake ) else false) else false) else false))
def lawAround (c : Chain) : Bool :=
  (bif ((check c) != 0) then (bif ((headC c) == (-1)) then (bif ((tailC c) == (-1)) then (awake ) else false) else false) else lawAround_l0 c ((aroundM c (headC c)) + 1) 0 (-1) (headC c))
theorem lawAround_calls (c : Chain) (hl1 : c.members.D.length ≤ 9223372036854775807) : PCalls Try.prog 6 [.agg [.pv (.lit (.int .i64 c.epoch)), sS (some c.members.nil) eMember c.members.D]] (.pv (.lit (.bool (lawAround c)))) := by
  generalize hR : lawAround c = R
  refine PCalls.of_body tabOk Try.func6 rfl rfl rfl rfl rfl mixed fun E hP C hI => ?_
  refine Awp.cons C (fun _ => .pure) (by kernel_rfl) ?_
  refine rvc_un (rexec_prim C (δ := { v := .ptr 1 0, new := [(1, .cells [.pv (.lit (.int .i64 c.epoch)), sS (some c.members.nil) eMember c.members.D])] }) rfl rfl rfl rfl trivial rfl ?_)
  refine rvc_un (rexec_prim C (δ := { v := .pv (.lit (.bool false)) }) rfl rfl rfl rfl trivial rfl ?_)
  refine rvc_nil ?_
  refine Awp.seq ?_
  refine Awp.cons C (fun _ => .pure) (by kernel_rfl) ?_
  refine rvc_un (rexec_prim C (δ := { v := .agg [.pv (.lit (.int .i64 c.epoch)), sS (some c.members.nil) eMember c.members.D] }) rfl rfl rfl rfl trivial rfl ?_)
  refine rvc_un (rexec_call hP C rfl rfl rfl (check_calls c hl1) ?_)
  refine rvc_un (rexec_prim C (δ := { v := .pv (.lit (.bool ((check c) != 0))) }) rfl rfl rfl rfl trivial rfl ?_)
  refine rvc_nil ?_
  refine Awp.cond (b := ((check c) != 0)) rfl (fun h1 => ?_) (fun h1 => ?_)
  ·
    replace hR := of_true h1 hR
    refine Awp.cons C (fun _ => .pure) (by kernel_rfl) ?_
    refine rvc_un (rexec_prim C (δ := { v := .agg [.pv (.lit (.int .i64 c.epoch)), sS (some c.members.nil) eMember c.members.D] }) rfl rfl rfl rfl trivial rfl ?_)
    refine rvc_un (rexec_call hP C rfl rfl rfl (headC_calls c hl1) ?_)
    refine rvc_un (rexec_prim C (δ := { v := .pv (.lit (.bool ((headC c) == (-1)))) }) rfl rfl rfl rfl trivial rfl ?_)
    refine rvc_un (rexec_prim C (δ := { v := .pv (.lit (.bool ((headC c) == (-1)))) }) rfl rfl rfl rfl trivial rfl ?_)
    refine rvc_case 12 ((headC c) == (-1)) rfl (fun h2 => ?_) (fun h2 => ?_)
    ·
      replace hR := of_true h2 hR
      refine rvc_open rfl rfl rfl (rexec_prim C (δ := { v := .agg [.pv (.lit (.int .i64 c.epoch)), sS (some c.members.nil) eMember c.members.D] }) rfl rfl rfl rfl trivial rfl ?_)
      refine rvc_open rfl rfl rfl (rexec_call hP C rfl rfl rfl (tailC_calls c hl1) ?_)
      refine rvc_open rfl rfl rfl (rexec_prim C (δ := { v := .pv (.lit (.bool ((tailC c) == (-1)))) }) rfl rfl rfl rfl trivial rfl ?_)
      refine rvc_un (rexec_prim C (δ := { v := .pv (.lit (.bool ((tailC c) == (-1)))) }) rfl rfl rfl rfl trivial rfl ?_)
      refine rvc_un (rexec_prim C (δ := { v := .pv (.lit (.bool ((tailC c) == (-1)))) }) rfl rfl rfl rfl trivial rfl ?_)
      refine rvc_case 17 ((tailC c) == (-1)) rfl (fun h3 => ?_) (fun h3 => ?_)
      ·
        replace hR := of_true h3 hR
        refine rvc_open rfl rfl rfl (rexec_call hP C rfl rfl rfl (awake_calls ) ?_)
        refine rvc_un (rexec_prim C (δ := { v := .pv (.lit (.bool (awake ))) }) rfl rfl rfl rfl trivial rfl ?_)
        refine rvc_un (rexec_prim C (δ := { v := .pv (.lit (.bool (awake ))) }) rfl rfl rfl rfl trivial rfl ?_)
        refine rvc_nil ?_
        refine Awp.ret ?_
        subst hR
        exact ⟨.inl rfl, rfl⟩
      ·
        replace hR := of_false h3 hR
        refine rvc_shut rfl rfl rfl rfl ?_
        refine rvc_un (rexec_prim C (δ := { v := .pv (.lit (.bool false)) }) rfl rfl rfl rfl trivial rfl ?_)
        refine rvc_un (rexec_prim C (δ := { v := .pv (.lit (.bool false)) }) rfl rfl rfl rfl trivial rfl ?_)
        refine rvc_nil ?_
        refine Awp.ret ?_
        subst hR
        exact ⟨.inl rfl, rfl⟩
    ·
      replace hR := of_false h2 hR
      refine rvc_shut rfl rfl rfl rfl ?_
      refine rvc_shut rfl rfl rfl rfl ?_
      refine rvc_shut rfl rfl rfl rfl ?_
      refine rvc_un (rexec_prim C (δ := { v := .pv (.lit (.bool false)) }) rfl rfl rfl rfl trivial rfl ?_)
      refine rvc_un (rexec_prim C (δ := { v := .pv (.lit (.bool false)) }) rfl rfl rfl rfl trivial rfl ?_)
      refine rvc_shut rfl rfl rfl rfl ?_
      refine rvc_un (rexec_prim C (δ := { v := .pv (.lit (.bool false)) }) rfl rfl rfl rfl trivial rfl ?_)
      refine rvc_un (rexec_prim C (δ := { v := .pv (.lit (.bool false)) }) rfl rfl rfl rfl trivial rfl ?_)
      refine rvc_nil ?_
      refine Awp.ret ?_
      subst hR
      exact ⟨.inl rfl, rfl⟩
  ·
    replace hR := of_false h1 hR
    refine Awp.skip ?_
    refine Awp.cons C (fun _ => .pure) (by kernel_rfl) ?_
    refine rvc_un (rexec_prim C (δ := { v := .pv (.lit (.int .u64 0)) }) rfl rfl rfl rfl trivial rfl ?_)
    refine rvc_nil ?_
    refine Awp.cons C (fun _ => .pure) (by kernel_rfl) ?_
    refine rvc_un (rexec_prim C (δ := { v := .pv (.lit (.int .i64 (-1))) }) rfl rfl rfl rfl trivial rfl ?_)
    refine rvc_nil ?_
    refine Awp.seq ?_
    refine Awp.cons C (fun _ => .pure) (by kernel_rfl) ?_
    refine rvc_un (rexec_prim C (δ := { v := .agg [.pv (.lit (.int .i64 c.epoch)), sS (some c.members.nil) eMember c.members.D] }) rfl rfl rfl rfl trivial rfl ?_)
    refine rvc_un (rexec_call hP C rfl rfl rfl (headC_calls c hl1) ?_)
    refine rvc_un (rexec_prim C (δ := { v := .pv (.lit (.int .i64 (headC c))) }) rfl rfl rfl rfl trivial rfl ?_)
    refine rvc_nil ?_
    refine Awp.block ?_
    refine Awp.forM (σ := Int × Int × Int) (fun v => [(1, .ptr 1 0), (3, .pv (.lit (.int .u64 v.1))), (4, .pv (.lit (.int .i64 v.2.1))), (5, .pv (.lit (.int .i64 v.2.2)))]) (fun v => [(1, .cells [.pv (.lit (.int .i64 c.epoch)), sS (some c.members.nil) eMember c.members.D])]) [1] (fun n v => n = (aroundM c v.2.2) ∧ lawAround_l0 c ((aroundM c v.2.2) + 1) v.1 v.2.1 v.2.2 = R) ((aroundM c (headC c))) (0, (-1), (headC c)) ?_ ?_ (fun _ v h4 => ?_)
    · exact ⟨rfl, hR⟩
    · exact ⟨fun b => b, WeakerR.ofL (Ks := [1]) hI ⟨⟨rfl, rfl⟩, ⟨rfl, rfl⟩, ⟨rfl, rfl⟩, ⟨rfl, rfl⟩, trivial⟩ (okH_cons rfl rfl rfl rfl (okH_nil)) rfl⟩
    obtain ⟨seen, last, n⟩ := v
    obtain ⟨rfl, hR⟩ := h4
    refine Awp.seq ?_
    refine Awp.cons C (fun _ => .pure) (by kernel_rfl) ?_
    refine rvc_un (rexec_prim C (δ := { v := .pv (.lit (.int .i64 n)) }) rfl rfl rfl rfl trivial rfl ?_)
    refine rvc_un (rexec_prim C (δ := { v := .pv (.lit (.bool (decide (n ≥ 0)))) }) rfl rfl rfl rfl trivial rfl ?_)
    refine rvc_nil ?_
    refine Awp.cond (b := (decide (n ≥ 0))) rfl (fun h6 => ?_) (fun h6 => ?_)
    ·
      replace hR := of_true h6 hR
      refine Awp.skip ?_
      refine Awp.seq ?_
      refine Awp.block ?_
      refine Awp.seq ?_
      refine Awp.cons C (fun _ => .pure) (by kernel_rfl) ?_
      refine rvc_un (rexec_prim C (δ := { v := .pv (.lit (.int .u64 seen)) }) rfl rfl rfl rfl trivial rfl ?_)
      refine rvc_un (rexec_prim C (δ := { v := .pv (.lit (.int .i64 n)) }) rfl rfl rfl rfl trivial rfl ?_)
      refine rvc_un (rexec_call hP C rfl rfl rfl (mHas_calls seen n) ?_)
      refine rvc_un (rexec_prim C (δ := { v := .pv (.lit (.bool (mHas seen n))) }) rfl rfl rfl rfl trivial rfl ?_)
      refine rvc_case 30 (mHas seen n) rfl (fun h7 => ?_) (fun h7 => ?_)
      ·
        replace hR := of_true h7 hR
        refine rvc_shut rfl rfl rfl rfl ?_
        refine rvc_shut rfl rfl rfl rfl ?_
        refine rvc_shut rfl rfl rfl rfl ?_
        refine rvc_shut rfl rfl rfl rfl ?_
        refine rvc_shut rfl rfl rfl rfl ?_
        refine rvc_un (rexec_prim C (δ := { v := .pv (.lit (.bool true)) }) rfl rfl rfl rfl trivial rfl ?_)
        refine rvc_nil ?_
        refine Awp.condT (b := true) rfl rfl ?_
        refine Awp.cons C (fun _ => .pure) (by kernel_rfl) ?_
        refine rvc_un (rexec_prim C (δ := { v := .pv (.lit (.bool false)) }) rfl rfl rfl rfl trivial rfl ?_)
        refine rvc_nil ?_
        refine Awp.ret ?_
        subst hR
        exact ⟨.inl rfl, rfl⟩
      ·
        replace hR := of_false h7 hR
        refine rvc_open rfl rfl rfl (rexec_prim C (δ := { v := .agg [.pv (.lit (.int .i64 c.epoch)), sS (some c.members.nil) eMember c.members.D] }) rfl rfl rfl rfl trivial rfl ?_)
        refine rvc_open rfl rfl rfl (rexec_prim C (δ := { v := .pv (.lit (.int .i64 n)) }) rfl rfl rfl rfl trivial rfl ?_)
        refine rvc_open rfl rfl rfl (rexec_call hP C rfl rfl rfl (backC_calls c n (by show c.members.D.length ≤ 1000000; have := check_len (c := c); have := check_le6 (c := c); have := eq_of_bne_false h1; have := of_decide_eq_true h6; omega)) ?_)
        refine rvc_open rfl rfl rfl (rexec_prim C (δ := { v := .pv (.lit (.int .i64 last)) }) rfl rfl rfl rfl trivial rfl ?_)
        refine rvc_open rfl rfl rfl (rexec_prim C (δ := { v := .pv (.lit (.bool ((backC c n) != last))) }) rfl rfl rfl rfl trivial rfl ?_)
        refine rvc_un (rexec_prim C (δ := { v := .pv (.lit (.bool ((backC c n) != last))) }) rfl rfl rfl rfl trivial rfl ?_)
        refine rvc_nil ?_
        refine Awp.cond (b := ((backC c n) != last)) rfl (fun h8 => ?_) (fun h8 => ?_)
        ·
          replace hR := of_true h8 hR
          refine Awp.cons C (fun _ => .pure) (by kernel_rfl) ?_
          refine rvc_un (rexec_prim C (δ := { v := .pv (.lit (.bool false)) }) rfl rfl rfl rfl trivial rfl ?_)
          refine rvc_nil ?_
          refine Awp.ret ?_
          subst hR
          exact ⟨.inl rfl, rfl⟩
        ·
          replace hR := of_false h8 hR
          refine Awp.skip ?_
          refine Awp.region C (fun _ => .pure) (by kernel_rfl) ?_
          refine rvc_un (rexec_prim C (δ := { v := .pv (.lit (.int .u64 seen)) }) rfl rfl rfl rfl trivial rfl ?_)
          refine rvc_un (rexec_prim C (δ := { v := .pv (.lit (.int .i64 n)) }) rfl rfl rfl rfl trivial rfl ?_)
          refine rvc_un (rexec_call hP C rfl rfl rfl (mWith_calls seen n) ?_)
          refine rvc_un (rexec_prim C (δ := { v := .pv (.lit (.int .i64 n)) }) rfl rfl rfl rfl trivial rfl ?_)
          refine rvc_un (rexec_prim C (δ := { v := .pv (.lit (.int .u64 (mWith seen n))) }) rfl rfl rfl rfl trivial rfl ?_)
          refine rvc_un (rexec_prim C (δ := { v := .pv (.lit (.int .i64 n)) }) rfl rfl rfl rfl trivial rfl ?_)
          refine rvc_nil ?_
          refine Awp.region C (fun _ => .pure) (by kernel_rfl) ?_
          refine rvc_un (rexec_prim C (δ := { v := .agg [.pv (.lit (.int .i64 c.epoch)), sS (some c.members.nil) eMember c.members.D] }) rfl rfl rfl rfl trivial rfl ?_)
          refine rvc_un (rexec_prim C (δ := { v := .pv (.lit (.int .i64 n)) }) rfl rfl rfl rfl trivial rfl ?_)
          refine rvc_un (rexec_call hP C rfl rfl rfl (nextC_calls c n (by show c.members.D.length ≤ 1000000; have := check_len (c := c); have := check_le6 (c := c); have := eq_of_bne_false h1; have := of_decide_eq_true h6; have := eq_of_bne_false h8; omega)) ?_)
          refine rvc_un (rexec_prim C (δ := { v := .pv (.lit (.int .i64 (nextC c n))) }) rfl rfl rfl rfl trivial rfl ?_)
          refine rvc_nil ?_
          refine ⟨_, ((mWith seen n), n, (nextC c n)), ?_, ⟨rfl, (by rw [show (aroundM c (nextC c n)) + 1 = (aroundM c n) by (have hq := aroundM_next c (of_decide_eq_true ‹decide (n ≥ 0) = true›); omega)]; exact hR)⟩, ?_⟩
          · show (aroundM c (nextC c n)) < (aroundM c n); (have hq := aroundM_next c (of_decide_eq_true ‹decide (n ≥ 0) = true›); omega)
          · exact ⟨fun b => b, WeakerR.ofL (Ks := [1]) hI ⟨⟨rfl, rfl⟩, ⟨rfl, rfl⟩, ⟨rfl, rfl⟩, ⟨rfl, rfl⟩, trivial⟩ (okH_cons rfl rfl rfl rfl (okH_nil)) rfl⟩
    ·
      replace hR := of_false h6 hR
      refine Awp.exit ?_
      have hml := mLen_calls seen
      revert hR hml
      generalize mLen seen = ml
      intro hR hml
      obtain ⟨q, hq⟩ : ∃ q : Bool, q = (ml == (c.members.D.length : Int)) := ⟨_, rfl⟩
      rw [← hq] at hR
      refine Awp.cons C (fun _ => .pure) (by kernel_rfl) ?_
      refine rvc_un (rexec_prim C (δ := { v := .pv (.lit (.int .u64 seen)) }) rfl rfl rfl rfl trivial rfl ?_)
      refine rvc_un (rexec_prim C (δ := { v := .agg [.pv (.lit (.int .i64 c.epoch)), sS (some c.members.nil) eMember c.members.D] }) rfl rfl rfl rfl trivial rfl ?_)
      refine rvc_un (rexec_call hP C rfl rfl rfl (nodes_calls c hl1) ?_)
      refine rvc_un (rexec_prim C (δ := { v := .pv (.lit (.bool (seen == (nodes c)))) }) rfl rfl rfl rfl trivial rfl ?_)
      refine rvc_un (rexec_prim C (δ := { v := .pv (.lit (.bool (seen == (nodes c)))) }) rfl rfl rfl rfl trivial rfl ?_)
      refine rvc_case 45 (seen == (nodes c)) rfl (fun h9 => ?_) (fun h9 => ?_)
      ·
        replace hR := of_true h9 hR
        refine rvc_open rfl rfl rfl (rexec_prim C (δ := { v := .pv (.lit (.int .u64 seen)) }) rfl rfl rfl rfl trivial rfl ?_)
        refine rvc_open rfl rfl rfl (rexec_call hP C rfl rfl rfl hml ?_)
        refine rvc_open rfl rfl rfl (rexec_prim C (δ := { v := .ptr 1 1 }) rfl rfl rfl rfl trivial rfl ?_)
        refine rvc_open rfl rfl rfl (rexec_prim C (δ := { v := sS (some c.members.nil) eMember c.members.D }) rfl rfl rfl rfl trivial rfl ?_)
        refine rvc_open rfl rfl rfl (rexec_prim C (δ := { v := .pv (.lit (.int .i64 (c.members.D.length : Int))) }) rfl rfl rfl rfl trivial rfl ?_)
        refine rvc_open rfl rfl rfl (rexec_primv C { v := .pv (.lit (.bool q)) } rfl rfl rfl rfl trivial (by rw [hq]) rfl ?_)
        refine rvc_un (rexec_prim C (δ := { v := .pv (.lit (.bool q)) }) rfl rfl rfl rfl trivial rfl ?_)
        refine rvc_un (rexec_prim C (δ := { v := .pv (.lit (.bool q)) }) rfl rfl rfl rfl trivial rfl ?_)
        refine rvc_case 53 q rfl (fun h10 => ?_) (fun h10 => ?_)
        ·
          replace hR := of_true h10 hR
          refine rvc_open rfl rfl rfl (rexec_prim C (δ := { v := .pv (.lit (.int .i64 last)) }) rfl rfl rfl rfl trivial rfl ?_)
          refine rvc_open rfl rfl rfl (rexec_prim C (δ := { v := .agg [.pv (.lit (.int .i64 c.epoch)), sS (some c.members.nil) eMember c.members.D] }) rfl rfl rfl rfl trivial rfl ?_)
          refine rvc_open rfl rfl rfl (rexec_call hP C rfl rfl rfl (tailC_calls c hl1) ?_)
          refine rvc_open rfl rfl rfl (rexec_prim C (δ := { v := .pv (.lit (.bool (last == (tailC c)))) }) rfl rfl rfl rfl trivial rfl ?_)
          refine rvc_un (rexec_prim C (δ := { v := .pv (.lit (.bool (last == (tailC c)))) }) rfl rfl rfl rfl trivial rfl ?_)
          refine rvc_un (rexec_prim C (δ := { v := .pv (.lit (.bool (last == (tailC c)))) }) rfl rfl rfl rfl trivial rfl ?_)
          refine rvc_case 59 (last == (tailC c)) rfl (fun h11 => ?_) (fun h11 => ?_)
          ·
            replace hR := of_true h11 hR
            refine rvc_open rfl rfl rfl (rexec_call hP C rfl rfl rfl (awake_calls ) ?_)
            refine rvc_un (rexec_prim C (δ := { v := .pv (.lit (.bool (awake ))) }) rfl rfl rfl rfl trivial rfl ?_)
            refine rvc_un (rexec_prim C (δ := { v := .pv (.lit (.bool (awake ))) }) rfl rfl rfl rfl trivial rfl ?_)
            refine rvc_nil ?_
            refine Awp.ret ?_
            subst hR
            exact ⟨.inl rfl, rfl⟩
          ·
            replace hR := of_false h11 hR
            refine rvc_shut rfl rfl rfl rfl ?_
            refine rvc_un (rexec_prim C (δ := { v := .pv (.lit (.bool false)) }) rfl rfl rfl rfl trivial rfl ?_)
            refine rvc_un (rexec_prim C (δ := { v := .pv (.lit (.bool false)) }) rfl rfl rfl rfl trivial rfl ?_)
            refine rvc_nil ?_
            refine Awp.ret ?_
            subst hR
            exact ⟨.inl rfl, rfl⟩
        ·
          replace hR := of_false h10 hR
          refine rvc_shut rfl rfl rfl rfl ?_
          refine rvc_shut rfl rfl rfl rfl ?_
          refine rvc_shut rfl rfl rfl rfl ?_
          refine rvc_shut rfl rfl rfl rfl ?_
          refine rvc_un (rexec_prim C (δ := { v := .pv (.lit (.bool false)) }) rfl rfl rfl rfl trivial rfl ?_)
          refine rvc_un (rexec_prim C (δ := { v := .pv (.lit (.bool false)) }) rfl rfl rfl rfl trivial rfl ?_)
          refine rvc_shut rfl rfl rfl rfl ?_
          refine rvc_un (rexec_prim C (δ := { v := .pv (.lit (.bool false)) }) rfl rfl rfl rfl trivial rfl ?_)
          refine rvc_un (rexec_prim C (δ := { v := .pv (.lit (.bool false)) }) rfl rfl rfl rfl trivial rfl ?_)
          refine rvc_nil ?_
          refine Awp.ret ?_
          subst hR
          exact ⟨.inl rfl, rfl⟩
      ·
        replace hR := of_false h9 hR
        refine rvc_shut rfl rfl rfl rfl ?_
        refine rvc_shut rfl rfl rfl rfl ?_
        refine rvc_shut rfl rfl rfl rfl ?_
        refine rvc_shut rfl rfl rfl rfl ?_
        refine rvc_shut rfl rfl rfl rfl ?_
        refine rvc_shut rfl rfl rfl rfl ?_
        refine rvc_un (rexec_prim C (δ := { v := .pv (.lit (.bool false)) }) rfl rfl rfl rfl trivial rfl ?_)
        refine rvc_un (rexec_prim C (δ := { v := .pv (.lit (.bool false)) }) rfl rfl rfl rfl trivial rfl ?_)
        refine rvc_shut rfl rfl rfl rfl ?_
        refine rvc_shut rfl rfl rfl rfl ?_
        refine rvc_shut rfl rfl rfl rfl ?_
        refine rvc_shut rfl rfl rfl rfl ?_
        refine rvc_un (rexec_prim C (δ := { v := .pv (.lit (.bool false)) }) rfl rfl rfl rfl trivial rfl ?_)
        refine rvc_un (rexec_prim C (δ := { v := .pv (.lit (.bool false)) }) rfl rfl rfl rfl trivial rfl ?_)
        refine rvc_shut rfl rfl rfl rfl ?_
        refine rvc_un (rexec_prim C (δ := { v := .pv (.lit (.bool false)) }) rfl rfl rfl rfl trivial rfl ?_)
        refine rvc_un (rexec_prim C (δ := { v := .pv (.lit (.bool false)) }) rfl rfl rfl rfl trivial rfl ?_)
        refine rvc_nil ?_
        refine Awp.ret ?_
        subst hR
        exact ⟨.inl rfl, rfl⟩

end Go.Proofs.Ytjhphpoihadmkaa

/- An abstract machine over the kit's calls, part 19: from a contract to a row: inputs opened, outcomes shut. No conditions. -/
namespace Go.Am
open Go.ChangeShapes Go.WideShapes Go.ChangeAt Go.RowKit

/-- A law's walk, out of its contract. -/
theorem PCalls.row {P : Program} {f : FuncId} {avs : List AV} (h : PCalls P f avs (.pv (.lit (.bool true)))) {W : World} {vs : List Value} (hv : VHs (fun _ => none) (fun k => k < W.heap.size) W avs vs) :
    Calls P f (List.toArray vs) W fun e W' => e = .returned (.bool true) ∧ Below W.heap.size W W' := by
  refine (h.calls (fun _ => none) (fun k => k < W.heap.size) W (fun _ => True) vs ⟨fun b k hb => (by cases hb), fun b b' k k' r z z' hb => (by cases hb)⟩ hv (fun k hk => hk) (fun b x hx => (by cases hx))).mono ?_
  rintro e W' ⟨v, ι', imm', rfl, h1, _, h2, _⟩
  simp only [VH, PH] at h1
  obtain ⟨rfl, _⟩ := h1
  exact ⟨rfl, h2.os, h2.tape, h2.output, h2.size, fun k hk => h2.block k hk fun ⟨b, k', z, hb, _⟩ => (by cases hb)⟩

section
variable {H : Type} {enc : TypeId × Value → H} {P : Program} {w : World} {base : Nat} {spare : Nat → Bool} {held : Bool}

/-- An array of numbers that is handed in. -/
theorem open_arrI {r : Reach} {b0 : Nat} {t e n : Nat} {k : IntKind} {v : Value} {d : DataW H} {ps : List MemPlace} (ht : P.underlying t = some (.array n e)) (he : P.underlying e = some (.int k)) (hc : P.cellsOf e = 1) (hct : P.cellsOf t = n) (hval : Value.okWide P w r b0 t v) (hd : DataW.Trod enc P w base spare held t v d ps) :
    ∃ f : Nat → Int, (∀ i, i < n → (Lit.int k (f i)).wf = true) ∧ (∀ i, ¬ i < n → f i = 0) ∧ ∀ ι imm w', VH ι imm w' (.agg (cI k (tb n f))) v := by
  simp only [Value.okWide, ht] at hval
  obtain ⟨cs, rfl, hsz, _⟩ := hval
  obtain ⟨fuel, hf⟩ := hd
  obtain ⟨xs, m, rfl, _, hl, hlx, hx⟩ := DataW.trod_array ht hf
  simp only [Value.cells] at hl hx
  have hn : cs.toList.length = n := by rw [hl, hct]
  have key : ∀ i, i < n → ∃ z, cs.toList[i]? = some (.int k z) ∧ (Lit.int k z).wf = true := fun i hi => by
    have h1 := hx i hi
    have h2 : ∃ y, xs[i]? = some y := ⟨xs[i], by simp [hlx, hi]⟩
    obtain ⟨y, hy⟩ := h2
    rw [hy] at h1
    obtain ⟨z, h3, _, h4⟩ := DataW.trod_int he h1
    rw [hc, Nat.mul_one] at h3
    refine ⟨z, ?_, h4⟩
    have h5 := congrArg (fun l => l[0]?) h3
    simpa using h5
  refine ⟨fun i => match cs.toList[i]? with | some (.int _ z) => z | _ => 0, fun i hi => ?_, fun i hi => ?_, fun ι imm w' => ⟨cs.toList, by simp, ?_⟩⟩
  · obtain ⟨z, h1, h2⟩ := key i hi
    simp only [h1]; exact h2
  · have : cs.toList[i]? = none := List.getElem?_eq_none (by omega)
    simp only [this]
  · have hlit : ∀ (l : List Value) (A : List Int), l.length = A.length → (∀ i, i < A.length → l[i]? = some (.int k (A.getD i 0))) → VHs ι imm w' (cI k A) l := by
      intro l
      induction l with
      | nil => intro A hA _; cases A with
        | nil => rfl
        | cons a A => simp at hA
      | cons v l ih => intro A hA hA2; cases A with
        | nil => simp at hA
        | cons a A =>
          have h0 := hA2 0 (by simp)
          simp only [List.getElem?_cons_zero, List.getD_cons_zero, Option.some.injEq] at h0
          subst h0
          exact ⟨_, l, rfl, ⟨rfl, rfl⟩, ih A (by simpa using hA) fun i hi => by simpa using hA2 (i + 1) (by simpa using hi)⟩
    refine hlit _ _ (by rw [hn, tb_len]) fun i hi => ?_
    rw [tb_len] at hi
    obtain ⟨z, h1, _⟩ := key i hi
    rw [h1, List.getD_eq_getElem?_getD, tb_get hi]
    simp only [h1, Option.getD_some]

theorem spot_of_cell {w : World} {a : Addr} {v : Value} (h : w.cell? a = some v) : a.spot = none ∧ a.block < w.heap.size := by
  unfold World.cell? at h
  split at h
  · rename_i c e f hc
    split at h
    · cases h
    · rename_i hs
      refine ⟨by simpa using hs, ?_⟩
      rcases Nat.lt_or_ge a.block w.heap.size with h' | h'
      · exact h'
      · rw [Array.getElem?_eq_none h'] at hc; cases hc
  · cases h

theorem PHs_ints {imm : Nat → Prop} {w : World} {k : IntKind} {b : Nat} : ∀ {D : List Int} {o : Nat}, (∀ i, i < D.length → w.cell? ⟨b, o + i, none⟩ = some (.int k (D.getD i 0))) → PHs imm w (pI k D) b o
  | [], _, _ => trivial
  | x :: D, o, h => by
    refine ⟨⟨_, by simpa using h 0 (by simp), rfl, rfl⟩, PHs_ints fun i hi => ?_⟩
    have := h (i + 1) (by simpa using hi)
    rw [show o + 1 + i = o + (i + 1) by omega, this]; simp

/-- A slice of numbers that is handed in. -/
theorem open_sI {r : Reach} {b0 : Nat} {t e : Nat} {k : IntKind} {v : Value} {d : DataW H} {ps : List MemPlace} (ht : P.underlying t = some (.slice e)) (he : P.underlying e = some (.int k)) (hc : P.cellsOf e = 1) (hval : Value.okWide P w r b0 t v) (hd : DataW.Trod enc P w base (fun _ => true) held t v d ps) :
    ∃ (f : Option Bool) (D : List Int), (∀ n ∈ D, (Lit.int k n).wf = true) ∧ D.length ≤ maxLen ∧ VH (fun _ => none) (fun k => k < w.heap.size) w (sI f k D) v := by
  obtain ⟨A, len, cap, rfl⟩ := okWide_slice ht hval
  obtain ⟨fuel, hf⟩ := hd
  rcases open_ints ht he hc hf with ⟨hcs, _⟩ | ⟨x, l, c, zs, hcs, _, hl, hm, hz, _, hcell, hwz⟩
  · simp [Value.cells] at hcs
    obtain ⟨rfl, rfl, rfl⟩ := hcs
    exact ⟨some true, [], by simp, by simp, _, 0, rfl, by simp, fun _ => rfl, fun h => by simp at h, fun _ => ⟨rfl, rfl, rfl⟩, fun a ha => by cases ha⟩
  · simp [Value.cells] at hcs
    obtain ⟨rfl, rfl, rfl⟩ := hcs
    simp only [if_true] at hz
    have hlen : (zs.take len).length = len := by rw [List.length_take]; omega
    refine ⟨some false, zs.take len, fun n hn => hwz n (List.mem_of_mem_take hn), by rw [hlen]; omega, ?_⟩
    simp only [sI, VH, PH, hlen]
    refine ⟨_, cap, rfl, hl, fun h => by simp at h, fun _ h => by simp at h, fun h => by simp at h, fun a ha hne => ?_⟩
    simp only [Option.some.injEq] at ha
    subst ha
    have hpos : 0 < len := by
      rcases Nat.eq_zero_or_pos len with h | h
      · subst h; simp [pI] at hne
      · exact h
    have h0 := hcell 0 (by omega)
    obtain ⟨hs, hb⟩ := spot_of_cell h0
    have hx : x = ⟨x.block, x.off, none⟩ := by
      have : x.spot = none := hs
      cases x; simp_all
    refine ⟨by rw [hx], hb, PHs_ints fun i hi => ?_⟩
    rw [hlen] at hi
    have h1 := hcell i (by omega)
    rw [show (zs.take len).getD i 0 = zs.getD i 0 by simp [List.getD_eq_getElem?_getD, hi], ← h1]
    have hsx : x.spot = none := hs
    rw [addr_eta hsx, add_none]
/-- A slice of numbers that is handed in. -/
theorem open_sIb {r : Reach} {b0 : Nat} {t e : Nat} {k : IntKind} {v : Value} {d : DataW H} {ps : List MemPlace} (ht : P.underlying t = some (.slice e)) (he : P.underlying e = some (.int k)) (hc : P.cellsOf e = 1) (hval : Value.okWide P w r b0 t v) (hd : DataW.Trod enc P w base (fun _ => true) held t v d ps) :
    ∃ (f : Bool) (D : List Int), (f = true → D = []) ∧ (∀ n ∈ D, (Lit.int k n).wf = true) ∧ D.length ≤ maxLen ∧ VH (fun _ => none) (fun k => k < w.heap.size) w (sI (some f) k D) v := by
  obtain ⟨A, len, cap, rfl⟩ := okWide_slice ht hval
  obtain ⟨fuel, hf⟩ := hd
  rcases open_ints ht he hc hf with ⟨hcs, _⟩ | ⟨x, l, c, zs, hcs, _, hl, hm, hz, _, hcell, hwz⟩
  · simp [Value.cells] at hcs
    obtain ⟨rfl, rfl, rfl⟩ := hcs
    exact ⟨true, [], fun _ => rfl, by simp, by simp, _, 0, rfl, by simp, fun _ => rfl, fun h => by simp at h, fun _ => ⟨rfl, rfl, rfl⟩, fun a ha => by cases ha⟩
  · simp [Value.cells] at hcs
    obtain ⟨rfl, rfl, rfl⟩ := hcs
    simp only [if_true] at hz
    have hlen : (zs.take len).length = len := by rw [List.length_take]; omega
    refine ⟨false, zs.take len, fun h => (by cases h), fun n hn => hwz n (List.mem_of_mem_take hn), by rw [hlen]; omega, ?_⟩
    simp only [sI, VH, PH, hlen]
    refine ⟨_, cap, rfl, hl, fun h => by simp at h, fun _ h => by simp at h, fun h => by simp at h, fun a ha hne => ?_⟩
    simp only [Option.some.injEq] at ha
    subst ha
    have hpos : 0 < len := by
      rcases Nat.eq_zero_or_pos len with h | h
      · subst h; simp [pI] at hne
      · exact h
    have h0 := hcell 0 (by omega)
    obtain ⟨hs, hb⟩ := spot_of_cell h0
    have hx : x = ⟨x.block, x.off, none⟩ := by
      have : x.spot = none := hs
      cases x; simp_all
    refine ⟨by rw [hx], hb, PHs_ints fun i hi => ?_⟩
    rw [hlen] at hi
    have h1 := hcell i (by omega)
    rw [show (zs.take len).getD i 0 = zs.getD i 0 by simp [List.getD_eq_getElem?_getD, hi], ← h1]
    have hsx : x.spot = none := hs
    rw [addr_eta hsx, add_none]
end
end Go.Am

/- An abstract machine over the kit's calls, part 30: inputs of any type without pointers opened. No conditions. -/
namespace Go.Am
open Go.ChangeShapes Go.WideShapes Go.ChangeAt Go.RowKit

/-- What cells of a struct's fields hold. -/
def FlatS (F : TypeId → List PV → Prop) : List Field → List PV → Prop
  | [], ps => ps = []
  | f :: fs, ps => ∃ a b, ps = a ++ b ∧ F f.type a ∧ FlatS F fs b
/-- What cells of a type hold. -/
def Flat (P : Program) : Nat → TypeId → List PV → Prop
  | 0, _, _ => False
  | m + 1, t, ps => match P.underlying t with
    | some .bool => ∃ b, ps = [.lit (.bool b)]
    | some (.int k) => ∃ n, ps = [.lit (.int k n)] ∧ (Lit.int k n).wf = true
    | some .string => ∃ s, ps = [.lit (.string s)] ∧ s.size ≤ maxLen
    | some (.slice e) => ∃ (b : Bool) (D : List (List PV)), ps = [.sl (some b) D.length D.flatten] ∧ D.length ≤ maxLen ∧ (b = true → D = []) ∧ ∀ x ∈ D, Flat P m e x
    | some (.struct fs) => FlatS (Flat P m) fs.toList ps
    | _ => False
def okFs (P : Program) (F : TypeId → Bool) (n : Nat) : List Field → Nat → Bool
  | [], o => o == n
  | f :: fs, o => f.offset == o && F f.type && okFs P F n fs (o + P.cellsOf f.type)
def okTy (P : Program) : Nat → TypeId → Bool
  | 0, _ => false
  | m + 1, t => match P.underlying t with
    | some .bool | some (.int _) | some .string => true
    | some (.slice e) => okTy P m e && decide (0 < P.cellsOf e)
    | some (.struct fs) => okFs P (okTy P m) (P.cellsOf t) fs.toList 0
    | _ => false

theorem exists_list {α : Type} {p : Nat → α → Prop} : ∀ (n : Nat), (∀ i, i < n → ∃ x, p i x) → ∃ D : List α, D.length = n ∧ ∀ i x, D[i]? = some x → p i x
  | 0, _ => ⟨[], rfl, fun i x h => by simp at h⟩
  | n + 1, h => by
    obtain ⟨D, h1, h2⟩ := exists_list n fun i hi => h i (by omega)
    obtain ⟨x, hx⟩ := h n (by omega)
    refine ⟨D ++ [x], by simp [h1], fun i y hy => ?_⟩
    rcases Nat.lt_or_ge i D.length with hi | hi
    · rw [List.getElem?_append_left hi] at hy; exact h2 i y hy
    · rw [List.getElem?_append_right hi] at hy
      have : i = D.length := by
        rcases Nat.lt_or_ge (i - D.length) 1 with h' | h'
        · omega
        · rw [List.getElem?_eq_none (by simpa using h')] at hy; cases hy
      subst this
      simp at hy
      subst hy
      rw [h1]; exact hx

theorem PHs_append {imm : Nat → Prop} {w : World} : ∀ {ps qs : List PV} {b o : Nat}, PHs imm w ps b o → PHs imm w qs b (o + ps.length) → PHs imm w (ps ++ qs) b o
  | [], _, _, _, _, h => h
  | p :: ps, qs, b, o, h, h' => ⟨h.1, PHs_append h.2 (by rw [List.length_cons] at h'; rw [show o + 1 + ps.length = o + (ps.length + 1) by omega]; exact h')⟩
theorem PHs_of {imm : Nat → Prop} {w : World} {ι : Nat → Option (Nat × Nat)} {b : Nat} : ∀ {ps : List PV} {cs : List Value} {o : Nat}, VHs ι imm w (ps.map .pv) cs → (∀ i, i < cs.length → w.cell? ⟨b, o + i, none⟩ = cs[i]?) → PHs imm w ps b o
  | [], _, _, _, _ => trivial
  | p :: ps, cs, o, h, hc => by
    obtain ⟨v, us, rfl, h1, h2⟩ := h
    refine ⟨⟨v, by simpa using hc 0 (by simp), h1⟩, PHs_of h2 fun i hi => ?_⟩
    have := hc (i + 1) (by simpa using hi)
    rw [show o + 1 + i = o + (i + 1) by omega, this]; simp
theorem PHs_flatten {imm : Nat → Prop} {w : World} {b n : Nat} : ∀ {D : List (List PV)} {o : Nat}, (∀ i x, D[i]? = some x → x.length = n ∧ PHs imm w x b (o + i * n)) → PHs imm w D.flatten b o
  | [], _, _ => trivial
  | x :: D, o, h => by
    obtain ⟨h1, h2⟩ := h 0 x rfl
    rw [List.flatten_cons]
    refine PHs_append (by simpa using h2) (PHs_flatten (n := n) fun i y hy => ?_)
    obtain ⟨h3, h4⟩ := h (i + 1) y (by simpa using hy)
    exact ⟨h3, by rw [h1, show o + n + i * n = o + (i + 1) * n by rw [Nat.add_mul]; omega]; exact h4⟩

section
variable {H : Type} {enc : TypeId × Value → H} {P : Program} {w : World} {base : Nat} {held : Bool}

theorem open_fields {F : TypeId → List PV → Prop} {G : TypeId → Bool} {ι : Nat → Option (Nat × Nat)} {imm : Nat → Prop} {cs : List Value} {n : Nat} (hF : ∀ t cs x, G t = true → DataW.trod enc P w base (fun _ => true) held n t cs = some x → ∃ ps : List PV, VHs ι imm w (ps.map .pv) cs ∧ F t ps) {xs : List (DataW H × List MemPlace)} : ∀ (fs : List Field) (j o : Nat), okFs P G cs.length fs o = true → (∀ (i : Nat) (f : Field), fs[i]? = some f → DataW.trod enc P w base (fun _ => true) held n f.type ((cs.drop f.offset).take (P.cellsOf f.type)) = xs[j + i]?) → xs.length = j + fs.length → o ≤ cs.length →
    ∃ ps : List PV, VHs ι imm w (ps.map .pv) (cs.drop o) ∧ FlatS F fs ps
  | [], j, o, hok, _, _, _ => by
    have : o = cs.length := by simpa [okFs] using hok
    subst this
    exact ⟨[], by simp [VHs], rfl⟩
  | f :: fs, j, o, hok, hx, hl, ho => by
    simp only [okFs, Bool.and_eq_true, beq_iff_eq] at hok
    obtain ⟨⟨h1, h2⟩, h3⟩ := hok
    have hf := hx 0 f rfl
    have : ∃ y, xs[j + 0]? = some y := ⟨xs[j]'(by simp only [List.length_cons] at hl; omega), by simp only [List.length_cons] at hl; rw [Nat.add_zero, List.getElem?_eq_getElem (by omega)]⟩
    obtain ⟨y, hy⟩ := this
    rw [hy, h1] at hf
    obtain ⟨a, ha, hFa⟩ := hF _ _ _ h2 hf
    have hlen : o + P.cellsOf f.type ≤ cs.length := by
      have key : ∀ (fs : List Field) (o : Nat), okFs P G cs.length fs o = true → o ≤ cs.length := by
        intro fs
        induction fs with
        | nil => intro o h; have : o = cs.length := by simpa [okFs] using h
                 omega
        | cons g gs ih => intro o h; simp only [okFs, Bool.and_eq_true] at h; have := ih _ h.2; omega
      exact key _ _ h3
    obtain ⟨b, hb, hFb⟩ := open_fields hF fs (j + 1) (o + P.cellsOf f.type) h3 (fun i g hg => by
      have := hx (i + 1) g (by simpa using hg)
      rw [show j + 1 + i = j + (i + 1) by omega]; exact this) (by simp only [List.length_cons] at hl; omega) hlen
    refine ⟨a ++ b, ?_, a, b, rfl, hFa, hFb⟩
    have : cs.drop o = (cs.drop o).take (P.cellsOf f.type) ++ cs.drop (o + P.cellsOf f.type) := by
      rw [← List.drop_drop, List.take_append_drop]
    rw [this, List.map_append]
    exact VHs.append ha hb

theorem open_flat {ι : Nat → Option (Nat × Nat)} : ∀ (m fuel : Nat) (t : TypeId) (cs : List Value) (x : DataW H × List MemPlace), okTy P m t = true → DataW.trod enc P w base (fun _ => true) held fuel t cs = some x →
    ∃ ps : List PV, VHs ι (fun k => k < w.heap.size) w (ps.map .pv) cs ∧ Flat P m t ps
  | 0, _, _, _, _, hok, _ => by simp [okTy] at hok
  | m + 1, fuel, t, cs, x, hok, h => by
    simp only [okTy] at hok
    split at hok
    · rename_i ht
      obtain ⟨b, rfl, _⟩ := DataW.trod_bool ht h
      exact ⟨[.lit (.bool b)], ⟨_, [], rfl, ⟨rfl, rfl⟩, rfl⟩, by simp only [Flat, ht]; exact ⟨b, rfl⟩⟩
    · rename_i k ht
      obtain ⟨n, rfl, _, hw⟩ := DataW.trod_int ht h
      exact ⟨[.lit (.int k n)], ⟨_, [], rfl, ⟨rfl, rfl⟩, rfl⟩, by simp only [Flat, ht]; exact ⟨n, rfl, hw⟩⟩
    · rename_i ht
      obtain ⟨s, rfl, _, hs⟩ := DataW.trod_string ht h
      exact ⟨[.lit (.string s)], ⟨_, [], rfl, ⟨rfl, rfl⟩, rfl⟩, by simp only [Flat, ht]; exact ⟨s, rfl, hs⟩⟩
    · rename_i e ht
      simp only [Bool.and_eq_true, decide_eq_true_eq] at hok
      rcases DataW.trod_slice ht h with ⟨rfl, _⟩ | ⟨a, len, cap, elems, rest, n, _, rfl, _, hb, hl, hm, hlen, hel, _, _⟩
      · refine ⟨[.sl (some true) 0 []], ⟨_, [], rfl, ?_, rfl⟩, by simp only [Flat, ht]; exact ⟨true, [], rfl, Nat.zero_le _, fun _ => rfl, fun x hx => by cases hx⟩⟩
        exact ⟨none, 0, rfl, Nat.le_refl _, fun _ => rfl, fun h => by simp at h, fun _ => ⟨rfl, rfl, rfl⟩, fun a ha => by cases ha⟩
      · have hspot : 0 < len → a.spot = none ∧ a.block < w.heap.size := fun hi => by
          have h1 := hel 0 hi
          have : ∃ y, elems[0]? = some y := ⟨elems[0], by rw [List.getElem?_eq_getElem (by omega)]⟩
          obtain ⟨y, hy⟩ := this
          rw [hy, Option.bind_eq_some_iff] at h1
          obtain ⟨ds, d1, _⟩ := h1
          obtain ⟨_, d3, d4⟩ := World.cells?_some d1
          have h0 := d4 0 hok.2
          have hds : ∃ v, ds[0]? = some v := ⟨ds[0], by rw [List.getElem?_eq_getElem (by omega)]⟩
          obtain ⟨v0, hv0⟩ := hds
          rw [hv0] at h0
          simpa [Addr.add] using spot_of_cell h0
        have each : ∀ i, i < len → ∃ ps : List PV, Flat P m e ps ∧ ps.length = P.cellsOf e ∧ a.spot = none ∧ a.block < w.heap.size ∧ PHs (fun k => k < w.heap.size) w ps a.block (a.off + i * P.cellsOf e) := fun i hi => by
          have h1 := hel i hi
          have : ∃ y, elems[i]? = some y := ⟨elems[i], by rw [List.getElem?_eq_getElem (by omega)]⟩
          obtain ⟨y, hy⟩ := this
          rw [hy, Option.bind_eq_some_iff] at h1
          obtain ⟨ds, d1, d2⟩ := h1
          obtain ⟨_, d3, d4⟩ := World.cells?_some d1
          obtain ⟨ps, p1, p2⟩ := open_flat (ι := ι) m n e ds y hok.1 d2
          have hpl := p1.length
          rw [List.length_map] at hpl
          obtain ⟨hsp, s2⟩ := hspot (by omega)
          refine ⟨ps, p2, by omega, hsp, s2, PHs_of p1 fun j hj => ?_⟩
          have := d4 j (by omega)
          rw [← this, addr_eta hsp, add_none, add_none]
        obtain ⟨D, hD, hp⟩ := exists_list len each
        refine ⟨[.sl (some false) D.length D.flatten], ⟨_, [], rfl, ?_, rfl⟩, ?_⟩
        · refine ⟨some a, cap, by rw [hD], by omega, fun h => by simp at h, fun _ h => by simp at h, fun h => by simp at h, fun a' ha' hne => ?_⟩
          simp only [Option.some.injEq] at ha'
          subst ha'
          have hpos : ∃ x, D[0]? = some x := by
            cases D with
            | nil => simp at hne
            | cons x D => exact ⟨x, rfl⟩
          obtain ⟨x0, hx0⟩ := hpos
          obtain ⟨_, _, e3, e4, _⟩ := hp 0 x0 hx0
          exact ⟨e3, e4, PHs_flatten fun i y hy => ⟨(hp i y hy).2.1, (hp i y hy).2.2.2.2⟩⟩
        · simp only [Flat, ht]
          refine ⟨false, D, rfl, by omega, fun h => (by cases h), fun y hy => ?_⟩
          obtain ⟨i, hi, rfl⟩ := List.getElem_of_mem hy
          exact (hp i _ (List.getElem?_eq_getElem hi)).1
    · rename_i fs ht
      obtain ⟨xs, n, _, _, hl, hxl, hx⟩ := DataW.trod_struct ht h
      obtain ⟨ps, h1, h2⟩ := open_fields (F := Flat P m) (G := okTy P m) (ι := ι) (imm := fun k => k < w.heap.size) (cs := cs) (n := n) (fun t' cs' x' ho ht' => open_flat (ι := ι) m n t' cs' x' ho ht') (xs := xs) fs.toList 0 0 (by rw [hl]; exact hok) (fun i f hf => by rw [Nat.zero_add]; exact hx i f (by simpa using hf)) (by simp [hxl]) (Nat.zero_le _)
      exact ⟨ps, by simpa using h1, by simp only [Flat, ht]; exact h2⟩
    · cases hok

/-- A struct that is handed in. -/
theorem open_struct {r : Reach} {b0 : Nat} {t : TypeId} {fs : Array Field} {v : Value} {d : DataW H} {ps : List MemPlace} (m : Nat) (hok : okTy P m t = true) (ht : P.underlying t = some (.struct fs)) (hval : Value.okWide P w r b0 t v) (hd : DataW.Trod enc P w base (fun _ => true) held t v d ps) : ∃ qs : List PV, Flat P m t qs ∧ VH (fun _ => none) (fun k => k < w.heap.size) w (.agg (qs.map .pv)) v := by
  simp only [Value.okWide, ht] at hval
  obtain ⟨cs, rfl, _⟩ := hval
  obtain ⟨fuel, hf⟩ := hd
  obtain ⟨qs, h1, h2⟩ := open_flat (ι := fun _ => none) m fuel t _ _ hok hf
  exact ⟨qs, h2, cs.toList, by simp, h1⟩
/-- One cell that is handed in. -/
theorem open_cell {t : TypeId} {v : Value} {d : DataW H} {ps : List MemPlace} (m : Nat) (hok : okTy P m t = true) (hv : v.cells = #[v]) (hd : DataW.Trod enc P w base (fun _ => true) held t v d ps) : ∃ q : PV, Flat P m t [q] ∧ VH (fun _ => none) (fun k => k < w.heap.size) w (.pv q) v := by
  obtain ⟨fuel, hf⟩ := hd
  obtain ⟨qs, h1, h2⟩ := open_flat (ι := fun _ => none) m fuel t _ _ hok hf
  rw [hv] at h1
  cases qs with
  | nil => simp [VHs] at h1
  | cons q qs =>
    obtain ⟨v', us, he, h3, h4⟩ := h1
    simp only [List.cons.injEq] at he
    obtain ⟨rfl, rfl⟩ := he
    cases qs with
    | nil => exact ⟨q, h2, h3⟩
    | cons a b => simp [VHs] at h4
end
end Go.Am
namespace Go.Am
theorem enc_list {α : Type} {e : Enc α} {W : α → Prop} : ∀ (D : List (List PV)), (∀ y ∈ D, ∃ x, y = e.enc x ∧ W x) → ∃ D' : List α, D'.length = D.length ∧ D.flatten = encL e D' ∧ ∀ x ∈ D', W x
  | [], _ => ⟨[], rfl, rfl, fun x hx => by cases hx⟩
  | y :: D, h => by
    obtain ⟨x, rfl, hx⟩ := h y (List.mem_cons_self ..)
    obtain ⟨D', h1, h2, h3⟩ := enc_list D fun z hz => h z (List.mem_cons_of_mem _ hz)
    refine ⟨x :: D', by simp [h1], by rw [List.flatten_cons, h2]; simp [encL], fun z hz => ?_⟩
    cases hz with
    | head => exact hx
    | tail _ hm => exact h3 z hm
end Go.Am

/- Inputs of chapter 8, as plain values. No conditions. -/
namespace Go.Proofs.Ytjhphpoihadmkaa
open Go.Am
theorem flat3 {m : Nat} {ps : List PV} (h : Flat Try.prog (m + 1) 3 ps) : ∃ n, ps = [.lit (.int .i64 n)] ∧ (Lit.int .i64 n).wf = true := by
  unfold Flat at h
  rw [Try.underlying3] at h
  exact h
theorem flat4 {m : Nat} {ps : List PV} (h : Flat Try.prog (m + 1) 4 ps) : ∃ b, ps = [.lit (.bool b)] ∧ True := by
  unfold Flat at h
  rw [Try.underlying4] at h
  obtain ⟨b, h⟩ := h
  exact ⟨b, h, trivial⟩
def WT45 (x : Member) : Prop := (Lit.int .i64 x.node).wf = true ∧ (Lit.int .i64 x.site).wf = true ∧ True
theorem flat45 {m : Nat} {ps : List PV} (h : Flat Try.prog (m + 2) 45 ps) : ∃ x : Member, ps = eMember.enc x ∧ WT45 x := by
  unfold Flat at h
  rw [Try.underlying45] at h
  obtain ⟨a0, b0, e0, h0, a1, b1, e1, h1, a2, b2, e2, h2, el⟩ := h
  obtain ⟨x0, rfl, w0⟩ := flat3 (m := m + 0) h0
  obtain ⟨x1, rfl, w1⟩ := flat3 (m := m + 0) h1
  obtain ⟨x2, rfl, w2⟩ := flat4 (m := m + 0) h2
  subst el
  subst e2
  subst e1
  subst e0
  exact ⟨⟨x0, x1, x2⟩, rfl, w0, w1, w2⟩
def WT22 (s : Sl Member) : Prop := s.D.length ≤ maxLen ∧ (s.nil = true → s.D = []) ∧ ∀ x ∈ s.D, WT45 x
theorem flat22 {m : Nat} {ps : List PV} (h : Flat Try.prog (m + 3) 22 ps) : ∃ s : Sl Member, ps = [.sl (some s.nil) s.D.length (encL eMember s.D)] ∧ WT22 s := by
  unfold Flat at h
  rw [Try.underlying22] at h
  obtain ⟨b, D, rfl, h1, h2, h3⟩ := h
  obtain ⟨D2, e1, e2, e3⟩ := enc_list (e := eMember) (W := fun x => WT45 x) D fun y hy => flat45 (h3 y hy)
  rw [e2, ← e1]
  exact ⟨⟨b, D2⟩, rfl, (by show D2.length ≤ _; rw [e1]; exact h1), (fun hb => by have := h2 hb; rw [this] at e1; exact List.eq_nil_of_length_eq_zero e1), e3⟩
def WT24 (x : Chain) : Prop := (Lit.int .i64 x.epoch).wf = true ∧ WT22 x.members
theorem flat24 {m : Nat} {ps : List PV} (h : Flat Try.prog (m + 4) 24 ps) : ∃ x : Chain, ps = eChain.enc x ∧ WT24 x := by
  unfold Flat at h
  rw [Try.underlying24] at h
  obtain ⟨a0, b0, e0, h0, a1, b1, e1, h1, el⟩ := h
  obtain ⟨x0, rfl, w0⟩ := flat3 (m := m + 2) h0
  obtain ⟨x1, rfl, w1⟩ := flat22 (m := m + 0) h1
  subst el
  subst e1
  subst e0
  exact ⟨⟨x0, x1⟩, rfl, w0, w1⟩
end Go.Proofs.Ytjhphpoihadmkaa

/- The law LayoutAround in plain Lean, and its contract: it is true, whatever the input. No conditions. -/
namespace Go.Proofs.Ytjhphpoihadmkaa
open Go.Am
theorem ok_cnt : ∀ (xs pre : List Member), okFrom pre xs = true → pre.length = cnt pre → (pre ++ xs).length = cnt (pre ++ xs)
  | [], pre, _, hc => by simpa using hc
  | x :: xs, pre, h, hc => by
    simp only [okFrom, Bool.and_eq_true] at h
    obtain ⟨⟨h1, h2⟩, h3⟩ := h
    obtain ⟨m1, m2, _, _⟩ := (member_iff x).1 h1
    have ha : pre.any (fun y => y.node == x.node) = false := by
      rw [Bool.eq_false_iff]
      intro he
      obtain ⟨y, hy, he⟩ := List.any_eq_true.1 he
      have := List.all_eq_true.1 h2 y hy
      rw [he] at this
      simp at this
    have := ok_cnt xs (pre ++ [x]) h3 (by rw [cnt_step m1 m2 ha, List.length_append, hc]; rfl)
    simpa using this
theorem popcount : ∀ S : Nat, S < 64 → mLen (S : Int) = (((S.testBit 0).toNat + (S.testBit 1).toNat + (S.testBit 2).toNat + (S.testBit 3).toNat + (S.testBit 4).toNat + (S.testBit 5).toNat : Nat) : Int) := by
  have h : ∀ S : Fin 64, mLen ((S : Nat) : Int) = ((((S : Nat).testBit 0).toNat + ((S : Nat).testBit 1).toNat + ((S : Nat).testBit 2).toNat + ((S : Nat).testBit 3).toNat + ((S : Nat).testBit 4).toNat + ((S : Nat).testBit 5).toNat : Nat) : Int) := of_decide_eq_true (by kernel_rfl)
  exact fun S hS => h ⟨S, hS⟩
def seenAt (c : Chain) (p : Nat) : Nat := bitsOf (fun _ => true) (c.members.D.take p) 0
theorem seen_lt (c : Chain) (p : Nat) : seenAt c p < 18446744073709551616 := (nodes_l0_eq (c.members.D.take p) 0 0 (by decide)).2
theorem seen_bit (c : Chain) (p : Nat) {n : Nat} (hn : n < 64) : (seenAt c p).testBit n = (c.members.D.take p).any fun x => x.node == (n : Int) := by
  unfold seenAt; rw [bits_test _ hn]; simp
theorem seen_succ {c : Chain} (hc : check c = 0) {p : Nat} (hp : p < c.members.D.length) : mWith (seenAt c p : Int) c.members.D[p]!.node = ((seenAt c (p + 1) : Nat) : Int) := by
  rw [with_cast (seen_lt c p)]
  unfold seenAt
  rw [List.take_succ_eq_append_getElem hp, bitsOf, bitsOf, List.foldl_append, getElem!_pos _ p hp]
  simp
theorem seen_has {c : Chain} (hc : check c = 0) {p : Nat} (hp : p < c.members.D.length) : mHas (seenAt c p : Int) c.members.D[p]!.node = false := by
  obtain ⟨m1, m2⟩ := node_ok hc hp
  obtain ⟨k, hk⟩ : ∃ k : Nat, c.members.D[p]!.node = (k : Int) := ⟨c.members.D[p]!.node.toNat, by omega⟩
  rw [hk, has_nat (seen_lt c p) (by omega), seen_bit c p (by omega), Bool.eq_false_iff]
  intro he
  obtain ⟨x, hx, hxe⟩ := List.any_eq_true.1 he
  obtain ⟨j, hj, rfl⟩ := List.getElem_of_mem hx
  have hj' : j < p := by rw [List.length_take] at hj; omega
  have hjl : j < c.members.D.length := by omega
  have e1 := place_at hc hjl
  have e2 := place_at hc hp
  have e3 : (c.members.D.take p)[j] = c.members.D[j]! := by rw [List.getElem_take, getElem!_pos _ j hjl]
  rw [e3, beq_iff_eq, ← hk] at hxe
  rw [hxe, e2] at e1
  omega
theorem around_l0_true {c : Chain} (hc : check c = 0) : ∀ (k p : Nat), p + k = c.members.D.length → lawAround_l0 c (k + 1) (seenAt c p : Int) (if p = 0 then -1 else c.members.D[p - 1]!.node) (nodeAt c p) = true
  | 0, p, hp => by
    have hn : nodeAt c p = -1 := by unfold nodeAt; rw [if_neg (by omega)]
    have hl := check_le6 hc
    have hl0 := check_len hc
    unfold lawAround_l0
    rw [hn]
    have e0 : decide ((-1 : Int) ≥ 0) = false := rfl
    rw [e0, cond_false]
    have htake : c.members.D.take p = c.members.D := List.take_of_length_le (by omega)
    have e1 : ((seenAt c p : Nat) : Int) = nodes c := by
      unfold nodes seenAt
      rw [htake]
      exact (nodes_l0_eq c.members.D 0 0 (by decide)).1.symm
    have e2 : mLen (seenAt c p : Int) = (c.members.D.length : Int) := by
      have hb : ∀ n, n < 64 → (seenAt c p).testBit n = c.members.D.any fun x => x.node == (n : Int) := fun n hn => by rw [seen_bit c p hn, htake]
      have h64 : seenAt c p < 2 ^ 6 := Nat.lt_pow_two_of_testBit _ fun i hi => by
        by_cases h : i < 64
        · rw [hb i h, Bool.eq_false_iff]
          intro he
          obtain ⟨x, hx, hxe⟩ := List.any_eq_true.1 he
          have := (member_iff _).1 (ok_member _ _ (ok_of_check hc) x hx)
          rw [beq_iff_eq] at hxe
          omega
        · exact Nat.testBit_lt_two_pow (Nat.lt_of_lt_of_le (seen_lt c p) (by
            have : (2 : Nat) ^ 64 ≤ 2 ^ i := Nat.pow_le_pow_right (by decide) (by omega)
            have h' : (2 : Nat) ^ 64 = 18446744073709551616 := by decide
            omega))
      have hcnt := ok_cnt c.members.D [] (ok_of_check hc) (by decide)
      rw [List.nil_append] at hcnt
      rw [popcount _ h64, hcnt, hb 0 (by decide), hb 1 (by decide), hb 2 (by decide), hb 3 (by decide), hb 4 (by decide), hb 5 (by decide)]
      rfl
    have e3 : (if p = 0 then -1 else c.members.D[p - 1]!.node) = tailC c := by
      unfold tailC
      rw [hc, if_neg (by omega), wrapI _ (by omega), show ((c.members.D.length : Int) - 1).toNat = p - 1 by omega]
      rfl
    rw [e2, e1, e3, awake_true]
    simp
  | k + 1, p, hp => by
    have hpl : p < c.members.D.length := by omega
    have hn : nodeAt c p = c.members.D[p]!.node := by unfold nodeAt; rw [if_pos hpl]
    obtain ⟨m1, m2⟩ := node_ok hc hpl
    unfold lawAround_l0
    have e0 : decide (nodeAt c p ≥ 0) = true := by rw [hn]; exact decide_eq_true m1
    rw [e0, cond_true, hn, seen_has hc hpl, cond_false, back_of hc (place_at hc hpl), bne_self_eq_false, cond_false, seen_succ hc hpl, next_of hc (place_at hc hpl)]
    exact around_l0_true hc k (p + 1) (by omega)
theorem lawAround_true (c : Chain) : lawAround c = true := by
  unfold lawAround
  cases hc : check c != 0
  · have hc := eq_of_bne_false hc
    have hl0 := check_len hc
    have hh : headC c = nodeAt c 0 := by
      unfold headC nodeAt
      rw [hc, if_pos hl0]; rfl
    have hm : aroundM c (headC c) = c.members.D.length := by
      unfold aroundM
      rw [hh]
      unfold nodeAt
      have := node_ok hc hl0
      rw [if_pos hl0, place_at hc hl0, if_neg (by omega), if_neg (by omega)]
      omega
    rw [cond_false, hm, hh]
    exact around_l0_true hc c.members.D.length 0 (by omega)
  · have h1 : headC c = -1 := by unfold headC; rw [hc]; rfl
    have h2 : tailC c = -1 := by unfold tailC; rw [hc]; rfl
    rw [h1, h2, awake_true]; rfl
theorem layoutAround_calls (c : Chain) (wc : WT24 c) : PCalls Try.prog 6 [.agg ((eChain.enc c).map .pv)] (.pv (.bool true)) := by
  have h := lawAround_calls c wc.2.1
  rw [lawAround_true c] at h
  exact h
end Go.Proofs.Ytjhphpoihadmkaa

