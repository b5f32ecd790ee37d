import Derived.Test.YtjhphpoihadmkaaM5
/- Changes of chains, the examples, a law. No conditions. -/
namespace Go.Proofs.Ytjhphpoihadmkaa
open Go.Am
def join_l0 (c : Chain) (m : Member) : Nat → Int → Chain × Int
  | 0, _ => default
  | nn + 1, i => (bif (decide (i < (c.members.D.length : Int))) then (bif (decide ((c.members.D[i.toNat]!.site) ≤ m.site)) then join_l0 c m nn (IntKind.i64.wrap (i + 1)) else (bif (i == 0) then ((Chain.mk 0 (Sl.mk true [])), 152) else ((after c (Sl.mk false (insertL c.members.D i.toNat [(Member.mk m.node m.site true)]))), 0))) else (bif (i == 0) then ((Chain.mk 0 (Sl.mk true [])), 152) else ((after c (Sl.mk false (insertL c.members.D i.toNat [(Member.mk m.node m.site true)]))), 0)))
def join (c : Chain) (m : Member) : Chain × Int :=
  (bif ((check c) != 0) then ((Chain.mk 0 (Sl.mk true [])), (check c)) else (bif (!(member (Member.mk m.node m.site true))) then ((Chain.mk 0 (Sl.mk true [])), 81) else (bif (decide ((placeIn c m.node) ≥ 0)) then ((Chain.mk 0 (Sl.mk true [])), 82) else (bif (decide (c.epoch ≥ 1099511627776)) then ((Chain.mk 0 (Sl.mk true [])), 5) else join_l0 c m ((c.members.D.length - (0 : Int).toNat) + 1) 0))))
theorem join_calls (c : Chain) (m : Member) (hn : c.members.nil = true → c.members.D = []) (hl1 : c.members.D.length ≤ 1000000) : PCalls Try.prog 36 [.agg [.pv (.lit (.int .i64 c.epoch)), sS (some c.members.nil) eMember c.members.D], .agg [.pv (.lit (.int .i64 m.node)), .pv (.lit (.int .i64 m.site)), .pv (.lit (.bool m.fresh))]] (.tup [.agg [.pv (.lit (.int .i64 ((join c m).1.epoch))), sS (some (join c m).1.members.nil) eMember ((join c m).1.members.D)], .pv (.lit (.int .i64 ((join c m).2)))]) := by
  generalize hR : join c m = R
  refine PCalls.of_body tabOk Try.func36 rfl rfl rfl rfl rfl mixed fun E hP C hI => ?_
  refine Awp.cons C (fun _ => .pure) (by kernel_rfl) ?_
  refine rvc_un (rexec_prim C (δ := { v := .ptr 2 0, new := [(2, .cells [.pv (.lit (.int .i64 c.epoch)), sS (some c.members.nil) eMember c.members.D])] }) rfl rfl rfl rfl trivial rfl ?_)
  refine rvc_un (rexec_prim C (δ := { v := .ptr 3 0, new := [(3, .cells [.pv (.lit (.int .i64 m.node)), .pv (.lit (.int .i64 m.site)), .pv (.lit (.bool m.fresh))])] }) rfl rfl rfl rfl trivial rfl ?_)
  refine rvc_un (rexec_prim C (δ := { v := .ptr 4 0, new := [(4, .cells [.pv (.lit (.int .i64 0)), sS (some true) eMember []])] }) rfl rfl rfl rfl trivial rfl ?_)
  refine rvc_un (rexec_prim C (δ := { v := .pv (.lit (.int .i64 0)) }) rfl rfl rfl rfl trivial rfl ?_)
  refine rvc_nil ?_
  refine Awp.seq ?_
  refine Awp.cons C (fun _ => .pure) (by kernel_rfl) ?_
  refine rvc_un (rexec_prim C (δ := { v := .agg [.pv (.lit (.int .i64 c.epoch)), sS (some c.members.nil) eMember c.members.D] }) rfl rfl rfl rfl trivial rfl ?_)
  refine rvc_un (rexec_call hP C rfl rfl rfl (check_calls c (Nat.le_trans hl1 (by decide))) ?_)
  refine rvc_un (rexec_prim C (δ := { v := .pv (.lit (.int .i64 (check c))) }) rfl rfl rfl rfl trivial rfl ?_)
  refine rvc_nil ?_
  refine Awp.cons C (fun _ => .pure) (by kernel_rfl) ?_
  refine rvc_un (rexec_prim C (δ := { v := .pv (.lit (.int .i64 (check c))) }) rfl rfl rfl rfl trivial rfl ?_)
  refine rvc_un (rexec_prim C (δ := { v := .pv (.lit (.bool ((check c) != 0))) }) rfl rfl rfl rfl trivial rfl ?_)
  refine rvc_nil ?_
  refine Awp.cond (b := ((check c) != 0)) rfl (fun h1 => ?_) (fun h1 => ?_)
  ·
    replace hR := of_true h1 hR
    refine Awp.cons C (fun _ => .pure) (by kernel_rfl) ?_
    refine rvc_un (rexec_prim C (δ := { v := .agg [.pv (.lit (.int .i64 0)), sS (some true) eMember []] }) rfl rfl rfl rfl trivial rfl ?_)
    refine rvc_un (rexec_prim C (δ := { v := .pv (.lit (.int .i64 (check c))) }) rfl rfl rfl rfl trivial rfl ?_)
    refine rvc_un (rexec_prim C (δ := { v := .undef, wr := [(4, some (.cells [.pv (.lit (.int .i64 0)), sS (some true) eMember []]))] }) rfl rfl rfl rfl trivial rfl ?_) -- tNone store
    refine rvc_un (rexec_prim C (δ := { v := .pv (.lit (.int .i64 (check c))) }) rfl rfl rfl rfl trivial rfl ?_)
    refine rvc_nil ?_
    refine Awp.ret ?_
    subst hR
    exact ⟨.inl rfl, rfl⟩
  ·
    replace hR := of_false h1 hR
    refine Awp.skip ?_
    refine Awp.cons C (fun _ => .pure) (by kernel_rfl) ?_
    refine rvc_un (rexec_prim C (δ := { v := .ptr 3 2 }) rfl rfl rfl rfl trivial rfl ?_)
    refine rvc_un (rexec_prim C (δ := { v := .undef, wr := [(3, some (.cells [.pv (.lit (.int .i64 m.node)), .pv (.lit (.int .i64 m.site)), .pv (.lit (.bool true))]))] }) rfl rfl rfl rfl trivial rfl ?_) -- tNone store
    refine rvc_nil ?_
    refine Awp.seq ?_
    refine Awp.block ?_
    refine Awp.cons C (fun _ => .pure) (by kernel_rfl) ?_
    refine rvc_un (rexec_prim C (δ := { v := .agg [.pv (.lit (.int .i64 m.node)), .pv (.lit (.int .i64 m.site)), .pv (.lit (.bool true))] }) rfl rfl rfl rfl trivial rfl ?_)
    refine rvc_un (rexec_call hP C rfl rfl rfl (member_calls (Member.mk m.node m.site true)) ?_)
    refine rvc_un (rexec_prim C (δ := { v := .pv (.lit (.bool (!(member (Member.mk m.node m.site true))))) }) rfl rfl rfl rfl trivial rfl ?_)
    refine rvc_un (rexec_prim C (δ := { v := .pv (.lit (.bool (!(member (Member.mk m.node m.site true))))) }) rfl rfl rfl rfl trivial rfl ?_)
    refine rvc_nil ?_
    refine Awp.cond (b := (!(member (Member.mk m.node m.site true)))) rfl (fun h2 => ?_) (fun h2 => ?_)
    ·
      replace hR := of_true h2 hR
      refine Awp.cons C (fun _ => .pure) (by kernel_rfl) ?_
      refine rvc_un (rexec_prim C (δ := { v := .agg [.pv (.lit (.int .i64 0)), sS (some true) eMember []] }) rfl rfl rfl rfl trivial rfl ?_)
      refine rvc_un (rexec_prim C (δ := { v := .undef, wr := [(4, some (.cells [.pv (.lit (.int .i64 0)), sS (some true) eMember []]))] }) rfl rfl rfl rfl trivial rfl ?_) -- tNone store
      refine rvc_un (rexec_prim C (δ := { v := .pv (.lit (.int .i64 81)) }) rfl rfl rfl rfl trivial rfl ?_)
      refine rvc_nil ?_
      refine Awp.ret ?_
      subst hR
      exact ⟨.inl rfl, rfl⟩
    ·
      replace hR := of_false h2 hR
      refine Awp.cons C (fun _ => .pure) (by kernel_rfl) ?_
      refine rvc_un (rexec_prim C (δ := { v := .agg [.pv (.lit (.int .i64 c.epoch)), sS (some c.members.nil) eMember c.members.D] }) rfl rfl rfl rfl trivial rfl ?_)
      refine rvc_un (rexec_prim C (δ := { v := .ptr 3 0 }) rfl rfl rfl rfl trivial rfl ?_)
      refine rvc_un (rexec_prim C (δ := { v := .pv (.lit (.int .i64 m.node)) }) rfl rfl rfl rfl trivial rfl ?_)
      refine rvc_un (rexec_call hP C rfl rfl rfl (placeIn_calls c m.node (Nat.le_trans hl1 (by decide))) ?_)
      refine rvc_un (rexec_prim C (δ := { v := .pv (.lit (.bool (decide ((placeIn c m.node) ≥ 0)))) }) rfl rfl rfl rfl trivial rfl ?_)
      refine rvc_un (rexec_prim C (δ := { v := .pv (.lit (.bool (decide ((placeIn c m.node) ≥ 0)))) }) rfl rfl rfl rfl trivial rfl ?_)
      refine rvc_nil ?_
      refine Awp.cond (b := (decide ((placeIn c m.node) ≥ 0))) rfl (fun h3 => ?_) (fun h3 => ?_)
      ·
        replace hR := of_true h3 hR
        refine Awp.cons C (fun _ => .pure) (by kernel_rfl) ?_
        refine rvc_un (rexec_prim C (δ := { v := .agg [.pv (.lit (.int .i64 0)), sS (some true) eMember []] }) rfl rfl rfl rfl trivial rfl ?_)
        refine rvc_un (rexec_prim C (δ := { v := .undef, wr := [(4, some (.cells [.pv (.lit (.int .i64 0)), sS (some true) eMember []]))] }) rfl rfl rfl rfl trivial rfl ?_) -- tNone store
        refine rvc_un (rexec_prim C (δ := { v := .pv (.lit (.int .i64 82)) }) rfl rfl rfl rfl trivial rfl ?_)
        refine rvc_nil ?_
        refine Awp.ret ?_
        subst hR
        exact ⟨.inl rfl, rfl⟩
      ·
        replace hR := of_false h3 hR
        refine Awp.cons C (fun _ => .pure) (by kernel_rfl) ?_
        refine rvc_un (rexec_prim C (δ := { v := .ptr 2 0 }) rfl rfl rfl rfl trivial rfl ?_)
        refine rvc_un (rexec_prim C (δ := { v := .pv (.lit (.int .i64 c.epoch)) }) rfl rfl rfl rfl trivial rfl ?_)
        refine rvc_un (rexec_prim C (δ := { v := .pv (.lit (.bool (decide (c.epoch ≥ 1099511627776)))) }) rfl rfl rfl rfl trivial rfl ?_)
        refine rvc_un (rexec_prim C (δ := { v := .pv (.lit (.bool (decide (c.epoch ≥ 1099511627776)))) }) rfl rfl rfl rfl trivial rfl ?_)
        refine rvc_nil ?_
        refine Awp.cond (b := (decide (c.epoch ≥ 1099511627776))) rfl (fun h4 => ?_) (fun h4 => ?_)
        ·
          replace hR := of_true h4 hR
          refine Awp.cons C (fun _ => .pure) (by kernel_rfl) ?_
          refine rvc_un (rexec_prim C (δ := { v := .agg [.pv (.lit (.int .i64 0)), sS (some true) eMember []] }) rfl rfl rfl rfl trivial rfl ?_)
          refine rvc_un (rexec_prim C (δ := { v := .undef, wr := [(4, some (.cells [.pv (.lit (.int .i64 0)), sS (some true) eMember []]))] }) rfl rfl rfl rfl trivial rfl ?_) -- tNone store
          refine rvc_un (rexec_prim C (δ := { v := .pv (.lit (.int .i64 5)) }) rfl rfl rfl rfl trivial rfl ?_)
          refine rvc_nil ?_
          refine Awp.ret ?_
          subst hR
          exact ⟨.inl rfl, rfl⟩
        ·
          replace hR := of_false h4 hR
          refine Awp.skip ?_
          refine Awp.cons C (fun _ => .pure) (by kernel_rfl) ?_
          refine rvc_un (rexec_prim C (δ := { v := .pv (.lit (.int .i64 0)) }) rfl rfl rfl rfl trivial rfl ?_)
          refine rvc_nil ?_
          refine Awp.seq ?_
          refine Awp.block ?_
          refine Awp.forM (σ := Int) (fun v => [(2, .ptr 2 0), (3, .ptr 3 0), (4, .ptr 4 0), (7, .pv (.lit (.int .i64 v)))]) (fun v => [(2, .cells [.pv (.lit (.int .i64 c.epoch)), sS (some c.members.nil) eMember c.members.D]), (3, .cells [.pv (.lit (.int .i64 m.node)), .pv (.lit (.int .i64 m.site)), .pv (.lit (.bool true))]), (4, .cells [.pv (.lit (.int .i64 0)), sS (some true) eMember []])]) [2, 3, 4] (fun n v => n = (c.members.D.length - (v : Int).toNat) ∧ join_l0 c m ((c.members.D.length - (v : Int).toNat) + 1) v = R ∧ (0 ≤ v ∧ v ≤ (c.members.D.length : Int))) ((c.members.D.length - (0 : Int).toNat)) 0 ?_ ?_ (fun _ i h5 => ?_)
          · exact ⟨rfl, hR, by simp⟩
          · exact ⟨fun b => b, WeakerR.ofL (Ks := [2, 3, 4]) hI ⟨⟨rfl, rfl⟩, ⟨rfl, rfl⟩, ⟨rfl, rfl⟩, ⟨rfl, rfl⟩, trivial⟩ (okH_cons rfl rfl rfl rfl (okH_cons rfl rfl rfl rfl (okH_cons rfl rfl rfl rfl (okH_nil)))) rfl⟩
          obtain ⟨rfl, hR, hV⟩ := h5
          refine Awp.seq ?_
          refine Awp.cons C (fun _ => .pure) (by kernel_rfl) ?_
          refine rvc_un (rexec_prim C (δ := { v := .pv (.lit (.int .i64 i)) }) rfl rfl rfl rfl trivial rfl ?_)
          refine rvc_un (rexec_prim C (δ := { v := .ptr 2 1 }) rfl rfl rfl rfl trivial rfl ?_)
          refine rvc_un (rexec_prim C (δ := { v := sS (some c.members.nil) eMember c.members.D }) rfl rfl rfl rfl trivial rfl ?_)
          refine rvc_un (rexec_prim C (δ := { v := .pv (.lit (.int .i64 (c.members.D.length : Int))) }) rfl rfl rfl rfl trivial rfl ?_)
          refine rvc_un (rexec_prim C (δ := { v := .pv (.lit (.bool (decide (i < (c.members.D.length : Int))))) }) rfl rfl rfl rfl trivial rfl ?_)
          refine rvc_un (rexec_prim C (δ := { v := .pv (.lit (.bool (decide (i < (c.members.D.length : Int))))) }) rfl rfl rfl rfl trivial rfl ?_)
          refine rvc_case 37 (decide (i < (c.members.D.length : Int))) rfl (fun h7 => ?_) (fun h7 => ?_)
          ·
            replace hR := of_true h7 hR
            refine rvc_open rfl rfl rfl (rexec_prim C (δ := { v := .ptr 2 1 }) rfl rfl rfl rfl trivial rfl ?_)
            refine rvc_open rfl rfl rfl (rexec_prim C (δ := { v := sS (some c.members.nil) eMember c.members.D }) rfl rfl rfl rfl trivial rfl ?_)
            refine rvc_open rfl rfl rfl (rexec_prim C (δ := { v := .pv (.lit (.int .i64 i)) }) rfl rfl rfl rfl trivial rfl ?_)
            have h8 : c.members.D[i.toNat]? = some c.members.D[i.toNat]! := getE (by have := check_len (c := c); have := check_le6 (c := c); have := placeIn_lt c m.node; have := eq_of_bne_false h1; have := of_decide_eq_false h3; have := of_decide_eq_false h4; have := of_decide_eq_true h7; omega)
            refine rvc_open rfl rfl rfl (rexec_idxS C rfl rfl rfl rfl rfl rfl (c.members.D[i.toNat]!) (by have := check_len (c := c); have := check_le6 (c := c); have := placeIn_lt c m.node; have := eq_of_bne_false h1; have := of_decide_eq_false h3; have := of_decide_eq_false h4; have := of_decide_eq_true h7; omega) h8 ?_)
            refine rvc_open rfl rfl rfl (rexec_prim C (δ := { v := .rp [.lit (.int .i64 (c.members.D[i.toNat]!.site))] }) rfl rfl rfl rfl trivial rfl ?_)
            refine rvc_open rfl rfl rfl (rexec_prim C (δ := { v := .pv (.lit (.int .i64 (c.members.D[i.toNat]!.site))) }) rfl rfl rfl rfl trivial rfl ?_)
            refine rvc_open rfl rfl rfl (rexec_prim C (δ := { v := .ptr 3 1 }) rfl rfl rfl rfl trivial rfl ?_)
            refine rvc_open rfl rfl rfl (rexec_prim C (δ := { v := .pv (.lit (.int .i64 m.site)) }) rfl rfl rfl rfl trivial rfl ?_)
            refine rvc_open rfl rfl rfl (rexec_prim C (δ := { v := .pv (.lit (.bool (decide ((c.members.D[i.toNat]!.site) ≤ m.site)))) }) rfl rfl rfl rfl trivial rfl ?_)
            refine rvc_un (rexec_prim C (δ := { v := .pv (.lit (.bool (decide ((c.members.D[i.toNat]!.site) ≤ m.site)))) }) rfl rfl rfl rfl trivial rfl ?_)
            refine rvc_nil ?_
            refine Awp.cond (b := (decide ((c.members.D[i.toNat]!.site) ≤ m.site))) rfl (fun h9 => ?_) (fun h9 => ?_)
            ·
              replace hR := of_true h9 hR
              refine Awp.skip ?_
              refine Awp.block ?_
              refine Awp.region C (fun _ => .pure) (by kernel_rfl) ?_
              refine rvc_un (rexec_prim C (δ := { v := .pv (.lit (.int .i64 i)) }) rfl rfl rfl rfl trivial rfl ?_)
              refine rvc_un (rexec_prim C (δ := { v := .pv (.lit (.int .i64 (IntKind.i64.wrap (i + 1)))) }) rfl rfl rfl rfl trivial rfl ?_)
              refine rvc_un (rexec_prim C (δ := { v := .pv (.lit (.int .i64 (IntKind.i64.wrap (i + 1)))) }) rfl rfl rfl rfl trivial rfl ?_)
              refine rvc_nil ?_
              refine ⟨_, (IntKind.i64.wrap (i + 1)), ?_, ⟨rfl, (by rw [show (c.members.D.length - ((IntKind.i64.wrap (i + 1)) : Int).toNat) + 1 = (c.members.D.length - (i : Int).toNat) by have := wrapI (i + 1); have := check_len (c := c); have := check_le6 (c := c); have := placeIn_lt c m.node; have := eq_of_bne_false h1; have := of_decide_eq_false h3; have := of_decide_eq_false h4; have := of_decide_eq_true h7; have := of_decide_eq_true h9; first | omega | (simp only [List.length_drop]; omega)]; exact hR), (by have := wrapI (i + 1); have := check_len (c := c); have := check_le6 (c := c); have := placeIn_lt c m.node; have := eq_of_bne_false h1; have := of_decide_eq_false h3; have := of_decide_eq_false h4; have := of_decide_eq_true h7; have := of_decide_eq_true h9; omega)⟩, ?_⟩
              · show (c.members.D.length - ((IntKind.i64.wrap (i + 1)) : Int).toNat) < (c.members.D.length - (i : Int).toNat); have := wrapI (i + 1); have := check_len (c := c); have := check_le6 (c := c); have := placeIn_lt c m.node; have := eq_of_bne_false h1; have := of_decide_eq_false h3; have := of_decide_eq_false h4; have := of_decide_eq_true h7; have := of_decide_eq_true h9; first | omega | (simp only [List.length_drop]; omega)
              · exact ⟨fun b => b, WeakerR.ofL (Ks := [2, 3, 4]) hI ⟨⟨rfl, rfl⟩, ⟨rfl, rfl⟩, ⟨rfl, rfl⟩, ⟨rfl, rfl⟩, trivial⟩ (okH_cons rfl rfl rfl rfl (okH_cons rfl rfl rfl rfl (okH_cons rfl rfl rfl rfl (okH_nil)))) rfl⟩
            ·
              replace hR := of_false h9 hR
              refine Awp.exit ?_
              refine Awp.seq ?_
              refine Awp.cons C (fun _ => .pure) (by kernel_rfl) ?_
              refine rvc_un (rexec_prim C (δ := { v := .pv (.lit (.int .i64 i)) }) rfl rfl rfl rfl trivial rfl ?_)
              refine rvc_un (rexec_prim C (δ := { v := .pv (.lit (.bool (i == 0))) }) rfl rfl rfl rfl trivial rfl ?_)
              refine rvc_nil ?_
              refine Awp.cond (b := (i == 0)) rfl (fun h10 => ?_) (fun h10 => ?_)
              ·
                replace hR := of_true h10 hR
                refine Awp.cons C (fun _ => .pure) (by kernel_rfl) ?_
                refine rvc_un (rexec_prim C (δ := { v := .agg [.pv (.lit (.int .i64 0)), sS (some true) eMember []] }) rfl rfl rfl rfl trivial rfl ?_)
                refine rvc_un (rexec_prim C (δ := { v := .undef, wr := [(4, some (.cells [.pv (.lit (.int .i64 0)), sS (some true) eMember []]))] }) rfl rfl rfl rfl trivial rfl ?_) -- tNone store
                refine rvc_un (rexec_prim C (δ := { v := .pv (.lit (.int .i64 152)) }) rfl rfl rfl rfl trivial rfl ?_)
                refine rvc_nil ?_
                refine Awp.ret ?_
                subst hR
                exact ⟨.inl rfl, rfl⟩
              ·
                replace hR := of_false h10 hR
                refine Awp.skip ?_
                refine Awp.cons C (fun o => match o.dst with | some 53 => .reads [2] | some 55 => .reads [2] | some 58 => .reads [3] | some 60 => .writes [56] | some 56 => .quiet | _ => .pure) (by kernel_rfl) ?_
                refine rvc_un (rexec_prim C (δ := { v := .agg [.pv (.lit (.int .i64 c.epoch)), sS (some c.members.nil) eMember c.members.D] }) rfl rfl rfl rfl trivial rfl ?_)
                refine rvc_un (rexec_prim C (δ := { v := .ptr 2 1 }) rfl rfl rfl rfl trivial rfl ?_)
                refine rvc_un (rexec_prim C (δ := { v := sS (some c.members.nil) eMember c.members.D }) rfl rfl rfl rfl trivial rfl ?_)
                refine rvc_un (rexec_callO hP C rfl rfl rfl rfl (cloneO_calls c.members (nil_false hn (by have := check_len (c := c); have := check_le6 (c := c); have := placeIn_lt c m.node; have := eq_of_bne_false h1; have := of_decide_eq_false h3; have := of_decide_eq_false h4; have := of_decide_eq_true h7; have := of_decide_eq_false h9; have := ne_of_beq_false h10; omega)) hl1) ?_)
                refine rvc_un (rexec_prim C (δ := { v := .pv (.lit (.int .i64 i)) }) rfl rfl rfl rfl trivial rfl ?_)
                refine rvc_un (rexec_prim C (δ := { v := .agg [.pv (.lit (.int .i64 m.node)), .pv (.lit (.int .i64 m.site)), .pv (.lit (.bool true))] }) rfl rfl rfl rfl trivial rfl ?_)
                refine rvc_un (rexec_buildSliceF C eMember [(Member.mk m.node m.site true)] rfl rfl rfl rfl rfl rfl rfl (by decide) rfl ?_)
                refine rvc_slot 57 (.pv (.lit (.int .i64 ((i.toNat : Nat) : Int)))) (by rw [show ((i.toNat : Nat) : Int) = i by omega]; rfl) ?_
                refine rvc_un (rexec_callX hP C (b := 56) rfl rfl rfl (insertM_calls c.members.D i.toNat (Sl.mk false [(Member.mk m.node m.site true)]) (by have := check_len (c := c); have := check_le6 (c := c); have := placeIn_lt c m.node; have := eq_of_bne_false h1; have := of_decide_eq_false h3; have := of_decide_eq_false h4; have := of_decide_eq_true h7; have := of_decide_eq_false h9; have := ne_of_beq_false h10; omega) (by simp) hl1 (by simp)) rfl rfl ?_)
                refine rvc_un (rexec_call hP C rfl rfl rfl (after_calls c (Sl.mk false (insertL c.members.D i.toNat [(Member.mk m.node m.site true)]))) ?_)
                refine rvc_un (rexec_prim C (δ := { v := .undef, wr := [(4, some (.cells [.pv (.lit (.int .i64 ((after c (Sl.mk false (insertL c.members.D i.toNat [(Member.mk m.node m.site true)]))).epoch))), sS (some (after c (Sl.mk false (insertL c.members.D i.toNat [(Member.mk m.node m.site true)]))).members.nil) eMember ((after c (Sl.mk false (insertL c.members.D i.toNat [(Member.mk m.node m.site true)]))).members.D)]))] }) rfl rfl rfl rfl trivial rfl ?_) -- tNone store
                refine rvc_un (rexec_prim C (δ := { v := .pv (.lit (.int .i64 0)) }) rfl rfl rfl rfl trivial rfl ?_)
                refine rvc_nil ?_
                refine Awp.ret ?_
                subst hR
                exact ⟨.inl rfl, rfl⟩
          ·
            replace hR := of_false h7 hR
            refine rvc_shut rfl rfl rfl rfl ?_
            refine rvc_shut rfl rfl rfl rfl ?_
            refine rvc_shut rfl rfl rfl rfl ?_
            refine rvc_shut rfl rfl rfl rfl ?_
            refine rvc_shut rfl rfl rfl rfl ?_
            refine rvc_shut rfl rfl rfl rfl ?_
            refine rvc_shut rfl rfl rfl rfl ?_
            refine rvc_shut rfl rfl rfl rfl ?_
            refine rvc_shut rfl rfl rfl rfl ?_
            refine rvc_un (rexec_prim C (δ := { v := .pv (.lit (.bool false)) }) rfl rfl rfl rfl trivial rfl ?_)
            refine rvc_nil ?_
            refine Awp.condF (b := false) rfl rfl ?_
            refine Awp.exit ?_
            refine Awp.seq ?_
            refine Awp.cons C (fun _ => .pure) (by kernel_rfl) ?_
            refine rvc_un (rexec_prim C (δ := { v := .pv (.lit (.int .i64 i)) }) rfl rfl rfl rfl trivial rfl ?_)
            refine rvc_un (rexec_prim C (δ := { v := .pv (.lit (.bool (i == 0))) }) rfl rfl rfl rfl trivial rfl ?_)
            refine rvc_nil ?_
            refine Awp.cond (b := (i == 0)) rfl (fun h11 => ?_) (fun h11 => ?_)
            ·
              replace hR := of_true h11 hR
              refine Awp.cons C (fun _ => .pure) (by kernel_rfl) ?_
              refine rvc_un (rexec_prim C (δ := { v := .agg [.pv (.lit (.int .i64 0)), sS (some true) eMember []] }) rfl rfl rfl rfl trivial rfl ?_)
              refine rvc_un (rexec_prim C (δ := { v := .undef, wr := [(4, some (.cells [.pv (.lit (.int .i64 0)), sS (some true) eMember []]))] }) rfl rfl rfl rfl trivial rfl ?_) -- tNone store
              refine rvc_un (rexec_prim C (δ := { v := .pv (.lit (.int .i64 152)) }) rfl rfl rfl rfl trivial rfl ?_)
              refine rvc_nil ?_
              refine Awp.ret ?_
              subst hR
              exact ⟨.inl rfl, rfl⟩
            ·
              replace hR := of_false h11 hR
              refine Awp.skip ?_
              refine Awp.cons C (fun o => match o.dst with | some 53 => .reads [2] | some 55 => .reads [2] | some 58 => .reads [3] | some 60 => .writes [56] | some 56 => .quiet | _ => .pure) (by kernel_rfl) ?_
              refine rvc_un (rexec_prim C (δ := { v := .agg [.pv (.lit (.int .i64 c.epoch)), sS (some c.members.nil) eMember c.members.D] }) rfl rfl rfl rfl trivial rfl ?_)
              refine rvc_un (rexec_prim C (δ := { v := .ptr 2 1 }) rfl rfl rfl rfl trivial rfl ?_)
              refine rvc_un (rexec_prim C (δ := { v := sS (some c.members.nil) eMember c.members.D }) rfl rfl rfl rfl trivial rfl ?_)
              refine rvc_un (rexec_callO hP C rfl rfl rfl rfl (cloneO_calls c.members (nil_false hn (by have := check_len (c := c); have := check_le6 (c := c); have := placeIn_lt c m.node; have := eq_of_bne_false h1; have := of_decide_eq_false h3; have := of_decide_eq_false h4; have := of_decide_eq_false h7; have := ne_of_beq_false h11; omega)) hl1) ?_)
              refine rvc_un (rexec_prim C (δ := { v := .pv (.lit (.int .i64 i)) }) rfl rfl rfl rfl trivial rfl ?_)
              refine rvc_un (rexec_prim C (δ := { v := .agg [.pv (.lit (.int .i64 m.node)), .pv (.lit (.int .i64 m.site)), .pv (.lit (.bool true))] }) rfl rfl rfl rfl trivial rfl ?_)
              refine rvc_un (rexec_buildSliceF C eMember [(Member.mk m.node m.site true)] rfl rfl rfl rfl rfl rfl rfl (by decide) rfl ?_)
              refine rvc_slot 57 (.pv (.lit (.int .i64 ((i.toNat : Nat) : Int)))) (by rw [show ((i.toNat : Nat) : Int) = i by omega]; rfl) ?_
              refine rvc_un (rexec_callX hP C (b := 56) rfl rfl rfl (insertM_calls c.members.D i.toNat (Sl.mk false [(Member.mk m.node m.site true)]) (by have := check_len (c := c); have := check_le6 (c := c); have := placeIn_lt c m.node; have := eq_of_bne_false h1; have := of_decide_eq_false h3; have := of_decide_eq_false h4; have := of_decide_eq_false h7; have := ne_of_beq_false h11; omega) (by simp) hl1 (by simp)) rfl rfl ?_)
              refine rvc_un (rexec_call hP C rfl rfl rfl (after_calls c (Sl.mk false (insertL c.members.D i.toNat [(Member.mk m.node m.site true)]))) ?_)
              refine rvc_un (rexec_prim C (δ := { v := .undef, wr := [(4, some (.cells [.pv (.lit (.int .i64 ((after c (Sl.mk false (insertL c.members.D i.toNat [(Member.mk m.node m.site true)]))).epoch))), sS (some (after c (Sl.mk false (insertL c.members.D i.toNat [(Member.mk m.node m.site true)]))).members.nil) eMember ((after c (Sl.mk false (insertL c.members.D i.toNat [(Member.mk m.node m.site true)]))).members.D)]))] }) rfl rfl rfl rfl trivial rfl ?_) -- tNone store
              refine rvc_un (rexec_prim C (δ := { v := .pv (.lit (.int .i64 0)) }) rfl rfl rfl rfl trivial rfl ?_)
              refine rvc_nil ?_
              refine Awp.ret ?_
              subst hR
              exact ⟨.inl rfl, rfl⟩

def drop (c : Chain) (node : Int) : Chain × Int :=
  (bif ((check c) != 0) then ((Chain.mk 0 (Sl.mk true [])), (check c)) else ((without c (maskOf (Sl.mk false [node]))).1, (without c (maskOf (Sl.mk false [node]))).2))
theorem drop_calls (c : Chain) (node : Int) (hl1 : c.members.D.length ≤ 1000000) : PCalls Try.prog 37 [.agg [.pv (.lit (.int .i64 c.epoch)), sS (some c.members.nil) eMember c.members.D], .pv (.lit (.int .i64 node))] (.tup [.agg [.pv (.lit (.int .i64 ((drop c node).1.epoch))), sS (some (drop c node).1.members.nil) eMember ((drop c node).1.members.D)], .pv (.lit (.int .i64 ((drop c node).2)))]) := by
  generalize hR : drop c node = R
  refine PCalls.of_body tabOk Try.func37 rfl rfl rfl rfl rfl mixed fun E hP C hI => ?_
  refine Awp.cons C (fun _ => .pure) (by kernel_rfl) ?_
  refine rvc_un (rexec_prim C (δ := { v := .ptr 2 0, new := [(2, .cells [.pv (.lit (.int .i64 c.epoch)), sS (some c.members.nil) eMember c.members.D])] }) rfl rfl rfl rfl trivial rfl ?_)
  refine rvc_un (rexec_prim C (δ := { v := .ptr 4 0, new := [(4, .cells [.pv (.lit (.int .i64 0)), sS (some true) eMember []])] }) rfl rfl rfl rfl trivial rfl ?_)
  refine rvc_un (rexec_prim C (δ := { v := .pv (.lit (.int .i64 0)) }) rfl rfl rfl rfl trivial rfl ?_)
  refine rvc_nil ?_
  refine Awp.seq ?_
  refine Awp.cons C (fun _ => .pure) (by kernel_rfl) ?_
  refine rvc_un (rexec_prim C (δ := { v := .agg [.pv (.lit (.int .i64 c.epoch)), sS (some c.members.nil) eMember c.members.D] }) rfl rfl rfl rfl trivial rfl ?_)
  refine rvc_un (rexec_call hP C rfl rfl rfl (check_calls c (Nat.le_trans hl1 (by decide))) ?_)
  refine rvc_un (rexec_prim C (δ := { v := .pv (.lit (.int .i64 (check c))) }) rfl rfl rfl rfl trivial rfl ?_)
  refine rvc_nil ?_
  refine Awp.cons C (fun _ => .pure) (by kernel_rfl) ?_
  refine rvc_un (rexec_prim C (δ := { v := .pv (.lit (.int .i64 (check c))) }) rfl rfl rfl rfl trivial rfl ?_)
  refine rvc_un (rexec_prim C (δ := { v := .pv (.lit (.bool ((check c) != 0))) }) rfl rfl rfl rfl trivial rfl ?_)
  refine rvc_nil ?_
  refine Awp.cond (b := ((check c) != 0)) rfl (fun h1 => ?_) (fun h1 => ?_)
  ·
    replace hR := of_true h1 hR
    refine Awp.cons C (fun _ => .pure) (by kernel_rfl) ?_
    refine rvc_un (rexec_prim C (δ := { v := .agg [.pv (.lit (.int .i64 0)), sS (some true) eMember []] }) rfl rfl rfl rfl trivial rfl ?_)
    refine rvc_un (rexec_prim C (δ := { v := .pv (.lit (.int .i64 (check c))) }) rfl rfl rfl rfl trivial rfl ?_)
    refine rvc_un (rexec_prim C (δ := { v := .undef, wr := [(4, some (.cells [.pv (.lit (.int .i64 0)), sS (some true) eMember []]))] }) rfl rfl rfl rfl trivial rfl ?_) -- tNone store
    refine rvc_un (rexec_prim C (δ := { v := .pv (.lit (.int .i64 (check c))) }) rfl rfl rfl rfl trivial rfl ?_)
    refine rvc_nil ?_
    refine Awp.ret ?_
    subst hR
    exact ⟨.inl rfl, rfl⟩
  ·
    replace hR := of_false h1 hR
    refine Awp.skip ?_
    refine Awp.cons C (fun _ => .pure) (by kernel_rfl) ?_
    refine rvc_un (rexec_prim C (δ := { v := .agg [.pv (.lit (.int .i64 c.epoch)), sS (some c.members.nil) eMember c.members.D] }) rfl rfl rfl rfl trivial rfl ?_)
    refine rvc_un (rexec_prim C (δ := { v := .pv (.lit (.int .i64 node)) }) rfl rfl rfl rfl trivial rfl ?_)
    refine rvc_un (rexec_buildSliceF C (eI .i64) [node] rfl rfl rfl rfl rfl rfl rfl (by decide) rfl ?_)
    refine rvc_un (rexec_call hP C rfl rfl rfl (maskOf_calls (Sl.mk false [node]) (by simp)) ?_)
    refine rvc_un (rexec_call hP C rfl rfl rfl (without_calls c (maskOf (Sl.mk false [node])) hl1) ?_)
    refine rvc_un (rexec_prim C (δ := { v := .agg [.pv (.lit (.int .i64 ((without c (maskOf (Sl.mk false [node]))).1.epoch))), sS (some (without c (maskOf (Sl.mk false [node]))).1.members.nil) eMember ((without c (maskOf (Sl.mk false [node]))).1.members.D)] }) rfl rfl rfl rfl trivial rfl ?_)
    refine rvc_un (rexec_prim C (δ := { v := .pv (.lit (.int .i64 ((without c (maskOf (Sl.mk false [node]))).2))) }) rfl rfl rfl rfl trivial rfl ?_)
    refine rvc_un (rexec_prim C (δ := { v := .undef, wr := [(4, some (.cells [.pv (.lit (.int .i64 ((without c (maskOf (Sl.mk false [node]))).1.epoch))), sS (some (without c (maskOf (Sl.mk false [node]))).1.members.nil) eMember ((without c (maskOf (Sl.mk false [node]))).1.members.D)]))] }) rfl rfl rfl rfl trivial rfl ?_) -- tNone store
    refine rvc_un (rexec_prim C (δ := { v := .pv (.lit (.int .i64 ((without c (maskOf (Sl.mk false [node]))).2))) }) rfl rfl rfl rfl trivial rfl ?_)
    refine rvc_nil ?_
    refine Awp.ret ?_
    subst hR
    exact ⟨.inl rfl, rfl⟩

def awake  : Bool :=
  (bif (((firstC (Sl.mk false [(Member.mk 2 1 false), (Member.mk 0 0 false)])).2) == 0) then (bif (((join ((firstC (Sl.mk false [(Member.mk 2 1 false), (Member.mk 0 0 false)])).1) (Member.mk 1 0 false)).2) == 0) then (bif (((drop ((join ((firstC (Sl.mk false [(Member.mk 2 1 false), (Member.mk 0 0 false)])).1) (Member.mk 1 0 false)).1) 0).2) == 0) then (bif ((headC ((firstC (Sl.mk false [(Member.mk 2 1 false), (Member.mk 0 0 false)])).1)) == 0) then (bif ((nextC ((join ((firstC (Sl.mk false [(Member.mk 2 1 false), (Member.mk 0 0 false)])).1) (Member.mk 1 0 false)).1) 0) == 1) then (bif ((tailC ((join ((firstC (Sl.mk false [(Member.mk 2 1 false), (Member.mk 0 0 false)])).1) (Member.mk 1 0 false)).1)) == 2) then (same ((drop ((join ((firstC (Sl.mk false [(Member.mk 2 1 false), (Member.mk 0 0 false)])).1) (Member.mk 1 0 false)).1) 0).1) (Chain.mk 3 (Sl.mk false [(Member.mk 2 1 false)]))) else false) else false) else false) else false) else false) else false)
theorem awake_calls   : PCalls Try.prog 10 [] (.pv (.lit (.bool (awake )))) := by
  generalize hR : awake  = R
  refine PCalls.of_body tabOk Try.func10 rfl rfl rfl rfl rfl mixed fun E hP C hI => ?_
  refine Awp.cons C (fun _ => .pure) (by kernel_rfl) ?_
  refine rvc_un (rexec_prim C (δ := { v := .pv (.lit (.bool false)) }) rfl rfl rfl rfl trivial rfl ?_)
  refine rvc_nil ?_
  refine Awp.cons C (fun _ => .pure) (by kernel_rfl) ?_
  refine rvc_un (rexec_prim C (δ := { v := .agg [.pv (.lit (.int .i64 2)), .pv (.lit (.int .i64 1)), .pv (.lit (.bool false))] }) rfl rfl rfl rfl trivial rfl ?_)
  refine rvc_un (rexec_prim C (δ := { v := .agg [.pv (.lit (.int .i64 0)), .pv (.lit (.int .i64 0)), .pv (.lit (.bool false))] }) rfl rfl rfl rfl trivial rfl ?_)
  refine rvc_un (rexec_buildSliceF C eMember [(Member.mk 2 1 false), (Member.mk 0 0 false)] rfl rfl rfl rfl rfl rfl rfl (by decide) rfl ?_)
  refine rvc_un (rexec_call hP C rfl rfl rfl (firstC_calls (Sl.mk false [(Member.mk 2 1 false), (Member.mk 0 0 false)]) (of_decide_eq_true (by kernel_rfl))) ?_)
  refine rvc_un (rexec_prim C (δ := { v := .tup [.agg [.pv (.lit (.int .i64 ((firstC (Sl.mk false [(Member.mk 2 1 false), (Member.mk 0 0 false)])).1.epoch))), sS (some (firstC (Sl.mk false [(Member.mk 2 1 false), (Member.mk 0 0 false)])).1.members.nil) eMember ((firstC (Sl.mk false [(Member.mk 2 1 false), (Member.mk 0 0 false)])).1.members.D)], .pv (.lit (.int .i64 ((firstC (Sl.mk false [(Member.mk 2 1 false), (Member.mk 0 0 false)])).2)))] }) rfl rfl rfl rfl trivial rfl ?_)
  refine rvc_un (rexec_prim C (δ := { v := .agg [.pv (.lit (.int .i64 ((firstC (Sl.mk false [(Member.mk 2 1 false), (Member.mk 0 0 false)])).1.epoch))), sS (some (firstC (Sl.mk false [(Member.mk 2 1 false), (Member.mk 0 0 false)])).1.members.nil) eMember ((firstC (Sl.mk false [(Member.mk 2 1 false), (Member.mk 0 0 false)])).1.members.D)] }) rfl rfl rfl rfl trivial rfl ?_)
  refine rvc_un (rexec_prim C (δ := { v := .pv (.lit (.int .i64 ((firstC (Sl.mk false [(Member.mk 2 1 false), (Member.mk 0 0 false)])).2))) }) rfl rfl rfl rfl trivial rfl ?_)
  refine rvc_un (rexec_prim C (δ := { v := .ptr 1 0, new := [(1, .cells [.pv (.lit (.int .i64 0)), sS (some true) eMember []])] }) rfl rfl rfl rfl trivial rfl ?_)
  refine rvc_un (rexec_prim C (δ := { v := .undef, wr := [(1, some (.cells [.pv (.lit (.int .i64 ((firstC (Sl.mk false [(Member.mk 2 1 false), (Member.mk 0 0 false)])).1.epoch))), sS (some (firstC (Sl.mk false [(Member.mk 2 1 false), (Member.mk 0 0 false)])).1.members.nil) eMember ((firstC (Sl.mk false [(Member.mk 2 1 false), (Member.mk 0 0 false)])).1.members.D)]))] }) rfl rfl rfl rfl trivial rfl ?_) -- tNone store
  refine rvc_un (rexec_prim C (δ := { v := .pv (.lit (.int .i64 ((firstC (Sl.mk false [(Member.mk 2 1 false), (Member.mk 0 0 false)])).2))) }) rfl rfl rfl rfl trivial rfl ?_)
  refine rvc_nil ?_
  refine Awp.cons C (fun _ => .pure) (by kernel_rfl) ?_
  refine rvc_un (rexec_prim C (δ := { v := .agg [.pv (.lit (.int .i64 ((firstC (Sl.mk false [(Member.mk 2 1 false), (Member.mk 0 0 false)])).1.epoch))), sS (some (firstC (Sl.mk false [(Member.mk 2 1 false), (Member.mk 0 0 false)])).1.members.nil) eMember ((firstC (Sl.mk false [(Member.mk 2 1 false), (Member.mk 0 0 false)])).1.members.D)] }) rfl rfl rfl rfl trivial rfl ?_)
  refine rvc_un (rexec_prim C (δ := { v := .agg [.pv (.lit (.int .i64 1)), .pv (.lit (.int .i64 0)), .pv (.lit (.bool false))] }) rfl rfl rfl rfl trivial rfl ?_)
  refine rvc_un (rexec_call hP C rfl rfl rfl (join_calls ((firstC (Sl.mk false [(Member.mk 2 1 false), (Member.mk 0 0 false)])).1) (Member.mk 1 0 false) (fun h => absurd (h.symm.trans (by kernel_rfl : _ = false)) Bool.noConfusion) (of_decide_eq_true (by kernel_rfl))) ?_)
  refine rvc_un (rexec_prim C (δ := { v := .tup [.agg [.pv (.lit (.int .i64 ((join ((firstC (Sl.mk false [(Member.mk 2 1 false), (Member.mk 0 0 false)])).1) (Member.mk 1 0 false)).1.epoch))), sS (some (join ((firstC (Sl.mk false [(Member.mk 2 1 false), (Member.mk 0 0 false)])).1) (Member.mk 1 0 false)).1.members.nil) eMember ((join ((firstC (Sl.mk false [(Member.mk 2 1 false), (Member.mk 0 0 false)])).1) (Member.mk 1 0 false)).1.members.D)], .pv (.lit (.int .i64 ((join ((firstC (Sl.mk false [(Member.mk 2 1 false), (Member.mk 0 0 false)])).1) (Member.mk 1 0 false)).2)))] }) rfl rfl rfl rfl trivial rfl ?_)
  refine rvc_un (rexec_prim C (δ := { v := .agg [.pv (.lit (.int .i64 ((join ((firstC (Sl.mk false [(Member.mk 2 1 false), (Member.mk 0 0 false)])).1) (Member.mk 1 0 false)).1.epoch))), sS (some (join ((firstC (Sl.mk false [(Member.mk 2 1 false), (Member.mk 0 0 false)])).1) (Member.mk 1 0 false)).1.members.nil) eMember ((join ((firstC (Sl.mk false [(Member.mk 2 1 false), (Member.mk 0 0 false)])).1) (Member.mk 1 0 false)).1.members.D)] }) rfl rfl rfl rfl trivial rfl ?_)
  refine rvc_un (rexec_prim C (δ := { v := .pv (.lit (.int .i64 ((join ((firstC (Sl.mk false [(Member.mk 2 1 false), (Member.mk 0 0 false)])).1) (Member.mk 1 0 false)).2))) }) rfl rfl rfl rfl trivial rfl ?_)
  refine rvc_un (rexec_prim C (δ := { v := .ptr 3 0, new := [(3, .cells [.pv (.lit (.int .i64 0)), sS (some true) eMember []])] }) rfl rfl rfl rfl trivial rfl ?_)
  refine rvc_un (rexec_prim C (δ := { v := .undef, wr := [(3, some (.cells [.pv (.lit (.int .i64 ((join ((firstC (Sl.mk false [(Member.mk 2 1 false), (Member.mk 0 0 false)])).1) (Member.mk 1 0 false)).1.epoch))), sS (some (join ((firstC (Sl.mk false [(Member.mk 2 1 false), (Member.mk 0 0 false)])).1) (Member.mk 1 0 false)).1.members.nil) eMember ((join ((firstC (Sl.mk false [(Member.mk 2 1 false), (Member.mk 0 0 false)])).1) (Member.mk 1 0 false)).1.members.D)]))] }) rfl rfl rfl rfl trivial rfl ?_) -- tNone store
  refine rvc_un (rexec_prim C (δ := { v := .pv (.lit (.int .i64 ((join ((firstC (Sl.mk false [(Member.mk 2 1 false), (Member.mk 0 0 false)])).1) (Member.mk 1 0 false)).2))) }) rfl rfl rfl rfl trivial rfl ?_)
  refine rvc_nil ?_
  refine Awp.cons C (fun _ => .pure) (by kernel_rfl) ?_
  refine rvc_un (rexec_prim C (δ := { v := .agg [.pv (.lit (.int .i64 ((join ((firstC (Sl.mk false [(Member.mk 2 1 false), (Member.mk 0 0 false)])).1) (Member.mk 1 0 false)).1.epoch))), sS (some (join ((firstC (Sl.mk false [(Member.mk 2 1 false), (Member.mk 0 0 false)])).1) (Member.mk 1 0 false)).1.members.nil) eMember ((join ((firstC (Sl.mk false [(Member.mk 2 1 false), (Member.mk 0 0 false)])).1) (Member.mk 1 0 false)).1.members.D)] }) rfl rfl rfl rfl trivial rfl ?_)
  refine rvc_un (rexec_call hP C rfl rfl rfl (drop_calls ((join ((firstC (Sl.mk false [(Member.mk 2 1 false), (Member.mk 0 0 false)])).1) (Member.mk 1 0 false)).1) 0 (of_decide_eq_true (by kernel_rfl))) ?_)
  refine rvc_un (rexec_prim C (δ := { v := .tup [.agg [.pv (.lit (.int .i64 ((drop ((join ((firstC (Sl.mk false [(Member.mk 2 1 false), (Member.mk 0 0 false)])).1) (Member.mk 1 0 false)).1) 0).1.epoch))), sS (some (drop ((join ((firstC (Sl.mk false [(Member.mk 2 1 false), (Member.mk 0 0 false)])).1) (Member.mk 1 0 false)).1) 0).1.members.nil) eMember ((drop ((join ((firstC (Sl.mk false [(Member.mk 2 1 false), (Member.mk 0 0 false)])).1) (Member.mk 1 0 false)).1) 0).1.members.D)], .pv (.lit (.int .i64 ((drop ((join ((firstC (Sl.mk false [(Member.mk 2 1 false), (Member.mk 0 0 false)])).1) (Member.mk 1 0 false)).1) 0).2)))] }) rfl rfl rfl rfl trivial rfl ?_)
  refine rvc_un (rexec_prim C (δ := { v := .agg [.pv (.lit (.int .i64 ((drop ((join ((firstC (Sl.mk false [(Member.mk 2 1 false), (Member.mk 0 0 false)])).1) (Member.mk 1 0 false)).1) 0).1.epoch))), sS (some (drop ((join ((firstC (Sl.mk false [(Member.mk 2 1 false), (Member.mk 0 0 false)])).1) (Member.mk 1 0 false)).1) 0).1.members.nil) eMember ((drop ((join ((firstC (Sl.mk false [(Member.mk 2 1 false), (Member.mk 0 0 false)])).1) (Member.mk 1 0 false)).1) 0).1.members.D)] }) rfl rfl rfl rfl trivial rfl ?_)
  refine rvc_un (rexec_prim C (δ := { v := .pv (.lit (.int .i64 ((drop ((join ((firstC (Sl.mk false [(Member.mk 2 1 false), (Member.mk 0 0 false)])).1) (Member.mk 1 0 false)).1) 0).2))) }) rfl rfl rfl rfl trivial rfl ?_)
  refine rvc_un (rexec_prim C (δ := { v := .ptr 5 0, new := [(5, .cells [.pv (.lit (.int .i64 0)), sS (some true) eMember []])] }) rfl rfl rfl rfl trivial rfl ?_)
  refine rvc_un (rexec_prim C (δ := { v := .undef, wr := [(5, some (.cells [.pv (.lit (.int .i64 ((drop ((join ((firstC (Sl.mk false [(Member.mk 2 1 false), (Member.mk 0 0 false)])).1) (Member.mk 1 0 false)).1) 0).1.epoch))), sS (some (drop ((join ((firstC (Sl.mk false [(Member.mk 2 1 false), (Member.mk 0 0 false)])).1) (Member.mk 1 0 false)).1) 0).1.members.nil) eMember ((drop ((join ((firstC (Sl.mk false [(Member.mk 2 1 false), (Member.mk 0 0 false)])).1) (Member.mk 1 0 false)).1) 0).1.members.D)]))] }) rfl rfl rfl rfl trivial rfl ?_) -- tNone store
  refine rvc_un (rexec_prim C (δ := { v := .pv (.lit (.int .i64 ((drop ((join ((firstC (Sl.mk false [(Member.mk 2 1 false), (Member.mk 0 0 false)])).1) (Member.mk 1 0 false)).1) 0).2))) }) rfl rfl rfl rfl trivial rfl ?_)
  refine rvc_nil ?_
  refine Awp.cons C (fun _ => .pure) (by kernel_rfl) ?_
  refine rvc_un (rexec_prim C (δ := { v := .pv (.lit (.int .i64 ((firstC (Sl.mk false [(Member.mk 2 1 false), (Member.mk 0 0 false)])).2))) }) rfl rfl rfl rfl trivial rfl ?_)
  refine rvc_un (rexec_prim C (δ := { v := .pv (.lit (.bool (((firstC (Sl.mk false [(Member.mk 2 1 false), (Member.mk 0 0 false)])).2) == 0))) }) rfl rfl rfl rfl trivial rfl ?_)
  refine rvc_un (rexec_prim C (δ := { v := .pv (.lit (.bool (((firstC (Sl.mk false [(Member.mk 2 1 false), (Member.mk 0 0 false)])).2) == 0))) }) rfl rfl rfl rfl trivial rfl ?_)
  refine rvc_case 27 (((firstC (Sl.mk false [(Member.mk 2 1 false), (Member.mk 0 0 false)])).2) == 0) rfl (fun h1 => ?_) (fun h1 => ?_)
  ·
    replace hR := of_true h1 hR
    refine rvc_open rfl rfl rfl (rexec_prim C (δ := { v := .pv (.lit (.int .i64 ((join ((firstC (Sl.mk false [(Member.mk 2 1 false), (Member.mk 0 0 false)])).1) (Member.mk 1 0 false)).2))) }) rfl rfl rfl rfl trivial rfl ?_)
    refine rvc_open rfl rfl rfl (rexec_prim C (δ := { v := .pv (.lit (.bool (((join ((firstC (Sl.mk false [(Member.mk 2 1 false), (Member.mk 0 0 false)])).1) (Member.mk 1 0 false)).2) == 0))) }) rfl rfl rfl rfl trivial rfl ?_)
    refine rvc_un (rexec_prim C (δ := { v := .pv (.lit (.bool (((join ((firstC (Sl.mk false [(Member.mk 2 1 false), (Member.mk 0 0 false)])).1) (Member.mk 1 0 false)).2) == 0))) }) rfl rfl rfl rfl trivial rfl ?_)
    refine rvc_un (rexec_prim C (δ := { v := .pv (.lit (.bool (((join ((firstC (Sl.mk false [(Member.mk 2 1 false), (Member.mk 0 0 false)])).1) (Member.mk 1 0 false)).2) == 0))) }) rfl rfl rfl rfl trivial rfl ?_)
    refine rvc_case 31 (((join ((firstC (Sl.mk false [(Member.mk 2 1 false), (Member.mk 0 0 false)])).1) (Member.mk 1 0 false)).2) == 0) rfl (fun h2 => ?_) (fun h2 => ?_)
    ·
      replace hR := of_true h2 hR
      refine rvc_open rfl rfl rfl (rexec_prim C (δ := { v := .pv (.lit (.int .i64 ((drop ((join ((firstC (Sl.mk false [(Member.mk 2 1 false), (Member.mk 0 0 false)])).1) (Member.mk 1 0 false)).1) 0).2))) }) rfl rfl rfl rfl trivial rfl ?_)
      refine rvc_open rfl rfl rfl (rexec_prim C (δ := { v := .pv (.lit (.bool (((drop ((join ((firstC (Sl.mk false [(Member.mk 2 1 false), (Member.mk 0 0 false)])).1) (Member.mk 1 0 false)).1) 0).2) == 0))) }) rfl rfl rfl rfl trivial rfl ?_)
      refine rvc_un (rexec_prim C (δ := { v := .pv (.lit (.bool (((drop ((join ((firstC (Sl.mk false [(Member.mk 2 1 false), (Member.mk 0 0 false)])).1) (Member.mk 1 0 false)).1) 0).2) == 0))) }) rfl rfl rfl rfl trivial rfl ?_)
      refine rvc_un (rexec_prim C (δ := { v := .pv (.lit (.bool (((drop ((join ((firstC (Sl.mk false [(Member.mk 2 1 false), (Member.mk 0 0 false)])).1) (Member.mk 1 0 false)).1) 0).2) == 0))) }) rfl rfl rfl rfl trivial rfl ?_)
      refine rvc_case 35 (((drop ((join ((firstC (Sl.mk false [(Member.mk 2 1 false), (Member.mk 0 0 false)])).1) (Member.mk 1 0 false)).1) 0).2) == 0) rfl (fun h3 => ?_) (fun h3 => ?_)
      ·
        replace hR := of_true h3 hR
        refine rvc_open rfl rfl rfl (rexec_prim C (δ := { v := .agg [.pv (.lit (.int .i64 ((firstC (Sl.mk false [(Member.mk 2 1 false), (Member.mk 0 0 false)])).1.epoch))), sS (some (firstC (Sl.mk false [(Member.mk 2 1 false), (Member.mk 0 0 false)])).1.members.nil) eMember ((firstC (Sl.mk false [(Member.mk 2 1 false), (Member.mk 0 0 false)])).1.members.D)] }) rfl rfl rfl rfl trivial rfl ?_)
        refine rvc_open rfl rfl rfl (rexec_call hP C rfl rfl rfl (headC_calls ((firstC (Sl.mk false [(Member.mk 2 1 false), (Member.mk 0 0 false)])).1) (of_decide_eq_true (by kernel_rfl))) ?_)
        refine rvc_open rfl rfl rfl (rexec_prim C (δ := { v := .pv (.lit (.bool ((headC ((firstC (Sl.mk false [(Member.mk 2 1 false), (Member.mk 0 0 false)])).1)) == 0))) }) rfl rfl rfl rfl trivial rfl ?_)
        refine rvc_un (rexec_prim C (δ := { v := .pv (.lit (.bool ((headC ((firstC (Sl.mk false [(Member.mk 2 1 false), (Member.mk 0 0 false)])).1)) == 0))) }) rfl rfl rfl rfl trivial rfl ?_)
        refine rvc_un (rexec_prim C (δ := { v := .pv (.lit (.bool ((headC ((firstC (Sl.mk false [(Member.mk 2 1 false), (Member.mk 0 0 false)])).1)) == 0))) }) rfl rfl rfl rfl trivial rfl ?_)
        refine rvc_case 40 ((headC ((firstC (Sl.mk false [(Member.mk 2 1 false), (Member.mk 0 0 false)])).1)) == 0) rfl (fun h4 => ?_) (fun h4 => ?_)
        ·
          replace hR := of_true h4 hR
          refine rvc_open rfl rfl rfl (rexec_prim C (δ := { v := .agg [.pv (.lit (.int .i64 ((join ((firstC (Sl.mk false [(Member.mk 2 1 false), (Member.mk 0 0 false)])).1) (Member.mk 1 0 false)).1.epoch))), sS (some (join ((firstC (Sl.mk false [(Member.mk 2 1 false), (Member.mk 0 0 false)])).1) (Member.mk 1 0 false)).1.members.nil) eMember ((join ((firstC (Sl.mk false [(Member.mk 2 1 false), (Member.mk 0 0 false)])).1) (Member.mk 1 0 false)).1.members.D)] }) rfl rfl rfl rfl trivial rfl ?_)
          refine rvc_open rfl rfl rfl (rexec_call hP C rfl rfl rfl (nextC_calls ((join ((firstC (Sl.mk false [(Member.mk 2 1 false), (Member.mk 0 0 false)])).1) (Member.mk 1 0 false)).1) 0 (of_decide_eq_true (by kernel_rfl))) ?_)
          refine rvc_open rfl rfl rfl (rexec_prim C (δ := { v := .pv (.lit (.bool ((nextC ((join ((firstC (Sl.mk false [(Member.mk 2 1 false), (Member.mk 0 0 false)])).1) (Member.mk 1 0 false)).1) 0) == 1))) }) rfl rfl rfl rfl trivial rfl ?_)
          refine rvc_un (rexec_prim C (δ := { v := .pv (.lit (.bool ((nextC ((join ((firstC (Sl.mk false [(Member.mk 2 1 false), (Member.mk 0 0 false)])).1) (Member.mk 1 0 false)).1) 0) == 1))) }) rfl rfl rfl rfl trivial rfl ?_)
          refine rvc_un (rexec_prim C (δ := { v := .pv (.lit (.bool ((nextC ((join ((firstC (Sl.mk false [(Member.mk 2 1 false), (Member.mk 0 0 false)])).1) (Member.mk 1 0 false)).1) 0) == 1))) }) rfl rfl rfl rfl trivial rfl ?_)
          refine rvc_case 45 ((nextC ((join ((firstC (Sl.mk false [(Member.mk 2 1 false), (Member.mk 0 0 false)])).1) (Member.mk 1 0 false)).1) 0) == 1) rfl (fun h5 => ?_) (fun h5 => ?_)
          ·
            replace hR := of_true h5 hR
            refine rvc_open rfl rfl rfl (rexec_prim C (δ := { v := .agg [.pv (.lit (.int .i64 ((join ((firstC (Sl.mk false [(Member.mk 2 1 false), (Member.mk 0 0 false)])).1) (Member.mk 1 0 false)).1.epoch))), sS (some (join ((firstC (Sl.mk false [(Member.mk 2 1 false), (Member.mk 0 0 false)])).1) (Member.mk 1 0 false)).1.members.nil) eMember ((join ((firstC (Sl.mk false [(Member.mk 2 1 false), (Member.mk 0 0 false)])).1) (Member.mk 1 0 false)).1.members.D)] }) rfl rfl rfl rfl trivial rfl ?_)
            refine rvc_open rfl rfl rfl (rexec_call hP C rfl rfl rfl (tailC_calls ((join ((firstC (Sl.mk false [(Member.mk 2 1 false), (Member.mk 0 0 false)])).1) (Member.mk 1 0 false)).1) (of_decide_eq_true (by kernel_rfl))) ?_)
            refine rvc_open rfl rfl rfl (rexec_prim C (δ := { v := .pv (.lit (.bool ((tailC ((join ((firstC (Sl.mk false [(Member.mk 2 1 false), (Member.mk 0 0 false)])).1) (Member.mk 1 0 false)).1)) == 2))) }) rfl rfl rfl rfl trivial rfl ?_)
            refine rvc_un (rexec_prim C (δ := { v := .pv (.lit (.bool ((tailC ((join ((firstC (Sl.mk false [(Member.mk 2 1 false), (Member.mk 0 0 false)])).1) (Member.mk 1 0 false)).1)) == 2))) }) rfl rfl rfl rfl trivial rfl ?_)
            refine rvc_un (rexec_prim C (δ := { v := .pv (.lit (.bool ((tailC ((join ((firstC (Sl.mk false [(Member.mk 2 1 false), (Member.mk 0 0 false)])).1) (Member.mk 1 0 false)).1)) == 2))) }) rfl rfl rfl rfl trivial rfl ?_)
            refine rvc_case 50 ((tailC ((join ((firstC (Sl.mk false [(Member.mk 2 1 false), (Member.mk 0 0 false)])).1) (Member.mk 1 0 false)).1)) == 2) rfl (fun h6 => ?_) (fun h6 => ?_)
            ·
              replace hR := of_true h6 hR
              refine rvc_open rfl rfl rfl (rexec_prim C (δ := { v := .agg [.pv (.lit (.int .i64 ((drop ((join ((firstC (Sl.mk false [(Member.mk 2 1 false), (Member.mk 0 0 false)])).1) (Member.mk 1 0 false)).1) 0).1.epoch))), sS (some (drop ((join ((firstC (Sl.mk false [(Member.mk 2 1 false), (Member.mk 0 0 false)])).1) (Member.mk 1 0 false)).1) 0).1.members.nil) eMember ((drop ((join ((firstC (Sl.mk false [(Member.mk 2 1 false), (Member.mk 0 0 false)])).1) (Member.mk 1 0 false)).1) 0).1.members.D)] }) rfl rfl rfl rfl trivial rfl ?_)
              refine rvc_open rfl rfl rfl (rexec_prim C (δ := { v := .agg [.pv (.lit (.int .i64 2)), .pv (.lit (.int .i64 1)), .pv (.lit (.bool false))] }) rfl rfl rfl rfl trivial rfl ?_)
              refine rvc_open rfl rfl rfl (rexec_buildSliceF C eMember [(Member.mk 2 1 false)] rfl rfl rfl rfl rfl rfl rfl (by decide) rfl ?_)
              refine rvc_open rfl rfl rfl (rexec_prim C (δ := { v := .agg [.pv (.lit (.int .i64 3)), sS (some false) eMember [(Member.mk 2 1 false)]] }) rfl rfl rfl rfl trivial rfl ?_)
              refine rvc_open rfl rfl rfl (rexec_call hP C rfl rfl rfl (same_calls ((drop ((join ((firstC (Sl.mk false [(Member.mk 2 1 false), (Member.mk 0 0 false)])).1) (Member.mk 1 0 false)).1) 0).1) (Chain.mk 3 (Sl.mk false [(Member.mk 2 1 false)])) (of_decide_eq_true (by kernel_rfl))) ?_)
              refine rvc_un (rexec_prim C (δ := { v := .pv (.lit (.bool (same ((drop ((join ((firstC (Sl.mk false [(Member.mk 2 1 false), (Member.mk 0 0 false)])).1) (Member.mk 1 0 false)).1) 0).1) (Chain.mk 3 (Sl.mk false [(Member.mk 2 1 false)]))))) }) rfl rfl rfl rfl trivial rfl ?_)
              refine rvc_un (rexec_prim C (δ := { v := .pv (.lit (.bool (same ((drop ((join ((firstC (Sl.mk false [(Member.mk 2 1 false), (Member.mk 0 0 false)])).1) (Member.mk 1 0 false)).1) 0).1) (Chain.mk 3 (Sl.mk false [(Member.mk 2 1 false)]))))) }) rfl rfl rfl rfl trivial rfl ?_)
              refine rvc_nil ?_
              refine Awp.ret ?_
              subst hR
              exact ⟨.inl rfl, rfl⟩
            ·
              replace hR := of_false h6 hR
              refine rvc_shut rfl rfl rfl rfl ?_
              refine rvc_shut rfl rfl rfl rfl ?_
              refine rvc_shut rfl rfl rfl rfl ?_
              refine rvc_shut rfl rfl rfl rfl ?_
              refine rvc_shut rfl rfl rfl rfl ?_
              refine rvc_un (rexec_prim C (δ := { v := .pv (.lit (.bool false)) }) rfl rfl rfl rfl trivial rfl ?_)
              refine rvc_un (rexec_prim C (δ := { v := .pv (.lit (.bool false)) }) rfl rfl rfl rfl trivial rfl ?_)
              refine rvc_nil ?_
              refine Awp.ret ?_
              subst hR
              exact ⟨.inl rfl, rfl⟩
          ·
            replace hR := of_false h5 hR
            refine rvc_shut rfl rfl rfl rfl ?_
            refine rvc_shut rfl rfl rfl rfl ?_
            refine rvc_shut rfl rfl rfl rfl ?_
            refine rvc_un (rexec_prim C (δ := { v := .pv (.lit (.bool false)) }) rfl rfl rfl rfl trivial rfl ?_)
            refine rvc_un (rexec_prim C (δ := { v := .pv (.lit (.bool false)) }) rfl rfl rfl rfl trivial rfl ?_)
            refine rvc_shut rfl rfl rfl rfl ?_
            refine rvc_shut rfl rfl rfl rfl ?_
            refine rvc_shut rfl rfl rfl rfl ?_
            refine rvc_shut rfl rfl rfl rfl ?_
            refine rvc_shut rfl rfl rfl rfl ?_
            refine rvc_un (rexec_prim C (δ := { v := .pv (.lit (.bool false)) }) rfl rfl rfl rfl trivial rfl ?_)
            refine rvc_un (rexec_prim C (δ := { v := .pv (.lit (.bool false)) }) rfl rfl rfl rfl trivial rfl ?_)
            refine rvc_nil ?_
            refine Awp.ret ?_
            subst hR
            exact ⟨.inl rfl, rfl⟩
        ·
          replace hR := of_false h4 hR
          refine rvc_shut rfl rfl rfl rfl ?_
          refine rvc_shut rfl rfl rfl rfl ?_
          refine rvc_shut rfl rfl rfl rfl ?_
          refine rvc_un (rexec_prim C (δ := { v := .pv (.lit (.bool false)) }) rfl rfl rfl rfl trivial rfl ?_)
          refine rvc_un (rexec_prim C (δ := { v := .pv (.lit (.bool false)) }) rfl rfl rfl rfl trivial rfl ?_)
          refine rvc_shut rfl rfl rfl rfl ?_
          refine rvc_shut rfl rfl rfl rfl ?_
          refine rvc_shut rfl rfl rfl rfl ?_
          refine rvc_un (rexec_prim C (δ := { v := .pv (.lit (.bool false)) }) rfl rfl rfl rfl trivial rfl ?_)
          refine rvc_un (rexec_prim C (δ := { v := .pv (.lit (.bool false)) }) rfl rfl rfl rfl trivial rfl ?_)
          refine rvc_shut rfl rfl rfl rfl ?_
          refine rvc_shut rfl rfl rfl rfl ?_
          refine rvc_shut rfl rfl rfl rfl ?_
          refine rvc_shut rfl rfl rfl rfl ?_
          refine rvc_shut rfl rfl rfl rfl ?_
          refine rvc_un (rexec_prim C (δ := { v := .pv (.lit (.bool false)) }) rfl rfl rfl rfl trivial rfl ?_)
          refine rvc_un (rexec_prim C (δ := { v := .pv (.lit (.bool false)) }) rfl rfl rfl rfl trivial rfl ?_)
          refine rvc_nil ?_
          refine Awp.ret ?_
          subst hR
          exact ⟨.inl rfl, rfl⟩
      ·
        replace hR := of_false h3 hR
        refine rvc_shut rfl rfl rfl rfl ?_
        refine rvc_shut rfl rfl rfl rfl ?_
        refine rvc_shut rfl rfl rfl rfl ?_
        refine rvc_un (rexec_prim C (δ := { v := .pv (.lit (.bool false)) }) rfl rfl rfl rfl trivial rfl ?_)
        refine rvc_un (rexec_prim C (δ := { v := .pv (.lit (.bool false)) }) rfl rfl rfl rfl trivial rfl ?_)
        refine rvc_shut rfl rfl rfl rfl ?_
        refine rvc_shut rfl rfl rfl rfl ?_
        refine rvc_shut rfl rfl rfl rfl ?_
        refine rvc_un (rexec_prim C (δ := { v := .pv (.lit (.bool false)) }) rfl rfl rfl rfl trivial rfl ?_)
        refine rvc_un (rexec_prim C (δ := { v := .pv (.lit (.bool false)) }) rfl rfl rfl rfl trivial rfl ?_)
        refine rvc_shut rfl rfl rfl rfl ?_
        refine rvc_shut rfl rfl rfl rfl ?_
        refine rvc_shut rfl rfl rfl rfl ?_
        refine rvc_un (rexec_prim C (δ := { v := .pv (.lit (.bool false)) }) rfl rfl rfl rfl trivial rfl ?_)
        refine rvc_un (rexec_prim C (δ := { v := .pv (.lit (.bool false)) }) rfl rfl rfl rfl trivial rfl ?_)
        refine rvc_shut rfl rfl rfl rfl ?_
        refine rvc_shut rfl rfl rfl rfl ?_
        refine rvc_shut rfl rfl rfl rfl ?_
        refine rvc_shut rfl rfl rfl rfl ?_
        refine rvc_shut rfl rfl rfl rfl ?_
        refine rvc_un (rexec_prim C (δ := { v := .pv (.lit (.bool false)) }) rfl rfl rfl rfl trivial rfl ?_)
        refine rvc_un (rexec_prim C (δ := { v := .pv (.lit (.bool false)) }) rfl rfl rfl rfl trivial rfl ?_)
        refine rvc_nil ?_
        refine Awp.ret ?_
        subst hR
        exact ⟨.inl rfl, rfl⟩
    ·
      replace hR := of_false h2 hR
      refine rvc_shut rfl rfl rfl rfl ?_
      refine rvc_shut rfl rfl rfl rfl ?_
      refine rvc_un (rexec_prim C (δ := { v := .pv (.lit (.bool false)) }) rfl rfl rfl rfl trivial rfl ?_)
      refine rvc_un (rexec_prim C (δ := { v := .pv (.lit (.bool false)) }) rfl rfl rfl rfl trivial rfl ?_)
      refine rvc_shut rfl rfl rfl rfl ?_
      refine rvc_shut rfl rfl rfl rfl ?_
      refine rvc_shut rfl rfl rfl rfl ?_
      refine rvc_un (rexec_prim C (δ := { v := .pv (.lit (.bool false)) }) rfl rfl rfl rfl trivial rfl ?_)
      refine rvc_un (rexec_prim C (δ := { v := .pv (.lit (.bool false)) }) rfl rfl rfl rfl trivial rfl ?_)
      refine rvc_shut rfl rfl rfl rfl ?_
      refine rvc_shut rfl rfl rfl rfl ?_
      refine rvc_shut rfl rfl rfl rfl ?_
      refine rvc_un (rexec_prim C (δ := { v := .pv (.lit (.bool false)) }) rfl rfl rfl rfl trivial rfl ?_)
      refine rvc_un (rexec_prim C (δ := { v := .pv (.lit (.bool false)) }) rfl rfl rfl rfl trivial rfl ?_)
      refine rvc_shut rfl rfl rfl rfl ?_
      refine rvc_shut rfl rfl rfl rfl ?_
      refine rvc_shut rfl rfl rfl rfl ?_
      refine rvc_un (rexec_prim C (δ := { v := .pv (.lit (.bool false)) }) rfl rfl rfl rfl trivial rfl ?_)
      refine rvc_un (rexec_prim C (δ := { v := .pv (.lit (.bool false)) }) rfl rfl rfl rfl trivial rfl ?_)
      refine rvc_shut rfl rfl rfl rfl ?_
      refine rvc_shut rfl rfl rfl rfl ?_
      refine rvc_shut rfl rfl rfl rfl ?_
      refine rvc_shut rfl rfl rfl rfl ?_
      refine rvc_shut rfl rfl rfl rfl ?_
      refine rvc_un (rexec_prim C (δ := { v := .pv (.lit (.bool false)) }) rfl rfl rfl rfl trivial rfl ?_)
      refine rvc_un (rexec_prim C (δ := { v := .pv (.lit (.bool false)) }) rfl rfl rfl rfl trivial rfl ?_)
      refine rvc_nil ?_
      refine Awp.ret ?_
      subst hR
      exact ⟨.inl rfl, rfl⟩
  ·
    replace hR := of_false h1 hR
    refine rvc_shut rfl rfl rfl rfl ?_
    refine rvc_shut rfl rfl rfl rfl ?_
    refine rvc_un (rexec_prim C (δ := { v := .pv (.lit (.bool false)) }) rfl rfl rfl rfl trivial rfl ?_)
    refine rvc_un (rexec_prim C (δ := { v := .pv (.lit (.bool false)) }) rfl rfl rfl rfl trivial rfl ?_)
    refine rvc_shut rfl rfl rfl rfl ?_
    refine rvc_shut rfl rfl rfl rfl ?_
    refine rvc_un (rexec_prim C (δ := { v := .pv (.lit (.bool false)) }) rfl rfl rfl rfl trivial rfl ?_)
    refine rvc_un (rexec_prim C (δ := { v := .pv (.lit (.bool false)) }) rfl rfl rfl rfl trivial rfl ?_)
    refine rvc_shut rfl rfl rfl rfl ?_
    refine rvc_shut rfl rfl rfl rfl ?_
    refine rvc_shut rfl rfl rfl rfl ?_
    refine rvc_un (rexec_prim C (δ := { v := .pv (.lit (.bool false)) }) rfl rfl rfl rfl trivial rfl ?_)
    refine rvc_un (rexec_prim C (δ := { v := .pv (.lit (.bool false)) }) rfl rfl rfl rfl trivial rfl ?_)
    refine rvc_shut rfl rfl rfl rfl ?_
    refine rvc_shut rfl rfl rfl rfl ?_
    refine rvc_shut rfl rfl rfl rfl ?_
    refine rvc_un (rexec_prim C (δ := { v := .pv (.lit (.bool false)) }) rfl rfl rfl rfl trivial rfl ?_)
    refine rvc_un (rexec_prim C (δ := { v := .pv (.lit (.bool false)) }) rfl rfl rfl rfl trivial rfl ?_)
    refine rvc_shut rfl rfl rfl rfl ?_
    refine rvc_shut rfl rfl rfl rfl ?_
    refine rvc_shut rfl rfl rfl rfl ?_
    refine rvc_un (rexec_prim C (δ := { v := .pv (.lit (.bool false)) }) rfl rfl rfl rfl trivial rfl ?_)
    refine rvc_un (rexec_prim C (δ := { v := .pv (.lit (.bool false)) }) rfl rfl rfl rfl trivial rfl ?_)
    refine rvc_shut rfl rfl rfl rfl ?_
    refine rvc_shut rfl rfl rfl rfl ?_
    refine rvc_shut rfl rfl rfl rfl ?_
    refine rvc_shut rfl rfl rfl rfl ?_
    refine rvc_shut rfl rfl rfl rfl ?_
    refine rvc_un (rexec_prim C (δ := { v := .pv (.lit (.bool false)) }) rfl rfl rfl rfl trivial rfl ?_)
    refine rvc_un (rexec_prim C (δ := { v := .pv (.lit (.bool false)) }) rfl rfl rfl rfl trivial rfl ?_)
    refine rvc_nil ?_
    refine Awp.ret ?_
    subst hR
    exact ⟨.inl rfl, rfl⟩

def lawChecks (c : Chain) (d : Chain) : Bool :=
  (bif (decide ((IntKind.i64.wrap ((c.members.D.length : Int) + (d.members.D.length : Int))) > 60)) then (awake ) else (bif ((check c) == (rCheck c)) then (bif ((same c d) == (rSame c d)) then (bif (same c c) then (awake ) else false) else false) else false))
theorem lawChecks_calls (c : Chain) (d : Chain) (hl1 : c.members.D.length ≤ 9223372036854775807) : PCalls Try.prog 3 [.agg [.pv (.lit (.int .i64 c.epoch)), sS (some c.members.nil) eMember c.members.D], .agg [.pv (.lit (.int .i64 d.epoch)), sS (some d.members.nil) eMember d.members.D]] (.pv (.lit (.bool (lawChecks c d)))) := by
  generalize hR : lawChecks c d = R
  refine PCalls.of_body tabOk Try.func3 rfl rfl rfl rfl rfl mixed fun E hP C hI => ?_
  refine Awp.cons C (fun _ => .pure) (by kernel_rfl) ?_
  refine rvc_un (rexec_prim C (δ := { v := .ptr 2 0, new := [(2, .cells [.pv (.lit (.int .i64 c.epoch)), sS (some c.members.nil) eMember c.members.D])] }) rfl rfl rfl rfl trivial rfl ?_)
  refine rvc_un (rexec_prim C (δ := { v := .ptr 3 0, new := [(3, .cells [.pv (.lit (.int .i64 d.epoch)), sS (some d.members.nil) eMember d.members.D])] }) rfl rfl rfl rfl trivial rfl ?_)
  refine rvc_un (rexec_prim C (δ := { v := .pv (.lit (.bool false)) }) rfl rfl rfl rfl trivial rfl ?_)
  refine rvc_nil ?_
  refine Awp.seq ?_
  refine Awp.cons C (fun _ => .pure) (by kernel_rfl) ?_
  refine rvc_un (rexec_prim C (δ := { v := .ptr 2 1 }) rfl rfl rfl rfl trivial rfl ?_)
  refine rvc_un (rexec_prim C (δ := { v := sS (some c.members.nil) eMember c.members.D }) rfl rfl rfl rfl trivial rfl ?_)
  refine rvc_un (rexec_prim C (δ := { v := .pv (.lit (.int .i64 (c.members.D.length : Int))) }) rfl rfl rfl rfl trivial rfl ?_)
  refine rvc_un (rexec_prim C (δ := { v := .ptr 3 1 }) rfl rfl rfl rfl trivial rfl ?_)
  refine rvc_un (rexec_prim C (δ := { v := sS (some d.members.nil) eMember d.members.D }) rfl rfl rfl rfl trivial rfl ?_)
  refine rvc_un (rexec_prim C (δ := { v := .pv (.lit (.int .i64 (d.members.D.length : Int))) }) rfl rfl rfl rfl trivial rfl ?_)
  refine rvc_un (rexec_prim C (δ := { v := .pv (.lit (.int .i64 (IntKind.i64.wrap ((c.members.D.length : Int) + (d.members.D.length : Int))))) }) rfl rfl rfl rfl trivial rfl ?_)
  refine rvc_un (rexec_prim C (δ := { v := .pv (.lit (.bool (decide ((IntKind.i64.wrap ((c.members.D.length : Int) + (d.members.D.length : Int))) > 60)))) }) rfl rfl rfl rfl trivial rfl ?_)
  refine rvc_nil ?_
  refine Awp.cond (b := (decide ((IntKind.i64.wrap ((c.members.D.length : Int) + (d.members.D.length : Int))) > 60))) rfl (fun h1 => ?_) (fun h1 => ?_)
  ·
    replace hR := of_true h1 hR
    refine Awp.cons C (fun _ => .pure) (by kernel_rfl) ?_
    refine rvc_un (rexec_call hP C rfl rfl rfl (awake_calls ) ?_)
    refine rvc_un (rexec_prim C (δ := { v := .pv (.lit (.bool (awake ))) }) rfl rfl rfl rfl trivial rfl ?_)
    refine rvc_nil ?_
    refine Awp.ret ?_
    subst hR
    exact ⟨.inl rfl, rfl⟩
  ·
    replace hR := of_false h1 hR
    refine Awp.skip ?_
    refine Awp.cons C (fun _ => .pure) (by kernel_rfl) ?_
    refine rvc_un (rexec_prim C (δ := { v := .agg [.pv (.lit (.int .i64 c.epoch)), sS (some c.members.nil) eMember c.members.D] }) rfl rfl rfl rfl trivial rfl ?_)
    refine rvc_un (rexec_call hP C rfl rfl rfl (check_calls c hl1) ?_)
    refine rvc_un (rexec_prim C (δ := { v := .agg [.pv (.lit (.int .i64 c.epoch)), sS (some c.members.nil) eMember c.members.D] }) rfl rfl rfl rfl trivial rfl ?_)
    refine rvc_un (rexec_call hP C rfl rfl rfl (rCheck_calls c hl1) ?_)
    refine rvc_un (rexec_prim C (δ := { v := .pv (.lit (.bool ((check c) == (rCheck c)))) }) rfl rfl rfl rfl trivial rfl ?_)
    refine rvc_un (rexec_prim C (δ := { v := .pv (.lit (.bool ((check c) == (rCheck c)))) }) rfl rfl rfl rfl trivial rfl ?_)
    refine rvc_case 19 ((check c) == (rCheck c)) rfl (fun h2 => ?_) (fun h2 => ?_)
    ·
      replace hR := of_true h2 hR
      refine rvc_open rfl rfl rfl (rexec_prim C (δ := { v := .agg [.pv (.lit (.int .i64 c.epoch)), sS (some c.members.nil) eMember c.members.D] }) rfl rfl rfl rfl trivial rfl ?_)
      refine rvc_open rfl rfl rfl (rexec_prim C (δ := { v := .agg [.pv (.lit (.int .i64 d.epoch)), sS (some d.members.nil) eMember d.members.D] }) rfl rfl rfl rfl trivial rfl ?_)
      refine rvc_open rfl rfl rfl (rexec_call hP C rfl rfl rfl (same_calls c d hl1) ?_)
      refine rvc_open rfl rfl rfl (rexec_prim C (δ := { v := .agg [.pv (.lit (.int .i64 c.epoch)), sS (some c.members.nil) eMember c.members.D] }) rfl rfl rfl rfl trivial rfl ?_)
      refine rvc_open rfl rfl rfl (rexec_prim C (δ := { v := .agg [.pv (.lit (.int .i64 d.epoch)), sS (some d.members.nil) eMember d.members.D] }) rfl rfl rfl rfl trivial rfl ?_)
      refine rvc_open rfl rfl rfl (rexec_call hP C rfl rfl rfl (rSame_calls c d hl1) ?_)
      refine rvc_open rfl rfl rfl (rexec_prim C (δ := { v := .pv (.lit (.bool ((same c d) == (rSame c d)))) }) rfl rfl rfl rfl trivial rfl ?_)
      refine rvc_un (rexec_prim C (δ := { v := .pv (.lit (.bool ((same c d) == (rSame c d)))) }) rfl rfl rfl rfl trivial rfl ?_)
      refine rvc_un (rexec_prim C (δ := { v := .pv (.lit (.bool ((same c d) == (rSame c d)))) }) rfl rfl rfl rfl trivial rfl ?_)
      refine rvc_case 28 ((same c d) == (rSame c d)) rfl (fun h3 => ?_) (fun h3 => ?_)
      ·
        replace hR := of_true h3 hR
        refine rvc_open rfl rfl rfl (rexec_prim C (δ := { v := .agg [.pv (.lit (.int .i64 c.epoch)), sS (some c.members.nil) eMember c.members.D] }) rfl rfl rfl rfl trivial rfl ?_)
        refine rvc_open rfl rfl rfl (rexec_prim C (δ := { v := .agg [.pv (.lit (.int .i64 c.epoch)), sS (some c.members.nil) eMember c.members.D] }) rfl rfl rfl rfl trivial rfl ?_)
        refine rvc_open rfl rfl rfl (rexec_call hP C rfl rfl rfl (same_calls c c hl1) ?_)
        refine rvc_un (rexec_prim C (δ := { v := .pv (.lit (.bool (same c c))) }) rfl rfl rfl rfl trivial rfl ?_)
        refine rvc_un (rexec_prim C (δ := { v := .pv (.lit (.bool (same c c))) }) rfl rfl rfl rfl trivial rfl ?_)
        refine rvc_case 33 (same c c) rfl (fun h4 => ?_) (fun h4 => ?_)
        ·
          replace hR := of_true h4 hR
          refine rvc_open rfl rfl rfl (rexec_call hP C rfl rfl rfl (awake_calls ) ?_)
          refine rvc_un (rexec_prim C (δ := { v := .pv (.lit (.bool (awake ))) }) rfl rfl rfl rfl trivial rfl ?_)
          refine rvc_un (rexec_prim C (δ := { v := .pv (.lit (.bool (awake ))) }) rfl rfl rfl rfl trivial rfl ?_)
          refine rvc_nil ?_
          refine Awp.ret ?_
          subst hR
          exact ⟨.inl rfl, rfl⟩
        ·
          replace hR := of_false h4 hR
          refine rvc_shut rfl rfl rfl rfl ?_
          refine rvc_un (rexec_prim C (δ := { v := .pv (.lit (.bool false)) }) rfl rfl rfl rfl trivial rfl ?_)
          refine rvc_un (rexec_prim C (δ := { v := .pv (.lit (.bool false)) }) rfl rfl rfl rfl trivial rfl ?_)
          refine rvc_nil ?_
          refine Awp.ret ?_
          subst hR
          exact ⟨.inl rfl, rfl⟩
      ·
        replace hR := of_false h3 hR
        refine rvc_shut rfl rfl rfl rfl ?_
        refine rvc_shut rfl rfl rfl rfl ?_
        refine rvc_shut rfl rfl rfl rfl ?_
        refine rvc_un (rexec_prim C (δ := { v := .pv (.lit (.bool false)) }) rfl rfl rfl rfl trivial rfl ?_)
        refine rvc_un (rexec_prim C (δ := { v := .pv (.lit (.bool false)) }) rfl rfl rfl rfl trivial rfl ?_)
        refine rvc_shut rfl rfl rfl rfl ?_
        refine rvc_un (rexec_prim C (δ := { v := .pv (.lit (.bool false)) }) rfl rfl rfl rfl trivial rfl ?_)
        refine rvc_un (rexec_prim C (δ := { v := .pv (.lit (.bool false)) }) rfl rfl rfl rfl trivial rfl ?_)
        refine rvc_nil ?_
        refine Awp.ret ?_
        subst hR
        exact ⟨.inl rfl, rfl⟩
    ·
      replace hR := of_false h2 hR
      refine rvc_shut rfl rfl rfl rfl ?_
      refine rvc_shut rfl rfl rfl rfl ?_
      refine rvc_shut rfl rfl rfl rfl ?_
      refine rvc_shut rfl rfl rfl rfl ?_
      refine rvc_shut rfl rfl rfl rfl ?_
      refine rvc_shut rfl rfl rfl rfl ?_
      refine rvc_shut rfl rfl rfl rfl ?_
      refine rvc_un (rexec_prim C (δ := { v := .pv (.lit (.bool false)) }) rfl rfl rfl rfl trivial rfl ?_)
      refine rvc_un (rexec_prim C (δ := { v := .pv (.lit (.bool false)) }) rfl rfl rfl rfl trivial rfl ?_)
      refine rvc_shut rfl rfl rfl rfl ?_
      refine rvc_shut rfl rfl rfl rfl ?_
      refine rvc_shut rfl rfl rfl rfl ?_
      refine rvc_un (rexec_prim C (δ := { v := .pv (.lit (.bool false)) }) rfl rfl rfl rfl trivial rfl ?_)
      refine rvc_un (rexec_prim C (δ := { v := .pv (.lit (.bool false)) }) rfl rfl rfl rfl trivial rfl ?_)
      refine rvc_shut rfl rfl rfl rfl ?_
      refine rvc_un (rexec_prim C (δ := { v := .pv (.lit (.bool false)) }) rfl rfl rfl rfl trivial rfl ?_)
      refine rvc_un (rexec_prim C (δ := { v := .pv (.lit (.bool false)) }) rfl rfl rfl rfl trivial rfl ?_)
      refine rvc_nil ?_
      refine Awp.ret ?_
      subst hR
      exact ⟨.inl rfl, rfl⟩

end Go.Proofs.Ytjhphpoihadmkaa

/- The laws of chapter 8, as far as plain Lean goes: each model answers true. No conditions. -/
namespace Go.Proofs.Ytjhphpoihadmkaa
open Go.Am
theorem awake_true : awake = true := by kernel_rfl
theorem lawChecks_true (c d : Chain) : lawChecks c d = true := by
  unfold lawChecks
  rw [awake_true, check_eq, same_eq, same_self]
  simp
end Go.Proofs.Ytjhphpoihadmkaa

/- Places and sets by the document. No conditions. -/
namespace Go.Proofs.Ytjhphpoihadmkaa
open Go.Am
def rEnd (c : Chain) (which : Int) : Int :=
  (bif ((rCheck c) != 0) then (-1) else c.members.D[(IntKind.i64.wrap (which * (IntKind.i64.wrap ((c.members.D.length : Int) - 1)))).toNat]!.node)
theorem rEnd_calls (c : Chain) (which : Int) (hwh : which = 0 ∨ which = 1) (hl1 : c.members.D.length ≤ 9223372036854775807) : PCalls Try.prog 21 [.agg [.pv (.lit (.int .i64 c.epoch)), sS (some c.members.nil) eMember c.members.D], .pv (.lit (.int .i64 which))] (.pv (.lit (.int .i64 (rEnd c which)))) := by
  generalize hR : rEnd c which = R
  refine PCalls.of_body tabOk Try.func21 rfl rfl rfl rfl rfl mixed fun E hP C hI => ?_
  refine Awp.cons C (fun _ => .pure) (by kernel_rfl) ?_
  refine rvc_un (rexec_prim C (δ := { v := .ptr 2 0, new := [(2, .cells [.pv (.lit (.int .i64 c.epoch)), sS (some c.members.nil) eMember c.members.D])] }) rfl rfl rfl rfl trivial rfl ?_)
  refine rvc_un (rexec_prim C (δ := { v := .pv (.lit (.int .i64 0)) }) rfl rfl rfl rfl trivial rfl ?_)
  refine rvc_nil ?_
  refine Awp.seq ?_
  refine Awp.cons C (fun _ => .pure) (by kernel_rfl) ?_
  refine rvc_un (rexec_prim C (δ := { v := .agg [.pv (.lit (.int .i64 c.epoch)), sS (some c.members.nil) eMember c.members.D] }) rfl rfl rfl rfl trivial rfl ?_)
  refine rvc_un (rexec_call hP C rfl rfl rfl (rCheck_calls c hl1) ?_)
  refine rvc_un (rexec_prim C (δ := { v := .pv (.lit (.bool ((rCheck c) != 0))) }) rfl rfl rfl rfl trivial rfl ?_)
  refine rvc_nil ?_
  refine Awp.cond (b := ((rCheck c) != 0)) rfl (fun h1 => ?_) (fun h1 => ?_)
  ·
    replace hR := of_true h1 hR
    refine Awp.cons C (fun _ => .pure) (by kernel_rfl) ?_
    refine rvc_un (rexec_prim C (δ := { v := .pv (.lit (.int .i64 (-1))) }) rfl rfl rfl rfl trivial rfl ?_)
    refine rvc_nil ?_
    refine Awp.ret ?_
    subst hR
    exact ⟨.inl rfl, rfl⟩
  ·
    replace hR := of_false h1 hR
    refine Awp.skip ?_
    refine Awp.cons C (fun _ => .pure) (by kernel_rfl) ?_
    refine rvc_un (rexec_prim C (δ := { v := .ptr 2 1 }) rfl rfl rfl rfl trivial rfl ?_)
    refine rvc_un (rexec_prim C (δ := { v := sS (some c.members.nil) eMember c.members.D }) rfl rfl rfl rfl trivial rfl ?_)
    refine rvc_un (rexec_prim C (δ := { v := .pv (.lit (.int .i64 which)) }) rfl rfl rfl rfl trivial rfl ?_)
    refine rvc_un (rexec_prim C (δ := { v := .ptr 2 1 }) rfl rfl rfl rfl trivial rfl ?_)
    refine rvc_un (rexec_prim C (δ := { v := sS (some c.members.nil) eMember c.members.D }) rfl rfl rfl rfl trivial rfl ?_)
    refine rvc_un (rexec_prim C (δ := { v := .pv (.lit (.int .i64 (c.members.D.length : Int))) }) rfl rfl rfl rfl trivial rfl ?_)
    refine rvc_un (rexec_prim C (δ := { v := .pv (.lit (.int .i64 (IntKind.i64.wrap ((c.members.D.length : Int) - 1)))) }) rfl rfl rfl rfl trivial rfl ?_)
    refine rvc_un (rexec_prim C (δ := { v := .pv (.lit (.int .i64 (IntKind.i64.wrap (which * (IntKind.i64.wrap ((c.members.D.length : Int) - 1)))))) }) rfl rfl rfl rfl trivial rfl ?_)
    have h2 : c.members.D[(IntKind.i64.wrap (which * (IntKind.i64.wrap ((c.members.D.length : Int) - 1)))).toNat]? = some c.members.D[(IntKind.i64.wrap (which * (IntKind.i64.wrap ((c.members.D.length : Int) - 1)))).toNat]! := getE (by have h0 := check_r (eq_of_bne_false h1); have h2 := wrapI ((c.members.D.length : Int) - 1); have h3 := wrapI 0; rcases hwh with h | h <;> rw [h] <;> simp only [Int.zero_mul, Int.one_mul] <;> (try rw [h2 (by omega)]) <;> (try rw [h2 (by omega)]) <;> omega)
    refine rvc_un (rexec_idxS C rfl rfl rfl rfl rfl rfl (c.members.D[(IntKind.i64.wrap (which * (IntKind.i64.wrap ((c.members.D.length : Int) - 1)))).toNat]!) (by have h0 := check_r (eq_of_bne_false h1); have h2 := wrapI ((c.members.D.length : Int) - 1); have h3 := wrapI 0; rcases hwh with h | h <;> rw [h] <;> simp only [Int.zero_mul, Int.one_mul] <;> (try rw [h2 (by omega)]) <;> (try rw [h2 (by omega)]) <;> omega) h2 ?_)
    refine rvc_un (rexec_prim C (δ := { v := .rp [.lit (.int .i64 (c.members.D[(IntKind.i64.wrap (which * (IntKind.i64.wrap ((c.members.D.length : Int) - 1)))).toNat]!.node))] }) rfl rfl rfl rfl trivial rfl ?_)
    refine rvc_un (rexec_prim C (δ := { v := .pv (.lit (.int .i64 (c.members.D[(IntKind.i64.wrap (which * (IntKind.i64.wrap ((c.members.D.length : Int) - 1)))).toNat]!.node))) }) rfl rfl rfl rfl trivial rfl ?_)
    refine rvc_un (rexec_prim C (δ := { v := .pv (.lit (.int .i64 (c.members.D[(IntKind.i64.wrap (which * (IntKind.i64.wrap ((c.members.D.length : Int) - 1)))).toNat]!.node))) }) rfl rfl rfl rfl trivial rfl ?_)
    refine rvc_nil ?_
    refine Awp.ret ?_
    subst hR
    exact ⟨.inl rfl, rfl⟩

def rSet_l2 (kk : Int → Int) : Nat → Nat → Int → Int
  | 0, _, p => kk p
  | k1 + 1, i2, p => rSet_l2 kk k1 (i2 + 1) (IntKind.u64.wrap (2 * p))
def rSet_l1 (whole : Bool) (i : Nat) (kk : Bool → Int) : List Member → Nat → Bool → Int
  | [], _, has => kk has
  | x :: xs, i1, has => (bif has then rSet_l1 whole i kk xs (i1 + 1) true else (bif (x.node == (i : Int)) then (bif whole then rSet_l1 whole i kk xs (i1 + 1) (!x.fresh) else rSet_l1 whole i kk xs (i1 + 1) true) else rSet_l1 whole i kk xs (i1 + 1) false))
def rSet_l0 (c : Chain) (whole : Bool) : Nat → Nat → Int → Int
  | 0, _, w => w
  | k + 1, i, w => rSet_l1 whole i (fun has => (bif has then rSet_l2 (fun p => rSet_l0 c whole k (i + 1) (IntKind.u64.wrap (w + p))) (i : Int).toNat 0 1 else rSet_l0 c whole k (i + 1) w)) c.members.D 0 false
def rSet (c : Chain) (whole : Bool) : Int :=
  rSet_l0 c whole 64 0 0
theorem rSet_calls (c : Chain) (whole : Bool) (hl1 : c.members.D.length ≤ 1000000) : PCalls Try.prog 24 [.agg [.pv (.lit (.int .i64 c.epoch)), sS (some c.members.nil) eMember c.members.D], .pv (.lit (.bool whole))] (.pv (.lit (.int .u64 (rSet c whole)))) := by
  generalize hR : rSet c whole = R
  refine PCalls.of_body tabOk Try.func24 rfl rfl rfl rfl rfl mixed fun E hP C hI => ?_
  refine Awp.cons C (fun _ => .pure) (by kernel_rfl) ?_
  refine rvc_un (rexec_prim C (δ := { v := .ptr 2 0, new := [(2, .cells [.pv (.lit (.int .i64 c.epoch)), sS (some c.members.nil) eMember c.members.D])] }) rfl rfl rfl rfl trivial rfl ?_)
  refine rvc_un (rexec_prim C (δ := { v := .pv (.lit (.int .u64 0)) }) rfl rfl rfl rfl trivial rfl ?_)
  refine rvc_nil ?_
  refine Awp.cons C (fun _ => .pure) (by kernel_rfl) ?_
  refine rvc_un (rexec_prim C (δ := { v := .pv (.lit (.int .u64 0)) }) rfl rfl rfl rfl trivial rfl ?_)
  refine rvc_nil ?_
  refine Awp.seq ?_
  refine Awp.cons C (fun _ => .pure) (by kernel_rfl) ?_
  refine rvc_un (rexec_prim C (δ := { v := .pv (.lit (.int .i64 0)) }) rfl rfl rfl rfl trivial rfl ?_)
  refine rvc_nil ?_
  refine Awp.block ?_
  refine Awp.forR (σ := Int) (64) (fun i v => [(1, .pv (.lit (.bool whole))), (2, .ptr 2 0), (5, .pv (.lit (.int .u64 v))), (11, .pv (.lit (.int .i64 (i : Int))))]) (fun i v => [(2, .cells [.pv (.lit (.int .i64 c.epoch)), sS (some c.members.nil) eMember c.members.D])]) [2] (fun i v => rSet_l0 c whole (64 - i) i v = R) 0 ?_ ?_ (fun i w h1 hR => ?_)
  · exact hR
  · exact ⟨fun b => b, WeakerR.ofL (Ks := [2]) hI ⟨⟨rfl, rfl⟩, ⟨rfl, rfl⟩, ⟨rfl, rfl⟩, ⟨rfl, rfl⟩, trivial⟩ (okH_cons rfl rfl rfl rfl (okH_nil)) rfl⟩
  refine Awp.cons C (fun _ => .pure) (by kernel_rfl) ?_
  refine rvc_un (rexec_prim C (δ := { v := .pv (.lit (.bool (decide ((i : Int) < 64)))) }) rfl rfl rfl rfl trivial rfl ?_)
  refine rvc_nil ?_
  refine Awp.seq ?_
  refine Awp.cond (b := (decide ((i : Int) < 64))) rfl (fun h2 => ?_) (fun h2 => ?_)
  ·
    have h3 : i < 64 := by have := of_decide_eq_true h2; omega
    obtain ⟨k, h4⟩ : ∃ k, 64 - i = k + 1 := ⟨64 - i - 1, by omega⟩
    rw [h4] at hR
    refine Awp.skip ?_
    refine Awp.seq ?_
    refine Awp.block ?_
    refine Awp.cons C (fun _ => .pure) (by kernel_rfl) ?_
    refine rvc_un (rexec_prim C (δ := { v := .pv (.lit (.int .i64 (i : Int))) }) rfl rfl rfl rfl trivial rfl ?_)
    refine rvc_un (rexec_prim C (δ := { v := .pv (.lit (.int .i64 (i : Int))) }) rfl rfl rfl rfl trivial rfl ?_)
    refine rvc_nil ?_
    refine Awp.cons C (fun _ => .pure) (by kernel_rfl) ?_
    refine rvc_un (rexec_prim C (δ := { v := .pv (.lit (.bool false)) }) rfl rfl rfl rfl trivial rfl ?_)
    refine rvc_nil ?_
    refine Awp.seq ?_
    refine Awp.cons C (fun _ => .pure) (by kernel_rfl) ?_
    refine rvc_un (rexec_prim C (δ := { v := .ptr 2 1 }) rfl rfl rfl rfl trivial rfl ?_)
    refine rvc_un (rexec_prim C (δ := { v := sS (some c.members.nil) eMember c.members.D }) rfl rfl rfl rfl trivial rfl ?_)
    refine rvc_un (rexec_prim C (δ := { v := .pv (.lit (.int .i64 (c.members.D.length : Int))) }) rfl rfl rfl rfl trivial rfl ?_)
    refine rvc_un (rexec_prim C (δ := { v := .pv (.lit (.int .i64 0)) }) rfl rfl rfl rfl trivial rfl ?_)
    refine rvc_nil ?_
    refine Awp.block ?_
    refine Awp.forR (σ := Bool) (c.members.D.length) (fun i1 v => [(1, .pv (.lit (.bool whole))), (2, .ptr 2 0), (5, .pv (.lit (.int .u64 w))), (6, .pv (.lit (.int .i64 (i : Int)))), (7, .pv (.lit (.bool v))), (11, .pv (.lit (.int .i64 (i : Int)))), (15, sS (some c.members.nil) eMember c.members.D), (16, .pv (.lit (.int .i64 (c.members.D.length : Int)))), (17, .pv (.lit (.int .i64 (i1 : Int))))]) (fun i1 v => [(2, .cells [.pv (.lit (.int .i64 c.epoch)), sS (some c.members.nil) eMember c.members.D])]) [2] (fun i1 v => rSet_l1 whole i (fun has => (bif has then rSet_l2 (fun p => rSet_l0 c whole k (i + 1) (IntKind.u64.wrap (w + p))) (i : Int).toNat 0 1 else rSet_l0 c whole k (i + 1) w)) (c.members.D.drop i1) i1 v = R) false ?_ ?_ (fun i1 has h5 hR => ?_)
    · exact hR
    · exact ⟨fun b => b, WeakerR.ofL (Ks := [2]) hI ⟨⟨rfl, rfl⟩, ⟨rfl, rfl⟩, ⟨rfl, rfl⟩, ⟨rfl, rfl⟩, ⟨rfl, rfl⟩, ⟨rfl, rfl⟩, ⟨rfl, rfl⟩, ⟨rfl, rfl⟩, ⟨rfl, rfl⟩, trivial⟩ (okH_cons rfl rfl rfl rfl (okH_nil)) rfl⟩
    refine Awp.cons C (fun _ => .pure) (by kernel_rfl) ?_
    refine rvc_un (rexec_prim C (δ := { v := .pv (.lit (.bool (decide ((i1 : Int) < (c.members.D.length : Int))))) }) rfl rfl rfl rfl trivial rfl ?_)
    refine rvc_nil ?_
    refine Awp.seq ?_
    refine Awp.cond (b := (decide ((i1 : Int) < (c.members.D.length : Int)))) rfl (fun h6 => ?_) (fun h6 => ?_)
    ·
      have h7 : i1 < c.members.D.length := by have := of_decide_eq_true h6; omega
      obtain ⟨x, h8⟩ := getX h7
      rw [drop_at h8] at hR
      refine Awp.skip ?_
      refine Awp.seq ?_
      refine Awp.block ?_
      refine Awp.cons C (fun _ => .pure) (by kernel_rfl) ?_
      refine rvc_un (rexec_idxS C rfl rfl rfl rfl rfl rfl x (Int.natCast_nonneg _) h8 ?_)
      refine rvc_un (rexec_prim C (δ := { v := .agg [.pv (.lit (.int .i64 x.node)), .pv (.lit (.int .i64 x.site)), .pv (.lit (.bool x.fresh))] }) rfl rfl rfl rfl trivial rfl ?_)
      refine rvc_un (rexec_prim C (δ := { v := .ptr 9 0, new := [(9, .cells [.pv (.lit (.int .i64 0)), .pv (.lit (.int .i64 0)), .pv (.lit (.bool false))])] }) rfl rfl rfl rfl trivial rfl ?_)
      refine rvc_un (rexec_prim C (δ := { v := .undef, wr := [(9, some (.cells [.pv (.lit (.int .i64 x.node)), .pv (.lit (.int .i64 x.site)), .pv (.lit (.bool x.fresh))]))] }) rfl rfl rfl rfl trivial rfl ?_) -- tNone store
      refine rvc_nil ?_
      refine Awp.region C (fun _ => .pure) (by kernel_rfl) ?_
      refine rvc_un (rexec_prim C (δ := { v := .pv (.lit (.bool has)) }) rfl rfl rfl rfl trivial rfl ?_)
      refine rvc_un (rexec_prim C (δ := { v := .pv (.lit (.bool has)) }) rfl rfl rfl rfl trivial rfl ?_)
      refine rvc_case 22 has rfl (fun h9 => ?_) (fun h9 => ?_)
      ·
        replace hR := of_true h9 hR
        refine rvc_shut rfl rfl rfl rfl ?_
        refine rvc_shut rfl rfl rfl rfl ?_
        refine rvc_shut rfl rfl rfl rfl ?_
        refine rvc_shut rfl rfl rfl rfl ?_
        refine rvc_shut rfl rfl rfl rfl ?_
        refine rvc_shutU rfl rfl rfl ?_
        refine rvc_shutU rfl rfl rfl ?_
        refine rvc_shutU rfl rfl rfl ?_
        refine rvc_shutU rfl rfl rfl ?_
        refine rvc_shutU rfl rfl rfl ?_
        refine rvc_shutU rfl rfl rfl ?_
        refine rvc_shut rfl rfl rfl rfl ?_
        refine rvc_un (rexec_prim C (δ := { v := .pv (.lit (.bool true)) }) rfl rfl rfl rfl trivial rfl ?_)
        refine rvc_un (rexec_prim C (δ := { v := .pv (.lit (.bool true)) }) rfl rfl rfl rfl trivial rfl ?_)
        refine rvc_nil ?_
        refine Awp.region C (fun _ => .pure) (by kernel_rfl) ?_
        refine rvc_un (rexec_prim C (δ := { v := .pv (.lit (.int .i64 (IntKind.i64.wrap ((i1 : Int) + 1)))) }) rfl rfl rfl rfl trivial rfl ?_)
        refine rvc_un (rexec_prim C (δ := { v := .pv (.lit (.int .i64 (IntKind.i64.wrap ((i1 : Int) + 1)))) }) rfl rfl rfl rfl trivial rfl ?_)
        refine rvc_nil ?_
        refine ⟨h7, true, ?_, ?_⟩
        · exact hR
        · exact ⟨fun b => b, WeakerR.ofL (Ks := [2]) hI ⟨⟨rfl, rfl⟩, ⟨rfl, rfl⟩, ⟨rfl, rfl⟩, ⟨rfl, rfl⟩, ⟨rfl, rfl⟩, ⟨rfl, rfl⟩, ⟨rfl, rfl⟩, ⟨rfl, rfl⟩, ⟨lit_cast (wrap_i64 (by omega) (by omega)), rfl⟩, trivial⟩ (okH_cons rfl rfl rfl rfl (okH_nil)) rfl⟩
      ·
        replace hR := of_false h9 hR
        refine rvc_open rfl rfl rfl (rexec_prim C (δ := { v := .ptr 9 0 }) rfl rfl rfl rfl trivial rfl ?_)
        refine rvc_open rfl rfl rfl (rexec_prim C (δ := { v := .pv (.lit (.int .i64 x.node)) }) rfl rfl rfl rfl trivial rfl ?_)
        refine rvc_open rfl rfl rfl (rexec_prim C (δ := { v := .pv (.lit (.int .i64 (i : Int))) }) rfl rfl rfl rfl trivial rfl ?_)
        refine rvc_open rfl rfl rfl (rexec_prim C (δ := { v := .pv (.lit (.bool (x.node == (i : Int)))) }) rfl rfl rfl rfl trivial rfl ?_)
        refine rvc_open rfl rfl rfl (rexec_prim C (δ := { v := .pv (.lit (.bool (x.node == (i : Int)))) }) rfl rfl rfl rfl trivial rfl ?_)
        refine rvc_case 27 (x.node == (i : Int)) rfl (fun h10 => ?_) (fun h10 => ?_)
        ·
          replace hR := of_true h10 hR
          refine rvc_open rfl rfl rfl (rexec_prim C (δ := { v := .pv (.lit (.bool whole)) }) rfl rfl rfl rfl trivial rfl ?_)
          refine rvc_open rfl rfl rfl (rexec_prim C (δ := { v := .pv (.lit (.bool whole)) }) rfl rfl rfl rfl trivial rfl ?_)
          refine rvc_case 29 whole rfl (fun h11 => ?_) (fun h11 => ?_)
          ·
            replace hR := of_true h11 hR
            refine rvc_open rfl rfl rfl (rexec_prim C (δ := { v := .ptr 9 2 }) rfl rfl rfl rfl trivial rfl ?_)
            refine rvc_open rfl rfl rfl (rexec_prim C (δ := { v := .pv (.lit (.bool x.fresh)) }) rfl rfl rfl rfl trivial rfl ?_)
            refine rvc_open rfl rfl rfl (rexec_prim C (δ := { v := .pv (.lit (.bool x.fresh)) }) rfl rfl rfl rfl trivial rfl ?_)
            refine rvc_open rfl rfl rfl (rexec_prim C (δ := { v := .pv (.lit (.bool (!x.fresh))) }) rfl rfl rfl rfl trivial rfl ?_)
            refine rvc_open rfl rfl rfl (rexec_prim C (δ := { v := .pv (.lit (.bool (!x.fresh))) }) rfl rfl rfl rfl trivial rfl ?_)
            refine rvc_un (rexec_prim C (δ := { v := .pv (.lit (.bool (!x.fresh))) }) rfl rfl rfl rfl trivial rfl ?_)
            refine rvc_un (rexec_prim C (δ := { v := .pv (.lit (.bool (!x.fresh))) }) rfl rfl rfl rfl trivial rfl ?_)
            refine rvc_nil ?_
            refine Awp.region C (fun _ => .pure) (by kernel_rfl) ?_
            refine rvc_un (rexec_prim C (δ := { v := .pv (.lit (.int .i64 (IntKind.i64.wrap ((i1 : Int) + 1)))) }) rfl rfl rfl rfl trivial rfl ?_)
            refine rvc_un (rexec_prim C (δ := { v := .pv (.lit (.int .i64 (IntKind.i64.wrap ((i1 : Int) + 1)))) }) rfl rfl rfl rfl trivial rfl ?_)
            refine rvc_nil ?_
            refine ⟨h7, (!x.fresh), ?_, ?_⟩
            · exact hR
            · exact ⟨fun b => b, WeakerR.ofL (Ks := [2]) hI ⟨⟨rfl, rfl⟩, ⟨rfl, rfl⟩, ⟨rfl, rfl⟩, ⟨rfl, rfl⟩, ⟨rfl, rfl⟩, ⟨rfl, rfl⟩, ⟨rfl, rfl⟩, ⟨rfl, rfl⟩, ⟨lit_cast (wrap_i64 (by omega) (by omega)), rfl⟩, trivial⟩ (okH_cons rfl rfl rfl rfl (okH_nil)) rfl⟩
          ·
            replace hR := of_false h11 hR
            refine rvc_shut rfl rfl rfl rfl ?_
            refine rvc_shut rfl rfl rfl rfl ?_
            refine rvc_open rfl rfl rfl (rexec_prim C (δ := { v := .pv (.lit (.bool false)) }) rfl rfl rfl rfl trivial rfl ?_)
            refine rvc_open rfl rfl rfl (rexec_prim C (δ := { v := .pv (.lit (.bool true)) }) rfl rfl rfl rfl trivial rfl ?_)
            refine rvc_open rfl rfl rfl (rexec_prim C (δ := { v := .pv (.lit (.bool true)) }) rfl rfl rfl rfl trivial rfl ?_)
            refine rvc_un (rexec_prim C (δ := { v := .pv (.lit (.bool true)) }) rfl rfl rfl rfl trivial rfl ?_)
            refine rvc_un (rexec_prim C (δ := { v := .pv (.lit (.bool true)) }) rfl rfl rfl rfl trivial rfl ?_)
            refine rvc_nil ?_
            refine Awp.region C (fun _ => .pure) (by kernel_rfl) ?_
            refine rvc_un (rexec_prim C (δ := { v := .pv (.lit (.int .i64 (IntKind.i64.wrap ((i1 : Int) + 1)))) }) rfl rfl rfl rfl trivial rfl ?_)
            refine rvc_un (rexec_prim C (δ := { v := .pv (.lit (.int .i64 (IntKind.i64.wrap ((i1 : Int) + 1)))) }) rfl rfl rfl rfl trivial rfl ?_)
            refine rvc_nil ?_
            refine ⟨h7, true, ?_, ?_⟩
            · exact hR
            · exact ⟨fun b => b, WeakerR.ofL (Ks := [2]) hI ⟨⟨rfl, rfl⟩, ⟨rfl, rfl⟩, ⟨rfl, rfl⟩, ⟨rfl, rfl⟩, ⟨rfl, rfl⟩, ⟨rfl, rfl⟩, ⟨rfl, rfl⟩, ⟨rfl, rfl⟩, ⟨lit_cast (wrap_i64 (by omega) (by omega)), rfl⟩, trivial⟩ (okH_cons rfl rfl rfl rfl (okH_nil)) rfl⟩
        ·
          replace hR := of_false h10 hR
          refine rvc_shut rfl rfl rfl rfl ?_
          refine rvc_shut rfl rfl rfl rfl ?_
          refine rvc_shutU rfl rfl rfl ?_
          refine rvc_shutU rfl rfl rfl ?_
          refine rvc_shut rfl rfl rfl rfl ?_
          refine rvc_shut rfl rfl rfl rfl ?_
          refine rvc_open rfl rfl rfl (rexec_prim C (δ := { v := .pv (.lit (.bool false)) }) rfl rfl rfl rfl trivial rfl ?_)
          refine rvc_un (rexec_prim C (δ := { v := .pv (.lit (.bool false)) }) rfl rfl rfl rfl trivial rfl ?_)
          refine rvc_un (rexec_prim C (δ := { v := .pv (.lit (.bool false)) }) rfl rfl rfl rfl trivial rfl ?_)
          refine rvc_nil ?_
          refine Awp.region C (fun _ => .pure) (by kernel_rfl) ?_
          refine rvc_un (rexec_prim C (δ := { v := .pv (.lit (.int .i64 (IntKind.i64.wrap ((i1 : Int) + 1)))) }) rfl rfl rfl rfl trivial rfl ?_)
          refine rvc_un (rexec_prim C (δ := { v := .pv (.lit (.int .i64 (IntKind.i64.wrap ((i1 : Int) + 1)))) }) rfl rfl rfl rfl trivial rfl ?_)
          refine rvc_nil ?_
          refine ⟨h7, false, ?_, ?_⟩
          · exact hR
          · exact ⟨fun b => b, WeakerR.ofL (Ks := [2]) hI ⟨⟨rfl, rfl⟩, ⟨rfl, rfl⟩, ⟨rfl, rfl⟩, ⟨rfl, rfl⟩, ⟨rfl, rfl⟩, ⟨rfl, rfl⟩, ⟨rfl, rfl⟩, ⟨rfl, rfl⟩, ⟨lit_cast (wrap_i64 (by omega) (by omega)), rfl⟩, trivial⟩ (okH_cons rfl rfl rfl rfl (okH_nil)) rfl⟩
    ·
      have h7 : ¬ i1 < c.members.D.length := by have := of_decide_eq_false h6; omega
      rw [drop_end h7] at hR
      refine Awp.exit ?_
      refine Awp.cons C (fun _ => .pure) (by kernel_rfl) ?_
      refine rvc_un (rexec_prim C (δ := { v := .pv (.lit (.bool has)) }) rfl rfl rfl rfl trivial rfl ?_)
      refine rvc_nil ?_
      refine Awp.cond (b := has) rfl (fun h12 => ?_) (fun h12 => ?_)
      ·
        replace hR := of_true h12 hR
        refine Awp.cons C (fun _ => .pure) (by kernel_rfl) ?_
        refine rvc_un (rexec_prim C (δ := { v := .pv (.lit (.int .u64 1)) }) rfl rfl rfl rfl trivial rfl ?_)
        refine rvc_nil ?_
        refine Awp.seq ?_
        refine Awp.cons C (fun _ => .pure) (by kernel_rfl) ?_
        refine rvc_un (rexec_prim C (δ := { v := .pv (.lit (.int .i64 (i : Int))) }) rfl rfl rfl rfl trivial rfl ?_)
        refine rvc_un (rexec_prim C (δ := { v := .pv (.lit (.int .i64 0)) }) rfl rfl rfl rfl trivial rfl ?_)
        refine rvc_nil ?_
        refine Awp.block ?_
        refine Awp.forR (σ := Int) ((i : Int).toNat) (fun i2 v => [(1, .pv (.lit (.bool whole))), (2, .ptr 2 0), (5, .pv (.lit (.int .u64 w))), (10, .pv (.lit (.int .u64 v))), (11, .pv (.lit (.int .i64 (i : Int)))), (38, .pv (.lit (.int .i64 (i : Int)))), (39, .pv (.lit (.int .i64 (i2 : Int))))]) (fun i2 v => [(2, .cells [.pv (.lit (.int .i64 c.epoch)), sS (some c.members.nil) eMember c.members.D])]) [2] (fun i2 v => rSet_l2 (fun p => rSet_l0 c whole k (i + 1) (IntKind.u64.wrap (w + p))) ((i : Int).toNat - i2) i2 v = R) 1 ?_ ?_ (fun i2 p h13 hR => ?_)
        · exact hR
        · exact ⟨fun b => b, WeakerR.ofL (Ks := [2]) hI ⟨⟨rfl, rfl⟩, ⟨rfl, rfl⟩, ⟨rfl, rfl⟩, ⟨rfl, rfl⟩, ⟨rfl, rfl⟩, ⟨rfl, rfl⟩, ⟨rfl, rfl⟩, trivial⟩ (okH_cons rfl rfl rfl rfl (okH_nil)) rfl⟩
        refine Awp.cons C (fun _ => .pure) (by kernel_rfl) ?_
        refine rvc_un (rexec_prim C (δ := { v := .pv (.lit (.bool (decide ((i2 : Int) < (i : Int))))) }) rfl rfl rfl rfl trivial rfl ?_)
        refine rvc_nil ?_
        refine Awp.seq ?_
        refine Awp.cond (b := (decide ((i2 : Int) < (i : Int)))) rfl (fun h14 => ?_) (fun h14 => ?_)
        ·
          have h15 : i2 < (i : Int).toNat := by have := of_decide_eq_true h14; omega
          obtain ⟨k1, h16⟩ : ∃ k, (i : Int).toNat - i2 = k + 1 := ⟨(i : Int).toNat - i2 - 1, by omega⟩
          rw [h16] at hR
          refine Awp.skip ?_
          refine Awp.seq ?_
          refine Awp.block ?_
          refine Awp.region C (fun _ => .pure) (by kernel_rfl) ?_
          refine rvc_un (rexec_prim C (δ := { v := .pv (.lit (.int .u64 p)) }) rfl rfl rfl rfl trivial rfl ?_)
          refine rvc_un (rexec_prim C (δ := { v := .pv (.lit (.int .u64 (IntKind.u64.wrap (2 * p)))) }) rfl rfl rfl rfl trivial rfl ?_)
          refine rvc_un (rexec_prim C (δ := { v := .pv (.lit (.int .u64 (IntKind.u64.wrap (2 * p)))) }) rfl rfl rfl rfl trivial rfl ?_)
          refine rvc_nil ?_
          refine Awp.region C (fun _ => .pure) (by kernel_rfl) ?_
          refine rvc_un (rexec_prim C (δ := { v := .pv (.lit (.int .i64 (IntKind.i64.wrap ((i2 : Int) + 1)))) }) rfl rfl rfl rfl trivial rfl ?_)
          refine rvc_un (rexec_prim C (δ := { v := .pv (.lit (.int .i64 (IntKind.i64.wrap ((i2 : Int) + 1)))) }) rfl rfl rfl rfl trivial rfl ?_)
          refine rvc_nil ?_
          refine ⟨h15, (IntKind.u64.wrap (2 * p)), ?_, ?_⟩
          · exact (by rw [show (i : Int).toNat - (i2 + 1) = k1 by omega]; exact hR)
          · exact ⟨fun b => b, WeakerR.ofL (Ks := [2]) hI ⟨⟨rfl, rfl⟩, ⟨rfl, rfl⟩, ⟨rfl, rfl⟩, ⟨rfl, rfl⟩, ⟨rfl, rfl⟩, ⟨rfl, rfl⟩, ⟨lit_cast (wrap_i64 (by omega) (by omega)), rfl⟩, trivial⟩ (okH_cons rfl rfl rfl rfl (okH_nil)) rfl⟩
        ·
          rw [show (i : Int).toNat - i2 = 0 by have := of_decide_eq_false h14; omega] at hR
          refine Awp.exit ?_
          refine Awp.region C (fun _ => .pure) (by kernel_rfl) ?_
          refine rvc_un (rexec_prim C (δ := { v := .pv (.lit (.int .u64 w)) }) rfl rfl rfl rfl trivial rfl ?_)
          refine rvc_un (rexec_prim C (δ := { v := .pv (.lit (.int .u64 p)) }) rfl rfl rfl rfl trivial rfl ?_)
          refine rvc_un (rexec_prim C (δ := { v := .pv (.lit (.int .u64 (IntKind.u64.wrap (w + p)))) }) rfl rfl rfl rfl trivial rfl ?_)
          refine rvc_un (rexec_prim C (δ := { v := .pv (.lit (.int .u64 (IntKind.u64.wrap (w + p)))) }) rfl rfl rfl rfl trivial rfl ?_)
          refine rvc_nil ?_
          refine Awp.region C (fun _ => .pure) (by kernel_rfl) ?_
          refine rvc_un (rexec_prim C (δ := { v := .pv (.lit (.int .i64 (IntKind.i64.wrap ((i : Int) + 1)))) }) rfl rfl rfl rfl trivial rfl ?_)
          refine rvc_un (rexec_prim C (δ := { v := .pv (.lit (.int .i64 (IntKind.i64.wrap ((i : Int) + 1)))) }) rfl rfl rfl rfl trivial rfl ?_)
          refine rvc_nil ?_
          refine ⟨h3, (IntKind.u64.wrap (w + p)), ?_, ?_⟩
          · exact (by rw [show 64 - (i + 1) = k by omega]; exact hR)
          · exact ⟨fun b => b, WeakerR.ofL (Ks := [2]) hI ⟨⟨rfl, rfl⟩, ⟨rfl, rfl⟩, ⟨rfl, rfl⟩, ⟨lit_cast (wrap_i64 (by omega) (by omega)), rfl⟩, trivial⟩ (okH_cons rfl rfl rfl rfl (okH_nil)) rfl⟩
      ·
        replace hR := of_false h12 hR
        refine Awp.skip ?_
        refine Awp.region C (fun _ => .pure) (by kernel_rfl) ?_
        refine rvc_un (rexec_prim C (δ := { v := .pv (.lit (.int .i64 (IntKind.i64.wrap ((i : Int) + 1)))) }) rfl rfl rfl rfl trivial rfl ?_)
        refine rvc_un (rexec_prim C (δ := { v := .pv (.lit (.int .i64 (IntKind.i64.wrap ((i : Int) + 1)))) }) rfl rfl rfl rfl trivial rfl ?_)
        refine rvc_nil ?_
        refine ⟨h3, w, ?_, ?_⟩
        · exact (by rw [show 64 - (i + 1) = k by omega]; exact hR)
        · exact ⟨fun b => b, WeakerR.ofL (Ks := [2]) hI ⟨⟨rfl, rfl⟩, ⟨rfl, rfl⟩, ⟨rfl, rfl⟩, ⟨lit_cast (wrap_i64 (by omega) (by omega)), rfl⟩, trivial⟩ (okH_cons rfl rfl rfl rfl (okH_nil)) rfl⟩
  ·
    rw [show 64 - i = 0 by have := of_decide_eq_false h2; omega] at hR
    refine Awp.exit ?_
    refine Awp.cons C (fun _ => .pure) (by kernel_rfl) ?_
    refine rvc_un (rexec_prim C (δ := { v := .pv (.lit (.int .u64 w)) }) rfl rfl rfl rfl trivial rfl ?_)
    refine rvc_un (rexec_prim C (δ := { v := .pv (.lit (.int .u64 w)) }) rfl rfl rfl rfl trivial rfl ?_)
    refine rvc_nil ?_
    refine Awp.ret ?_
    subst hR
    exact ⟨.inl rfl, rfl⟩

def rOff (c : Chain) (node : Int) (by_ : Int) : Int :=
  (bif (decide ((rPlace c node) < 0)) then (-1) else (bif (decide ((IntKind.i64.wrap ((rPlace c node) + by_)) < 0)) then (-1) else (bif (decide ((IntKind.i64.wrap ((rPlace c node) + by_)) ≥ (c.members.D.length : Int))) then (-1) else c.members.D[(IntKind.i64.wrap ((rPlace c node) + by_)).toNat]!.node)))
theorem rOff_calls (c : Chain) (node : Int) (by_ : Int) (hl1 : c.members.D.length ≤ 1000000) : PCalls Try.prog 18 [.agg [.pv (.lit (.int .i64 c.epoch)), sS (some c.members.nil) eMember c.members.D], .pv (.lit (.int .i64 node)), .pv (.lit (.int .i64 by_))] (.pv (.lit (.int .i64 (rOff c node by_)))) := by
  generalize hR : rOff c node by_ = R
  refine PCalls.of_body tabOk Try.func18 rfl rfl rfl rfl rfl mixed fun E hP C hI => ?_
  refine Awp.cons C (fun _ => .pure) (by kernel_rfl) ?_
  refine rvc_un (rexec_prim C (δ := { v := .ptr 3 0, new := [(3, .cells [.pv (.lit (.int .i64 c.epoch)), sS (some c.members.nil) eMember c.members.D])] }) rfl rfl rfl rfl trivial rfl ?_)
  refine rvc_un (rexec_prim C (δ := { v := .pv (.lit (.int .i64 0)) }) rfl rfl rfl rfl trivial rfl ?_)
  refine rvc_nil ?_
  refine Awp.cons C (fun _ => .pure) (by kernel_rfl) ?_
  refine rvc_un (rexec_prim C (δ := { v := .agg [.pv (.lit (.int .i64 c.epoch)), sS (some c.members.nil) eMember c.members.D] }) rfl rfl rfl rfl trivial rfl ?_)
  refine rvc_un (rexec_prim C (δ := { v := .pv (.lit (.int .i64 node)) }) rfl rfl rfl rfl trivial rfl ?_)
  refine rvc_un (rexec_call hP C rfl rfl rfl (rPlace_calls c node (Nat.le_trans hl1 (by decide))) ?_)
  refine rvc_un (rexec_prim C (δ := { v := .pv (.lit (.int .i64 (rPlace c node))) }) rfl rfl rfl rfl trivial rfl ?_)
  refine rvc_nil ?_
  refine Awp.seq ?_
  refine Awp.cons C (fun _ => .pure) (by kernel_rfl) ?_
  refine rvc_un (rexec_prim C (δ := { v := .pv (.lit (.int .i64 (rPlace c node))) }) rfl rfl rfl rfl trivial rfl ?_)
  refine rvc_un (rexec_prim C (δ := { v := .pv (.lit (.bool (decide ((rPlace c node) < 0)))) }) rfl rfl rfl rfl trivial rfl ?_)
  refine rvc_un (rexec_prim C (δ := { v := .pv (.lit (.bool (decide ((rPlace c node) < 0)))) }) rfl rfl rfl rfl trivial rfl ?_)
  refine rvc_case 13 (decide ((rPlace c node) < 0)) rfl (fun h1 => ?_) (fun h1 => ?_)
  ·
    replace hR := of_true h1 hR
    refine rvc_shut rfl rfl rfl rfl ?_
    refine rvc_shut rfl rfl rfl rfl ?_
    refine rvc_shut rfl rfl rfl rfl ?_
    refine rvc_shut rfl rfl rfl rfl ?_
    refine rvc_un (rexec_prim C (δ := { v := .pv (.lit (.bool true)) }) rfl rfl rfl rfl trivial rfl ?_)
    refine rvc_un (rexec_prim C (δ := { v := .pv (.lit (.bool true)) }) rfl rfl rfl rfl trivial rfl ?_)
    refine rvc_shut rfl rfl rfl rfl ?_
    refine rvc_shut rfl rfl rfl rfl ?_
    refine rvc_shut rfl rfl rfl rfl ?_
    refine rvc_shut rfl rfl rfl rfl ?_
    refine rvc_shut rfl rfl rfl rfl ?_
    refine rvc_shut rfl rfl rfl rfl ?_
    refine rvc_shut rfl rfl rfl rfl ?_
    refine rvc_un (rexec_prim C (δ := { v := .pv (.lit (.bool true)) }) rfl rfl rfl rfl trivial rfl ?_)
    refine rvc_nil ?_
    refine Awp.condT (b := true) rfl rfl ?_
    refine Awp.cons C (fun _ => .pure) (by kernel_rfl) ?_
    refine rvc_un (rexec_prim C (δ := { v := .pv (.lit (.int .i64 (-1))) }) rfl rfl rfl rfl trivial rfl ?_)
    refine rvc_nil ?_
    refine Awp.ret ?_
    subst hR
    exact ⟨.inl rfl, rfl⟩
  ·
    replace hR := of_false h1 hR
    refine rvc_open rfl rfl rfl (rexec_prim C (δ := { v := .pv (.lit (.int .i64 (rPlace c node))) }) rfl rfl rfl rfl trivial rfl ?_)
    refine rvc_open rfl rfl rfl (rexec_prim C (δ := { v := .pv (.lit (.int .i64 by_)) }) rfl rfl rfl rfl trivial rfl ?_)
    refine rvc_open rfl rfl rfl (rexec_prim C (δ := { v := .pv (.lit (.int .i64 (IntKind.i64.wrap ((rPlace c node) + by_)))) }) rfl rfl rfl rfl trivial rfl ?_)
    refine rvc_open rfl rfl rfl (rexec_prim C (δ := { v := .pv (.lit (.bool (decide ((IntKind.i64.wrap ((rPlace c node) + by_)) < 0)))) }) rfl rfl rfl rfl trivial rfl ?_)
    refine rvc_un (rexec_prim C (δ := { v := .pv (.lit (.bool (decide ((IntKind.i64.wrap ((rPlace c node) + by_)) < 0)))) }) rfl rfl rfl rfl trivial rfl ?_)
    refine rvc_un (rexec_prim C (δ := { v := .pv (.lit (.bool (decide ((IntKind.i64.wrap ((rPlace c node) + by_)) < 0)))) }) rfl rfl rfl rfl trivial rfl ?_)
    refine rvc_case 19 (decide ((IntKind.i64.wrap ((rPlace c node) + by_)) < 0)) rfl (fun h2 => ?_) (fun h2 => ?_)
    ·
      replace hR := of_true h2 hR
      refine rvc_shut rfl rfl rfl rfl ?_
      refine rvc_shut rfl rfl rfl rfl ?_
      refine rvc_shut rfl rfl rfl rfl ?_
      refine rvc_shut rfl rfl rfl rfl ?_
      refine rvc_shut rfl rfl rfl rfl ?_
      refine rvc_shut rfl rfl rfl rfl ?_
      refine rvc_shut rfl rfl rfl rfl ?_
      refine rvc_un (rexec_prim C (δ := { v := .pv (.lit (.bool true)) }) rfl rfl rfl rfl trivial rfl ?_)
      refine rvc_nil ?_
      refine Awp.condT (b := true) rfl rfl ?_
      refine Awp.cons C (fun _ => .pure) (by kernel_rfl) ?_
      refine rvc_un (rexec_prim C (δ := { v := .pv (.lit (.int .i64 (-1))) }) rfl rfl rfl rfl trivial rfl ?_)
      refine rvc_nil ?_
      refine Awp.ret ?_
      subst hR
      exact ⟨.inl rfl, rfl⟩
    ·
      replace hR := of_false h2 hR
      refine rvc_open rfl rfl rfl (rexec_prim C (δ := { v := .pv (.lit (.int .i64 (rPlace c node))) }) rfl rfl rfl rfl trivial rfl ?_)
      refine rvc_open rfl rfl rfl (rexec_prim C (δ := { v := .pv (.lit (.int .i64 by_)) }) rfl rfl rfl rfl trivial rfl ?_)
      refine rvc_open rfl rfl rfl (rexec_prim C (δ := { v := .pv (.lit (.int .i64 (IntKind.i64.wrap ((rPlace c node) + by_)))) }) rfl rfl rfl rfl trivial rfl ?_)
      refine rvc_open rfl rfl rfl (rexec_prim C (δ := { v := .ptr 3 1 }) rfl rfl rfl rfl trivial rfl ?_)
      refine rvc_open rfl rfl rfl (rexec_prim C (δ := { v := sS (some c.members.nil) eMember c.members.D }) rfl rfl rfl rfl trivial rfl ?_)
      refine rvc_open rfl rfl rfl (rexec_prim C (δ := { v := .pv (.lit (.int .i64 (c.members.D.length : Int))) }) rfl rfl rfl rfl trivial rfl ?_)
      refine rvc_open rfl rfl rfl (rexec_prim C (δ := { v := .pv (.lit (.bool (decide ((IntKind.i64.wrap ((rPlace c node) + by_)) ≥ (c.members.D.length : Int))))) }) rfl rfl rfl rfl trivial rfl ?_)
      refine rvc_un (rexec_prim C (δ := { v := .pv (.lit (.bool (decide ((IntKind.i64.wrap ((rPlace c node) + by_)) ≥ (c.members.D.length : Int))))) }) rfl rfl rfl rfl trivial rfl ?_)
      refine rvc_nil ?_
      refine Awp.cond (b := (decide ((IntKind.i64.wrap ((rPlace c node) + by_)) ≥ (c.members.D.length : Int)))) rfl (fun h3 => ?_) (fun h3 => ?_)
      ·
        replace hR := of_true h3 hR
        refine Awp.cons C (fun _ => .pure) (by kernel_rfl) ?_
        refine rvc_un (rexec_prim C (δ := { v := .pv (.lit (.int .i64 (-1))) }) rfl rfl rfl rfl trivial rfl ?_)
        refine rvc_nil ?_
        refine Awp.ret ?_
        subst hR
        exact ⟨.inl rfl, rfl⟩
      ·
        replace hR := of_false h3 hR
        refine Awp.skip ?_
        refine Awp.cons C (fun _ => .pure) (by kernel_rfl) ?_
        refine rvc_un (rexec_prim C (δ := { v := .ptr 3 1 }) rfl rfl rfl rfl trivial rfl ?_)
        refine rvc_un (rexec_prim C (δ := { v := sS (some c.members.nil) eMember c.members.D }) rfl rfl rfl rfl trivial rfl ?_)
        refine rvc_un (rexec_prim C (δ := { v := .pv (.lit (.int .i64 (rPlace c node))) }) rfl rfl rfl rfl trivial rfl ?_)
        refine rvc_un (rexec_prim C (δ := { v := .pv (.lit (.int .i64 by_)) }) rfl rfl rfl rfl trivial rfl ?_)
        refine rvc_un (rexec_prim C (δ := { v := .pv (.lit (.int .i64 (IntKind.i64.wrap ((rPlace c node) + by_)))) }) rfl rfl rfl rfl trivial rfl ?_)
        have h4 : c.members.D[(IntKind.i64.wrap ((rPlace c node) + by_)).toNat]? = some c.members.D[(IntKind.i64.wrap ((rPlace c node) + by_)).toNat]! := getE (by have := wrapI ((rPlace c node) + by_); have := rPlace_lt c node; have := of_decide_eq_false h1; have := of_decide_eq_false h2; have := of_decide_eq_false h3; omega)
        refine rvc_un (rexec_idxS C rfl rfl rfl rfl rfl rfl (c.members.D[(IntKind.i64.wrap ((rPlace c node) + by_)).toNat]!) (by have := wrapI ((rPlace c node) + by_); have := rPlace_lt c node; have := of_decide_eq_false h1; have := of_decide_eq_false h2; have := of_decide_eq_false h3; omega) h4 ?_)
        refine rvc_un (rexec_prim C (δ := { v := .rp [.lit (.int .i64 (c.members.D[(IntKind.i64.wrap ((rPlace c node) + by_)).toNat]!.node))] }) rfl rfl rfl rfl trivial rfl ?_)
        refine rvc_un (rexec_prim C (δ := { v := .pv (.lit (.int .i64 (c.members.D[(IntKind.i64.wrap ((rPlace c node) + by_)).toNat]!.node))) }) rfl rfl rfl rfl trivial rfl ?_)
        refine rvc_un (rexec_prim C (δ := { v := .pv (.lit (.int .i64 (c.members.D[(IntKind.i64.wrap ((rPlace c node) + by_)).toNat]!.node))) }) rfl rfl rfl rfl trivial rfl ?_)
        refine rvc_nil ?_
        refine Awp.ret ?_
        subst hR
        exact ⟨.inl rfl, rfl⟩

def backC (c : Chain) (node : Int) : Int :=
  (bif (decide ((place0 c node) < 1)) then (-1) else c.members.D[(IntKind.i64.wrap ((place0 c node) - 1)).toNat]!.node)
theorem backC_calls (c : Chain) (node : Int) (hl1 : c.members.D.length ≤ 1000000) : PCalls Try.prog 19 [.agg [.pv (.lit (.int .i64 c.epoch)), sS (some c.members.nil) eMember c.members.D], .pv (.lit (.int .i64 node))] (.pv (.lit (.int .i64 (backC c node)))) := by
  generalize hR : backC c node = R
  refine PCalls.of_body tabOk Try.func19 rfl rfl rfl rfl rfl mixed fun E hP C hI => ?_
  refine Awp.cons C (fun _ => .pure) (by kernel_rfl) ?_
  refine rvc_un (rexec_prim C (δ := { v := .ptr 2 0, new := [(2, .cells [.pv (.lit (.int .i64 c.epoch)), sS (some c.members.nil) eMember c.members.D])] }) rfl rfl rfl rfl trivial rfl ?_)
  refine rvc_un (rexec_prim C (δ := { v := .pv (.lit (.int .i64 0)) }) rfl rfl rfl rfl trivial rfl ?_)
  refine rvc_nil ?_
  refine Awp.cons C (fun _ => .pure) (by kernel_rfl) ?_
  refine rvc_un (rexec_prim C (δ := { v := .agg [.pv (.lit (.int .i64 c.epoch)), sS (some c.members.nil) eMember c.members.D] }) rfl rfl rfl rfl trivial rfl ?_)
  refine rvc_un (rexec_prim C (δ := { v := .pv (.lit (.int .i64 node)) }) rfl rfl rfl rfl trivial rfl ?_)
  refine rvc_un (rexec_call hP C rfl rfl rfl (place0_calls c node (Nat.le_trans hl1 (by decide))) ?_)
  refine rvc_un (rexec_prim C (δ := { v := .pv (.lit (.int .i64 (place0 c node))) }) rfl rfl rfl rfl trivial rfl ?_)
  refine rvc_nil ?_
  refine Awp.seq ?_
  refine Awp.cons C (fun _ => .pure) (by kernel_rfl) ?_
  refine rvc_un (rexec_prim C (δ := { v := .pv (.lit (.int .i64 (place0 c node))) }) rfl rfl rfl rfl trivial rfl ?_)
  refine rvc_un (rexec_prim C (δ := { v := .pv (.lit (.bool (decide ((place0 c node) < 1)))) }) rfl rfl rfl rfl trivial rfl ?_)
  refine rvc_nil ?_
  refine Awp.cond (b := (decide ((place0 c node) < 1))) rfl (fun h1 => ?_) (fun h1 => ?_)
  ·
    replace hR := of_true h1 hR
    refine Awp.cons C (fun _ => .pure) (by kernel_rfl) ?_
    refine rvc_un (rexec_prim C (δ := { v := .pv (.lit (.int .i64 (-1))) }) rfl rfl rfl rfl trivial rfl ?_)
    refine rvc_nil ?_
    refine Awp.ret ?_
    subst hR
    exact ⟨.inl rfl, rfl⟩
  ·
    replace hR := of_false h1 hR
    refine Awp.skip ?_
    refine Awp.cons C (fun _ => .pure) (by kernel_rfl) ?_
    refine rvc_un (rexec_prim C (δ := { v := .ptr 2 1 }) rfl rfl rfl rfl trivial rfl ?_)
    refine rvc_un (rexec_prim C (δ := { v := sS (some c.members.nil) eMember c.members.D }) rfl rfl rfl rfl trivial rfl ?_)
    refine rvc_un (rexec_prim C (δ := { v := .pv (.lit (.int .i64 (place0 c node))) }) rfl rfl rfl rfl trivial rfl ?_)
    refine rvc_un (rexec_prim C (δ := { v := .pv (.lit (.int .i64 (IntKind.i64.wrap ((place0 c node) - 1)))) }) rfl rfl rfl rfl trivial rfl ?_)
    have h2 : c.members.D[(IntKind.i64.wrap ((place0 c node) - 1)).toNat]? = some c.members.D[(IntKind.i64.wrap ((place0 c node) - 1)).toNat]! := getE (by have := wrapI ((place0 c node) - 1); have := place0_lt c node; have := of_decide_eq_false h1; omega)
    refine rvc_un (rexec_idxS C rfl rfl rfl rfl rfl rfl (c.members.D[(IntKind.i64.wrap ((place0 c node) - 1)).toNat]!) (by have := wrapI ((place0 c node) - 1); have := place0_lt c node; have := of_decide_eq_false h1; omega) h2 ?_)
    refine rvc_un (rexec_prim C (δ := { v := .rp [.lit (.int .i64 (c.members.D[(IntKind.i64.wrap ((place0 c node) - 1)).toNat]!.node))] }) rfl rfl rfl rfl trivial rfl ?_)
    refine rvc_un (rexec_prim C (δ := { v := .pv (.lit (.int .i64 (c.members.D[(IntKind.i64.wrap ((place0 c node) - 1)).toNat]!.node))) }) rfl rfl rfl rfl trivial rfl ?_)
    refine rvc_un (rexec_prim C (δ := { v := .pv (.lit (.int .i64 (c.members.D[(IntKind.i64.wrap ((place0 c node) - 1)).toNat]!.node))) }) rfl rfl rfl rfl trivial rfl ?_)
    refine rvc_nil ?_
    refine Awp.ret ?_
    subst hR
    exact ⟨.inl rfl, rfl⟩

end Go.Proofs.Ytjhphpoihadmkaa

/- Laws of places and sets. No conditions. -/
namespace Go.Proofs.Ytjhphpoihadmkaa
open Go.Am
def lawPlaces (c : Chain) (node : Int) : Bool :=
  (bif (decide ((c.members.D.length : Int) > 60)) then (awake ) else (bif ((place0 c node) == (rPlace c node)) then (bif ((nextC c node) == (rOff c node 1)) then (bif ((backC c node) == (rOff c node (-1))) then (bif ((headC c) == (rEnd c 0)) then (bif ((tailC c) == (rEnd c 1)) then (awake ) else false) else false) else false) else false) else false))
theorem lawPlaces_calls (c : Chain) (node : Int) (hl1 : c.members.D.length ≤ 1000000) : PCalls Try.prog 4 [.agg [.pv (.lit (.int .i64 c.epoch)), sS (some c.members.nil) eMember c.members.D], .pv (.lit (.int .i64 node))] (.pv (.lit (.bool (lawPlaces c node)))) := by
  generalize hR : lawPlaces c node = R
  refine PCalls.of_body tabOk Try.func4 rfl rfl rfl rfl rfl mixed fun E hP C hI => ?_
  refine Awp.cons C (fun _ => .pure) (by kernel_rfl) ?_
  refine rvc_un (rexec_prim C (δ := { v := .ptr 2 0, new := [(2, .cells [.pv (.lit (.int .i64 c.epoch)), sS (some c.members.nil) eMember c.members.D])] }) rfl rfl rfl rfl trivial rfl ?_)
  refine rvc_un (rexec_prim C (δ := { v := .pv (.lit (.bool false)) }) rfl rfl rfl rfl trivial rfl ?_)
  refine rvc_nil ?_
  refine Awp.seq ?_
  refine Awp.cons C (fun _ => .pure) (by kernel_rfl) ?_
  refine rvc_un (rexec_prim C (δ := { v := .ptr 2 1 }) rfl rfl rfl rfl trivial rfl ?_)
  refine rvc_un (rexec_prim C (δ := { v := sS (some c.members.nil) eMember c.members.D }) rfl rfl rfl rfl trivial rfl ?_)
  refine rvc_un (rexec_prim C (δ := { v := .pv (.lit (.int .i64 (c.members.D.length : Int))) }) rfl rfl rfl rfl trivial rfl ?_)
  refine rvc_un (rexec_prim C (δ := { v := .pv (.lit (.bool (decide ((c.members.D.length : Int) > 60)))) }) rfl rfl rfl rfl trivial rfl ?_)
  refine rvc_nil ?_
  refine Awp.cond (b := (decide ((c.members.D.length : Int) > 60))) rfl (fun h1 => ?_) (fun h1 => ?_)
  ·
    replace hR := of_true h1 hR
    refine Awp.cons C (fun _ => .pure) (by kernel_rfl) ?_
    refine rvc_un (rexec_call hP C rfl rfl rfl (awake_calls ) ?_)
    refine rvc_un (rexec_prim C (δ := { v := .pv (.lit (.bool (awake ))) }) rfl rfl rfl rfl trivial rfl ?_)
    refine rvc_nil ?_
    refine Awp.ret ?_
    subst hR
    exact ⟨.inl rfl, rfl⟩
  ·
    replace hR := of_false h1 hR
    refine Awp.skip ?_
    refine Awp.cons C (fun _ => .pure) (by kernel_rfl) ?_
    refine rvc_un (rexec_prim C (δ := { v := .agg [.pv (.lit (.int .i64 c.epoch)), sS (some c.members.nil) eMember c.members.D] }) rfl rfl rfl rfl trivial rfl ?_)
    refine rvc_un (rexec_prim C (δ := { v := .pv (.lit (.int .i64 node)) }) rfl rfl rfl rfl trivial rfl ?_)
    refine rvc_un (rexec_call hP C rfl rfl rfl (place0_calls c node (Nat.le_trans hl1 (by decide))) ?_)
    refine rvc_un (rexec_prim C (δ := { v := .agg [.pv (.lit (.int .i64 c.epoch)), sS (some c.members.nil) eMember c.members.D] }) rfl rfl rfl rfl trivial rfl ?_)
    refine rvc_un (rexec_prim C (δ := { v := .pv (.lit (.int .i64 node)) }) rfl rfl rfl rfl trivial rfl ?_)
    refine rvc_un (rexec_call hP C rfl rfl rfl (rPlace_calls c node (Nat.le_trans hl1 (by decide))) ?_)
    refine rvc_un (rexec_prim C (δ := { v := .pv (.lit (.bool ((place0 c node) == (rPlace c node)))) }) rfl rfl rfl rfl trivial rfl ?_)
    refine rvc_un (rexec_prim C (δ := { v := .pv (.lit (.bool ((place0 c node) == (rPlace c node)))) }) rfl rfl rfl rfl trivial rfl ?_)
    refine rvc_case 17 ((place0 c node) == (rPlace c node)) rfl (fun h2 => ?_) (fun h2 => ?_)
    ·
      replace hR := of_true h2 hR
      refine rvc_open rfl rfl rfl (rexec_prim C (δ := { v := .agg [.pv (.lit (.int .i64 c.epoch)), sS (some c.members.nil) eMember c.members.D] }) rfl rfl rfl rfl trivial rfl ?_)
      refine rvc_open rfl rfl rfl (rexec_prim C (δ := { v := .pv (.lit (.int .i64 node)) }) rfl rfl rfl rfl trivial rfl ?_)
      refine rvc_open rfl rfl rfl (rexec_call hP C rfl rfl rfl (nextC_calls c node hl1) ?_)
      refine rvc_open rfl rfl rfl (rexec_prim C (δ := { v := .agg [.pv (.lit (.int .i64 c.epoch)), sS (some c.members.nil) eMember c.members.D] }) rfl rfl rfl rfl trivial rfl ?_)
      refine rvc_open rfl rfl rfl (rexec_prim C (δ := { v := .pv (.lit (.int .i64 node)) }) rfl rfl rfl rfl trivial rfl ?_)
      refine rvc_open rfl rfl rfl (rexec_call hP C rfl rfl rfl (rOff_calls c node 1 hl1) ?_)
      refine rvc_open rfl rfl rfl (rexec_prim C (δ := { v := .pv (.lit (.bool ((nextC c node) == (rOff c node 1)))) }) rfl rfl rfl rfl trivial rfl ?_)
      refine rvc_un (rexec_prim C (δ := { v := .pv (.lit (.bool ((nextC c node) == (rOff c node 1)))) }) rfl rfl rfl rfl trivial rfl ?_)
      refine rvc_un (rexec_prim C (δ := { v := .pv (.lit (.bool ((nextC c node) == (rOff c node 1)))) }) rfl rfl rfl rfl trivial rfl ?_)
      refine rvc_case 26 ((nextC c node) == (rOff c node 1)) rfl (fun h3 => ?_) (fun h3 => ?_)
      ·
        replace hR := of_true h3 hR
        refine rvc_open rfl rfl rfl (rexec_prim C (δ := { v := .agg [.pv (.lit (.int .i64 c.epoch)), sS (some c.members.nil) eMember c.members.D] }) rfl rfl rfl rfl trivial rfl ?_)
        refine rvc_open rfl rfl rfl (rexec_prim C (δ := { v := .pv (.lit (.int .i64 node)) }) rfl rfl rfl rfl trivial rfl ?_)
        refine rvc_open rfl rfl rfl (rexec_call hP C rfl rfl rfl (backC_calls c node hl1) ?_)
        refine rvc_open rfl rfl rfl (rexec_prim C (δ := { v := .agg [.pv (.lit (.int .i64 c.epoch)), sS (some c.members.nil) eMember c.members.D] }) rfl rfl rfl rfl trivial rfl ?_)
        refine rvc_open rfl rfl rfl (rexec_prim C (δ := { v := .pv (.lit (.int .i64 node)) }) rfl rfl rfl rfl trivial rfl ?_)
        refine rvc_open rfl rfl rfl (rexec_call hP C rfl rfl rfl (rOff_calls c node (-1) hl1) ?_)
        refine rvc_open rfl rfl rfl (rexec_prim C (δ := { v := .pv (.lit (.bool ((backC c node) == (rOff c node (-1))))) }) rfl rfl rfl rfl trivial rfl ?_)
        refine rvc_un (rexec_prim C (δ := { v := .pv (.lit (.bool ((backC c node) == (rOff c node (-1))))) }) rfl rfl rfl rfl trivial rfl ?_)
        refine rvc_un (rexec_prim C (δ := { v := .pv (.lit (.bool ((backC c node) == (rOff c node (-1))))) }) rfl rfl rfl rfl trivial rfl ?_)
        refine rvc_case 35 ((backC c node) == (rOff c node (-1))) rfl (fun h4 => ?_) (fun h4 => ?_)
        ·
          replace hR := of_true h4 hR
          refine rvc_open rfl rfl rfl (rexec_prim C (δ := { v := .agg [.pv (.lit (.int .i64 c.epoch)), sS (some c.members.nil) eMember c.members.D] }) rfl rfl rfl rfl trivial rfl ?_)
          refine rvc_open rfl rfl rfl (rexec_call hP C rfl rfl rfl (headC_calls c (Nat.le_trans hl1 (by decide))) ?_)
          refine rvc_open rfl rfl rfl (rexec_prim C (δ := { v := .agg [.pv (.lit (.int .i64 c.epoch)), sS (some c.members.nil) eMember c.members.D] }) rfl rfl rfl rfl trivial rfl ?_)
          refine rvc_open rfl rfl rfl (rexec_call hP C rfl rfl rfl (rEnd_calls c 0 (by have := place0_lt c node; have := rPlace_lt c node; have := of_decide_eq_false h1; have := beq_iff_eq.1 h2; have := beq_iff_eq.1 h3; have := beq_iff_eq.1 h4; omega) (Nat.le_trans hl1 (by decide))) ?_)
          refine rvc_open rfl rfl rfl (rexec_prim C (δ := { v := .pv (.lit (.bool ((headC c) == (rEnd c 0)))) }) rfl rfl rfl rfl trivial rfl ?_)
          refine rvc_un (rexec_prim C (δ := { v := .pv (.lit (.bool ((headC c) == (rEnd c 0)))) }) rfl rfl rfl rfl trivial rfl ?_)
          refine rvc_un (rexec_prim C (δ := { v := .pv (.lit (.bool ((headC c) == (rEnd c 0)))) }) rfl rfl rfl rfl trivial rfl ?_)
          refine rvc_case 42 ((headC c) == (rEnd c 0)) rfl (fun h5 => ?_) (fun h5 => ?_)
          ·
            replace hR := of_true h5 hR
            refine rvc_open rfl rfl rfl (rexec_prim C (δ := { v := .agg [.pv (.lit (.int .i64 c.epoch)), sS (some c.members.nil) eMember c.members.D] }) rfl rfl rfl rfl trivial rfl ?_)
            refine rvc_open rfl rfl rfl (rexec_call hP C rfl rfl rfl (tailC_calls c (Nat.le_trans hl1 (by decide))) ?_)
            refine rvc_open rfl rfl rfl (rexec_prim C (δ := { v := .agg [.pv (.lit (.int .i64 c.epoch)), sS (some c.members.nil) eMember c.members.D] }) rfl rfl rfl rfl trivial rfl ?_)
            refine rvc_open rfl rfl rfl (rexec_call hP C rfl rfl rfl (rEnd_calls c 1 (by have := place0_lt c node; have := rPlace_lt c node; have := of_decide_eq_false h1; have := beq_iff_eq.1 h2; have := beq_iff_eq.1 h3; have := beq_iff_eq.1 h4; have := beq_iff_eq.1 h5; omega) (Nat.le_trans hl1 (by decide))) ?_)
            refine rvc_open rfl rfl rfl (rexec_prim C (δ := { v := .pv (.lit (.bool ((tailC c) == (rEnd c 1)))) }) rfl rfl rfl rfl trivial rfl ?_)
            refine rvc_un (rexec_prim C (δ := { v := .pv (.lit (.bool ((tailC c) == (rEnd c 1)))) }) rfl rfl rfl rfl trivial rfl ?_)
            refine rvc_un (rexec_prim C (δ := { v := .pv (.lit (.bool ((tailC c) == (rEnd c 1)))) }) rfl rfl rfl rfl trivial rfl ?_)
            refine rvc_case 49 ((tailC c) == (rEnd c 1)) rfl (fun h6 => ?_) (fun h6 => ?_)
            ·
              replace hR := of_true h6 hR
              refine rvc_open rfl rfl rfl (rexec_call hP C rfl rfl rfl (awake_calls ) ?_)
              refine rvc_un (rexec_prim C (δ := { v := .pv (.lit (.bool (awake ))) }) rfl rfl rfl rfl trivial rfl ?_)
              refine rvc_un (rexec_prim C (δ := { v := .pv (.lit (.bool (awake ))) }) rfl rfl rfl rfl trivial rfl ?_)
              refine rvc_nil ?_
              refine Awp.ret ?_
              subst hR
              exact ⟨.inl rfl, rfl⟩
            ·
              replace hR := of_false h6 hR
              refine rvc_shut rfl rfl rfl rfl ?_
              refine rvc_un (rexec_prim C (δ := { v := .pv (.lit (.bool false)) }) rfl rfl rfl rfl trivial rfl ?_)
              refine rvc_un (rexec_prim C (δ := { v := .pv (.lit (.bool false)) }) rfl rfl rfl rfl trivial rfl ?_)
              refine rvc_nil ?_
              refine Awp.ret ?_
              subst hR
              exact ⟨.inl rfl, rfl⟩
          ·
            replace hR := of_false h5 hR
            refine rvc_shut rfl rfl rfl rfl ?_
            refine rvc_shut rfl rfl rfl rfl ?_
            refine rvc_shut rfl rfl rfl rfl ?_
            refine rvc_shut rfl rfl rfl rfl ?_
            refine rvc_shut rfl rfl rfl rfl ?_
            refine rvc_un (rexec_prim C (δ := { v := .pv (.lit (.bool false)) }) rfl rfl rfl rfl trivial rfl ?_)
            refine rvc_un (rexec_prim C (δ := { v := .pv (.lit (.bool false)) }) rfl rfl rfl rfl trivial rfl ?_)
            refine rvc_shut rfl rfl rfl rfl ?_
            refine rvc_un (rexec_prim C (δ := { v := .pv (.lit (.bool false)) }) rfl rfl rfl rfl trivial rfl ?_)
            refine rvc_un (rexec_prim C (δ := { v := .pv (.lit (.bool false)) }) rfl rfl rfl rfl trivial rfl ?_)
            refine rvc_nil ?_
            refine Awp.ret ?_
            subst hR
            exact ⟨.inl rfl, rfl⟩
        ·
          replace hR := of_false h4 hR
          refine rvc_shut rfl rfl rfl rfl ?_
          refine rvc_shut rfl rfl rfl rfl ?_
          refine rvc_shut rfl rfl rfl rfl ?_
          refine rvc_shut rfl rfl rfl rfl ?_
          refine rvc_shut rfl rfl rfl rfl ?_
          refine rvc_un (rexec_prim C (δ := { v := .pv (.lit (.bool false)) }) rfl rfl rfl rfl trivial rfl ?_)
          refine rvc_un (rexec_prim C (δ := { v := .pv (.lit (.bool false)) }) rfl rfl rfl rfl trivial rfl ?_)
          refine rvc_shut rfl rfl rfl rfl ?_
          refine rvc_shut rfl rfl rfl rfl ?_
          refine rvc_shut rfl rfl rfl rfl ?_
          refine rvc_shut rfl rfl rfl rfl ?_
          refine rvc_shut rfl rfl rfl rfl ?_
          refine rvc_un (rexec_prim C (δ := { v := .pv (.lit (.bool false)) }) rfl rfl rfl rfl trivial rfl ?_)
          refine rvc_un (rexec_prim C (δ := { v := .pv (.lit (.bool false)) }) rfl rfl rfl rfl trivial rfl ?_)
          refine rvc_shut rfl rfl rfl rfl ?_
          refine rvc_un (rexec_prim C (δ := { v := .pv (.lit (.bool false)) }) rfl rfl rfl rfl trivial rfl ?_)
          refine rvc_un (rexec_prim C (δ := { v := .pv (.lit (.bool false)) }) rfl rfl rfl rfl trivial rfl ?_)
          refine rvc_nil ?_
          refine Awp.ret ?_
          subst hR
          exact ⟨.inl rfl, rfl⟩
      ·
        replace hR := of_false h3 hR
        refine rvc_shut rfl rfl rfl rfl ?_
        refine rvc_shut rfl rfl rfl rfl ?_
        refine rvc_shut rfl rfl rfl rfl ?_
        refine rvc_shut rfl rfl rfl rfl ?_
        refine rvc_shut rfl rfl rfl rfl ?_
        refine rvc_shut rfl rfl rfl rfl ?_
        refine rvc_shut rfl rfl rfl rfl ?_
        refine rvc_un (rexec_prim C (δ := { v := .pv (.lit (.bool false)) }) rfl rfl rfl rfl trivial rfl ?_)
        refine rvc_un (rexec_prim C (δ := { v := .pv (.lit (.bool false)) }) rfl rfl rfl rfl trivial rfl ?_)
        refine rvc_shut rfl rfl rfl rfl ?_
        refine rvc_shut rfl rfl rfl rfl ?_
        refine rvc_shut rfl rfl rfl rfl ?_
        refine rvc_shut rfl rfl rfl rfl ?_
        refine rvc_shut rfl rfl rfl rfl ?_
        refine rvc_un (rexec_prim C (δ := { v := .pv (.lit (.bool false)) }) rfl rfl rfl rfl trivial rfl ?_)
        refine rvc_un (rexec_prim C (δ := { v := .pv (.lit (.bool false)) }) rfl rfl rfl rfl trivial rfl ?_)
        refine rvc_shut rfl rfl rfl rfl ?_
        refine rvc_shut rfl rfl rfl rfl ?_
        refine rvc_shut rfl rfl rfl rfl ?_
        refine rvc_shut rfl rfl rfl rfl ?_
        refine rvc_shut rfl rfl rfl rfl ?_
        refine rvc_un (rexec_prim C (δ := { v := .pv (.lit (.bool false)) }) rfl rfl rfl rfl trivial rfl ?_)
        refine rvc_un (rexec_prim C (δ := { v := .pv (.lit (.bool false)) }) rfl rfl rfl rfl trivial rfl ?_)
        refine rvc_shut rfl rfl rfl rfl ?_
        refine rvc_un (rexec_prim C (δ := { v := .pv (.lit (.bool false)) }) rfl rfl rfl rfl trivial rfl ?_)
        refine rvc_un (rexec_prim C (δ := { v := .pv (.lit (.bool false)) }) rfl rfl rfl rfl trivial rfl ?_)
        refine rvc_nil ?_
        refine Awp.ret ?_
        subst hR
        exact ⟨.inl rfl, rfl⟩
    ·
      replace hR := of_false h2 hR
      refine rvc_shut rfl rfl rfl rfl ?_
      refine rvc_shut rfl rfl rfl rfl ?_
      refine rvc_shut rfl rfl rfl rfl ?_
      refine rvc_shut rfl rfl rfl rfl ?_
      refine rvc_shut rfl rfl rfl rfl ?_
      refine rvc_shut rfl rfl rfl rfl ?_
      refine rvc_shut rfl rfl rfl rfl ?_
      refine rvc_un (rexec_prim C (δ := { v := .pv (.lit (.bool false)) }) rfl rfl rfl rfl trivial rfl ?_)
      refine rvc_un (rexec_prim C (δ := { v := .pv (.lit (.bool false)) }) rfl rfl rfl rfl trivial rfl ?_)
      refine rvc_shut rfl rfl rfl rfl ?_
      refine rvc_shut rfl rfl rfl rfl ?_
      refine rvc_shut rfl rfl rfl rfl ?_
      refine rvc_shut rfl rfl rfl rfl ?_
      refine rvc_shut rfl rfl rfl rfl ?_
      refine rvc_shut rfl rfl rfl rfl ?_
      refine rvc_shut rfl rfl rfl rfl ?_
      refine rvc_un (rexec_prim C (δ := { v := .pv (.lit (.bool false)) }) rfl rfl rfl rfl trivial rfl ?_)
      refine rvc_un (rexec_prim C (δ := { v := .pv (.lit (.bool false)) }) rfl rfl rfl rfl trivial rfl ?_)
      refine rvc_shut rfl rfl rfl rfl ?_
      refine rvc_shut rfl rfl rfl rfl ?_
      refine rvc_shut rfl rfl rfl rfl ?_
      refine rvc_shut rfl rfl rfl rfl ?_
      refine rvc_shut rfl rfl rfl rfl ?_
      refine rvc_un (rexec_prim C (δ := { v := .pv (.lit (.bool false)) }) rfl rfl rfl rfl trivial rfl ?_)
      refine rvc_un (rexec_prim C (δ := { v := .pv (.lit (.bool false)) }) rfl rfl rfl rfl trivial rfl ?_)
      refine rvc_shut rfl rfl rfl rfl ?_
      refine rvc_shut rfl rfl rfl rfl ?_
      refine rvc_shut rfl rfl rfl rfl ?_
      refine rvc_shut rfl rfl rfl rfl ?_
      refine rvc_shut rfl rfl rfl rfl ?_
      refine rvc_un (rexec_prim C (δ := { v := .pv (.lit (.bool false)) }) rfl rfl rfl rfl trivial rfl ?_)
      refine rvc_un (rexec_prim C (δ := { v := .pv (.lit (.bool false)) }) rfl rfl rfl rfl trivial rfl ?_)
      refine rvc_shut rfl rfl rfl rfl ?_
      refine rvc_un (rexec_prim C (δ := { v := .pv (.lit (.bool false)) }) rfl rfl rfl rfl trivial rfl ?_)
      refine rvc_un (rexec_prim C (δ := { v := .pv (.lit (.bool false)) }) rfl rfl rfl rfl trivial rfl ?_)
      refine rvc_nil ?_
      refine Awp.ret ?_
      subst hR
      exact ⟨.inl rfl, rfl⟩

def lawSets (c : Chain) : Bool :=
  (bif (decide ((c.members.D.length : Int) > 60)) then (awake ) else (bif ((nodes c) == (rSet c false)) then (bif ((whole c) == (rSet c true)) then (awake ) else false) else false))
theorem lawSets_calls (c : Chain) (hl1 : c.members.D.length ≤ 1000000) : PCalls Try.prog 5 [.agg [.pv (.lit (.int .i64 c.epoch)), sS (some c.members.nil) eMember c.members.D]] (.pv (.lit (.bool (lawSets c)))) := by
  generalize hR : lawSets c = R
  refine PCalls.of_body tabOk Try.func5 rfl rfl rfl rfl rfl mixed fun E hP C hI => ?_
  refine Awp.cons C (fun _ => .pure) (by kernel_rfl) ?_
  refine rvc_un (rexec_prim C (δ := { v := .ptr 1 0, new := [(1, .cells [.pv (.lit (.int .i64 c.epoch)), sS (some c.members.nil) eMember c.members.D])] }) rfl rfl rfl rfl trivial rfl ?_)
  refine rvc_un (rexec_prim C (δ := { v := .pv (.lit (.bool false)) }) rfl rfl rfl rfl trivial rfl ?_)
  refine rvc_nil ?_
  refine Awp.seq ?_
  refine Awp.cons C (fun _ => .pure) (by kernel_rfl) ?_
  refine rvc_un (rexec_prim C (δ := { v := .ptr 1 1 }) rfl rfl rfl rfl trivial rfl ?_)
  refine rvc_un (rexec_prim C (δ := { v := sS (some c.members.nil) eMember c.members.D }) rfl rfl rfl rfl trivial rfl ?_)
  refine rvc_un (rexec_prim C (δ := { v := .pv (.lit (.int .i64 (c.members.D.length : Int))) }) rfl rfl rfl rfl trivial rfl ?_)
  refine rvc_un (rexec_prim C (δ := { v := .pv (.lit (.bool (decide ((c.members.D.length : Int) > 60)))) }) rfl rfl rfl rfl trivial rfl ?_)
  refine rvc_nil ?_
  refine Awp.cond (b := (decide ((c.members.D.length : Int) > 60))) rfl (fun h1 => ?_) (fun h1 => ?_)
  ·
    replace hR := of_true h1 hR
    refine Awp.cons C (fun _ => .pure) (by kernel_rfl) ?_
    refine rvc_un (rexec_call hP C rfl rfl rfl (awake_calls ) ?_)
    refine rvc_un (rexec_prim C (δ := { v := .pv (.lit (.bool (awake ))) }) rfl rfl rfl rfl trivial rfl ?_)
    refine rvc_nil ?_
    refine Awp.ret ?_
    subst hR
    exact ⟨.inl rfl, rfl⟩
  ·
    replace hR := of_false h1 hR
    refine Awp.skip ?_
    refine Awp.cons C (fun _ => .pure) (by kernel_rfl) ?_
    refine rvc_un (rexec_prim C (δ := { v := .agg [.pv (.lit (.int .i64 c.epoch)), sS (some c.members.nil) eMember c.members.D] }) rfl rfl rfl rfl trivial rfl ?_)
    refine rvc_un (rexec_call hP C rfl rfl rfl (nodes_calls c (Nat.le_trans hl1 (by decide))) ?_)
    refine rvc_un (rexec_prim C (δ := { v := .agg [.pv (.lit (.int .i64 c.epoch)), sS (some c.members.nil) eMember c.members.D] }) rfl rfl rfl rfl trivial rfl ?_)
    refine rvc_un (rexec_call hP C rfl rfl rfl (rSet_calls c false hl1) ?_)
    refine rvc_un (rexec_prim C (δ := { v := .pv (.lit (.bool ((nodes c) == (rSet c false)))) }) rfl rfl rfl rfl trivial rfl ?_)
    refine rvc_un (rexec_prim C (δ := { v := .pv (.lit (.bool ((nodes c) == (rSet c false)))) }) rfl rfl rfl rfl trivial rfl ?_)
    refine rvc_case 13 ((nodes c) == (rSet c false)) rfl (fun h2 => ?_) (fun h2 => ?_)
    ·
      replace hR := of_true h2 hR
      refine rvc_open rfl rfl rfl (rexec_prim C (δ := { v := .agg [.pv (.lit (.int .i64 c.epoch)), sS (some c.members.nil) eMember c.members.D] }) rfl rfl rfl rfl trivial rfl ?_)
      refine rvc_open rfl rfl rfl (rexec_call hP C rfl rfl rfl (whole_calls c (Nat.le_trans hl1 (by decide))) ?_)
      refine rvc_open rfl rfl rfl (rexec_prim C (δ := { v := .agg [.pv (.lit (.int .i64 c.epoch)), sS (some c.members.nil) eMember c.members.D] }) rfl rfl rfl rfl trivial rfl ?_)
      refine rvc_open rfl rfl rfl (rexec_call hP C rfl rfl rfl (rSet_calls c true hl1) ?_)
      refine rvc_open rfl rfl rfl (rexec_prim C (δ := { v := .pv (.lit (.bool ((whole c) == (rSet c true)))) }) rfl rfl rfl rfl trivial rfl ?_)
      refine rvc_un (rexec_prim C (δ := { v := .pv (.lit (.bool ((whole c) == (rSet c true)))) }) rfl rfl rfl rfl trivial rfl ?_)
      refine rvc_un (rexec_prim C (δ := { v := .pv (.lit (.bool ((whole c) == (rSet c true)))) }) rfl rfl rfl rfl trivial rfl ?_)
      refine rvc_case 20 ((whole c) == (rSet c true)) rfl (fun h3 => ?_) (fun h3 => ?_)
      ·
        replace hR := of_true h3 hR
        refine rvc_open rfl rfl rfl (rexec_call hP C rfl rfl rfl (awake_calls ) ?_)
        refine rvc_un (rexec_prim C (δ := { v := .pv (.lit (.bool (awake ))) }) rfl rfl rfl rfl trivial rfl ?_)
        refine rvc_un (rexec_prim C (δ := { v := .pv (.lit (.bool (awake ))) }) rfl rfl rfl rfl trivial rfl ?_)
        refine rvc_nil ?_
        refine Awp.ret ?_
        subst hR
        exact ⟨.inl rfl, rfl⟩
      ·
        replace hR := of_false h3 hR
        refine rvc_shut rfl rfl rfl rfl ?_
        refine rvc_un (rexec_prim C (δ := { v := .pv (.lit (.bool false)) }) rfl rfl rfl rfl trivial rfl ?_)
        refine rvc_un (rexec_prim C (δ := { v := .pv (.lit (.bool false)) }) rfl rfl rfl rfl trivial rfl ?_)
        refine rvc_nil ?_
        refine Awp.ret ?_
        subst hR
        exact ⟨.inl rfl, rfl⟩
    ·
      replace hR := of_false h2 hR
      refine rvc_shut rfl rfl rfl rfl ?_
      refine rvc_shut rfl rfl rfl rfl ?_
      refine rvc_shut rfl rfl rfl rfl ?_
      refine rvc_shut rfl rfl rfl rfl ?_
      refine rvc_shut rfl rfl rfl rfl ?_
      refine rvc_un (rexec_prim C (δ := { v := .pv (.lit (.bool false)) }) rfl rfl rfl rfl trivial rfl ?_)
      refine rvc_un (rexec_prim C (δ := { v := .pv (.lit (.bool false)) }) rfl rfl rfl rfl trivial rfl ?_)
      refine rvc_shut rfl rfl rfl rfl ?_
      refine rvc_un (rexec_prim C (δ := { v := .pv (.lit (.bool false)) }) rfl rfl rfl rfl trivial rfl ?_)
      refine rvc_un (rexec_prim C (δ := { v := .pv (.lit (.bool false)) }) rfl rfl rfl rfl trivial rfl ?_)
      refine rvc_nil ?_
      refine Awp.ret ?_
      subst hR
      exact ⟨.inl rfl, rfl⟩

end Go.Proofs.Ytjhphpoihadmkaa

/- The laws LayoutPlaces and LayoutSets in plain Lean: their models answer true. No conditions. -/
namespace Go.Proofs.Ytjhphpoihadmkaa
open Go.Am

theorem indexFunc_l0_eq (n : Int) : ∀ (l : List Member) (i : Nat), indexFunc_l0 (fun x0 => placeF x0 n) l i = rPlace_l0 n l i
  | [], _ => rfl
  | x :: l, i => by
    show (bif x.node == n then (i : Int) else indexFunc_l0 (fun x0 => placeF x0 n) l (i + 1)) = _
    rw [indexFunc_l0_eq n l (i + 1)]; rfl
theorem place_eq (c : Chain) (n : Int) : place0 c n = rPlace c n := by
  unfold place0 rPlace placeIn indexFunc
  rw [check_eq, indexFunc_l0_eq]
theorem next_eq (c : Chain) (n : Int) (hl : c.members.D.length ≤ 1000000) : nextC c n = rOff c n 1 := by
  unfold nextC rOff
  have h := place0_lt c n
  rw [← place_eq]
  have w1 := wrapI ((c.members.D.length : Int) - 1) (by omega)
  have w2 := wrapI (place0 c n + 1) (by omega)
  rw [w1, w2]
  cases h0 : decide (place0 c n < 0)
  · have h0 := of_decide_eq_false h0
    have e1 : decide (place0 c n + 1 < 0) = false := by simp; omega
    rw [e1]
    by_cases h2 : place0 c n = (c.members.D.length : Int) - 1
    · have e2 : decide (place0 c n + 1 ≥ (c.members.D.length : Int)) = true := by simp; omega
      rw [e2, beq_iff_eq.2 h2]; rfl
    · have e2 : decide (place0 c n + 1 ≥ (c.members.D.length : Int)) = false := by simp; omega
      rw [e2, beq_eq_false_iff_ne.2 h2]; rfl
  · rfl
theorem back_eq (c : Chain) (n : Int) (hl : c.members.D.length ≤ 1000000) : backC c n = rOff c n (-1) := by
  unfold backC rOff
  have h := place0_lt c n
  rw [← place_eq]
  have w2 := wrapI (place0 c n - 1) (by omega)
  rw [show place0 c n + -1 = place0 c n - 1 by omega, w2]
  by_cases h0 : place0 c n < 1
  · rw [decide_eq_true h0]
    by_cases h1 : place0 c n < 0
    · rw [decide_eq_true h1]; rfl
    · have e1 : decide (place0 c n - 1 < 0) = true := by simp; omega
      rw [decide_eq_false h1, e1]; rfl
  · have e0 : decide (place0 c n < 0) = false := by simp; omega
    have e1 : decide (place0 c n - 1 < 0) = false := by simp; omega
    have e2 : decide (place0 c n - 1 ≥ (c.members.D.length : Int)) = false := by simp; omega
    rw [decide_eq_false h0, e0, e1, e2]; rfl
theorem head_eq (c : Chain) : headC c = rEnd c 0 := by
  unfold headC rEnd
  rw [check_eq]
  cases rCheck c != 0
  · have : (IntKind.i64.wrap (0 * IntKind.i64.wrap ((c.members.D.length : Int) - 1))).toNat = 0 := by
      rw [Int.zero_mul]; rfl
    rw [this]
  · rfl
theorem tail_eq (c : Chain) (hl : c.members.D.length ≤ 1000000) : tailC c = rEnd c 1 := by
  unfold tailC rEnd
  rw [check_eq]
  have w1 := wrapI ((c.members.D.length : Int) - 1) (by omega)
  rw [Int.one_mul, w1, w1]
theorem lawPlaces_true (c : Chain) (n : Int) (hl : c.members.D.length ≤ 1000000) : lawPlaces c n = true := by
  unfold lawPlaces
  rw [awake_true, place_eq, next_eq c n hl, back_eq c n hl, head_eq, tail_eq c hl]
  simp

/-! ### Sets -/
def bitsOf (p : Member → Bool) (l : List Member) (S : Nat) : Nat := l.foldl (fun S x => if p x && mIn x.node then S ||| 2 ^ x.node.toNat else S) S
theorem in_iff (n : Int) : mIn n = true ↔ 0 ≤ n ∧ n < 64 := by
  unfold mIn
  by_cases h1 : n ≥ 0 <;> by_cases h2 : n < 64 <;> simp [h1, h2] <;> omega
theorem with_cast {S : Nat} (hS : S < 18446744073709551616) (n : Int) : mWith (S : Int) n = ((if mIn n then S ||| 2 ^ n.toNat else S : Nat) : Int) := by
  cases h : mIn n
  · rw [with_out h]; simp
  · obtain ⟨h1, h2⟩ := (in_iff n).1 h
    obtain ⟨k, rfl⟩ : ∃ k : Nat, n = (k : Int) := ⟨n.toNat, by omega⟩
    rw [with_nat hS (by omega)]; simp
theorem with_cast_lt {S : Nat} (hS : S < 18446744073709551616) (n : Int) : (if mIn n then S ||| 2 ^ n.toNat else S : Nat) < 18446744073709551616 := by
  cases h : mIn n
  · simpa using hS
  · obtain ⟨h1, h2⟩ := (in_iff n).1 h
    simp only [if_true]
    exact with_lt hS (by omega)
theorem nodes_l0_eq : ∀ (l : List Member) (i S : Nat), S < 18446744073709551616 → nodes_l0 l i (S : Int) = (bitsOf (fun _ => true) l S : Nat) ∧ bitsOf (fun _ => true) l S < 18446744073709551616
  | [], _, S, hS => ⟨rfl, hS⟩
  | x :: l, i, S, hS => by
    have := nodes_l0_eq l (i + 1) _ (with_cast_lt hS x.node)
    simp only [nodes_l0, with_cast hS, this.1]
    simp only [bitsOf, List.foldl_cons, Bool.true_and] at this ⊢
    exact ⟨trivial, this.2⟩
theorem whole_l0_eq : ∀ (l : List Member) (i S : Nat), S < 18446744073709551616 → whole_l0 l i (S : Int) = (bitsOf (fun x => !x.fresh) l S : Nat) ∧ bitsOf (fun x => !x.fresh) l S < 18446744073709551616
  | [], _, S, hS => ⟨rfl, hS⟩
  | x :: l, i, S, hS => by
    simp only [whole_l0]
    cases hf : x.fresh
    · have := whole_l0_eq l (i + 1) _ (with_cast_lt hS x.node)
      simp only [Bool.not_false, cond_true, with_cast hS, this.1]
      simp only [bitsOf, List.foldl_cons, hf, Bool.not_false, Bool.true_and] at this ⊢
      exact ⟨trivial, this.2⟩
    · have := whole_l0_eq l (i + 1) S hS
      simp only [Bool.not_true, cond_false, this.1]
      simp only [bitsOf, List.foldl_cons, hf, Bool.not_true, Bool.false_and] at this ⊢
      exact ⟨by simp, by simpa using this.2⟩
theorem bits_test (p : Member → Bool) {n : Nat} (hn : n < 64) : ∀ (l : List Member) (S : Nat), (bitsOf p l S).testBit n = (S.testBit n || l.any fun x => x.node == (n : Int) && p x)
  | [], S => by simp [bitsOf]
  | x :: l, S => by
    have h : bitsOf p (x :: l) S = bitsOf p l (if p x && mIn x.node then S ||| 2 ^ x.node.toNat else S) := rfl
    rw [h, bits_test p hn l, List.any_cons]
    by_cases hx : x.node = (n : Int)
    · have hin : mIn x.node = true := (in_iff _).2 (by omega)
      rw [hin, hx]
      cases p x <;> simp [Nat.testBit_or]
    · have e : (x.node == (n : Int)) = false := by simpa using hx
      rw [e]
      cases hp : p x && mIn x.node
      · simp
      · have hin : mIn x.node = true := by simp only [Bool.and_eq_true] at hp; exact hp.2
        obtain ⟨h1, h2⟩ := (in_iff _).1 hin
        have : x.node.toNat ≠ n := by omega
        simp [Nat.testBit_or, this]
theorem rSet_l2_eq (kk : Int → Int) : ∀ (k i p : Nat), p * 2 ^ k < 18446744073709551616 → rSet_l2 kk k i (p : Int) = kk ((p * 2 ^ k : Nat) : Int)
  | 0, _, p, _ => by simp [rSet_l2]
  | k + 1, i, p, h => by
    have h2 : p * 2 ^ (k + 1) = (2 * p) * 2 ^ k := by rw [Nat.pow_succ, Nat.mul_comm 2 p, Nat.mul_assoc, Nat.mul_comm 2]
    have hp : 2 * p < 18446744073709551616 := by
      have : 1 ≤ 2 ^ k := Nat.one_le_two_pow
      have : 2 * p * 1 ≤ 2 * p * 2 ^ k := Nat.mul_le_mul_left _ this
      omega
    have e : IntKind.u64.wrap (2 * (p : Int)) = ((2 * p : Nat) : Int) := by rw [wrap64]; omega
    simp only [rSet_l2, e]
    rw [rSet_l2_eq kk k (i + 1) (2 * p) (by omega), h2]
theorem rSet_l1_eq (wh : Bool) (i : Nat) (kk : Bool → Int) : ∀ (l : List Member) (j : Nat) (has : Bool), rSet_l1 wh i kk l j has = kk (has || l.any fun x => x.node == (i : Int) && !(wh && x.fresh))
  | [], _, has => by simp [rSet_l1]
  | x :: l, j, has => by
    simp only [rSet_l1, List.any_cons]
    cases has
    · cases h1 : x.node == (i : Int)
      · simp [rSet_l1_eq wh i kk l]
      · cases wh <;> simp [rSet_l1_eq _ i kk l]
    · simp [rSet_l1_eq wh i kk l]
theorem rSet_l0_eq (c : Chain) (wh : Bool) {S : Nat} (hS : S < 18446744073709551616) (hbit : ∀ n, n < 64 → S.testBit n = c.members.D.any fun x => x.node == (n : Int) && !(wh && x.fresh)) : ∀ (k i : Nat), i + k = 64 → rSet_l0 c wh k i ((S % 2 ^ i : Nat) : Int) = ((S : Nat) : Int)
  | 0, i, h => by
    have : i = 64 := by omega
    subst this
    simp only [rSet_l0]
    rw [Nat.mod_eq_of_lt (by simpa using hS)]
  | k + 1, i, h => by
    simp only [rSet_l0, rSet_l1_eq, Bool.false_or]
    rw [← hbit i (by omega)]
    have hs : S % 2 ^ (i + 1) = S % 2 ^ i + 2 ^ i * (S.testBit i).toNat := by rw [Nat.mod_pow_succ, Nat.toNat_testBit]
    have ih := rSet_l0_eq c wh hS hbit k (i + 1) (by omega)
    cases hb : S.testBit i
    · rw [hb] at hs
      simp only [cond_false]
      rw [show S % 2 ^ (i + 1) = S % 2 ^ i by rw [hs]; simp] at ih
      exact ih
    · rw [hb] at hs
      simp only [cond_true, Int.toNat_natCast]
      have hpow : 2 ^ i < 18446744073709551616 := by
        have : 2 ^ i < 2 ^ 64 := Nat.pow_lt_pow_right (by decide) (by omega)
        simpa using this
      have h1 : (1 : Int) = ((1 : Nat) : Int) := rfl
      rw [h1, rSet_l2_eq _ i 0 1 (by omega), Nat.one_mul]
      have hle : S % 2 ^ (i + 1) ≤ S := Nat.mod_le _ _
      simp only [Bool.toNat_true, Nat.mul_one] at hs
      have e : IntKind.u64.wrap (((S % 2 ^ i : Nat) : Int) + ((2 ^ i : Nat) : Int)) = ((S % 2 ^ (i + 1) : Nat) : Int) := by
        rw [wrap64, hs]
        rw [hs] at hle
        generalize S % 2 ^ i = a at hle ⊢
        generalize 2 ^ i = b at hle ⊢
        omega
      simp only [e]
      exact ih
theorem sets_eq (c : Chain) : nodes c = rSet c false ∧ whole c = rSet c true := by
  constructor
  · obtain ⟨h1, h2⟩ := nodes_l0_eq c.members.D 0 0 (by decide)
    have h3 := rSet_l0_eq c false h2 (fun n hn => by rw [bits_test _ hn]; simp) 64 0 rfl
    unfold nodes rSet
    rw [show (0 : Int) = ((0 : Nat) : Int) from rfl, h1]
    rw [show (bitsOf (fun _ => true) c.members.D 0) % 2 ^ 0 = 0 by rw [Nat.pow_zero, Nat.mod_one]] at h3
    exact h3.symm
  · obtain ⟨h1, h2⟩ := whole_l0_eq c.members.D 0 0 (by decide)
    have h3 := rSet_l0_eq c true h2 (fun n hn => by rw [bits_test _ hn]; simp) 64 0 rfl
    unfold whole rSet
    rw [show (0 : Int) = ((0 : Nat) : Int) from rfl, h1]
    rw [show (bitsOf (fun x => !x.fresh) c.members.D 0) % 2 ^ 0 = 0 by rw [Nat.pow_zero, Nat.mod_one]] at h3
    exact h3.symm
theorem lawSets_true (c : Chain) : lawSets c = true := by
  unfold lawSets
  rw [awake_true, (sets_eq c).1, (sets_eq c).2]
  simp
end Go.Proofs.Ytjhphpoihadmkaa

