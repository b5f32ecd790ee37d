import Derived.Test.YtpeeofofagfooaaM1
import Derived.Test.YtpeeofofagfooaaM2
import Derived.Test.YtpeeofofagfooaaM3
import Derived.Test.YtpeeofofagfooaaM4
import Derived.Shelf.SlSortCmp.WholeK
/- The document: a call; busy links. No conditions. -/
namespace Go.Proofs.Ytpeeofofagfooaa
open Go.Am
def also (n : Net51) (k : Do) : Net51 × ByteArray × Bool × Int :=
  (bif ((IntKind.i64.wrap ((IntKind.u64.wrap k.op).tmod 9)) == 3) then ((rTake n k.l k.i).1, (rTake n k.l k.i).2.1, (rTake n k.l k.i).2.2.1, (rTake n k.l k.i).2.2.2) else (bif ((IntKind.i64.wrap ((IntKind.u64.wrap k.op).tmod 9)) == 4) then ((rTake n k.l k.i).1, (rTake n k.l k.i).2.1, (rTake n k.l k.i).2.2.1, (rTake n k.l k.i).2.2.2) else (bif ((IntKind.i64.wrap ((IntKind.u64.wrap k.op).tmod 9)) == 5) then ((rLose n k.l k.i).1, ⟨#[]⟩, false, (rLose n k.l k.i).2) else (bif ((IntKind.i64.wrap ((IntKind.u64.wrap k.op).tmod 9)) == 6) then ((rDouble n k.l k.i).1, ⟨#[]⟩, false, (rDouble n k.l k.i).2) else (bif ((IntKind.i64.wrap ((IntKind.u64.wrap k.op).tmod 9)) == 7) then ((Net51.mk n.items (fromW k.side) n.lost), ⟨#[]⟩, false, 0) else (bif ((IntKind.i64.wrap ((IntKind.u64.wrap k.op).tmod 9)) == 8) then ((rForget n k.i), ⟨#[]⟩, false, 0) else ((rSend n k.l k.b).1, ⟨#[]⟩, false, (rSend n k.l k.b).2)))))))
set_option maxRecDepth 100000 in
theorem also_calls (n : Net51) (k : Do) (ho : okR n) (hl1 : n.items.D.length ≤ 1000000) : MCalls Try.prog 19 [.ptr 0 0, .agg [.pv (.lit (.int .i64 k.op)), .pv (.lit (.int .i64 k.i)), .pv (.lit (.int .i64 k.l.from_)), .pv (.lit (.int .i64 k.l.to)), sS (some k.b.nil) (eI .u8) k.b.D, .pv (.lit (.int .u64 k.side))]] (.cells [sS (some n.items.nil) eItem n.items.D, .pv (.lit (.bool (n.side 0))), .pv (.lit (.bool (n.side 1))), .pv (.lit (.bool (n.side 2))), .pv (.lit (.bool (n.side 3))), .pv (.lit (.bool (n.side 4))), .pv (.lit (.bool (n.side 5))), .pv (.lit (.bool (n.side 6))), .pv (.lit (.bool (n.side 7))), .pv (.lit (.bool (n.side 8))), .pv (.lit (.bool (n.side 9))), .pv (.lit (.bool (n.side 10))), .pv (.lit (.bool (n.side 11))), .pv (.lit (.bool (n.side 12))), .pv (.lit (.bool (n.side 13))), .pv (.lit (.bool (n.side 14))), .pv (.lit (.bool (n.side 15))), .pv (.lit (.bool (n.side 16))), .pv (.lit (.bool (n.side 17))), .pv (.lit (.bool (n.side 18))), .pv (.lit (.bool (n.side 19))), .pv (.lit (.bool (n.side 20))), .pv (.lit (.bool (n.side 21))), .pv (.lit (.bool (n.side 22))), .pv (.lit (.bool (n.side 23))), .pv (.lit (.bool (n.side 24))), .pv (.lit (.bool (n.side 25))), .pv (.lit (.bool (n.side 26))), .pv (.lit (.bool (n.side 27))), .pv (.lit (.bool (n.side 28))), .pv (.lit (.bool (n.side 29))), .pv (.lit (.bool (n.side 30))), .pv (.lit (.bool (n.side 31))), .pv (.lit (.bool (n.side 32))), .pv (.lit (.bool (n.side 33))), .pv (.lit (.bool (n.side 34))), .pv (.lit (.bool (n.side 35))), .pv (.lit (.bool (n.side 36))), .pv (.lit (.bool (n.side 37))), .pv (.lit (.bool (n.side 38))), .pv (.lit (.bool (n.side 39))), .pv (.lit (.bool (n.side 40))), .pv (.lit (.bool (n.side 41))), .pv (.lit (.bool (n.side 42))), .pv (.lit (.bool (n.side 43))), .pv (.lit (.bool (n.side 44))), .pv (.lit (.bool (n.side 45))), .pv (.lit (.bool (n.side 46))), .pv (.lit (.bool (n.side 47))), .pv (.lit (.bool (n.side 48))), .pv (.lit (.bool (n.side 49))), .pv (.lit (.bool (n.side 50))), .pv (.lit (.bool (n.side 51))), .pv (.lit (.bool (n.side 52))), .pv (.lit (.bool (n.side 53))), .pv (.lit (.bool (n.side 54))), .pv (.lit (.bool (n.side 55))), .pv (.lit (.bool (n.side 56))), .pv (.lit (.bool (n.side 57))), .pv (.lit (.bool (n.side 58))), .pv (.lit (.bool (n.side 59))), .pv (.lit (.bool (n.side 60))), .pv (.lit (.bool (n.side 61))), .pv (.lit (.bool (n.side 62))), .pv (.lit (.bool (n.side 63))), .pv (.lit (.int .i64 n.lost))]) (.tup [.pv (.lit (.string ((also n k).2.1))), .pv (.lit (.bool ((also n k).2.2.1))), .pv (.lit (.int .i64 ((also n k).2.2.2)))]) (.cells [sS (some (also n k).1.items.nil) eItem ((also n k).1.items.D), .pv (.lit (.bool ((also n k).1.side 0))), .pv (.lit (.bool ((also n k).1.side 1))), .pv (.lit (.bool ((also n k).1.side 2))), .pv (.lit (.bool ((also n k).1.side 3))), .pv (.lit (.bool ((also n k).1.side 4))), .pv (.lit (.bool ((also n k).1.side 5))), .pv (.lit (.bool ((also n k).1.side 6))), .pv (.lit (.bool ((also n k).1.side 7))), .pv (.lit (.bool ((also n k).1.side 8))), .pv (.lit (.bool ((also n k).1.side 9))), .pv (.lit (.bool ((also n k).1.side 10))), .pv (.lit (.bool ((also n k).1.side 11))), .pv (.lit (.bool ((also n k).1.side 12))), .pv (.lit (.bool ((also n k).1.side 13))), .pv (.lit (.bool ((also n k).1.side 14))), .pv (.lit (.bool ((also n k).1.side 15))), .pv (.lit (.bool ((also n k).1.side 16))), .pv (.lit (.bool ((also n k).1.side 17))), .pv (.lit (.bool ((also n k).1.side 18))), .pv (.lit (.bool ((also n k).1.side 19))), .pv (.lit (.bool ((also n k).1.side 20))), .pv (.lit (.bool ((also n k).1.side 21))), .pv (.lit (.bool ((also n k).1.side 22))), .pv (.lit (.bool ((also n k).1.side 23))), .pv (.lit (.bool ((also n k).1.side 24))), .pv (.lit (.bool ((also n k).1.side 25))), .pv (.lit (.bool ((also n k).1.side 26))), .pv (.lit (.bool ((also n k).1.side 27))), .pv (.lit (.bool ((also n k).1.side 28))), .pv (.lit (.bool ((also n k).1.side 29))), .pv (.lit (.bool ((also n k).1.side 30))), .pv (.lit (.bool ((also n k).1.side 31))), .pv (.lit (.bool ((also n k).1.side 32))), .pv (.lit (.bool ((also n k).1.side 33))), .pv (.lit (.bool ((also n k).1.side 34))), .pv (.lit (.bool ((also n k).1.side 35))), .pv (.lit (.bool ((also n k).1.side 36))), .pv (.lit (.bool ((also n k).1.side 37))), .pv (.lit (.bool ((also n k).1.side 38))), .pv (.lit (.bool ((also n k).1.side 39))), .pv (.lit (.bool ((also n k).1.side 40))), .pv (.lit (.bool ((also n k).1.side 41))), .pv (.lit (.bool ((also n k).1.side 42))), .pv (.lit (.bool ((also n k).1.side 43))), .pv (.lit (.bool ((also n k).1.side 44))), .pv (.lit (.bool ((also n k).1.side 45))), .pv (.lit (.bool ((also n k).1.side 46))), .pv (.lit (.bool ((also n k).1.side 47))), .pv (.lit (.bool ((also n k).1.side 48))), .pv (.lit (.bool ((also n k).1.side 49))), .pv (.lit (.bool ((also n k).1.side 50))), .pv (.lit (.bool ((also n k).1.side 51))), .pv (.lit (.bool ((also n k).1.side 52))), .pv (.lit (.bool ((also n k).1.side 53))), .pv (.lit (.bool ((also n k).1.side 54))), .pv (.lit (.bool ((also n k).1.side 55))), .pv (.lit (.bool ((also n k).1.side 56))), .pv (.lit (.bool ((also n k).1.side 57))), .pv (.lit (.bool ((also n k).1.side 58))), .pv (.lit (.bool ((also n k).1.side 59))), .pv (.lit (.bool ((also n k).1.side 60))), .pv (.lit (.bool ((also n k).1.side 61))), .pv (.lit (.bool ((also n k).1.side 62))), .pv (.lit (.bool ((also n k).1.side 63))), .pv (.lit (.int .i64 ((also n k).1.lost)))]) := by
 generalize hR : also n k = R
 refine MCalls.of_body tabOk Try.func19 rfl rfl rfl rfl rfl rfl rfl mixed fun E hP C hI => ?_
 refine Awp.consP C ?_
 refine rvc_un (rexec_prim C (δ := { v := .ptr 3 0, new := [(3, .cells [.pv (.lit (.int .i64 k.op)), .pv (.lit (.int .i64 k.i)), .pv (.lit (.int .i64 k.l.from_)), .pv (.lit (.int .i64 k.l.to)), sS (some k.b.nil) (eI .u8) k.b.D, .pv (.lit (.int .u64 k.side))])] }) rfl rfl rfl rfl trivial rfl ?_)
 refine rvP C (.pv (.lit (.string ⟨#[]⟩))) ?_
 refine rvP C (.pv (.lit (.bool false))) ?_
 refine rvP C (.pv (.lit (.int .i64 0))) ?_
 refine rvc_nil ?_
 refine Awp.seq ?_
 refine Awp.consP C ?_
 refine rvP C (.ptr 3 0) ?_
 refine rvP C (.pv (.lit (.int .i64 k.op))) ?_
 refine rvP C (.pv (.lit (.int .u64 (IntKind.u64.wrap k.op)))) ?_
 refine rvc_un (rexec_prim C (δ := { v := .pv (.lit (.int .u64 ((IntKind.u64.wrap k.op).tmod 9))) }) rfl rfl rfl rfl (by first | decide | omega) rfl ?_)
 refine rvP C (.pv (.lit (.int .i64 (IntKind.i64.wrap ((IntKind.u64.wrap k.op).tmod 9))))) ?_
 refine rvc_nil ?_
 refine Awp.block ?_
 refine Awp.seq ?_
 refine Awp.consP C ?_
 refine rvP C (.pv (.lit (.bool ((IntKind.i64.wrap ((IntKind.u64.wrap k.op).tmod 9)) == 3)))) ?_
 refine rvP C (.pv (.lit (.bool ((IntKind.i64.wrap ((IntKind.u64.wrap k.op).tmod 9)) == 3)))) ?_
 refine rvc_nil ?_
 refine Awp.cond (b := ((IntKind.i64.wrap ((IntKind.u64.wrap k.op).tmod 9)) == 3)) rfl (fun h1 => ?_) (fun h1 => ?_)
 ·
  replace hR := of_true h1 hR
  refine Awp.skip ?_
  refine Awp.condT (b := ((IntKind.i64.wrap ((IntKind.u64.wrap k.op).tmod 9)) == 3)) rfl h1 ?_
  refine Awp.cons C (fun _ => .writer) (by kernel_rfl) ?_
  refine rvP C (.ptr 0 0) ?_
  refine rvP C (.ptr 3 2) ?_
  refine rvP C (.agg [.pv (.lit (.int .i64 k.l.from_)), .pv (.lit (.int .i64 k.l.to))]) ?_
  refine rvP C (.ptr 3 1) ?_
  refine rvP C (.pv (.lit (.int .i64 k.i))) ?_
  refine rvc_un (rexec_callM hP C (b := 0) rfl rfl rfl (rTake_calls n k.l k.i ho hl1) rfl rfl ?_)
  refine rvP C (.pv (.lit (.string ((rTake n k.l k.i).2.1)))) ?_
  refine rvP C (.pv (.lit (.bool ((rTake n k.l k.i).2.2.1)))) ?_
  refine rvP C (.pv (.lit (.int .i64 ((rTake n k.l k.i).2.2.2)))) ?_
  refine rvP C (.pv (.lit (.string ((rTake n k.l k.i).2.1)))) ?_
  refine rvP C (.pv (.lit (.bool ((rTake n k.l k.i).2.2.1)))) ?_
  refine rvP C (.pv (.lit (.int .i64 ((rTake n k.l k.i).2.2.2)))) ?_
  refine rvc_nil ?_
  refine Awp.ret ?_
  subst hR
  exact ⟨.inl rfl, rfl, rfl⟩
 ·
  replace hR := of_false h1 hR
  refine Awp.regionP C ?_
  refine rvP C (.pv (.lit (.bool ((IntKind.i64.wrap ((IntKind.u64.wrap k.op).tmod 9)) == 4)))) ?_
  refine rvP C (.pv (.lit (.bool ((IntKind.i64.wrap ((IntKind.u64.wrap k.op).tmod 9)) == 4)))) ?_
  refine rvc_nil ?_
  refine Awp.cond (b := ((IntKind.i64.wrap ((IntKind.u64.wrap k.op).tmod 9)) == 4)) rfl (fun h2 => ?_) (fun h2 => ?_)
  ·
   replace hR := of_true h2 hR
   refine Awp.cons C (fun _ => .writer) (by kernel_rfl) ?_
   refine rvP C (.ptr 0 0) ?_
   refine rvP C (.ptr 3 2) ?_
   refine rvP C (.agg [.pv (.lit (.int .i64 k.l.from_)), .pv (.lit (.int .i64 k.l.to))]) ?_
   refine rvP C (.ptr 3 1) ?_
   refine rvP C (.pv (.lit (.int .i64 k.i))) ?_
   refine rvc_un (rexec_callM hP C (b := 0) rfl rfl rfl (rTake_calls n k.l k.i ho hl1) rfl rfl ?_)
   refine rvP C (.pv (.lit (.string ((rTake n k.l k.i).2.1)))) ?_
   refine rvP C (.pv (.lit (.bool ((rTake n k.l k.i).2.2.1)))) ?_
   refine rvP C (.pv (.lit (.int .i64 ((rTake n k.l k.i).2.2.2)))) ?_
   refine rvP C (.pv (.lit (.string ((rTake n k.l k.i).2.1)))) ?_
   refine rvP C (.pv (.lit (.bool ((rTake n k.l k.i).2.2.1)))) ?_
   refine rvP C (.pv (.lit (.int .i64 ((rTake n k.l k.i).2.2.2)))) ?_
   refine rvc_nil ?_
   refine Awp.ret ?_
   subst hR
   exact ⟨.inl rfl, rfl, rfl⟩
  ·
   replace hR := of_false h2 hR
   refine Awp.consP C ?_
   refine rvP C (.pv (.lit (.bool ((IntKind.i64.wrap ((IntKind.u64.wrap k.op).tmod 9)) == 5)))) ?_
   refine rvP C (.pv (.lit (.bool ((IntKind.i64.wrap ((IntKind.u64.wrap k.op).tmod 9)) == 5)))) ?_
   refine rvc_nil ?_
   refine Awp.cond (b := ((IntKind.i64.wrap ((IntKind.u64.wrap k.op).tmod 9)) == 5)) rfl (fun h3 => ?_) (fun h3 => ?_)
   ·
    replace hR := of_true h3 hR
    refine Awp.cons C (fun _ => .writer) (by kernel_rfl) ?_
    refine rvP C (.ptr 0 0) ?_
    refine rvP C (.ptr 3 2) ?_
    refine rvP C (.agg [.pv (.lit (.int .i64 k.l.from_)), .pv (.lit (.int .i64 k.l.to))]) ?_
    refine rvP C (.ptr 3 1) ?_
    refine rvP C (.pv (.lit (.int .i64 k.i))) ?_
    refine rvc_un (rexec_callM hP C (b := 0) rfl rfl rfl (rLose_calls n k.l k.i hl1) rfl rfl ?_)
    refine rvP C (.pv (.lit (.string ⟨#[]⟩))) ?_
    refine rvP C (.pv (.lit (.bool false))) ?_
    refine rvP C (.pv (.lit (.int .i64 ((rLose n k.l k.i).2)))) ?_
    refine rvc_nil ?_
    refine Awp.ret ?_
    subst hR
    exact ⟨.inl rfl, rfl, rfl⟩
   ·
    replace hR := of_false h3 hR
    refine Awp.consP C ?_
    refine rvP C (.pv (.lit (.bool ((IntKind.i64.wrap ((IntKind.u64.wrap k.op).tmod 9)) == 6)))) ?_
    refine rvP C (.pv (.lit (.bool ((IntKind.i64.wrap ((IntKind.u64.wrap k.op).tmod 9)) == 6)))) ?_
    refine rvc_nil ?_
    refine Awp.cond (b := ((IntKind.i64.wrap ((IntKind.u64.wrap k.op).tmod 9)) == 6)) rfl (fun h4 => ?_) (fun h4 => ?_)
    ·
     replace hR := of_true h4 hR
     refine Awp.cons C (fun _ => .writer) (by kernel_rfl) ?_
     refine rvP C (.ptr 0 0) ?_
     refine rvP C (.ptr 3 2) ?_
     refine rvP C (.agg [.pv (.lit (.int .i64 k.l.from_)), .pv (.lit (.int .i64 k.l.to))]) ?_
     refine rvP C (.ptr 3 1) ?_
     refine rvP C (.pv (.lit (.int .i64 k.i))) ?_
     refine rvc_un (rexec_callM hP C (b := 0) rfl rfl rfl (rDouble_calls n k.l k.i hl1) rfl rfl ?_)
     refine rvP C (.pv (.lit (.string ⟨#[]⟩))) ?_
     refine rvP C (.pv (.lit (.bool false))) ?_
     refine rvP C (.pv (.lit (.int .i64 ((rDouble n k.l k.i).2)))) ?_
     refine rvc_nil ?_
     refine Awp.ret ?_
     subst hR
     exact ⟨.inl rfl, rfl, rfl⟩
    ·
     replace hR := of_false h4 hR
     refine Awp.consP C ?_
     refine rvP C (.pv (.lit (.bool ((IntKind.i64.wrap ((IntKind.u64.wrap k.op).tmod 9)) == 7)))) ?_
     refine rvP C (.pv (.lit (.bool ((IntKind.i64.wrap ((IntKind.u64.wrap k.op).tmod 9)) == 7)))) ?_
     refine rvc_nil ?_
     refine Awp.cond (b := ((IntKind.i64.wrap ((IntKind.u64.wrap k.op).tmod 9)) == 7)) rfl (fun h5 => ?_) (fun h5 => ?_)
     ·
      replace hR := of_true h5 hR
      refine Awp.consP C ?_
      refine rvP C (.ptr 0 0) ?_
      refine rvP C (.ptr 3 5) ?_
      refine rvP C (.pv (.lit (.int .u64 k.side))) ?_
      refine rvc_un (rexec_call hP C rfl rfl rfl (fromW_calls k.side) ?_)
      refine rvP C (.ptr 0 0) ?_
      refine rvP C (.ptr 0 1) ?_
      refine rvc_un (rexec_prim C (δ := { v := .undef, wr := [(0, some (.cells [sS (some n.items.nil) eItem n.items.D, .pv (.lit (.bool ((fromW k.side) 0))), .pv (.lit (.bool ((fromW k.side) 1))), .pv (.lit (.bool ((fromW k.side) 2))), .pv (.lit (.bool ((fromW k.side) 3))), .pv (.lit (.bool ((fromW k.side) 4))), .pv (.lit (.bool ((fromW k.side) 5))), .pv (.lit (.bool ((fromW k.side) 6))), .pv (.lit (.bool ((fromW k.side) 7))), .pv (.lit (.bool ((fromW k.side) 8))), .pv (.lit (.bool ((fromW k.side) 9))), .pv (.lit (.bool ((fromW k.side) 10))), .pv (.lit (.bool ((fromW k.side) 11))), .pv (.lit (.bool ((fromW k.side) 12))), .pv (.lit (.bool ((fromW k.side) 13))), .pv (.lit (.bool ((fromW k.side) 14))), .pv (.lit (.bool ((fromW k.side) 15))), .pv (.lit (.bool ((fromW k.side) 16))), .pv (.lit (.bool ((fromW k.side) 17))), .pv (.lit (.bool ((fromW k.side) 18))), .pv (.lit (.bool ((fromW k.side) 19))), .pv (.lit (.bool ((fromW k.side) 20))), .pv (.lit (.bool ((fromW k.side) 21))), .pv (.lit (.bool ((fromW k.side) 22))), .pv (.lit (.bool ((fromW k.side) 23))), .pv (.lit (.bool ((fromW k.side) 24))), .pv (.lit (.bool ((fromW k.side) 25))), .pv (.lit (.bool ((fromW k.side) 26))), .pv (.lit (.bool ((fromW k.side) 27))), .pv (.lit (.bool ((fromW k.side) 28))), .pv (.lit (.bool ((fromW k.side) 29))), .pv (.lit (.bool ((fromW k.side) 30))), .pv (.lit (.bool ((fromW k.side) 31))), .pv (.lit (.bool ((fromW k.side) 32))), .pv (.lit (.bool ((fromW k.side) 33))), .pv (.lit (.bool ((fromW k.side) 34))), .pv (.lit (.bool ((fromW k.side) 35))), .pv (.lit (.bool ((fromW k.side) 36))), .pv (.lit (.bool ((fromW k.side) 37))), .pv (.lit (.bool ((fromW k.side) 38))), .pv (.lit (.bool ((fromW k.side) 39))), .pv (.lit (.bool ((fromW k.side) 40))), .pv (.lit (.bool ((fromW k.side) 41))), .pv (.lit (.bool ((fromW k.side) 42))), .pv (.lit (.bool ((fromW k.side) 43))), .pv (.lit (.bool ((fromW k.side) 44))), .pv (.lit (.bool ((fromW k.side) 45))), .pv (.lit (.bool ((fromW k.side) 46))), .pv (.lit (.bool ((fromW k.side) 47))), .pv (.lit (.bool ((fromW k.side) 48))), .pv (.lit (.bool ((fromW k.side) 49))), .pv (.lit (.bool ((fromW k.side) 50))), .pv (.lit (.bool ((fromW k.side) 51))), .pv (.lit (.bool ((fromW k.side) 52))), .pv (.lit (.bool ((fromW k.side) 53))), .pv (.lit (.bool ((fromW k.side) 54))), .pv (.lit (.bool ((fromW k.side) 55))), .pv (.lit (.bool ((fromW k.side) 56))), .pv (.lit (.bool ((fromW k.side) 57))), .pv (.lit (.bool ((fromW k.side) 58))), .pv (.lit (.bool ((fromW k.side) 59))), .pv (.lit (.bool ((fromW k.side) 60))), .pv (.lit (.bool ((fromW k.side) 61))), .pv (.lit (.bool ((fromW k.side) 62))), .pv (.lit (.bool ((fromW k.side) 63))), .pv (.lit (.int .i64 n.lost))]))] }) rfl rfl rfl rfl trivial rfl ?_)
      refine rvc_nil ?_
      refine Awp.consP C ?_
      refine rvP C (.pv (.lit (.string ⟨#[]⟩))) ?_
      refine rvP C (.pv (.lit (.bool false))) ?_
      refine rvP C (.pv (.lit (.int .i64 0))) ?_
      refine rvc_nil ?_
      refine Awp.ret ?_
      subst hR
      exact ⟨.inl rfl, rfl, rfl⟩
     ·
      replace hR := of_false h5 hR
      refine Awp.consP C ?_
      refine rvP C (.pv (.lit (.bool ((IntKind.i64.wrap ((IntKind.u64.wrap k.op).tmod 9)) == 8)))) ?_
      refine rvP C (.pv (.lit (.bool ((IntKind.i64.wrap ((IntKind.u64.wrap k.op).tmod 9)) == 8)))) ?_
      refine rvc_nil ?_
      refine Awp.cond (b := ((IntKind.i64.wrap ((IntKind.u64.wrap k.op).tmod 9)) == 8)) rfl (fun h6 => ?_) (fun h6 => ?_)
      ·
       replace hR := of_true h6 hR
       refine Awp.cons C (fun _ => .writer) (by kernel_rfl) ?_
       refine rvP C (.ptr 0 0) ?_
       refine rvP C (.ptr 3 1) ?_
       refine rvP C (.pv (.lit (.int .i64 k.i))) ?_
       refine rvc_un (rexec_callM hP C (b := 0) rfl rfl rfl (rForget_calls n k.i hl1) rfl rfl ?_)
       refine rvc_nil ?_
       refine Awp.consP C ?_
       refine rvP C (.pv (.lit (.string ⟨#[]⟩))) ?_
       refine rvP C (.pv (.lit (.bool false))) ?_
       refine rvP C (.pv (.lit (.int .i64 0))) ?_
       refine rvc_nil ?_
       refine Awp.ret ?_
       subst hR
       exact ⟨.inl rfl, rfl, rfl⟩
      ·
       replace hR := of_false h6 hR
       refine Awp.skip ?_
       refine Awp.cons C (fun _ => .writer) (by kernel_rfl) ?_
       refine rvP C (.ptr 0 0) ?_
       refine rvP C (.ptr 3 2) ?_
       refine rvP C (.agg [.pv (.lit (.int .i64 k.l.from_)), .pv (.lit (.int .i64 k.l.to))]) ?_
       refine rvP C (.ptr 3 4) ?_
       refine rvP C (sS (some k.b.nil) (eI .u8) k.b.D) ?_
       refine rvc_un (rexec_callM hP C (b := 0) rfl rfl rfl (rSend_calls n k.l k.b hl1) rfl rfl ?_)
       refine rvP C (.pv (.lit (.string ⟨#[]⟩))) ?_
       refine rvP C (.pv (.lit (.bool false))) ?_
       refine rvP C (.pv (.lit (.int .i64 ((rSend n k.l k.b).2)))) ?_
       refine rvc_nil ?_
       refine Awp.ret ?_
       subst hR
       exact ⟨.inl rfl, rfl, rfl⟩
def rBusy_l1 (n : Net51) (i : Nat) (kk : (List Link) → (Sl Link)) : Nat → Nat → (List Link) → (Sl Link)
  | 0, _, out1 => kk out1
  | k1 + 1, i1, out1 => (bif (decide ((rLen n (Link.mk (i : Int) (i1 : Int))) > 0)) then rBusy_l1 n i kk k1 (i1 + 1) (out1 ++ [(Link.mk (i : Int) (i1 : Int))]) else rBusy_l1 n i kk k1 (i1 + 1) out1)
def rBusy_l0 (n : Net51) : Nat → Nat → (List Link) → (Sl Link)
  | 0, _, out => (Sl.mk out.isEmpty out)
  | k + 1, i, out => rBusy_l1 n i (fun out2 => rBusy_l0 n k (i + 1) out2) 32 0 out
def rBusy (n : Net51) : (Sl Link) :=
  rBusy_l0 n 32 0 []
theorem rBusy_calls (n : Net51) (hl1 : n.items.D.length ≤ 1000000) : MCalls Try.prog 24 [.ptr 0 0] (.cells [sS (some n.items.nil) eItem n.items.D, .pv (.lit (.bool (n.side 0))), .pv (.lit (.bool (n.side 1))), .pv (.lit (.bool (n.side 2))), .pv (.lit (.bool (n.side 3))), .pv (.lit (.bool (n.side 4))), .pv (.lit (.bool (n.side 5))), .pv (.lit (.bool (n.side 6))), .pv (.lit (.bool (n.side 7))), .pv (.lit (.bool (n.side 8))), .pv (.lit (.bool (n.side 9))), .pv (.lit (.bool (n.side 10))), .pv (.lit (.bool (n.side 11))), .pv (.lit (.bool (n.side 12))), .pv (.lit (.bool (n.side 13))), .pv (.lit (.bool (n.side 14))), .pv (.lit (.bool (n.side 15))), .pv (.lit (.bool (n.side 16))), .pv (.lit (.bool (n.side 17))), .pv (.lit (.bool (n.side 18))), .pv (.lit (.bool (n.side 19))), .pv (.lit (.bool (n.side 20))), .pv (.lit (.bool (n.side 21))), .pv (.lit (.bool (n.side 22))), .pv (.lit (.bool (n.side 23))), .pv (.lit (.bool (n.side 24))), .pv (.lit (.bool (n.side 25))), .pv (.lit (.bool (n.side 26))), .pv (.lit (.bool (n.side 27))), .pv (.lit (.bool (n.side 28))), .pv (.lit (.bool (n.side 29))), .pv (.lit (.bool (n.side 30))), .pv (.lit (.bool (n.side 31))), .pv (.lit (.bool (n.side 32))), .pv (.lit (.bool (n.side 33))), .pv (.lit (.bool (n.side 34))), .pv (.lit (.bool (n.side 35))), .pv (.lit (.bool (n.side 36))), .pv (.lit (.bool (n.side 37))), .pv (.lit (.bool (n.side 38))), .pv (.lit (.bool (n.side 39))), .pv (.lit (.bool (n.side 40))), .pv (.lit (.bool (n.side 41))), .pv (.lit (.bool (n.side 42))), .pv (.lit (.bool (n.side 43))), .pv (.lit (.bool (n.side 44))), .pv (.lit (.bool (n.side 45))), .pv (.lit (.bool (n.side 46))), .pv (.lit (.bool (n.side 47))), .pv (.lit (.bool (n.side 48))), .pv (.lit (.bool (n.side 49))), .pv (.lit (.bool (n.side 50))), .pv (.lit (.bool (n.side 51))), .pv (.lit (.bool (n.side 52))), .pv (.lit (.bool (n.side 53))), .pv (.lit (.bool (n.side 54))), .pv (.lit (.bool (n.side 55))), .pv (.lit (.bool (n.side 56))), .pv (.lit (.bool (n.side 57))), .pv (.lit (.bool (n.side 58))), .pv (.lit (.bool (n.side 59))), .pv (.lit (.bool (n.side 60))), .pv (.lit (.bool (n.side 61))), .pv (.lit (.bool (n.side 62))), .pv (.lit (.bool (n.side 63))), .pv (.lit (.int .i64 n.lost))]) (sS (some (rBusy n).nil) eLink ((rBusy n).D)) (.cells [sS (some n.items.nil) eItem n.items.D, .pv (.lit (.bool (n.side 0))), .pv (.lit (.bool (n.side 1))), .pv (.lit (.bool (n.side 2))), .pv (.lit (.bool (n.side 3))), .pv (.lit (.bool (n.side 4))), .pv (.lit (.bool (n.side 5))), .pv (.lit (.bool (n.side 6))), .pv (.lit (.bool (n.side 7))), .pv (.lit (.bool (n.side 8))), .pv (.lit (.bool (n.side 9))), .pv (.lit (.bool (n.side 10))), .pv (.lit (.bool (n.side 11))), .pv (.lit (.bool (n.side 12))), .pv (.lit (.bool (n.side 13))), .pv (.lit (.bool (n.side 14))), .pv (.lit (.bool (n.side 15))), .pv (.lit (.bool (n.side 16))), .pv (.lit (.bool (n.side 17))), .pv (.lit (.bool (n.side 18))), .pv (.lit (.bool (n.side 19))), .pv (.lit (.bool (n.side 20))), .pv (.lit (.bool (n.side 21))), .pv (.lit (.bool (n.side 22))), .pv (.lit (.bool (n.side 23))), .pv (.lit (.bool (n.side 24))), .pv (.lit (.bool (n.side 25))), .pv (.lit (.bool (n.side 26))), .pv (.lit (.bool (n.side 27))), .pv (.lit (.bool (n.side 28))), .pv (.lit (.bool (n.side 29))), .pv (.lit (.bool (n.side 30))), .pv (.lit (.bool (n.side 31))), .pv (.lit (.bool (n.side 32))), .pv (.lit (.bool (n.side 33))), .pv (.lit (.bool (n.side 34))), .pv (.lit (.bool (n.side 35))), .pv (.lit (.bool (n.side 36))), .pv (.lit (.bool (n.side 37))), .pv (.lit (.bool (n.side 38))), .pv (.lit (.bool (n.side 39))), .pv (.lit (.bool (n.side 40))), .pv (.lit (.bool (n.side 41))), .pv (.lit (.bool (n.side 42))), .pv (.lit (.bool (n.side 43))), .pv (.lit (.bool (n.side 44))), .pv (.lit (.bool (n.side 45))), .pv (.lit (.bool (n.side 46))), .pv (.lit (.bool (n.side 47))), .pv (.lit (.bool (n.side 48))), .pv (.lit (.bool (n.side 49))), .pv (.lit (.bool (n.side 50))), .pv (.lit (.bool (n.side 51))), .pv (.lit (.bool (n.side 52))), .pv (.lit (.bool (n.side 53))), .pv (.lit (.bool (n.side 54))), .pv (.lit (.bool (n.side 55))), .pv (.lit (.bool (n.side 56))), .pv (.lit (.bool (n.side 57))), .pv (.lit (.bool (n.side 58))), .pv (.lit (.bool (n.side 59))), .pv (.lit (.bool (n.side 60))), .pv (.lit (.bool (n.side 61))), .pv (.lit (.bool (n.side 62))), .pv (.lit (.bool (n.side 63))), .pv (.lit (.int .i64 n.lost))]) := by
 generalize hR : rBusy n = R
 refine MCalls.of_body tabOk Try.func24 rfl rfl rfl rfl rfl rfl rfl mixed fun E hP C hI => ?_
 refine Awp.consP C ?_
 refine rvP C (sS (some true) eLink []) ?_
 refine rvc_nil ?_
 refine Awp.consP C ?_
 refine rvP C (sS (some true) eLink []) ?_
 refine rvc_nil ?_
 refine Awp.seq ?_
 refine Awp.consP C ?_
 refine rvP C (.pv (.lit (.int .i64 0))) ?_
 refine rvc_nil ?_
 refine Awp.block ?_
 refine Awp.forR (σ := ((List Link))) (32) (fun i v => [(0, .ptr 0 0), (3, grow 900 eLink v), (6, .pv (.lit (.int .i64 (i : Int))))]) (fun i v => (growH 900 eLink v ++ ([(0, .cells [sS (some n.items.nil) eItem n.items.D, .pv (.lit (.bool (n.side 0))), .pv (.lit (.bool (n.side 1))), .pv (.lit (.bool (n.side 2))), .pv (.lit (.bool (n.side 3))), .pv (.lit (.bool (n.side 4))), .pv (.lit (.bool (n.side 5))), .pv (.lit (.bool (n.side 6))), .pv (.lit (.bool (n.side 7))), .pv (.lit (.bool (n.side 8))), .pv (.lit (.bool (n.side 9))), .pv (.lit (.bool (n.side 10))), .pv (.lit (.bool (n.side 11))), .pv (.lit (.bool (n.side 12))), .pv (.lit (.bool (n.side 13))), .pv (.lit (.bool (n.side 14))), .pv (.lit (.bool (n.side 15))), .pv (.lit (.bool (n.side 16))), .pv (.lit (.bool (n.side 17))), .pv (.lit (.bool (n.side 18))), .pv (.lit (.bool (n.side 19))), .pv (.lit (.bool (n.side 20))), .pv (.lit (.bool (n.side 21))), .pv (.lit (.bool (n.side 22))), .pv (.lit (.bool (n.side 23))), .pv (.lit (.bool (n.side 24))), .pv (.lit (.bool (n.side 25))), .pv (.lit (.bool (n.side 26))), .pv (.lit (.bool (n.side 27))), .pv (.lit (.bool (n.side 28))), .pv (.lit (.bool (n.side 29))), .pv (.lit (.bool (n.side 30))), .pv (.lit (.bool (n.side 31))), .pv (.lit (.bool (n.side 32))), .pv (.lit (.bool (n.side 33))), .pv (.lit (.bool (n.side 34))), .pv (.lit (.bool (n.side 35))), .pv (.lit (.bool (n.side 36))), .pv (.lit (.bool (n.side 37))), .pv (.lit (.bool (n.side 38))), .pv (.lit (.bool (n.side 39))), .pv (.lit (.bool (n.side 40))), .pv (.lit (.bool (n.side 41))), .pv (.lit (.bool (n.side 42))), .pv (.lit (.bool (n.side 43))), .pv (.lit (.bool (n.side 44))), .pv (.lit (.bool (n.side 45))), .pv (.lit (.bool (n.side 46))), .pv (.lit (.bool (n.side 47))), .pv (.lit (.bool (n.side 48))), .pv (.lit (.bool (n.side 49))), .pv (.lit (.bool (n.side 50))), .pv (.lit (.bool (n.side 51))), .pv (.lit (.bool (n.side 52))), .pv (.lit (.bool (n.side 53))), .pv (.lit (.bool (n.side 54))), .pv (.lit (.bool (n.side 55))), .pv (.lit (.bool (n.side 56))), .pv (.lit (.bool (n.side 57))), .pv (.lit (.bool (n.side 58))), .pv (.lit (.bool (n.side 59))), .pv (.lit (.bool (n.side 60))), .pv (.lit (.bool (n.side 61))), .pv (.lit (.bool (n.side 62))), .pv (.lit (.bool (n.side 63))), .pv (.lit (.int .i64 n.lost))])]))) [0, 900] (fun i v => (rBusy_l0 n (32 - i) i v = R) ∧ (v.length ≤ i * 1000000)) [] ?_ ?_ (fun i out h1 hR => ?_)
 · exact ⟨hR, (by first | omega | (simp <;> omega))⟩
 · exact ⟨fun b => b, WeakerR.ofLI (I := [0]) (Ks := [0, 900]) hI ⟨⟨rfl, rfl⟩, ⟨rfl, rfl⟩, ⟨rfl, rfl⟩, trivial⟩ (okH_grow (fun hne => absurd rfl hne) rfl rfl (okH_cons rfl rfl rfl rfl (okH_nil))) rfl rfl⟩
 obtain ⟨hR, hi_out⟩ := hR
 replace hi_out : out.length ≤ i * 1000000 := hi_out
 by_cases h2 : out = []
 ·
  refine Awp.wordsR [(0, .ptr 0 0), (3, sS (some out.isEmpty) eLink out), (6, .pv (.lit (.int .i64 (i : Int))))] [(0, .cells [sS (some n.items.nil) eItem n.items.D, .pv (.lit (.bool (n.side 0))), .pv (.lit (.bool (n.side 1))), .pv (.lit (.bool (n.side 2))), .pv (.lit (.bool (n.side 3))), .pv (.lit (.bool (n.side 4))), .pv (.lit (.bool (n.side 5))), .pv (.lit (.bool (n.side 6))), .pv (.lit (.bool (n.side 7))), .pv (.lit (.bool (n.side 8))), .pv (.lit (.bool (n.side 9))), .pv (.lit (.bool (n.side 10))), .pv (.lit (.bool (n.side 11))), .pv (.lit (.bool (n.side 12))), .pv (.lit (.bool (n.side 13))), .pv (.lit (.bool (n.side 14))), .pv (.lit (.bool (n.side 15))), .pv (.lit (.bool (n.side 16))), .pv (.lit (.bool (n.side 17))), .pv (.lit (.bool (n.side 18))), .pv (.lit (.bool (n.side 19))), .pv (.lit (.bool (n.side 20))), .pv (.lit (.bool (n.side 21))), .pv (.lit (.bool (n.side 22))), .pv (.lit (.bool (n.side 23))), .pv (.lit (.bool (n.side 24))), .pv (.lit (.bool (n.side 25))), .pv (.lit (.bool (n.side 26))), .pv (.lit (.bool (n.side 27))), .pv (.lit (.bool (n.side 28))), .pv (.lit (.bool (n.side 29))), .pv (.lit (.bool (n.side 30))), .pv (.lit (.bool (n.side 31))), .pv (.lit (.bool (n.side 32))), .pv (.lit (.bool (n.side 33))), .pv (.lit (.bool (n.side 34))), .pv (.lit (.bool (n.side 35))), .pv (.lit (.bool (n.side 36))), .pv (.lit (.bool (n.side 37))), .pv (.lit (.bool (n.side 38))), .pv (.lit (.bool (n.side 39))), .pv (.lit (.bool (n.side 40))), .pv (.lit (.bool (n.side 41))), .pv (.lit (.bool (n.side 42))), .pv (.lit (.bool (n.side 43))), .pv (.lit (.bool (n.side 44))), .pv (.lit (.bool (n.side 45))), .pv (.lit (.bool (n.side 46))), .pv (.lit (.bool (n.side 47))), .pv (.lit (.bool (n.side 48))), .pv (.lit (.bool (n.side 49))), .pv (.lit (.bool (n.side 50))), .pv (.lit (.bool (n.side 51))), .pv (.lit (.bool (n.side 52))), .pv (.lit (.bool (n.side 53))), .pv (.lit (.bool (n.side 54))), .pv (.lit (.bool (n.side 55))), .pv (.lit (.bool (n.side 56))), .pv (.lit (.bool (n.side 57))), .pv (.lit (.bool (n.side 58))), .pv (.lit (.bool (n.side 59))), .pv (.lit (.bool (n.side 60))), .pv (.lit (.bool (n.side 61))), .pv (.lit (.bool (n.side 62))), .pv (.lit (.bool (n.side 63))), .pv (.lit (.int .i64 n.lost))])] [0] (WeakerR.ofLI (I := [0]) (Ks := [0]) hI ⟨⟨rfl, rfl⟩, ⟨(by exact grow_at_nil (b := 900) (e := eLink) (l := out) rfl h2), rfl⟩, ⟨rfl, rfl⟩, trivial⟩ (okH_cons (look_nil h2 rfl) rfl rfl rfl (okH_nil)) rfl rfl) ?_
  refine Awp.consP C ?_
  refine rvP C (.pv (.lit (.bool (decide ((i : Int) < 32))))) ?_
  refine rvc_nil ?_
  refine Awp.seq ?_
  refine Awp.cond (b := (decide ((i : Int) < 32))) rfl (fun h3 => ?_) (fun h3 => ?_)
  ·
   have h4 : i < 32 := by have := of_decide_eq_true h3; omega
   obtain ⟨k, h5⟩ : ∃ k, 32 - i = k + 1 := ⟨32 - i - 1, by omega⟩
   rw [h5] at hR
   refine Awp.skip ?_
   refine Awp.seq ?_
   refine Awp.block ?_
   refine Awp.consP C ?_
   refine rvP C (.pv (.lit (.int .i64 (i : Int)))) ?_
   refine rvP C (.pv (.lit (.int .i64 (i : Int)))) ?_
   refine rvc_nil ?_
   refine Awp.consP C ?_
   refine rvP C (.pv (.lit (.int .i64 0))) ?_
   refine rvc_nil ?_
   refine Awp.block ?_
   refine Awp.forR (σ := ((List Link))) (32) (fun i1 v => [(0, .ptr 0 0), (3, grow 901 eLink v), (4, .pv (.lit (.int .i64 (i : Int)))), (6, .pv (.lit (.int .i64 (i : Int)))), (9, .pv (.lit (.int .i64 (i1 : Int))))]) (fun i1 v => (growH 901 eLink v ++ ([(0, .cells [sS (some n.items.nil) eItem n.items.D, .pv (.lit (.bool (n.side 0))), .pv (.lit (.bool (n.side 1))), .pv (.lit (.bool (n.side 2))), .pv (.lit (.bool (n.side 3))), .pv (.lit (.bool (n.side 4))), .pv (.lit (.bool (n.side 5))), .pv (.lit (.bool (n.side 6))), .pv (.lit (.bool (n.side 7))), .pv (.lit (.bool (n.side 8))), .pv (.lit (.bool (n.side 9))), .pv (.lit (.bool (n.side 10))), .pv (.lit (.bool (n.side 11))), .pv (.lit (.bool (n.side 12))), .pv (.lit (.bool (n.side 13))), .pv (.lit (.bool (n.side 14))), .pv (.lit (.bool (n.side 15))), .pv (.lit (.bool (n.side 16))), .pv (.lit (.bool (n.side 17))), .pv (.lit (.bool (n.side 18))), .pv (.lit (.bool (n.side 19))), .pv (.lit (.bool (n.side 20))), .pv (.lit (.bool (n.side 21))), .pv (.lit (.bool (n.side 22))), .pv (.lit (.bool (n.side 23))), .pv (.lit (.bool (n.side 24))), .pv (.lit (.bool (n.side 25))), .pv (.lit (.bool (n.side 26))), .pv (.lit (.bool (n.side 27))), .pv (.lit (.bool (n.side 28))), .pv (.lit (.bool (n.side 29))), .pv (.lit (.bool (n.side 30))), .pv (.lit (.bool (n.side 31))), .pv (.lit (.bool (n.side 32))), .pv (.lit (.bool (n.side 33))), .pv (.lit (.bool (n.side 34))), .pv (.lit (.bool (n.side 35))), .pv (.lit (.bool (n.side 36))), .pv (.lit (.bool (n.side 37))), .pv (.lit (.bool (n.side 38))), .pv (.lit (.bool (n.side 39))), .pv (.lit (.bool (n.side 40))), .pv (.lit (.bool (n.side 41))), .pv (.lit (.bool (n.side 42))), .pv (.lit (.bool (n.side 43))), .pv (.lit (.bool (n.side 44))), .pv (.lit (.bool (n.side 45))), .pv (.lit (.bool (n.side 46))), .pv (.lit (.bool (n.side 47))), .pv (.lit (.bool (n.side 48))), .pv (.lit (.bool (n.side 49))), .pv (.lit (.bool (n.side 50))), .pv (.lit (.bool (n.side 51))), .pv (.lit (.bool (n.side 52))), .pv (.lit (.bool (n.side 53))), .pv (.lit (.bool (n.side 54))), .pv (.lit (.bool (n.side 55))), .pv (.lit (.bool (n.side 56))), .pv (.lit (.bool (n.side 57))), .pv (.lit (.bool (n.side 58))), .pv (.lit (.bool (n.side 59))), .pv (.lit (.bool (n.side 60))), .pv (.lit (.bool (n.side 61))), .pv (.lit (.bool (n.side 62))), .pv (.lit (.bool (n.side 63))), .pv (.lit (.int .i64 n.lost))])]))) [0, 901] (fun i1 v => (rBusy_l1 n i (fun out1 => rBusy_l0 n k (i + 1) out1) (32 - i1) i1 v = R) ∧ (v.length ≤ out.length + i1)) out ?_ ?_ (fun i1 out1 h6 hR => ?_)
   · exact ⟨hR, (by first | omega | (simp <;> omega))⟩
   · exact ⟨fun b => b, WeakerR.ofLI (I := [0]) (Ks := [0, 901]) hI ⟨⟨rfl, rfl⟩, ⟨grow_to_nil rfl h2 (.inr rfl), grow_within rfl⟩, ⟨rfl, rfl⟩, ⟨rfl, rfl⟩, ⟨rfl, rfl⟩, trivial⟩ (okH_grow (fun hne => absurd h2 hne) rfl rfl (okH_cons rfl rfl rfl rfl (okH_nil))) rfl rfl⟩
   obtain ⟨hR, hi_out1⟩ := hR
   replace hi_out1 : out1.length ≤ out.length + i1 := hi_out1
   by_cases h7 : out1 = []
   ·
    refine Awp.wordsR [(0, .ptr 0 0), (3, sS (some out1.isEmpty) eLink out1), (4, .pv (.lit (.int .i64 (i : Int)))), (6, .pv (.lit (.int .i64 (i : Int)))), (9, .pv (.lit (.int .i64 (i1 : Int))))] [(0, .cells [sS (some n.items.nil) eItem n.items.D, .pv (.lit (.bool (n.side 0))), .pv (.lit (.bool (n.side 1))), .pv (.lit (.bool (n.side 2))), .pv (.lit (.bool (n.side 3))), .pv (.lit (.bool (n.side 4))), .pv (.lit (.bool (n.side 5))), .pv (.lit (.bool (n.side 6))), .pv (.lit (.bool (n.side 7))), .pv (.lit (.bool (n.side 8))), .pv (.lit (.bool (n.side 9))), .pv (.lit (.bool (n.side 10))), .pv (.lit (.bool (n.side 11))), .pv (.lit (.bool (n.side 12))), .pv (.lit (.bool (n.side 13))), .pv (.lit (.bool (n.side 14))), .pv (.lit (.bool (n.side 15))), .pv (.lit (.bool (n.side 16))), .pv (.lit (.bool (n.side 17))), .pv (.lit (.bool (n.side 18))), .pv (.lit (.bool (n.side 19))), .pv (.lit (.bool (n.side 20))), .pv (.lit (.bool (n.side 21))), .pv (.lit (.bool (n.side 22))), .pv (.lit (.bool (n.side 23))), .pv (.lit (.bool (n.side 24))), .pv (.lit (.bool (n.side 25))), .pv (.lit (.bool (n.side 26))), .pv (.lit (.bool (n.side 27))), .pv (.lit (.bool (n.side 28))), .pv (.lit (.bool (n.side 29))), .pv (.lit (.bool (n.side 30))), .pv (.lit (.bool (n.side 31))), .pv (.lit (.bool (n.side 32))), .pv (.lit (.bool (n.side 33))), .pv (.lit (.bool (n.side 34))), .pv (.lit (.bool (n.side 35))), .pv (.lit (.bool (n.side 36))), .pv (.lit (.bool (n.side 37))), .pv (.lit (.bool (n.side 38))), .pv (.lit (.bool (n.side 39))), .pv (.lit (.bool (n.side 40))), .pv (.lit (.bool (n.side 41))), .pv (.lit (.bool (n.side 42))), .pv (.lit (.bool (n.side 43))), .pv (.lit (.bool (n.side 44))), .pv (.lit (.bool (n.side 45))), .pv (.lit (.bool (n.side 46))), .pv (.lit (.bool (n.side 47))), .pv (.lit (.bool (n.side 48))), .pv (.lit (.bool (n.side 49))), .pv (.lit (.bool (n.side 50))), .pv (.lit (.bool (n.side 51))), .pv (.lit (.bool (n.side 52))), .pv (.lit (.bool (n.side 53))), .pv (.lit (.bool (n.side 54))), .pv (.lit (.bool (n.side 55))), .pv (.lit (.bool (n.side 56))), .pv (.lit (.bool (n.side 57))), .pv (.lit (.bool (n.side 58))), .pv (.lit (.bool (n.side 59))), .pv (.lit (.bool (n.side 60))), .pv (.lit (.bool (n.side 61))), .pv (.lit (.bool (n.side 62))), .pv (.lit (.bool (n.side 63))), .pv (.lit (.int .i64 n.lost))])] [0] (WeakerR.ofLI (I := [0]) (Ks := [0]) hI ⟨⟨rfl, rfl⟩, ⟨(by exact grow_at_nil (b := 901) (e := eLink) (l := out1) rfl h7), rfl⟩, ⟨rfl, rfl⟩, ⟨rfl, rfl⟩, ⟨rfl, rfl⟩, trivial⟩ (okH_cons (look_nil h7 rfl) rfl rfl rfl (okH_nil)) rfl rfl) ?_
    refine Awp.consP C ?_
    refine rvP C (.pv (.lit (.bool (decide ((i1 : Int) < 32))))) ?_
    refine rvc_nil ?_
    refine Awp.seq ?_
    refine Awp.cond (b := (decide ((i1 : Int) < 32))) rfl (fun h8 => ?_) (fun h8 => ?_)
    ·
     have h9 : i1 < 32 := by have := of_decide_eq_true h8; omega
     obtain ⟨k1, h10⟩ : ∃ k, 32 - i1 = k + 1 := ⟨32 - i1 - 1, by omega⟩
     rw [h10] at hR
     refine Awp.skip ?_
     refine Awp.seq ?_
     refine Awp.block ?_
     refine Awp.consP C ?_
     refine rvP C (.pv (.lit (.int .i64 (i1 : Int)))) ?_
     refine rvP C (.pv (.lit (.int .i64 (i1 : Int)))) ?_
     refine rvc_nil ?_
     refine Awp.cons C (fun _ => .writer) (by kernel_rfl) ?_
     refine rvP C (.ptr 0 0) ?_
     refine rvP C (.pv (.lit (.int .i64 (i : Int)))) ?_
     refine rvP C (.pv (.lit (.int .i64 (i1 : Int)))) ?_
     refine rvP C (.agg [.pv (.lit (.int .i64 (i : Int))), .pv (.lit (.int .i64 (i1 : Int)))]) ?_
     refine rvc_un (rexec_callM hP C (b := 0) rfl rfl rfl (rLen_calls n (Link.mk (i : Int) (i1 : Int)) hl1) rfl rfl ?_)
     refine rvP C (.pv (.lit (.bool (decide ((rLen n (Link.mk (i : Int) (i1 : Int))) > 0))))) ?_
     refine rvc_nil ?_
     refine Awp.cond (b := (decide ((rLen n (Link.mk (i : Int) (i1 : Int))) > 0))) rfl (fun h11 => ?_) (fun h11 => ?_)
     ·
      replace hR := of_true h11 hR
      refine Awp.regionP C ?_
      refine rvP C (sS (some out1.isEmpty) eLink out1) ?_
      refine rvP C (.pv (.lit (.int .i64 (i : Int)))) ?_
      refine rvP C (.pv (.lit (.int .i64 (i1 : Int)))) ?_
      refine rvP C (.agg [.pv (.lit (.int .i64 (i : Int))), .pv (.lit (.int .i64 (i1 : Int)))]) ?_
      refine rvc_un (rexec_buildSliceF C eLink [(Link.mk (i : Int) (i1 : Int))] rfl rfl rfl rfl rfl rfl rfl (by decide) rfl ?_)
      refine rvc_un (rexec_appendG C rfl rfl rfl rfl rfl rfl rfl rfl (fun _ h => by cases h) rfl (en := eLink) (l := out1) (D := [(Link.mk (i : Int) (i1 : Int))]) rfl rfl h7 (by rw [h7]; rfl) (by simp) (by have := of_decide_eq_true h3; have := of_decide_eq_true h8; have := of_decide_eq_true h11; first | omega | (simp <;> omega)) (by decide) (nn := (out1 ++ [(Link.mk (i : Int) (i1 : Int))]).length) (by simp) ?_)
      refine rvP C (.sl 23 0 ((out1 ++ [(Link.mk (i : Int) (i1 : Int))]).length) 2 false) ?_
      refine rvc_nil ?_
      refine Awp.regionP C ?_
      refine rvP C (.pv (.lit (.int .i64 (IntKind.i64.wrap ((i1 : Int) + 1))))) ?_
      refine rvP C (.pv (.lit (.int .i64 (IntKind.i64.wrap ((i1 : Int) + 1))))) ?_
      refine rvc_nil ?_
      refine ⟨h9, (out1 ++ [(Link.mk (i : Int) (i1 : Int))]), ?_, ?_⟩
      · exact ⟨(by rw [show 32 - (i1 + 1) = k1 by omega]; exact hR), (by first | omega | (simp <;> omega))⟩
      · exact ⟨fun b => bif b == 901 then 23 else (fun b => b) b, WeakerR.ofLI (I := [0]) (Ks := [0, 901]) hI ⟨⟨rfl, rfl⟩, ⟨grow_to rfl rfl app_ne rfl rfl, grow_within rfl⟩, ⟨rfl, rfl⟩, ⟨rfl, rfl⟩, ⟨lit_cast (wrap_i64 (by omega) (by omega)), rfl⟩, trivial⟩ (okH_grow (fun _ => rfl) rfl rfl (okH_cons rfl rfl rfl rfl (okH_nil))) rfl rfl⟩
     ·
      replace hR := of_false h11 hR
      refine Awp.skip ?_
      refine Awp.regionP C ?_
      refine rvP C (.pv (.lit (.int .i64 (IntKind.i64.wrap ((i1 : Int) + 1))))) ?_
      refine rvP C (.pv (.lit (.int .i64 (IntKind.i64.wrap ((i1 : Int) + 1))))) ?_
      refine rvc_nil ?_
      refine ⟨h9, out1, ?_, ?_⟩
      · exact ⟨(by rw [show 32 - (i1 + 1) = k1 by omega]; exact hR), (by first | omega | (simp <;> omega))⟩
      · exact ⟨fun b => b, WeakerR.ofLI (I := [0]) (Ks := [0, 901]) hI ⟨⟨rfl, rfl⟩, ⟨grow_to_nil rfl h7 (.inr rfl), grow_within rfl⟩, ⟨rfl, rfl⟩, ⟨rfl, rfl⟩, ⟨lit_cast (wrap_i64 (by omega) (by omega)), rfl⟩, trivial⟩ (okH_grow (fun hne => absurd h7 hne) rfl rfl (okH_cons rfl rfl rfl rfl (okH_nil))) rfl rfl⟩
    ·
     rw [show 32 - i1 = 0 by have := of_decide_eq_false h8; omega] at hR
     refine Awp.exit ?_
     refine Awp.regionP C ?_
     refine rvP C (.pv (.lit (.int .i64 (IntKind.i64.wrap ((i : Int) + 1))))) ?_
     refine rvP C (.pv (.lit (.int .i64 (IntKind.i64.wrap ((i : Int) + 1))))) ?_
     refine rvc_nil ?_
     refine ⟨h4, out1, ?_, ?_⟩
     · exact ⟨(by rw [show 32 - (i + 1) = k by omega]; exact hR), (by first | omega | (simp <;> omega))⟩
     · exact ⟨fun b => b, WeakerR.ofLI (I := [0]) (Ks := [0, 900]) hI ⟨⟨rfl, rfl⟩, ⟨grow_to_nil rfl h7 (.inr rfl), grow_within rfl⟩, ⟨lit_cast (wrap_i64 (by omega) (by omega)), rfl⟩, trivial⟩ (okH_grow (fun hne => absurd h7 hne) rfl rfl (okH_cons rfl rfl rfl rfl (okH_nil))) rfl rfl⟩
   ·
    refine Awp.wordsR [(0, .ptr 0 0), (3, .sl 901 0 out1.length 2 false), (4, .pv (.lit (.int .i64 (i : Int)))), (6, .pv (.lit (.int .i64 (i : Int)))), (9, .pv (.lit (.int .i64 (i1 : Int))))] [(901, .cells (encC eLink out1)), (0, .cells [sS (some n.items.nil) eItem n.items.D, .pv (.lit (.bool (n.side 0))), .pv (.lit (.bool (n.side 1))), .pv (.lit (.bool (n.side 2))), .pv (.lit (.bool (n.side 3))), .pv (.lit (.bool (n.side 4))), .pv (.lit (.bool (n.side 5))), .pv (.lit (.bool (n.side 6))), .pv (.lit (.bool (n.side 7))), .pv (.lit (.bool (n.side 8))), .pv (.lit (.bool (n.side 9))), .pv (.lit (.bool (n.side 10))), .pv (.lit (.bool (n.side 11))), .pv (.lit (.bool (n.side 12))), .pv (.lit (.bool (n.side 13))), .pv (.lit (.bool (n.side 14))), .pv (.lit (.bool (n.side 15))), .pv (.lit (.bool (n.side 16))), .pv (.lit (.bool (n.side 17))), .pv (.lit (.bool (n.side 18))), .pv (.lit (.bool (n.side 19))), .pv (.lit (.bool (n.side 20))), .pv (.lit (.bool (n.side 21))), .pv (.lit (.bool (n.side 22))), .pv (.lit (.bool (n.side 23))), .pv (.lit (.bool (n.side 24))), .pv (.lit (.bool (n.side 25))), .pv (.lit (.bool (n.side 26))), .pv (.lit (.bool (n.side 27))), .pv (.lit (.bool (n.side 28))), .pv (.lit (.bool (n.side 29))), .pv (.lit (.bool (n.side 30))), .pv (.lit (.bool (n.side 31))), .pv (.lit (.bool (n.side 32))), .pv (.lit (.bool (n.side 33))), .pv (.lit (.bool (n.side 34))), .pv (.lit (.bool (n.side 35))), .pv (.lit (.bool (n.side 36))), .pv (.lit (.bool (n.side 37))), .pv (.lit (.bool (n.side 38))), .pv (.lit (.bool (n.side 39))), .pv (.lit (.bool (n.side 40))), .pv (.lit (.bool (n.side 41))), .pv (.lit (.bool (n.side 42))), .pv (.lit (.bool (n.side 43))), .pv (.lit (.bool (n.side 44))), .pv (.lit (.bool (n.side 45))), .pv (.lit (.bool (n.side 46))), .pv (.lit (.bool (n.side 47))), .pv (.lit (.bool (n.side 48))), .pv (.lit (.bool (n.side 49))), .pv (.lit (.bool (n.side 50))), .pv (.lit (.bool (n.side 51))), .pv (.lit (.bool (n.side 52))), .pv (.lit (.bool (n.side 53))), .pv (.lit (.bool (n.side 54))), .pv (.lit (.bool (n.side 55))), .pv (.lit (.bool (n.side 56))), .pv (.lit (.bool (n.side 57))), .pv (.lit (.bool (n.side 58))), .pv (.lit (.bool (n.side 59))), .pv (.lit (.bool (n.side 60))), .pv (.lit (.bool (n.side 61))), .pv (.lit (.bool (n.side 62))), .pv (.lit (.bool (n.side 63))), .pv (.lit (.int .i64 n.lost))])] [0, 901] (WeakerR.ofLI (I := [0]) (Ks := [0, 901]) hI ⟨⟨rfl, rfl⟩, ⟨(by exact grow_at_cons (b := 901) (b' := 901) (e := eLink) (l := out1) rfl h7 rfl rfl rfl), rfl⟩, ⟨rfl, rfl⟩, ⟨rfl, rfl⟩, ⟨rfl, rfl⟩, trivial⟩ (okH_list (look_cons h7 rfl) rfl rfl (okH_cons (look_cons h7 rfl) rfl rfl rfl (okH_nil))) rfl rfl) ?_
    refine Awp.consP C ?_
    refine rvP C (.pv (.lit (.bool (decide ((i1 : Int) < 32))))) ?_
    refine rvc_nil ?_
    refine Awp.seq ?_
    refine Awp.cond (b := (decide ((i1 : Int) < 32))) rfl (fun h12 => ?_) (fun h12 => ?_)
    ·
     have h13 : i1 < 32 := by have := of_decide_eq_true h12; omega
     obtain ⟨k1, h14⟩ : ∃ k, 32 - i1 = k + 1 := ⟨32 - i1 - 1, by omega⟩
     rw [h14] at hR
     refine Awp.skip ?_
     refine Awp.seq ?_
     refine Awp.block ?_
     refine Awp.consP C ?_
     refine rvP C (.pv (.lit (.int .i64 (i1 : Int)))) ?_
     refine rvP C (.pv (.lit (.int .i64 (i1 : Int)))) ?_
     refine rvc_nil ?_
     refine Awp.cons C (fun _ => .writer) (by kernel_rfl) ?_
     refine rvP C (.ptr 0 0) ?_
     refine rvP C (.pv (.lit (.int .i64 (i : Int)))) ?_
     refine rvP C (.pv (.lit (.int .i64 (i1 : Int)))) ?_
     refine rvP C (.agg [.pv (.lit (.int .i64 (i : Int))), .pv (.lit (.int .i64 (i1 : Int)))]) ?_
     refine rvc_un (rexec_callM hP C (b := 0) rfl rfl rfl (rLen_calls n (Link.mk (i : Int) (i1 : Int)) hl1) rfl rfl ?_)
     refine rvP C (.pv (.lit (.bool (decide ((rLen n (Link.mk (i : Int) (i1 : Int))) > 0))))) ?_
     refine rvc_nil ?_
     refine Awp.cond (b := (decide ((rLen n (Link.mk (i : Int) (i1 : Int))) > 0))) rfl (fun h15 => ?_) (fun h15 => ?_)
     ·
      replace hR := of_true h15 hR
      refine Awp.regionP C ?_
      refine rvP C (.sl 901 0 out1.length 2 false) ?_
      refine rvP C (.pv (.lit (.int .i64 (i : Int)))) ?_
      refine rvP C (.pv (.lit (.int .i64 (i1 : Int)))) ?_
      refine rvP C (.agg [.pv (.lit (.int .i64 (i : Int))), .pv (.lit (.int .i64 (i1 : Int)))]) ?_
      refine rvc_un (rexec_buildSliceF C eLink [(Link.mk (i : Int) (i1 : Int))] rfl rfl rfl rfl rfl rfl rfl (by decide) rfl ?_)
      refine rvc_un (rexec_append C rfl rfl rfl rfl rfl rfl rfl rfl (fun _ h => by cases h) rfl (en := eLink) (D0 := out1) (D := [(Link.mk (i : Int) (i1 : Int))]) rfl rfl rfl rfl (by have := of_decide_eq_true h3; have := of_decide_eq_true h12; have := of_decide_eq_true h15; first | omega | (simp <;> omega)) (by decide) (nn := (out1 ++ [(Link.mk (i : Int) (i1 : Int))]).length) (by simp) ?_)
      refine rvP C (.sl 23 0 ((out1 ++ [(Link.mk (i : Int) (i1 : Int))]).length) 2 false) ?_
      refine rvc_nil ?_
      refine Awp.regionP C ?_
      refine rvP C (.pv (.lit (.int .i64 (IntKind.i64.wrap ((i1 : Int) + 1))))) ?_
      refine rvP C (.pv (.lit (.int .i64 (IntKind.i64.wrap ((i1 : Int) + 1))))) ?_
      refine rvc_nil ?_
      refine ⟨h13, (out1 ++ [(Link.mk (i : Int) (i1 : Int))]), ?_, ?_⟩
      · exact ⟨(by rw [show 32 - (i1 + 1) = k1 by omega]; exact hR), (by first | omega | (simp <;> omega))⟩
      · exact ⟨fun b => bif b == 901 then 23 else (fun b => b) b, WeakerR.ofLI (I := [0]) (Ks := [0, 901]) hI ⟨⟨rfl, rfl⟩, ⟨grow_to rfl rfl app_ne rfl rfl, grow_within rfl⟩, ⟨rfl, rfl⟩, ⟨rfl, rfl⟩, ⟨lit_cast (wrap_i64 (by omega) (by omega)), rfl⟩, trivial⟩ (okH_grow (fun _ => rfl) rfl rfl (okH_cons rfl rfl rfl rfl (okH_nil))) rfl rfl⟩
     ·
      replace hR := of_false h15 hR
      refine Awp.skip ?_
      refine Awp.regionP C ?_
      refine rvP C (.pv (.lit (.int .i64 (IntKind.i64.wrap ((i1 : Int) + 1))))) ?_
      refine rvP C (.pv (.lit (.int .i64 (IntKind.i64.wrap ((i1 : Int) + 1))))) ?_
      refine rvc_nil ?_
      refine ⟨h13, out1, ?_, ?_⟩
      · exact ⟨(by rw [show 32 - (i1 + 1) = k1 by omega]; exact hR), (by first | omega | (simp <;> omega))⟩
      · exact ⟨fun b => b, WeakerR.ofLI (I := [0]) (Ks := [0, 901]) hI ⟨⟨rfl, rfl⟩, ⟨grow_to rfl rfl h7 rfl rfl, grow_within rfl⟩, ⟨rfl, rfl⟩, ⟨rfl, rfl⟩, ⟨lit_cast (wrap_i64 (by omega) (by omega)), rfl⟩, trivial⟩ (okH_grow (fun _ => rfl) rfl rfl (okH_cons rfl rfl rfl rfl (okH_nil))) rfl rfl⟩
    ·
     rw [show 32 - i1 = 0 by have := of_decide_eq_false h12; omega] at hR
     refine Awp.exit ?_
     refine Awp.regionP C ?_
     refine rvP C (.pv (.lit (.int .i64 (IntKind.i64.wrap ((i : Int) + 1))))) ?_
     refine rvP C (.pv (.lit (.int .i64 (IntKind.i64.wrap ((i : Int) + 1))))) ?_
     refine rvc_nil ?_
     refine ⟨h4, out1, ?_, ?_⟩
     · exact ⟨(by rw [show 32 - (i + 1) = k by omega]; exact hR), (by first | omega | (simp <;> omega))⟩
     · exact ⟨fun b => bif b == 900 then 901 else (fun b => b) b, WeakerR.ofLI (I := [0]) (Ks := [0, 900]) hI ⟨⟨rfl, rfl⟩, ⟨grow_to rfl rfl h7 rfl rfl, grow_within rfl⟩, ⟨lit_cast (wrap_i64 (by omega) (by omega)), rfl⟩, trivial⟩ (okH_grow (fun _ => rfl) rfl rfl (okH_cons rfl rfl rfl rfl (okH_nil))) rfl rfl⟩
  ·
   rw [show 32 - i = 0 by have := of_decide_eq_false h3; omega] at hR
   refine Awp.exit ?_
   refine Awp.consP C ?_
   refine rvP C (sS (some out.isEmpty) eLink out) ?_
   refine rvP C (sS (some out.isEmpty) eLink out) ?_
   refine rvc_nil ?_
   refine Awp.ret ?_
   subst hR
   exact ⟨.inl rfl, rfl, rfl⟩
 ·
  refine Awp.wordsR [(0, .ptr 0 0), (3, .sl 900 0 out.length 2 false), (6, .pv (.lit (.int .i64 (i : Int))))] [(900, .cells (encC eLink out)), (0, .cells [sS (some n.items.nil) eItem n.items.D, .pv (.lit (.bool (n.side 0))), .pv (.lit (.bool (n.side 1))), .pv (.lit (.bool (n.side 2))), .pv (.lit (.bool (n.side 3))), .pv (.lit (.bool (n.side 4))), .pv (.lit (.bool (n.side 5))), .pv (.lit (.bool (n.side 6))), .pv (.lit (.bool (n.side 7))), .pv (.lit (.bool (n.side 8))), .pv (.lit (.bool (n.side 9))), .pv (.lit (.bool (n.side 10))), .pv (.lit (.bool (n.side 11))), .pv (.lit (.bool (n.side 12))), .pv (.lit (.bool (n.side 13))), .pv (.lit (.bool (n.side 14))), .pv (.lit (.bool (n.side 15))), .pv (.lit (.bool (n.side 16))), .pv (.lit (.bool (n.side 17))), .pv (.lit (.bool (n.side 18))), .pv (.lit (.bool (n.side 19))), .pv (.lit (.bool (n.side 20))), .pv (.lit (.bool (n.side 21))), .pv (.lit (.bool (n.side 22))), .pv (.lit (.bool (n.side 23))), .pv (.lit (.bool (n.side 24))), .pv (.lit (.bool (n.side 25))), .pv (.lit (.bool (n.side 26))), .pv (.lit (.bool (n.side 27))), .pv (.lit (.bool (n.side 28))), .pv (.lit (.bool (n.side 29))), .pv (.lit (.bool (n.side 30))), .pv (.lit (.bool (n.side 31))), .pv (.lit (.bool (n.side 32))), .pv (.lit (.bool (n.side 33))), .pv (.lit (.bool (n.side 34))), .pv (.lit (.bool (n.side 35))), .pv (.lit (.bool (n.side 36))), .pv (.lit (.bool (n.side 37))), .pv (.lit (.bool (n.side 38))), .pv (.lit (.bool (n.side 39))), .pv (.lit (.bool (n.side 40))), .pv (.lit (.bool (n.side 41))), .pv (.lit (.bool (n.side 42))), .pv (.lit (.bool (n.side 43))), .pv (.lit (.bool (n.side 44))), .pv (.lit (.bool (n.side 45))), .pv (.lit (.bool (n.side 46))), .pv (.lit (.bool (n.side 47))), .pv (.lit (.bool (n.side 48))), .pv (.lit (.bool (n.side 49))), .pv (.lit (.bool (n.side 50))), .pv (.lit (.bool (n.side 51))), .pv (.lit (.bool (n.side 52))), .pv (.lit (.bool (n.side 53))), .pv (.lit (.bool (n.side 54))), .pv (.lit (.bool (n.side 55))), .pv (.lit (.bool (n.side 56))), .pv (.lit (.bool (n.side 57))), .pv (.lit (.bool (n.side 58))), .pv (.lit (.bool (n.side 59))), .pv (.lit (.bool (n.side 60))), .pv (.lit (.bool (n.side 61))), .pv (.lit (.bool (n.side 62))), .pv (.lit (.bool (n.side 63))), .pv (.lit (.int .i64 n.lost))])] [0, 900] (WeakerR.ofLI (I := [0]) (Ks := [0, 900]) hI ⟨⟨rfl, rfl⟩, ⟨(by exact grow_at_cons (b := 900) (b' := 900) (e := eLink) (l := out) rfl h2 rfl rfl rfl), rfl⟩, ⟨rfl, rfl⟩, trivial⟩ (okH_list (look_cons h2 rfl) rfl rfl (okH_cons (look_cons h2 rfl) rfl rfl rfl (okH_nil))) rfl rfl) ?_
  refine Awp.consP C ?_
  refine rvP C (.pv (.lit (.bool (decide ((i : Int) < 32))))) ?_
  refine rvc_nil ?_
  refine Awp.seq ?_
  refine Awp.cond (b := (decide ((i : Int) < 32))) rfl (fun h16 => ?_) (fun h16 => ?_)
  ·
   have h17 : i < 32 := by have := of_decide_eq_true h16; omega
   obtain ⟨k, h18⟩ : ∃ k, 32 - i = k + 1 := ⟨32 - i - 1, by omega⟩
   rw [h18] at hR
   refine Awp.skip ?_
   refine Awp.seq ?_
   refine Awp.block ?_
   refine Awp.consP C ?_
   refine rvP C (.pv (.lit (.int .i64 (i : Int)))) ?_
   refine rvP C (.pv (.lit (.int .i64 (i : Int)))) ?_
   refine rvc_nil ?_
   refine Awp.consP C ?_
   refine rvP C (.pv (.lit (.int .i64 0))) ?_
   refine rvc_nil ?_
   refine Awp.block ?_
   refine Awp.forR (σ := ((List Link))) (32) (fun i2 v => [(0, .ptr 0 0), (3, .sl 902 0 v.length 2 false), (4, .pv (.lit (.int .i64 (i : Int)))), (6, .pv (.lit (.int .i64 (i : Int)))), (9, .pv (.lit (.int .i64 (i2 : Int))))]) (fun i2 v => [(0, .cells [sS (some n.items.nil) eItem n.items.D, .pv (.lit (.bool (n.side 0))), .pv (.lit (.bool (n.side 1))), .pv (.lit (.bool (n.side 2))), .pv (.lit (.bool (n.side 3))), .pv (.lit (.bool (n.side 4))), .pv (.lit (.bool (n.side 5))), .pv (.lit (.bool (n.side 6))), .pv (.lit (.bool (n.side 7))), .pv (.lit (.bool (n.side 8))), .pv (.lit (.bool (n.side 9))), .pv (.lit (.bool (n.side 10))), .pv (.lit (.bool (n.side 11))), .pv (.lit (.bool (n.side 12))), .pv (.lit (.bool (n.side 13))), .pv (.lit (.bool (n.side 14))), .pv (.lit (.bool (n.side 15))), .pv (.lit (.bool (n.side 16))), .pv (.lit (.bool (n.side 17))), .pv (.lit (.bool (n.side 18))), .pv (.lit (.bool (n.side 19))), .pv (.lit (.bool (n.side 20))), .pv (.lit (.bool (n.side 21))), .pv (.lit (.bool (n.side 22))), .pv (.lit (.bool (n.side 23))), .pv (.lit (.bool (n.side 24))), .pv (.lit (.bool (n.side 25))), .pv (.lit (.bool (n.side 26))), .pv (.lit (.bool (n.side 27))), .pv (.lit (.bool (n.side 28))), .pv (.lit (.bool (n.side 29))), .pv (.lit (.bool (n.side 30))), .pv (.lit (.bool (n.side 31))), .pv (.lit (.bool (n.side 32))), .pv (.lit (.bool (n.side 33))), .pv (.lit (.bool (n.side 34))), .pv (.lit (.bool (n.side 35))), .pv (.lit (.bool (n.side 36))), .pv (.lit (.bool (n.side 37))), .pv (.lit (.bool (n.side 38))), .pv (.lit (.bool (n.side 39))), .pv (.lit (.bool (n.side 40))), .pv (.lit (.bool (n.side 41))), .pv (.lit (.bool (n.side 42))), .pv (.lit (.bool (n.side 43))), .pv (.lit (.bool (n.side 44))), .pv (.lit (.bool (n.side 45))), .pv (.lit (.bool (n.side 46))), .pv (.lit (.bool (n.side 47))), .pv (.lit (.bool (n.side 48))), .pv (.lit (.bool (n.side 49))), .pv (.lit (.bool (n.side 50))), .pv (.lit (.bool (n.side 51))), .pv (.lit (.bool (n.side 52))), .pv (.lit (.bool (n.side 53))), .pv (.lit (.bool (n.side 54))), .pv (.lit (.bool (n.side 55))), .pv (.lit (.bool (n.side 56))), .pv (.lit (.bool (n.side 57))), .pv (.lit (.bool (n.side 58))), .pv (.lit (.bool (n.side 59))), .pv (.lit (.bool (n.side 60))), .pv (.lit (.bool (n.side 61))), .pv (.lit (.bool (n.side 62))), .pv (.lit (.bool (n.side 63))), .pv (.lit (.int .i64 n.lost))]), (902, .cells (encC eLink v))]) [0, 902] (fun i2 v => (rBusy_l1 n i (fun out2 => rBusy_l0 n k (i + 1) out2) (32 - i2) i2 v = R) ∧ (v ≠ [] ∧ v.length ≤ out.length + i2)) out ?_ ?_ (fun i2 out2 h19 hR => ?_)
   · exact ⟨hR, ⟨h2, (by first | omega | (simp <;> omega))⟩⟩
   · exact ⟨fun b => bif b == 902 then 900 else (fun b => b) b, WeakerR.ofLI (I := [0]) (Ks := [0, 902]) hI ⟨⟨rfl, rfl⟩, ⟨rfl, rfl⟩, ⟨rfl, rfl⟩, ⟨rfl, rfl⟩, ⟨rfl, rfl⟩, trivial⟩ (okH_cons rfl rfl rfl rfl (okH_list rfl rfl rfl (okH_nil))) rfl rfl⟩
   obtain ⟨hR, ⟨hn_out2, hi_out2⟩⟩ := hR
   replace hi_out2 : out2.length ≤ out.length + i2 := hi_out2
   refine Awp.consP C ?_
   refine rvP C (.pv (.lit (.bool (decide ((i2 : Int) < 32))))) ?_
   refine rvc_nil ?_
   refine Awp.seq ?_
   refine Awp.cond (b := (decide ((i2 : Int) < 32))) rfl (fun h20 => ?_) (fun h20 => ?_)
   ·
    have h21 : i2 < 32 := by have := of_decide_eq_true h20; omega
    obtain ⟨k2, h22⟩ : ∃ k, 32 - i2 = k + 1 := ⟨32 - i2 - 1, by omega⟩
    rw [h22] at hR
    refine Awp.skip ?_
    refine Awp.seq ?_
    refine Awp.block ?_
    refine Awp.consP C ?_
    refine rvP C (.pv (.lit (.int .i64 (i2 : Int)))) ?_
    refine rvP C (.pv (.lit (.int .i64 (i2 : Int)))) ?_
    refine rvc_nil ?_
    refine Awp.cons C (fun _ => .writer) (by kernel_rfl) ?_
    refine rvP C (.ptr 0 0) ?_
    refine rvP C (.pv (.lit (.int .i64 (i : Int)))) ?_
    refine rvP C (.pv (.lit (.int .i64 (i2 : Int)))) ?_
    refine rvP C (.agg [.pv (.lit (.int .i64 (i : Int))), .pv (.lit (.int .i64 (i2 : Int)))]) ?_
    refine rvc_un (rexec_callM hP C (b := 0) rfl rfl rfl (rLen_calls n (Link.mk (i : Int) (i2 : Int)) hl1) rfl rfl ?_)
    refine rvP C (.pv (.lit (.bool (decide ((rLen n (Link.mk (i : Int) (i2 : Int))) > 0))))) ?_
    refine rvc_nil ?_
    refine Awp.cond (b := (decide ((rLen n (Link.mk (i : Int) (i2 : Int))) > 0))) rfl (fun h23 => ?_) (fun h23 => ?_)
    ·
     replace hR := of_true h23 hR
     refine Awp.regionP C ?_
     refine rvP C (.sl 902 0 out2.length 2 false) ?_
     refine rvP C (.pv (.lit (.int .i64 (i : Int)))) ?_
     refine rvP C (.pv (.lit (.int .i64 (i2 : Int)))) ?_
     refine rvP C (.agg [.pv (.lit (.int .i64 (i : Int))), .pv (.lit (.int .i64 (i2 : Int)))]) ?_
     refine rvc_un (rexec_buildSliceF C eLink [(Link.mk (i : Int) (i2 : Int))] rfl rfl rfl rfl rfl rfl rfl (by decide) rfl ?_)
     refine rvc_un (rexec_append C rfl rfl rfl rfl rfl rfl rfl rfl (fun _ h => by cases h) rfl (en := eLink) (D0 := out2) (D := [(Link.mk (i : Int) (i2 : Int))]) rfl rfl rfl rfl (by have := of_decide_eq_true h16; have := of_decide_eq_true h20; have := of_decide_eq_true h23; first | omega | (simp <;> omega)) (by decide) (nn := (out2 ++ [(Link.mk (i : Int) (i2 : Int))]).length) (by simp) ?_)
     refine rvP C (.sl 23 0 ((out2 ++ [(Link.mk (i : Int) (i2 : Int))]).length) 2 false) ?_
     refine rvc_nil ?_
     refine Awp.regionP C ?_
     refine rvP C (.pv (.lit (.int .i64 (IntKind.i64.wrap ((i2 : Int) + 1))))) ?_
     refine rvP C (.pv (.lit (.int .i64 (IntKind.i64.wrap ((i2 : Int) + 1))))) ?_
     refine rvc_nil ?_
     refine ⟨h21, (out2 ++ [(Link.mk (i : Int) (i2 : Int))]), ?_, ?_⟩
     · exact ⟨(by rw [show 32 - (i2 + 1) = k2 by omega]; exact hR), ⟨app_ne, (by first | omega | (simp <;> omega))⟩⟩
     · exact ⟨fun b => bif b == 902 then 23 else (fun b => b) b, WeakerR.ofLI (I := [0]) (Ks := [0, 902]) hI ⟨⟨rfl, rfl⟩, ⟨rfl, rfl⟩, ⟨rfl, rfl⟩, ⟨rfl, rfl⟩, ⟨lit_cast (wrap_i64 (by omega) (by omega)), rfl⟩, trivial⟩ (okH_cons rfl rfl rfl rfl (okH_list rfl rfl rfl (okH_nil))) rfl rfl⟩
    ·
     replace hR := of_false h23 hR
     refine Awp.skip ?_
     refine Awp.regionP C ?_
     refine rvP C (.pv (.lit (.int .i64 (IntKind.i64.wrap ((i2 : Int) + 1))))) ?_
     refine rvP C (.pv (.lit (.int .i64 (IntKind.i64.wrap ((i2 : Int) + 1))))) ?_
     refine rvc_nil ?_
     refine ⟨h21, out2, ?_, ?_⟩
     · exact ⟨(by rw [show 32 - (i2 + 1) = k2 by omega]; exact hR), ⟨hn_out2, (by first | omega | (simp <;> omega))⟩⟩
     · exact ⟨fun b => b, WeakerR.ofLI (I := [0]) (Ks := [0, 902]) hI ⟨⟨rfl, rfl⟩, ⟨rfl, rfl⟩, ⟨rfl, rfl⟩, ⟨rfl, rfl⟩, ⟨lit_cast (wrap_i64 (by omega) (by omega)), rfl⟩, trivial⟩ (okH_cons rfl rfl rfl rfl (okH_list rfl rfl rfl (okH_nil))) rfl rfl⟩
   ·
    rw [show 32 - i2 = 0 by have := of_decide_eq_false h20; omega] at hR
    refine Awp.exit ?_
    refine Awp.regionP C ?_
    refine rvP C (.pv (.lit (.int .i64 (IntKind.i64.wrap ((i : Int) + 1))))) ?_
    refine rvP C (.pv (.lit (.int .i64 (IntKind.i64.wrap ((i : Int) + 1))))) ?_
    refine rvc_nil ?_
    refine ⟨h17, out2, ?_, ?_⟩
    · exact ⟨(by rw [show 32 - (i + 1) = k by omega]; exact hR), (by first | omega | (simp <;> omega))⟩
    · exact ⟨fun b => bif b == 900 then 902 else (fun b => b) b, WeakerR.ofLI (I := [0]) (Ks := [0, 900]) hI ⟨⟨rfl, rfl⟩, ⟨grow_to rfl rfl hn_out2 rfl rfl, grow_within rfl⟩, ⟨lit_cast (wrap_i64 (by omega) (by omega)), rfl⟩, trivial⟩ (okH_grow (fun _ => rfl) rfl rfl (okH_cons rfl rfl rfl rfl (okH_nil))) rfl rfl⟩
  ·
   rw [show 32 - i = 0 by have := of_decide_eq_false h16; omega] at hR
   refine Awp.exit ?_
   refine Awp.consP C ?_
   refine rvP C (.sl 900 0 out.length 2 false) ?_
   refine rvP C (.sl 900 0 out.length 2 false) ?_
   refine rvc_nil ?_
   refine Awp.freezeW 900 (encL eLink out) ?_ [(2, sS (some out.isEmpty) eLink out)] [(0, .cells [sS (some n.items.nil) eItem n.items.D, .pv (.lit (.bool (n.side 0))), .pv (.lit (.bool (n.side 1))), .pv (.lit (.bool (n.side 2))), .pv (.lit (.bool (n.side 3))), .pv (.lit (.bool (n.side 4))), .pv (.lit (.bool (n.side 5))), .pv (.lit (.bool (n.side 6))), .pv (.lit (.bool (n.side 7))), .pv (.lit (.bool (n.side 8))), .pv (.lit (.bool (n.side 9))), .pv (.lit (.bool (n.side 10))), .pv (.lit (.bool (n.side 11))), .pv (.lit (.bool (n.side 12))), .pv (.lit (.bool (n.side 13))), .pv (.lit (.bool (n.side 14))), .pv (.lit (.bool (n.side 15))), .pv (.lit (.bool (n.side 16))), .pv (.lit (.bool (n.side 17))), .pv (.lit (.bool (n.side 18))), .pv (.lit (.bool (n.side 19))), .pv (.lit (.bool (n.side 20))), .pv (.lit (.bool (n.side 21))), .pv (.lit (.bool (n.side 22))), .pv (.lit (.bool (n.side 23))), .pv (.lit (.bool (n.side 24))), .pv (.lit (.bool (n.side 25))), .pv (.lit (.bool (n.side 26))), .pv (.lit (.bool (n.side 27))), .pv (.lit (.bool (n.side 28))), .pv (.lit (.bool (n.side 29))), .pv (.lit (.bool (n.side 30))), .pv (.lit (.bool (n.side 31))), .pv (.lit (.bool (n.side 32))), .pv (.lit (.bool (n.side 33))), .pv (.lit (.bool (n.side 34))), .pv (.lit (.bool (n.side 35))), .pv (.lit (.bool (n.side 36))), .pv (.lit (.bool (n.side 37))), .pv (.lit (.bool (n.side 38))), .pv (.lit (.bool (n.side 39))), .pv (.lit (.bool (n.side 40))), .pv (.lit (.bool (n.side 41))), .pv (.lit (.bool (n.side 42))), .pv (.lit (.bool (n.side 43))), .pv (.lit (.bool (n.side 44))), .pv (.lit (.bool (n.side 45))), .pv (.lit (.bool (n.side 46))), .pv (.lit (.bool (n.side 47))), .pv (.lit (.bool (n.side 48))), .pv (.lit (.bool (n.side 49))), .pv (.lit (.bool (n.side 50))), .pv (.lit (.bool (n.side 51))), .pv (.lit (.bool (n.side 52))), .pv (.lit (.bool (n.side 53))), .pv (.lit (.bool (n.side 54))), .pv (.lit (.bool (n.side 55))), .pv (.lit (.bool (n.side 56))), .pv (.lit (.bool (n.side 57))), .pv (.lit (.bool (n.side 58))), .pv (.lit (.bool (n.side 59))), .pv (.lit (.bool (n.side 60))), .pv (.lit (.bool (n.side 61))), .pv (.lit (.bool (n.side 62))), .pv (.lit (.bool (n.side 63))), .pv (.lit (.int .i64 n.lost))])] ?_ ?_ ?_
   · rfl
   · exact ⟨⟨_, rfl, .inl (.inr ⟨_, _, _, rfl, by rw [ne_isEmpty h2]; rfl⟩)⟩, trivial⟩
   · exact ⟨⟨(by show (0 : Nat) ≠ 900; decide), .inl rfl⟩, trivial⟩
   refine Awp.ret ?_
   subst hR
   exact ⟨.inl rfl, rfl, rfl⟩
 -- !! two models: ('(Sl.mk out.isEmpty out)', 'rBusy_l1 n i (fun out1 => rBusy_l0 n k (i + 1) out1) 32 0 out') ||| ('(Sl.mk out.isEmpty out)', 'rBusy_l1 n i (fun out2 => rBusy_l0 n k (i + 1) out2) 32 0 out')
def rowR (n : Net51) (i : Nat) (k i1 : Nat) : List Link := ((List.range' i1 k).map fun (j : Nat) => Link.mk (i : Int) (j : Int)).filter fun l => decide (rLen n l > 0)
theorem rBusy_l1_eq (n : Net51) (i : Nat) (kk : List Link → Sl Link) : ∀ (k i1 : Nat) (out : List Link), rBusy_l1 n i kk k i1 out = kk (out ++ rowR n i k i1)
  | 0, i1, out => by unfold rBusy_l1 rowR; simp
  | k + 1, i1, out => by
    unfold rBusy_l1
    rw [rBusy_l1_eq n i kk k (i1 + 1), rBusy_l1_eq n i kk k (i1 + 1)]
    unfold rowR
    rw [List.range'_succ, List.map_cons, List.filter_cons]
    cases decide (rLen n (Link.mk (i : Int) (i1 : Int)) > 0)
    · rw [cond_false, if_neg (by decide)]
    · rw [cond_true, if_pos rfl, List.append_assoc]; rfl
def gridR (n : Net51) (k i : Nat) : List Link := (List.range' i k).flatMap fun (i : Nat) => rowR n i 32 0
theorem rBusy_l0_eq (n : Net51) : ∀ (k i : Nat) (out : List Link), rBusy_l0 n k i out = Sl.mk (out ++ gridR n k i).isEmpty (out ++ gridR n k i)
  | 0, i, out => by unfold rBusy_l0 gridR; simp
  | k + 1, i, out => by
    unfold rBusy_l0
    rw [rBusy_l1_eq, rBusy_l0_eq n k (i + 1)]
    unfold gridR
    rw [List.range'_succ, List.flatMap_cons, List.append_assoc]
theorem rBusy_eq (n : Net51) : (rBusy n).D = gridR n 32 0 := by
  unfold rBusy
  rw [rBusy_l0_eq]
  rfl
open Go.Shelf (Ren)
def layS_ren : Ren := ⟨fun x => match x with | 6 => 37 | 15 => 52 | 14 => 51 | 28 => 64 | 29 => 65 | 20 => 56 | 21 => 57 | 22 => 58 | 23 => 59 | 24 => 60 | 25 => 61 | 26 => 62 | 27 => 63 | 46 => 66 | 47 => 67 | 48 => 68 | 49 => 69 | 50 => 70 | 57 => 71 | n => n, fun x => match x with | 22 => 43 | 24 => 29 | 25 => 80 | 3 => 3 | 39 => 37 | 0 => 0 | 53 => 106 | 55 => 31 | 4 => 4 | 46 => 99 | 45 => 98 | 50 => 103 | 5 => 5 | 9 => 9 | 66 => 108 | 70 => 112 | 76 => 114 | 77 => 115 | n => n, fun n => n⟩
theorem layS : SlLaysF0.n6 Try.prog layS_ren where
  mixed := mixed
  f6 := ⟨Try.f37.name, rfl, Try.func37⟩
  f14 := ⟨Try.f51.name, rfl, Try.func51⟩
  f15 := Try.func52
  f20 := ⟨Try.f56.name, rfl, Try.func56⟩
  f21 := ⟨Try.f57.name, rfl, Try.func57⟩
  f22 := ⟨Try.f58.name, rfl, Try.func58⟩
  f23 := ⟨Try.f59.name, rfl, Try.func59⟩
  f24 := ⟨Try.f60.name, rfl, Try.func60⟩
  f25 := ⟨Try.f61.name, rfl, Try.func61⟩
  f26 := ⟨Try.f62.name, rfl, Try.func62⟩
  f27 := ⟨Try.f63.name, rfl, Try.func63⟩
  f28 := Try.func64
  f29 := Try.func65
  f46 := ⟨Try.f66.name, rfl, Try.func66⟩
  f47 := Try.func67
  f48 := Try.func68
  f49 := ⟨Try.f69.name, rfl, Try.func69⟩
  f50 := ⟨Try.f70.name, rfl, Try.func70⟩
  f57 := ⟨Try.f71.name, rfl, Try.func71⟩
  t0 := Try.underlying0
  a0 := Try.isAgg0
  z0 := Try.sizeOf0
  v0 := Try.zeroValue0
  t3 := Try.underlying3
  a3 := Try.isAgg3
  z3 := Try.sizeOf3
  v3 := Try.zeroValue3
  t4 := Try.underlying4
  a4 := Try.isAgg4
  z4 := Try.sizeOf4
  v4 := Try.zeroValue4
  t5 := Try.underlying5
  a5 := Try.isAgg5
  z5 := Try.sizeOf5
  v5 := Try.zeroValue5
  t9 := Try.underlying9
  a9 := Try.isAgg9
  z9 := Try.sizeOf9
  v9 := Try.zeroValue9
  t22 := Try.underlying43
  a22 := Try.isAgg43
  z22 := Try.sizeOf43
  v22 := Try.zeroValue43
  t25 := Try.underlying80
  a25 := Try.isAgg80
  z25 := Try.sizeOf80
  v25 := Try.zeroValue80
  t39 := Try.underlying37
  a39 := Try.isAgg37
  z39 := Try.sizeOf37
  v39 := Try.zeroValue37
  t45 := Try.underlying98
  a45 := Try.isAgg98
  z45 := Try.sizeOf98
  v45 := Try.zeroValue98
  t46 := Try.underlying99
  a46 := Try.isAgg99
  z46 := Try.sizeOf99
  v46 := Try.zeroValue99
  t50 := Try.underlying103
  a50 := Try.isAgg103
  z50 := Try.sizeOf103
  v50 := Try.zeroValue103
  t53 := Try.underlying106
  a53 := Try.isAgg106
  z53 := Try.sizeOf106
  v53 := Try.zeroValue106
  t55 := Try.underlying31
  a55 := Try.isAgg31
  z55 := Try.sizeOf31
  v55 := Try.zeroValue31
  t66 := Try.underlying108
  a66 := Try.isAgg108
  z66 := Try.sizeOf108
  v66 := Try.zeroValue108
  t70 := Try.underlying112
  a70 := Try.isAgg112
  z70 := Try.sizeOf112
  v70 := Try.zeroValue112
  t76 := Try.underlying114
  a76 := Try.isAgg114
  z76 := Try.sizeOf114
  v76 := Try.zeroValue114
  t77 := Try.underlying115
  a77 := Try.isAgg115
  z77 := Try.sizeOf115
  v77 := Try.zeroValue115
/-- Links that may be. -/
abbrev FL := { l : Link // fitsL l = true }
instance : Inhabited FL := ⟨⟨⟨0, 1⟩, rfl⟩⟩
def eFL : Enc FL := ⟨2, fun x => eLink.enc x.1, fun _ => rfl⟩
theorem encL_map : ∀ (D : List FL), encL eFL D = encL eLink (D.map (·.1))
  | [] => rfl
  | x :: D => by
    show eLink.enc x.1 ++ encL eFL D = eLink.enc x.1 ++ encL eLink (D.map (·.1))
    rw [encL_map D]
theorem encC_map (D : List FL) : encC eFL D = encC eLink (D.map (·.1)) := by unfold encC; rw [encL_map]
def keyL (l : Link) : Int := l.from_ * 32 + l.to
theorem fits_rng {l : Link} (h : fitsL l = true) : 0 ≤ l.from_ ∧ l.from_ < 32 ∧ 0 ≤ l.to ∧ l.to < 32 ∧ l.from_ ≠ l.to := by
  unfold fitsL at h
  cases h1 : decide (l.from_ ≥ 0)
  · rw [h1] at h; cases h
  rw [h1, cond_true] at h
  cases h2 : decide (l.from_ < 32)
  · rw [h2] at h; cases h
  rw [h2, cond_true] at h
  cases h3 : decide (l.to ≥ 0)
  · rw [h3] at h; cases h
  rw [h3, cond_true] at h
  cases h4 : decide (l.to < 32)
  · rw [h4] at h; cases h
  rw [h4, cond_true] at h
  have h1 := of_decide_eq_true h1
  have h2 := of_decide_eq_true h2
  have h3 := of_decide_eq_true h3
  have h4 := of_decide_eq_true h4
  exact ⟨by omega, h2, by omega, h4, by simpa using h⟩
def cmpFL (x y : FL) : Int := busyCmp x.1 y.1
theorem cmpFL_lt (x y : FL) : ltOf cmpFL x y = decide (keyL x.1 < keyL y.1) := by
  obtain ⟨x, hx⟩ := x
  obtain ⟨y, hy⟩ := y
  have h1 := fits_rng hx
  have h2 := fits_rng hy
  unfold ltOf cmpFL busyCmp keyL
  dsimp only
  have w1 := wrapI (x.from_ - y.from_)
  have w2 := wrapI (x.to - y.to)
  cases h : x.from_ != y.from_
  · have h := eq_of_bne_false h
    rw [cond_false, w2 (by omega)]
    by_cases h3 : x.from_ * 32 + x.to < y.from_ * 32 + y.to
    · rw [decide_eq_true h3]; exact decide_eq_true (by omega)
    · rw [decide_eq_false h3]; exact decide_eq_false (by omega)
  · have h : x.from_ ≠ y.from_ := by simpa using h
    rw [cond_true, w1 (by omega)]
    by_cases h3 : x.from_ * 32 + x.to < y.from_ * 32 + y.to
    · rw [decide_eq_true h3]; exact decide_eq_true (by omega)
    · rw [decide_eq_false h3]; exact decide_eq_false (by omega)
theorem cmpFL_swo : Go.Sort.SWO (ltOf cmpFL) where
  irrefl x := by rw [cmpFL_lt]; exact decide_eq_false (by omega)
  trans x y z h1 h2 := by
    rw [cmpFL_lt] at *
    have h1 := of_decide_eq_true h1
    have h2 := of_decide_eq_true h2
    exact decide_eq_true (by omega)
  ntrans x y z h1 h2 := by
    rw [cmpFL_lt] at *
    have h1 := of_decide_eq_false h1
    have h2 := of_decide_eq_false h2
    exact decide_eq_false (by omega)
def sortFL (D : List FL) : List FL := (Go.Sort.pdq (ltOf cmpFL) D.toArray 0 D.length (Lib.bitLen D.length) true true).toList
theorem sortFL_spec (D : List FL) : (sortFL D).Perm D ∧ (sortFL D).Pairwise fun a b => keyL a.1 ≤ keyL b.1 := by
  obtain ⟨⟨h1, _, h2⟩, h3⟩ := Go.Sort.pdq_sorts (ltOf cmpFL) cmpFL_swo D.toArray 0 D.length (Lib.bitLen D.length) true true (Nat.zero_le _) (by simp) (Or.inl rfl)
  have hs : D.toArray.size = D.length := by simp
  rw [hs] at h1
  constructor
  · unfold sortFL
    have e1 : ∀ A : Array FL, A.size = D.length → (A.extract 0 D.length).toList = A.toList := fun A hA => by rw [← hA]; simp
    rw [e1 _ h1, e1 _ hs] at h2
    simpa using h2
  · unfold sortFL
    rw [List.pairwise_iff_getElem]
    intro i j hi hj hij
    rw [Array.length_toList, h1] at hi hj
    have := h3 i j (Nat.zero_le _) hij hj
    rw [cmpFL_lt] at this
    have := of_decide_eq_false this
    rw [getElem!_pos _ i (by rw [h1]; exact hi), getElem!_pos _ j (by rw [h1]; exact hj)] at this
    simp only [Array.getElem_toList]
    omega
theorem sortFL_calls (D : List FL) (hL : D.length ≤ 1000000) : MCalls Try.prog 37 [.sl 0 0 D.length 2 false, .fn 38 [] []] (.cells (encC eLink (D.map (·.1)))) (.tup []) (.cells (encC eLink ((sortFL D).map (·.1)))) := by
  have hlit : ∀ x : FL, allLits (eFL.enc x) := fun x p hp => by
    simp only [eFL, eLink, List.mem_cons, List.not_mem_nil, or_false] at hp
    rcases hp with rfl | rfl <;> exact ⟨rfl, rfl⟩
  have S : SortsK Try.prog 37 (fun x : FL => (eFL.enc x).map litOf) 2 cmpFL (fun d => Go.Sort.pdq (ltOf cmpFL) d 0 d.size (Lib.bitLen d.size) true true) := fun g cb blk off cap d w eg hcmp hH hblk hsz =>
    AnyQ.slices_SortFunc_eq layS 2 Try.isAgg29 Try.sizeOf29 (fun x : FL => (eFL.enc x).map litOf) (fun _ => rfl) (fun x v hv => by
      simp only [eFL, eLink, List.map_cons, List.map_nil, litOf, List.mem_cons, List.not_mem_nil, or_false] at hv
      rcases hv with rfl | rfl <;> rfl) cmpFL cmpFL_swo g cb blk off cap d w eg hcmp hH hblk hsz
  have := sortK_calls Try.func37 rfl rfl (e := eFL) hlit (fun d => (Go.Sort.pdq_sorts (ltOf cmpFL) cmpFL_swo d 0 d.size (Lib.bitLen d.size) true true (Nat.zero_le _) (Nat.le_refl _) (Or.inl rfl)).1.1) S D false (by omega) 38 [] (fun x y => busyCmp_calls x.1 y.1) rfl default
  rw [encC_map, encC_map] at this
  simp only [List.size_toArray] at this
  exact this
theorem bitsLen0_calls : PCalls Try.prog 52 [.pv (.lit (.int .u64 0))] (.pv (.lit (.int .i64 0))) where
  fn := ⟨Try.f52, Try.func52, rfl, rfl⟩
  args := rfl
  res := rfl
  calls := by
    intro ι imm w M vs hH hv hi hb
    obtain ⟨v, us, rfl, h1, h2⟩ := hv
    simp only [VHs] at h2
    subst h2
    have h1 : v = .int .u64 0 := by simp only [VH, PH] at h1; exact h1.1
    subst h1
    refine (Any.bits_Len (SlLaysF0.n15.bits (P := Try.prog) (ρ := layS_ren) { layS with }) 0 w (by decide) (by decide)).mono ?_
    rintro e w' ⟨rfl, rfl⟩
    refine ⟨_, ι, imm, rfl, ⟨rfl, rfl⟩, Grows.refl _ _ _, ⟨rfl, rfl, rfl, Nat.le_refl _, fun _ _ _ => rfl, Nat.le_refl _⟩, ⟨fun b k h => (by cases h), fun b b' k k' r z z' h => (by cases h)⟩, fun k hk => .inl hk, hi⟩
theorem insNil_calls : PCalls Try.prog 56 [.pv (.sl (some true) 0 []), .pv (.lit (.int .i64 0)), .pv (.lit (.int .i64 0)), .fn 38 [] []] (.tup []) := by
 refine PCalls.of_body tabOk Try.func56 rfl rfl rfl rfl rfl mixed fun E hP C hI => ?_
 refine Awp.consP C ?_
 refine rvc_prim C rfl rfl rfl rfl trivial rfl ?_
 refine rvc_prim C rfl rfl rfl rfl trivial rfl ?_
 refine rvc_prim C rfl rfl rfl rfl trivial rfl ?_
 refine rvc_nil ?_
 refine Awp.block ?_
 refine Awp.forM (σ := Unit) (fun _ => [(2, .pv (.lit (.int .i64 0))), (8, .pv (.lit (.int .i64 1)))]) (fun _ => []) [] (fun m _ => m = 0) 0 () rfl ⟨fun b => b, WeakerR.ofL (Ks := []) hI ⟨⟨rfl, rfl⟩, ⟨rfl, rfl⟩, trivial⟩ okH_nil rfl⟩ (fun m _ _ => ?_)
 refine Awp.seq ?_
 refine Awp.consP C ?_
 refine rvc_prim C rfl rfl rfl rfl trivial rfl ?_
 refine rvc_prim C rfl rfl rfl rfl trivial rfl ?_
 refine rvc_prim C rfl rfl rfl rfl trivial rfl ?_
 refine rvc_nil ?_
 refine Awp.condF (b := false) rfl rfl ?_
 refine Awp.exit ?_
 exact ⟨.inr rfl, rfl⟩
theorem pdqNil_calls : PCalls Try.prog 51 [.pv (.sl (some true) 0 []), .pv (.lit (.int .i64 0)), .pv (.lit (.int .i64 0)), .pv (.lit (.int .i64 0)), .fn 38 [] []] (.tup []) := by
 refine PCalls.of_body tabOk Try.func51 rfl rfl rfl rfl rfl mixed fun E hP C hI => ?_
 refine Awp.consP C ?_
 refine rvc_prim C rfl rfl rfl rfl trivial rfl ?_
 refine rvc_nil ?_
 refine Awp.consP C ?_
 refine rvc_prim C rfl rfl rfl rfl trivial rfl ?_
 refine rvc_nil ?_
 refine Awp.block ?_
 refine Awp.forM (σ := Unit) (fun _ => [(0, .pv (.sl (some true) 0 [])), (1, .pv (.lit (.int .i64 0))), (2, .pv (.lit (.int .i64 0))), (4, .fn 38 [] [])]) (fun _ => []) [] (fun m _ => m = 0) 0 () rfl ⟨fun b => b, WeakerR.ofL (Ks := []) hI ⟨⟨rfl, rfl⟩, ⟨rfl, rfl⟩, ⟨rfl, rfl⟩, ⟨rfl, rfl⟩, trivial⟩ okH_nil rfl⟩ (fun m _ _ => ?_)
 refine Awp.block ?_
 refine Awp.consP C ?_
 refine rvc_prim C rfl rfl rfl rfl trivial rfl ?_
 refine rvc_prim C rfl rfl rfl rfl trivial rfl ?_
 refine rvc_prim C rfl rfl rfl rfl trivial rfl ?_
 refine rvc_prim C rfl rfl rfl rfl trivial rfl ?_
 refine rvc_nil ?_
 refine Awp.seq ?_
 refine Awp.consP C ?_
 refine rvc_prim C rfl rfl rfl rfl trivial rfl ?_
 refine rvc_prim C rfl rfl rfl rfl trivial rfl ?_
 refine rvc_nil ?_
 refine Awp.condT (b := true) rfl rfl ?_
 refine Awp.consP C ?_
 refine rvc_prim C rfl rfl rfl rfl trivial rfl ?_
 refine rvc_prim C rfl rfl rfl rfl trivial rfl ?_
 refine rvc_prim C rfl rfl rfl rfl trivial rfl ?_
 refine rvc_prim C rfl rfl rfl rfl trivial rfl ?_
 refine rvc_un (rexec_call hP C rfl rfl rfl insNil_calls ?_)
 refine rvc_nil ?_
 refine Awp.ret ?_
 exact ⟨.inl rfl, rfl⟩
theorem sortNil_calls : PCalls Try.prog 37 [.pv (.sl (some true) 0 []), .fn 38 [] []] (.tup []) := by
 refine PCalls.of_body tabOk Try.func37 rfl rfl rfl rfl rfl mixed fun E hP C hI => ?_
 refine Awp.consP C ?_
 refine rvc_prim C rfl rfl rfl rfl trivial rfl ?_
 refine rvc_prim C rfl rfl rfl rfl trivial rfl ?_
 refine rvc_prim C rfl rfl rfl rfl trivial rfl ?_
 refine rvc_nil ?_
 refine Awp.regionP C ?_
 refine rvc_prim C rfl rfl rfl rfl trivial rfl ?_
 refine rvc_prim C rfl rfl rfl rfl trivial rfl ?_
 refine rvc_prim C rfl rfl rfl rfl trivial rfl ?_
 refine rvc_prim C rfl rfl rfl rfl trivial rfl ?_
 refine rvc_un (rexec_call hP C rfl rfl rfl bitsLen0_calls ?_)
 refine rvc_prim C rfl rfl rfl rfl trivial rfl ?_
 refine rvc_un (rexec_call hP C rfl rfl rfl pdqNil_calls ?_)
 refine rvc_nil ?_
 exact ⟨.inr rfl, rfl⟩
def allLinks : List Link := (List.range 1024).map fun i => ⟨((i / 32 : Nat) : Int), ((i % 32 : Nat) : Int)⟩
def busyOf (D : List (Link × Que)) : List Link := allLinks.filter fun l => (mGet kLink l D).isSome
/-- Links that may be, with messages. -/
def okF (n : Net) : Prop := ∀ e ∈ n.of_, fitsL e.1 = true ∧ e.2.D ≠ []
theorem mem_all {l : Link} (h : fitsL l = true) : l ∈ allLinks := by
  obtain ⟨f, t⟩ := l
  have hr := fits_rng h
  dsimp only at hr
  refine List.mem_map.2 ⟨f.toNat * 32 + t.toNat, List.mem_range.2 (by omega), ?_⟩
  congr 1 <;> omega
theorem all_sorted : allLinks.Pairwise fun a b => keyL a < keyL b := by
  unfold allLinks
  rw [List.pairwise_map]
  refine List.pairwise_lt_range.imp fun {a b} h => ?_
  unfold keyL
  dsimp only
  omega
theorem link_eq {a b : Link} : (kLink.eq a b = true) ↔ a = b := by
  obtain ⟨a1, a2⟩ := a
  obtain ⟨b1, b2⟩ := b
  simp [kLink]
theorem mGet_some {D : List (Link × Que)} {l : Link} : (mGet kLink l D).isSome = true ↔ l ∈ D.map (·.1) := by
  induction D with
  | nil => simp [mGet]
  | cons e D ih =>
    unfold mGet
    by_cases h : kLink.eq l e.1 = true
    · rw [if_pos h]; simp [link_eq.1 h]
    · rw [if_neg h, ih, List.map_cons, List.mem_cons]
      exact ⟨.inr, fun hh => hh.elim (fun e1 => absurd (link_eq.2 e1) h) id⟩
theorem nodup_of_map {α γ : Type} {f : α → γ} {l : List α} (h : (l.map f).Nodup) : l.Nodup := (List.pairwise_map.1 h).imp fun hne e => hne (by rw [e])
theorem keys_nodup {D : List (Link × Que)} (h : mOnce kLink D) : (D.map (·.1)).Nodup := by
  unfold mOnce at h
  rw [show (D.map fun e => kLink.enc e.1) = (D.map (·.1)).map kLink.enc by rw [List.map_map]; rfl] at h
  exact nodup_of_map h
theorem busy_nodup (D : List (Link × Que)) : (busyOf D).Nodup := (all_sorted.imp fun {a b} h (e : a = b) => by rw [e] at h; exact Int.lt_irrefl _ h).filter _
theorem busy_mem {n : Net} (hF : okF n) {l : Link} : l ∈ busyOf n.of_ ↔ l ∈ n.of_.map (·.1) := by
  unfold busyOf
  rw [List.mem_filter, mGet_some]
  refine ⟨fun h => h.2, fun h => ⟨?_, h⟩⟩
  obtain ⟨e, he, rfl⟩ := List.mem_map.1 h
  exact mem_all (hF e he).1
theorem busy_perm {n : Net} (ho : okN n) (hF : okF n) : (n.of_.map (·.1)).Perm (busyOf n.of_) :=
  (List.perm_ext_iff_of_nodup (keys_nodup ho.1) (busy_nodup _)).2 fun _ => (busy_mem hF).symm
theorem busy_len (D : List (Link × Que)) : (busyOf D).length ≤ 1024 := by
  refine Nat.le_trans (List.length_filter_le _ _) ?_
  unfold allLinks
  rw [List.length_map, List.length_range]
  exact Nat.le_refl _
theorem perm_sorted_eq {α : Type} {r : α → α → Prop} : ∀ {l1 l2 : List α}, (∀ a ∈ l1, ∀ b ∈ l1, r a b → r b a → a = b) → l1.Perm l2 → l1.Pairwise r → l2.Pairwise r → l1 = l2
  | [], l2, _, h, _, _ => (List.Perm.nil_eq h)
  | a :: l1, [], _, h, _, _ => by have := h.length_eq; simp at this
  | a :: l1, b :: l2, ha, h, h1, h2 => by
    have hab : a = b := by
      by_cases e : a = b
      · exact e
      · have ha2 : a ∈ b :: l2 := h.subset List.mem_cons_self
        have hb1 : b ∈ a :: l1 := h.symm.subset List.mem_cons_self
        rcases List.mem_cons.1 ha2 with h3 | h3
        · exact h3
        · rcases List.mem_cons.1 hb1 with h4 | h4
          · exact h4.symm
          · exact ha a List.mem_cons_self b hb1 ((List.pairwise_cons.1 h1).1 b h4) ((List.pairwise_cons.1 h2).1 a h3)
    subst hab
    rw [perm_sorted_eq (fun x hx y hy => ha x (List.mem_cons_of_mem _ hx) y (List.mem_cons_of_mem _ hy)) h.cons_inv (List.pairwise_cons.1 h1).2 (List.pairwise_cons.1 h2).2]
/-- Those links, in whatever order, are sorted to these. -/
theorem sortL_calls {n : Net} (hF : okF n) {out : List Link} (hp : out.Perm (busyOf n.of_)) : MCalls Try.prog 37 [.sl 0 0 out.length 2 false, .fn 38 [] []] (.cells (encC eLink out)) (.tup []) (.cells (encC eLink (busyOf n.of_))) := by
  have hfit : ∀ l ∈ out, fitsL l = true := fun l hl => by
    obtain ⟨e, he, rfl⟩ := List.mem_map.1 ((busy_mem hF).1 (hp.mem_iff.1 hl))
    exact (hF e he).1
  have e1 : (List.pmap (Subtype.mk (p := fun l => fitsL l = true)) out hfit).map (·.1) = out := by
    rw [List.map_pmap]; simp
  have e2 : (List.pmap (Subtype.mk (p := fun l => fitsL l = true)) out hfit).length = out.length := List.length_pmap
  generalize List.pmap (Subtype.mk (p := fun l => fitsL l = true)) out hfit = D at e1 e2
  have hlen := hp.length_eq
  have hb := busy_len n.of_
  have r := sortFL_calls D (by omega)
  rw [e1, e2] at r
  obtain ⟨s1, s2⟩ := sortFL_spec D
  have : (sortFL D).map (·.1) = busyOf n.of_ := by
    have p1 : ((sortFL D).map (·.1)).Perm (busyOf n.of_) := (s1.map _).trans (by rw [e1]; exact hp)
    refine perm_sorted_eq (r := fun a b => keyL a ≤ keyL b) (fun a ha b hb' hab hba => ?_) p1 (by rw [List.pairwise_map]; exact s2) ((all_sorted.filter _).imp fun h => Int.le_of_lt h)
    obtain ⟨x, _, rfl⟩ := List.mem_map.1 ha
    obtain ⟨y, _, rfl⟩ := List.mem_map.1 hb'
    have hx := fits_rng x.2
    have hy := fits_rng y.2
    unfold keyL at hab hba
    obtain ⟨⟨x1, x2⟩, hx2⟩ := x
    obtain ⟨⟨y1, y2⟩, hy2⟩ := y
    dsimp only at *
    congr 1 <;> omega
  rw [this] at r
  exact r
def nBusy (n : Net) : Sl Link := bif nDead n then Sl.mk true [] else Sl.mk (busyOf n.of_).isEmpty (busyOf n.of_)
def outS : List Link → AV
  | [] => .pv (.sl (some true) 0 [])
  | x :: l => .sl 3 0 (x :: l).length 2 false
def outH : List Link → List (Nat × Blk)
  | [] => []
  | x :: l => [(3, .cells (encC eLink (x :: l)))]
theorem met_all {X : List ((Link × Que) × Nat)} {s : List Nat} (h : ∀ e ∈ X, e.2 ∈ s) : (X.filter fun e => s.contains e.2) = X := List.filter_eq_self.2 fun e he => by simpa using h e he
theorem met_more {X : List ((Link × Que) × Nat)} {s : List Nat} {e : (Link × Que) × Nat} (hn : (X.map (·.2)).Nodup) (he : e ∈ X) (hs : e.2 ∉ s) : ((X.filter fun x => s.contains x.2) ++ [e]).Perm (X.filter fun x => (s ++ [e.2]).contains x.2) := by
  have hX : X.Nodup := nodup_of_map hn
  refine (List.perm_ext_iff_of_nodup ?_ (hX.filter _)).2 fun x => ?_
  · rw [List.nodup_append]
    refine ⟨hX.filter _, by simp, fun a ha b hb e1 => ?_⟩
    rw [List.mem_singleton.1 hb] at e1
    subst e1
    have := (List.mem_filter.1 ha).2
    simp at this
    exact hs this
  · rw [List.mem_append, List.mem_filter, List.mem_filter, List.mem_singleton]
    simp only [List.contains_eq_mem, List.mem_append, List.mem_singleton, decide_eq_true_eq]
    constructor
    · rintro (⟨h1, h2⟩ | rfl)
      · exact ⟨h1, .inl h2⟩
      · exact ⟨he, .inr rfl⟩
    · rintro ⟨h1, h2 | h2⟩
      · exact .inl ⟨h1, h2⟩
      · exact .inr (nodup_inj hn h1 he h2)
theorem nBusy_calls (n : Net) (ho' : okN n) (hF : okF n) : ObjCalls Try.prog 15 [.ptr 0 0] [.mp 1, .pv (.lit (.int .u64 n.side)), .pv (.lit (.int .i64 n.lost)), .pv (.lit (.bool n.made))] [(1, mapE kLink vT77.enc n.of_)] (sS (some (nBusy n).nil) eLink (nBusy n).D) [.mp 1, .pv (.lit (.int .u64 n.side)), .pv (.lit (.int .i64 n.lost)), .pv (.lit (.bool n.made))] [(1, mapE kLink vT77.enc n.of_)] := by
 generalize hR : nBusy n = R
 refine ObjCalls.of_body tabOk Try.func15 rfl rfl rfl rfl rfl (allB_cons (mapE_within _ _) allB_nil) (of_decide_eq_true rfl) rfl rfl (allB_cons (mapE_within _ _) allB_nil) (of_decide_eq_true rfl) mixed fun E hP C hI => ?_
 refine Awp.consP C ?_
 refine rvc_prim C rfl rfl rfl rfl trivial rfl ?_
 refine rvc_nil ?_
 refine Awp.consP C ?_
 refine rvc_prim C rfl rfl rfl rfl trivial rfl ?_
 refine rvc_nil ?_
 refine Awp.seq ?_
 refine Awp.cons C (fun _ => .writer) (by kernel_rfl) ?_
 refine rvc_prim C rfl rfl rfl rfl trivial rfl ?_
 refine rvc_un (rexec_callObj hP C (fun b => bif b == 0 then 0 else bif b == 1 then 1 else b) [] rfl rfl rfl (nDead_calls n) rfl rfl ⟨rfl, trivial⟩ (of_decide_eq_true rfl) rfl (of_decide_eq_true rfl) (of_decide_eq_true rfl) allB_nil allB_nil (allB_cons rfl allB_nil) ?_ rfl (allB_cons rfl allB_nil))
 refine rvc_nil ?_
 unfold nBusy at hR
 refine Awp.cond (b := (nDead n)) rfl (fun h1 => ?_) (fun h1 => ?_)
 ·
  replace hR := of_true h1 hR
  refine Awp.consP C ?_
  refine rvc_prim C rfl rfl rfl rfl trivial rfl ?_
  refine rvc_prim C rfl rfl rfl rfl trivial rfl ?_
  refine rvc_nil ?_
  refine Awp.ret ?_
  subst hR
  exact ⟨.inl rfl, rfl, rfl, ⟨rfl, trivial⟩⟩
 ·
  replace hR := of_false h1 hR
  refine Awp.skip ?_
  refine Awp.openMap (KE := kLink) (VE := vT77) (b := 1) (D := n.of_) rfl (fun X q hp ho hn hl => ?_)
  refine Awp.seq ?_
  refine Awp.cons C (fun _ => .quiet) (by kernel_rfl) ?_
  refine rvc_prim C rfl rfl rfl rfl trivial rfl ?_
  refine rvc_prim C rfl rfl rfl rfl trivial rfl ?_
  refine rvc_prim C rfl rfl rfl rfl trivial rfl ?_
  refine rvc_prim C rfl rfl rfl rfl trivial rfl ?_
  refine rvc_un (rexec_rangeX (KE := kLink) (VE := vT77) (b := 1) (X := X) (q := q) C rfl rfl rfl rfl rfl rfl ?_)
  refine rvc_nil ?_
  refine Awp.block ?_
  refine Awp.forM (σ := List Nat × List Link) (fun x => [(0, .ptr 0 0), (3, outS x.2), (12, .ptr 12 0)]) (fun x => [(0, .cells [.mp 1, .pv (.lit (.int .u64 n.side)), .pv (.lit (.int .i64 n.lost)), .pv (.lit (.bool n.made))]), (1, mapX kLink vT77.enc X q), (12, .iter 1 q x.1 q)] ++ outH x.2) [0, 1, 3, 12] (fun m x => m = restX x.1 X ∧ x.2.Perm ((X.filter fun e => x.1.contains e.2).map (·.1.1))) (restX [] X) ([], []) ⟨rfl, by simp⟩
   ⟨fun b => b, WeakerR.ofLI (Ks := [0, 1, 12]) hI ⟨⟨rfl, rfl⟩, ⟨rfl, rfl⟩, ⟨rfl, rfl⟩, trivial⟩ (okH_cons rfl rfl rfl rfl (okH_mapx rfl rfl rfl rfl (okH_iter rfl rfl rfl rfl okH_nil))) rfl rfl⟩ (fun m x hm => ?_)
  obtain ⟨s, out⟩ := x
  obtain ⟨rfl, hout⟩ := hm
  dsimp only at hout
  have hkeys : (X.map (·.1.1)).Perm (busyOf n.of_) := by
   have := (hp.map (·.1)).symm.trans (busy_perm ho' hF)
   rwa [List.map_map] at this
  have hlen : out.length ≤ 1024 := by
   have h1 := hout.length_eq
   have h2 := List.length_filter_le (fun e => s.contains e.2) X
   have h3 := hkeys.length_eq
   have h4 := busy_len n.of_
   rw [List.length_map] at h1 h3
   omega
  refine Awp.seq ?_
  refine Awp.next (KE := kLink) (ve := vT77.enc) C (fun _ => .writer) (X := X) rfl rfl rfl rfl hl (Nat.le_refl _) (fun hall => ?_) (fun e he hs => ?_)
  ·
   refine rvc_prim C rfl rfl rfl rfl trivial rfl ?_
   refine rvc_nil ?_
   refine Awp.seq ?_
   refine Awp.condF (b := false) rfl rfl ?_
   refine Awp.exit ?_
   rw [met_all hall] at hout
   have hb := hout.trans hkeys
   refine Awp.closeMap (KE := kLink) (VE := vT77) (b := 1) (X := X) rfl n.of_ hp ?_
   cases out with
   | nil =>
    have hbz : busyOf n.of_ = [] := hb.symm.eq_nil
    rw [hbz] at hR
    refine Awp.consP C ?_
    refine rvc_prim C rfl rfl rfl rfl trivial rfl ?_
    refine rvc_un (rexec_call hP C rfl rfl rfl sortNil_calls ?_)
    refine rvc_nil ?_
    refine Awp.consP C ?_
    refine rvc_prim C rfl rfl rfl rfl trivial rfl ?_
    refine rvc_prim C rfl rfl rfl rfl trivial rfl ?_
    refine rvc_nil ?_
    refine Awp.ret ?_
    subst hR
    exact ⟨.inl rfl, rfl, rfl, ⟨rfl, trivial⟩⟩
   | cons x out =>
    have hbz : (busyOf n.of_).isEmpty = false := by
     cases h : busyOf n.of_ with
     | nil => rw [h] at hb; have := hb.length_eq; simp at this
     | cons _ _ => rfl
    rw [hbz] at hR
    have hsort := sortL_calls hF hb
    generalize busyOf n.of_ = B at hb hbz hR hsort hkeys
    refine Awp.cons C (fun _ => .writer) (by kernel_rfl) ?_
    refine rvc_prim C rfl rfl rfl rfl trivial rfl ?_
    refine rvc_un (rexec_callM hP C (b := 3) rfl rfl rfl hsort rfl rfl ?_)
    refine rvc_nil ?_
    refine Awp.consP C ?_
    refine rvc_prim C rfl rfl rfl rfl trivial rfl ?_
    refine rvc_prim C rfl rfl rfl rfl trivial rfl ?_
    refine rvc_nil ?_
    refine Awp.freezeW 3 (encL eLink B) ?_ [(2, sS (some false) eLink B)] [(0, .cells [.mp 1, .pv (.lit (.int .u64 n.side)), .pv (.lit (.int .i64 n.lost)), .pv (.lit (.bool n.made))]), (1, mapE kLink vT77.enc n.of_)] ?_ ?_ ?_
    · rfl
    · exact ⟨⟨_, rfl, .inl (.inr ⟨_, _, _, rfl, by simp only [sS]; congr 2; exact hb.length_eq.symm⟩)⟩, trivial⟩
    · exact ⟨⟨(by decide : (0 : Nat) ≠ 3), .inl rfl⟩, ⟨(by decide : (1 : Nat) ≠ 3), .inl rfl⟩, trivial⟩
    refine Awp.ret ?_
    subst hR
    exact ⟨.inl rfl, rfl, rfl, ⟨rfl, trivial⟩⟩
  ·
   refine rvc_prim C rfl rfl rfl rfl trivial rfl ?_
   refine rvc_nil ?_
   refine Awp.seq ?_
   refine Awp.condT (b := true) rfl rfl ?_
   refine Awp.skip ?_
   refine Awp.block ?_
   refine Awp.cons C (fun _ => .quiet) (by kernel_rfl) ?_
   refine rvc_un (rexec_entryX (KE := kLink) (VE := vT77) C rfl e he rfl rfl rfl ?_)
   refine rvc_prim C rfl rfl rfl rfl trivial rfl ?_
   refine rvc_prim C rfl rfl rfl rfl trivial rfl ?_
   refine rvc_prim C rfl rfl rfl rfl trivial rfl ?_
   refine rvc_nil ?_
   have hnext : (out ++ [e.1.1]).Perm ((X.filter fun x => (s ++ [e.2]).contains x.2).map (·.1.1)) := by
    have h1 := (met_more hn he hs).map (·.1.1)
    rw [List.map_append] at h1
    exact (hout.append_right _).trans h1
   cases out with
   | nil =>
    refine Awp.region C (fun _ => .writer) (by kernel_rfl) ?_
    refine rvc_prim C rfl rfl rfl rfl trivial rfl ?_
    refine rvc_prim C rfl rfl rfl rfl trivial rfl ?_
    refine rvc_un (rexec_buildSliceF C eLink [e.1.1] rfl rfl rfl rfl rfl rfl rfl (by decide) rfl ?_)
    refine rvc_un (rexec_appendN C rfl rfl rfl rfl rfl rfl rfl rfl (fun _ h => by cases h) rfl (en := eLink) (D := [e.1.1]) rfl rfl (by simp) (by simp) (by decide) (nn := [e.1.1].length) rfl ?_)
    refine rvc_prim C rfl rfl rfl rfl trivial rfl ?_
    refine rvc_nil ?_
    exact ⟨_, (s ++ [e.2], [] ++ [e.1.1]), restX_lt he hs, ⟨rfl, hnext⟩, fun b => bif b == 3 then 20 else b, WeakerR.ofLI (Ks := [0, 1, 3, 12]) hI ⟨⟨rfl, rfl⟩, ⟨rfl, rfl⟩, ⟨rfl, rfl⟩, trivial⟩ (okH_cons rfl rfl rfl rfl (okH_mapx rfl rfl rfl rfl (okH_iter rfl rfl rfl rfl (okH_list rfl rfl rfl okH_nil)))) rfl rfl⟩
   | cons y out =>
    refine Awp.region C (fun _ => .writer) (by kernel_rfl) ?_
    refine rvc_prim C rfl rfl rfl rfl trivial rfl ?_
    refine rvc_prim C rfl rfl rfl rfl trivial rfl ?_
    refine rvc_un (rexec_buildSliceF C eLink [e.1.1] rfl rfl rfl rfl rfl rfl rfl (by decide) rfl ?_)
    refine rvc_un (rexec_append C rfl rfl rfl rfl rfl rfl rfl rfl (fun _ h => by cases h) rfl (en := eLink) (b := 3) (D0 := y :: out) (D := [e.1.1]) rfl rfl rfl rfl (by show (2 * ((y :: out).length + 1) + 192) * 16 ≤ _; omega) (by decide) (nn := (y :: out ++ [e.1.1]).length) (by simp) ?_)
    refine rvc_prim C rfl rfl rfl rfl trivial rfl ?_
    refine rvc_nil ?_
    exact ⟨_, (s ++ [e.2], y :: out ++ [e.1.1]), restX_lt he hs, ⟨rfl, hnext⟩, fun b => bif b == 3 then 20 else b, WeakerR.ofLI (Ks := [0, 1, 3, 12]) hI ⟨⟨rfl, rfl⟩, ⟨rfl, rfl⟩, ⟨rfl, rfl⟩, trivial⟩ (okH_cons rfl rfl rfl rfl (okH_mapx rfl rfl rfl rfl (okH_iter rfl rfl rfl rfl (okH_list rfl rfl rfl okH_nil)))) rfl rfl⟩
instance : DecidableEq Link := fun a b => decidable_of_iff (kLink.eq a b = true) link_eq
def isL (l : Link) (y : Item) : Bool := (y.l.from_ == l.from_) && ((y.l.to == l.to) && true)
theorem isL_iff {l : Link} {y : Item} : isL l y = true ↔ y.l = l := by
  unfold isL
  obtain ⟨⟨a, b⟩, c⟩ := y
  obtain ⟨d, e⟩ := l
  simp
def onL (X : List Item) (l : Link) : List ByteArray := (X.filter (isL l)).map (·.b)
theorem onL_nil (l : Link) : onL [] l = [] := rfl
theorem onL_append (X Y : List Item) (l : Link) : onL (X ++ Y) l = onL X l ++ onL Y l := by
  unfold onL; rw [List.filter_append, List.map_append]
theorem onL_one (y : Item) (l : Link) : onL [y] l = if l = y.l then [y.b] else [] := by
  unfold onL
  rw [List.filter_cons, List.filter_nil]
  by_cases h : l = y.l
  · rw [if_pos (isL_iff.2 h.symm), if_pos h]; rfl
  · rw [if_neg (fun h2 => h (isL_iff.1 h2).symm), if_neg h]; rfl
theorem wrap1 {k : Int} (h : 0 ≤ k) (h2 : k < 9223372036854775807) : IntKind.i64.wrap (k + 1) = k + 1 := wrapI _ (by show -9223372036854775808 ≤ k + 1 ∧ k + 1 ≤ 9223372036854775807; omega)
theorem rLen_l0_eq (l : Link) : ∀ (D : List Item) (i : Nat) (k : Int), 0 ≤ k → k + D.length ≤ 9223372036854775807 → rLen_l0 l D i k = k + (onL D l).length
  | [], i, k, _, _ => by unfold rLen_l0 onL; simp
  | x :: xs, i, k, h, h2 => by
    rw [List.length_cons] at h2
    rw [show x :: xs = [x] ++ xs from rfl, onL_append, onL_one, show [x] ++ xs = x :: xs from rfl]
    unfold rLen_l0
    rw [wrap1 h (by omega), rLen_l0_eq l xs (i + 1) (k + 1) (by omega) (by omega), rLen_l0_eq l xs (i + 1) k h (by omega)]
    by_cases hx : l = x.l
    · have : ((x.l.from_ == l.from_) && ((x.l.to == l.to) && true)) = true := isL_iff.2 hx.symm
      rw [this, cond_true, if_pos hx, List.length_append, List.length_singleton]; omega
    · have : ((x.l.from_ == l.from_) && ((x.l.to == l.to) && true)) = false := by
        have h3 : ¬ isL l x = true := fun h2 => hx (isL_iff.1 h2).symm
        have h4 : isL l x = false := by simpa using h3
        exact h4
      rw [this, cond_false, if_neg hx]; rfl
theorem rLen_eq (n : Net51) (l : Link) (h : n.items.D.length ≤ 1000000) : rLen n l = (onL n.items.D l).length := by
  unfold rLen
  rw [rLen_l0_eq l _ _ _ (Int.le_refl _) (by omega)]; omega
theorem rPlace_l0_eq (l : Link) (i : Int) : ∀ (D : List Item) (j : Nat) (k : Int), 0 ≤ k → k + D.length ≤ 9223372036854775807 →
    (k ≤ i ∧ i < k + (onL D l).length → ∃ p : Nat, rPlace_l0 l i D j k = ((j + p : Nat) : Int) ∧ ∃ A y B, D = A ++ y :: B ∧ A.length = p ∧ y.l = l ∧ (onL A l).length = (i - k).toNat) ∧
    (¬ (k ≤ i ∧ i < k + (onL D l).length) → rPlace_l0 l i D j k = -1)
  | [], j, k, _, _ => ⟨fun h => by rw [onL_nil] at h; simp at h; omega, fun _ => rfl⟩
  | x :: xs, j, k, h, h2 => by
    rw [List.length_cons] at h2
    have e1 : onL (x :: xs) l = onL [x] l ++ onL xs l := onL_append [x] xs l
    rw [e1, onL_one]
    unfold rPlace_l0
    rw [wrap1 h (by omega)]
    by_cases hx : l = x.l
    · have hb : (!((x.l.from_ == l.from_) && ((x.l.to == l.to) && true))) = false := by
        have := isL_iff.2 hx.symm
        unfold isL at this
        rw [this]; rfl
      rw [hb, cond_false, if_pos hx, List.length_append, List.length_singleton]
      by_cases hk : k = i
      · rw [show (k == i) = true by simpa using hk, cond_true]
        refine ⟨fun _ => ⟨0, rfl, [], x, xs, rfl, rfl, hx.symm, by rw [hk, onL_nil]; simp⟩, fun hn => absurd ⟨Int.le_of_eq hk, by omega⟩ hn⟩
      · rw [show (k == i) = false by simpa using hk, cond_false]
        obtain ⟨r1, r2⟩ := rPlace_l0_eq l i xs (j + 1) (k + 1) (by omega) (by omega)
        refine ⟨fun hh => ?_, fun hn => r2 (fun hh => hn (by omega))⟩
        obtain ⟨p, g1, A, y, B, g2, g3, g4, g5⟩ := r1 (by omega)
        refine ⟨p + 1, by rw [g1]; congr 1; omega, x :: A, y, B, by rw [g2]; rfl, by rw [List.length_cons, g3], g4, ?_⟩
        rw [show onL (x :: A) l = onL [x] l ++ onL A l from onL_append [x] A l, onL_one, if_pos hx, List.length_append, List.length_singleton, g5]
        omega
    · have hb : (!((x.l.from_ == l.from_) && ((x.l.to == l.to) && true))) = true := by
        have h3 : ¬ isL l x = true := fun h2 => hx (isL_iff.1 h2).symm
        have h4 : isL l x = false := by simpa using h3
        unfold isL at h4
        rw [h4]; rfl
      rw [hb, cond_true, if_neg hx, List.nil_append]
      obtain ⟨r1, r2⟩ := rPlace_l0_eq l i xs (j + 1) k h (by omega)
      refine ⟨fun hh => ?_, fun hn => r2 hn⟩
      obtain ⟨p, g1, A, y, B, g2, g3, g4, g5⟩ := r1 hh
      refine ⟨p + 1, by rw [g1]; congr 1; omega, x :: A, y, B, by rw [g2]; rfl, by rw [List.length_cons, g3], g4, ?_⟩
      rw [show onL (x :: A) l = onL [x] l ++ onL A l from onL_append [x] A l, onL_one, if_neg hx, List.nil_append, g5]
/-- Where a message stands: what is there, and what is left without it. -/
theorem rPlace_eq (n : Net51) (l : Link) (i : Int) (h : n.items.D.length ≤ 1000000) :
    (0 ≤ i ∧ i < ((onL n.items.D l).length : Int) → ∃ p : Nat, rPlace n l i = (p : Int) ∧ p < n.items.D.length ∧ n.items.D[p]!.l = l ∧ (onL n.items.D l)[i.toNat]! = n.items.D[p]!.b ∧ ∀ l', onL (n.items.D.take p ++ n.items.D.drop (p + 1)) l' = if l' = l then (onL n.items.D l).eraseIdx i.toNat else onL n.items.D l') ∧
    (¬ (0 ≤ i ∧ i < ((onL n.items.D l).length : Int)) → rPlace n l i = -1) := by
  obtain ⟨r1, r2⟩ := rPlace_l0_eq l i n.items.D 0 0 (Int.le_refl _) (by omega)
  unfold rPlace
  refine ⟨fun hh => ?_, fun hn => r2 (fun hh => hn (by omega))⟩
  obtain ⟨p, g1, A, y, B, g2, g3, g4, g5⟩ := r1 (by omega)
  refine ⟨p, by rw [g1]; simp, ?_⟩
  rw [g2]
  have e1 : (A ++ y :: B)[p]! = y := by
    rw [getElem!_pos _ p (by rw [List.length_append, List.length_cons]; omega), List.getElem_append_right (by omega)]
    simp [g3]
  have e2 : onL (A ++ y :: B) l = onL A l ++ y.b :: onL B l := by
    rw [onL_append, show onL (y :: B) l = onL [y] l ++ onL B l from onL_append [y] B l, onL_one, if_pos g4.symm]; rfl
  have e3 : (onL A l).length = i.toNat := by rw [g5]; omega
  refine ⟨by rw [List.length_append, List.length_cons]; omega, by rw [e1]; exact g4, ?_, fun l' => ?_⟩
  · rw [e1, e2, getElem!_pos _ i.toNat (by rw [List.length_append, List.length_cons]; omega), List.getElem_append_right (by omega)]
    simp [e3]
  · have e4 : (A ++ y :: B).take p = A := by rw [← g3, List.take_left]
    have e5 : (A ++ y :: B).drop (p + 1) = B := by
      rw [← g3, List.drop_append, List.drop_of_length_le (by omega)]
      simp
    rw [e4, e5, onL_append]
    by_cases hl : l' = l
    · rw [hl, if_pos rfl, e2, ← e3, List.eraseIdx_append_of_length_le (Nat.le_refl _)]
      simp
    · rw [if_neg hl, onL_append, show onL (y :: B) l' = onL [y] l' ++ onL B l' from onL_append [y] B l', onL_one, if_neg (fun h => hl (h.trans g4)), List.nil_append]
theorem rForget_l0_eq (n : Net51) (place : Int) : ∀ (D : List Item) (i : Nat) (out : List Item), rForget_l0 n place D i out = Net51.mk (Sl.mk (out ++ D.filter fun x => keepF place x.l).isEmpty (out ++ D.filter fun x => keepF place x.l)) n.side n.lost
  | [], i, out => by unfold rForget_l0; simp
  | x :: xs, i, out => by
    unfold rForget_l0
    rw [rForget_l0_eq n place xs, rForget_l0_eq n place xs, List.filter_cons]
    unfold keepF
    cases h1 : x.l.from_ != place <;> cases h2 : x.l.to != place
    all_goals simp only [bne, Bool.not_eq_false', Bool.not_eq_true', beq_eq_false_iff_ne, beq_iff_eq] at h1 h2
    · simp [h1]
    · simp [h1]
    · simp [h2]
    · simp [h1, h2]
theorem rForget_eq (n : Net51) (place : Int) : (rForget n place).items.D = n.items.D.filter (fun x => keepF place x.l) ∧ (rForget n place).side = n.side ∧ (rForget n place).lost = n.lost := by
  unfold rForget
  rw [rForget_l0_eq]
  exact ⟨rfl, rfl, rfl⟩
theorem onL_filter (X : List Item) (place : Int) (l : Link) : onL (X.filter fun x => keepF place x.l) l = if keepF place l then onL X l else [] := by
  unfold onL
  rw [List.filter_filter]
  by_cases h : keepF place l = true
  · rw [if_pos h]
    congr 1
    refine List.filter_congr fun x _ => ?_
    cases h2 : isL l x
    · rfl
    · rw [Bool.true_and]; rw [isL_iff.1 h2]; exact h
  · rw [if_neg h]
    have : X.filter (fun a => isL l a && keepF place a.l) = [] := List.filter_eq_nil_iff.2 fun x _ h3 => h (by
      rw [Bool.and_eq_true] at h3
      rw [← isL_iff.1 h3.1]; exact h3.2)
    rw [this]; rfl
/-- What a net of the document has, with so many messages at most. -/
def okRL (N : Nat) (x : Net51) : Prop := okR x ∧ x.items.D.length ≤ N
theorem cutR_le {X : List Item} {p : Nat} : (X.take p ++ X.drop (p + 1)).length ≤ X.length := by
  rw [List.length_append, List.length_take, List.length_drop]; omega
theorem cutR_mem {X : List Item} {p q : Nat} {y : Item} (h : y ∈ X.take p ++ X.drop q) : y ∈ X := by
  rcases List.mem_append.1 h with h | h
  · exact List.mem_of_mem_take h
  · exact List.mem_of_mem_drop h
theorem rCut {x : Net51} {N : Nat} (h : okRL N x) (hN : N ≤ 1000000) (l : Link) (i : Int) (hp : decide (rPlace x l i < 0) = false) : okR (Net51.mk (Sl.mk false ((x.items.D.take ((rPlace x l i).toNat)) ++ (x.items.D.drop ((IntKind.i64.wrap ((rPlace x l i) + 1)).toNat)))) x.side x.lost) ∧ ((x.items.D.take ((rPlace x l i).toNat)) ++ (x.items.D.drop ((IntKind.i64.wrap ((rPlace x l i) + 1)).toNat))).length ≤ x.items.D.length := by
  have h1 := of_decide_eq_false hp
  have h2 := rPlace_lt x l i
  have h3 := h.2
  refine ⟨fun y hy => h.1 y (cutR_mem hy), ?_⟩
  rw [wrap1 (by omega) (by omega), show (rPlace x l i + 1).toNat = (rPlace x l i).toNat + 1 by omega]
  exact cutR_le
theorem also_ok {x : Net51} {N : Nat} (h : okRL N x) (hN : N ≤ 1000000) (k : Do) : okRL (N + 1) (also x k).1 := by
  have h0 : okRL (N + 1) x := ⟨h.1, Nat.le_succ_of_le h.2⟩
  have ht : okRL (N + 1) (rTake x k.l k.i).1 := by
    unfold rTake
    cases hp : decide (rPlace x k.l k.i < 0)
    case true => exact h0
    have := rCut h hN k.l k.i hp
    rw [cond_false]
    cases (!((x.side k.l.from_.toNat) == (x.side k.l.to.toNat)))
    · exact ⟨this.1, Nat.le_trans this.2 (Nat.le_succ_of_le h.2)⟩
    · exact ⟨this.1, Nat.le_trans this.2 (Nat.le_succ_of_le h.2)⟩
  have hlo : okRL (N + 1) (rLose x k.l k.i).1 := by
    unfold rLose
    cases hp : decide (rPlace x k.l k.i < 0)
    case true => exact h0
    have := rCut h hN k.l k.i hp
    exact ⟨this.1, Nat.le_trans this.2 (Nat.le_succ_of_le h.2)⟩
  have hd : okRL (N + 1) (rDouble x k.l k.i).1 := by
    unfold rDouble
    cases hp : decide (rPlace x k.l k.i < 0)
    case true => exact h0
    rw [cond_false]
    cases decide (rLen x k.l ≥ 8)
    case true => exact h0
    have h1 := of_decide_eq_false hp
    have h2 := rPlace_lt x k.l k.i
    have h3 := h.2
    refine ⟨fun y hy => ?_, by show (x.items.D ++ [_]).length ≤ _; rw [List.length_append, List.length_singleton]; omega⟩
    rcases List.mem_append.1 hy with hy | hy
    · exact h.1 y hy
    · rw [List.mem_singleton.1 hy, getElem!_pos _ _ (by omega)]
      exact h.1 _ (List.getElem_mem _)
  have hw : okRL (N + 1) (Net51.mk x.items (fromW k.side) x.lost) := h0
  have hf : okRL (N + 1) (rForget x k.i) := by
    have h3 := h.2
    refine ⟨fun y hy => ?_, ?_⟩
    · rw [(rForget_eq x k.i).1] at hy
      exact h.1 y (List.mem_filter.1 hy).1
    · rw [(rForget_eq x k.i).1]
      have := List.length_filter_le (fun y => keepF k.i y.l) x.items.D
      omega
  have hs : okRL (N + 1) (rSend x k.l k.b).1 := by
    unfold rSend
    cases hr : rRight k.l
    · exact h0
    rw [show (!true) = false from rfl, cond_false]
    cases decide ((k.b.D.length : Int) > 8192)
    case true => exact h0
    rw [cond_false]
    cases decide (rLen x k.l ≥ 8)
    case true => exact h0
    have h3 := h.2
    refine ⟨fun y hy => ?_, by show (x.items.D ++ [_]).length ≤ _; rw [List.length_append, List.length_singleton]; omega⟩
    rcases List.mem_append.1 hy with hy | hy
    · exact h.1 y hy
    · rw [List.mem_singleton.1 hy]; exact hr
  unfold also
  generalize (IntKind.i64.wrap ((IntKind.u64.wrap k.op).tmod 9)) = o
  cases o == 3
  case true => exact ht
  rw [cond_false]
  cases o == 4
  case true => exact ht
  rw [cond_false]
  cases o == 5
  case true => exact hlo
  rw [cond_false]
  cases o == 6
  case true => exact hd
  rw [cond_false]
  cases o == 7
  case true => exact hw
  rw [cond_false]
  cases o == 8
  case true => exact hf
  exact hs
theorem wrap64 (n : Int) : IntKind.u64.wrap n = n % 18446744073709551616 := by
  simp [IntKind.wrap, IntKind.bits, IntKind.signed]
theorem bv64 (a : Nat) (h : a < 18446744073709551616) : (BitVec.ofInt 64 (a : Int)).toNat = a := by
  rw [BitVec.toNat_ofInt]
  have : ((2 ^ 64 : Nat) : Int) = 18446744073709551616 := by decide
  rw [this]; omega
theorem and64 {a b : Nat} (ha : a < 18446744073709551616) (hb : b < 18446744073709551616) : bitI .and .u64 a b = ((a &&& b : Nat) : Int) := by
  have : a &&& b < 18446744073709551616 := Nat.lt_of_le_of_lt Nat.and_le_left ha
  show IntKind.u64.wrap (((BitVec.ofInt 64 (a : Int) &&& BitVec.ofInt 64 (b : Int) : BitVec 64).toNat : Nat) : Int) = _
  rw [BitVec.toNat_and, bv64 a ha, bv64 b hb, wrap64]; omega
theorem shr64 {a n : Nat} (hn : n < 64) : shrI .u64 (a : Int) (n : Int) = ((a >>> n : Nat) : Int) := by
  show (a : Int) / 2 ^ (min ((n : Int).toNat) 64) = _
  rw [Int.toNat_natCast, Nat.min_eq_left (by omega), Nat.shiftRight_eq_div_pow]
  simp
theorem in_nat {n : Nat} : mIn (n : Int) = decide (n < 64) := by
  unfold mIn
  have h0 : decide ((n : Int) ≥ 0) = true := by simp
  rw [h0]
  simp only [cond_true]
  congr 1
  exact propext ⟨fun h => by omega, fun h => by omega⟩
theorem has_nat {S n : Nat} (hS : S < 18446744073709551616) (hn : n < 64) : mHas (S : Int) (n : Int) = S.testBit n := by
  unfold mHas
  have hlt : S >>> n < 18446744073709551616 := Nat.lt_of_le_of_lt (Nat.shiftRight_le _ _) hS
  have h1 : (1 : Int) = ((1 : Nat) : Int) := rfl
  rw [in_nat, decide_eq_true hn, cond_true, shr64 hn, h1, and64 hlt (by decide)]
  rw [Nat.testBit_eq_decide_div_mod_eq, Nat.and_one_is_mod, Nat.shiftRight_eq_div_pow]
  by_cases h : S / 2 ^ n % 2 = 1
  · simp [h]
  · have : S / 2 ^ n % 2 = 0 := by omega
    simp [this]
theorem fromW_l0_at : ∀ (k i S : Nat) (g : Nat → Bool) (j : Nat), S < 18446744073709551616 → fromW_l0 k i (S : Int) g j = if i ≤ j ∧ j < i + k then S.testBit (j - i) else g j
  | 0, i, S, g, j, _ => by
    rw [if_neg (by omega)]; rfl
  | k + 1, i, S, g, j, hS => by
    unfold fromW_l0
    have e1 : IntKind.u64.wrap ((S : Int).tdiv 2) = ((S / 2 : Nat) : Int) := by
      rw [show (S : Int).tdiv 2 = ((S / 2 : Nat) : Int) from rfl, wrap64]; omega
    have e2 : ((S : Int).tmod 2 == 1) = S.testBit 0 := by
      rw [show (S : Int).tmod 2 = ((S % 2 : Nat) : Int) from rfl, Nat.testBit_zero]
      rw [Bool.eq_iff_iff]; simp; omega
    rw [e1, e2, fromW_l0_at k (i + 1) (S / 2) _ j (by omega)]
    unfold updA
    by_cases h1 : j = i
    · subst h1
      rw [if_neg (by omega), if_pos (by omega)]; simp
    · rw [show (j == i) = false by simpa using h1, cond_false]
      by_cases h2 : i + 1 ≤ j ∧ j < i + 1 + k
      · rw [if_pos h2, if_pos (by omega), show j - i = (j - (i + 1)) + 1 by omega, Nat.testBit_succ]
      · rw [if_neg h2, if_neg (by omega)]
theorem fromW_at {S j : Nat} (hS : S < 18446744073709551616) (hj : j < 64) : fromW (S : Int) j = S.testBit j := by
  unfold fromW
  rw [fromW_l0_at 64 0 S _ j hS, if_pos (by omega)]; rfl
theorem side_at {w : Int} (h : 0 ≤ w ∧ w < 18446744073709551616) {j : Nat} (hj : j < 64) : mHas w (j : Int) = fromW w j := by
  obtain ⟨S, rfl⟩ : ∃ S : Nat, w = (S : Int) := ⟨w.toNat, by omega⟩
  rw [has_nat (by omega) hj, fromW_at (by omega) hj]
def awake  : Bool :=
  (bif (((nSend newN (Link.mk 0 1) (Sl.mk false [97])).2) != 0) then false else (bif (((nSend ((nSend newN (Link.mk 0 1) (Sl.mk false [97])).1) (Link.mk 0 1) (Sl.mk false [98])).2) != 0) then false else (bif ((strOf ((nTake ((nSend ((nSend newN (Link.mk 0 1) (Sl.mk false [97])).1) (Link.mk 0 1) (Sl.mk false [98])).1) (Link.mk 0 1) 1).2.1.D)).toList == (⟨#[98]⟩ : ByteArray).toList) then (bif (nTake ((nSend ((nSend newN (Link.mk 0 1) (Sl.mk false [97])).1) (Link.mk 0 1) (Sl.mk false [98])).1) (Link.mk 0 1) 1).2.2.1 then (bif (((nTake ((nSend ((nSend newN (Link.mk 0 1) (Sl.mk false [97])).1) (Link.mk 0 1) (Sl.mk false [98])).1) (Link.mk 0 1) 1).2.2.2) == 0) then (bif (!((nTake ((nWall ((nTake ((nSend ((nSend newN (Link.mk 0 1) (Sl.mk false [97])).1) (Link.mk 0 1) (Sl.mk false [98])).1) (Link.mk 0 1) 1).1) (maskOf (Sl.mk false [1]))).1) (Link.mk 0 1) 0).2.2.1)) then (bif (((nTake ((nWall ((nTake ((nSend ((nSend newN (Link.mk 0 1) (Sl.mk false [97])).1) (Link.mk 0 1) (Sl.mk false [98])).1) (Link.mk 0 1) 1).1) (maskOf (Sl.mk false [1]))).1) (Link.mk 0 1) 0).2.2.2) == 0) then (bif ((nLen ((nTake ((nWall ((nTake ((nSend ((nSend newN (Link.mk 0 1) (Sl.mk false [97])).1) (Link.mk 0 1) (Sl.mk false [98])).1) (Link.mk 0 1) 1).1) (maskOf (Sl.mk false [1]))).1) (Link.mk 0 1) 0).1) (Link.mk 0 1)) == 0) then (((nSend ((nTake ((nWall ((nTake ((nSend ((nSend newN (Link.mk 0 1) (Sl.mk false [97])).1) (Link.mk 0 1) (Sl.mk false [98])).1) (Link.mk 0 1) 1).1) (maskOf (Sl.mk false [1]))).1) (Link.mk 0 1) 0).1) (Link.mk 0 0) (Sl.mk true [])).2) == 40) else false) else false) else false) else false) else false) else false)))
theorem awake_calls   : PCalls Try.prog 11 [] (.pv (.lit (.bool (awake )))) := by
 generalize hR : awake  = R
 refine PCalls.of_body tabOk Try.func11 rfl rfl rfl rfl rfl mixed fun E hP C hI => ?_
 refine Awp.consP C ?_
 refine rvP C (.pv (.lit (.bool false))) ?_
 refine rvc_nil ?_
 refine Awp.cons C (fun _ => .quiet) (by kernel_rfl) ?_
 refine rvc_un (rexec_callNew hP C 509 rfl rfl rfl rfl rfl rfl newN_calls ?_)
 refine rvP C (.ptr 9 0) ?_
 refine rvc_nil ?_
 refine Awp.consP C ?_
 refine rvP C (.agg [.pv (.lit (.int .i64 0)), .pv (.lit (.int .i64 1))]) ?_
 refine rvc_un (rexec_prim C (δ := { v := .ptr 2 0, new := [(2, .cells [.pv (.lit (.int .i64 0)), .pv (.lit (.int .i64 0))])] }) rfl rfl rfl rfl trivial rfl ?_)
 refine rvc_un (rexec_prim C (δ := { v := .undef, wr := [(2, some (.cells [.pv (.lit (.int .i64 0)), .pv (.lit (.int .i64 1))]))] }) rfl rfl rfl rfl trivial rfl ?_)
 refine rvc_nil ?_
 refine Awp.seq ?_
 refine Awp.cons C (fun o => match o.dst with | some 14 => .writes [13] | some 21 => .writes [20] | _ => .writer) (by kernel_rfl) ?_
 refine rvP C (.ptr 9 0) ?_
 refine rvP C (.agg [.pv (.lit (.int .i64 0)), .pv (.lit (.int .i64 1))]) ?_
 refine rvc_un (rexec_prim C (δ := { v := .sl 13 0 ([97].length) 1 true, new := [(13, .cells (encC (eI .u8) [97]))] }) rfl rfl rfl rfl trivial rfl ?_)
 refine rvc_un (rexec_convOwn C rfl [97] rfl rfl rfl rfl rfl rfl rfl ?_)
 refine rvc_un (rexec_callObj hP C (fun b => bif b == 0 then 9 else bif b == 1 then 509 else b) [] rfl rfl rfl (nSend_calls newN (Link.mk 0 1) (Sl.mk false [97]) (by decide)) rfl rfl ⟨rfl, trivial⟩ (of_decide_eq_true rfl) rfl (of_decide_eq_true rfl) (of_decide_eq_true rfl) allB_nil allB_nil (allB_cons rfl allB_nil) ?_ rfl (allB_cons rfl allB_nil))
 refine rvP C (.pv (.lit (.bool (((nSend newN (Link.mk 0 1) (Sl.mk false [97])).2) != 0)))) ?_
 refine rvP C (.pv (.lit (.bool (((nSend newN (Link.mk 0 1) (Sl.mk false [97])).2) != 0)))) ?_
 refine rvc_case 17 (((nSend newN (Link.mk 0 1) (Sl.mk false [97])).2) != 0) rfl (fun h1 => ?_) (fun h1 => ?_)
 ·
  replace hR := of_true h1 hR
  refine rvS ?_
  refine rvS ?_
  refine rvS ?_
  refine rvS ?_
  refine rvS ?_
  refine rvS ?_
  refine rvP C (.pv (.lit (.bool true))) ?_
  refine rvc_nil ?_
  refine Awp.condT (b := true) rfl rfl ?_
  refine Awp.consP C ?_
  refine rvP C (.pv (.lit (.bool false))) ?_
  refine rvc_nil ?_
  refine Awp.ret ?_
  subst hR
  exact ⟨.inl rfl, rfl⟩
 ·
  replace hR := of_false h1 hR
  refine rvO C (.ptr 9 0) ?_
  refine rvO C (.agg [.pv (.lit (.int .i64 0)), .pv (.lit (.int .i64 1))]) ?_
  refine rvc_open rfl rfl rfl (rexec_prim C (δ := { v := .sl 20 0 ([98].length) 1 true, new := [(20, .cells (encC (eI .u8) [98]))] }) rfl rfl rfl rfl trivial rfl ?_)
  refine rvc_open rfl rfl rfl (rexec_convOwn C rfl [98] rfl rfl rfl rfl rfl rfl rfl ?_)
  refine rvc_open rfl rfl rfl (rexec_callObj hP C (fun b => bif b == 0 then 9 else bif b == 1 then 509 else b) [] rfl rfl rfl (nSend_calls ((nSend newN (Link.mk 0 1) (Sl.mk false [97])).1) (Link.mk 0 1) (Sl.mk false [98]) (by decide)) rfl rfl ⟨rfl, trivial⟩ (of_decide_eq_true rfl) rfl (of_decide_eq_true rfl) (of_decide_eq_true rfl) allB_nil allB_nil (allB_cons rfl allB_nil) ?_ rfl (allB_cons rfl allB_nil))
  refine rvO C (.pv (.lit (.bool (((nSend ((nSend newN (Link.mk 0 1) (Sl.mk false [97])).1) (Link.mk 0 1) (Sl.mk false [98])).2) != 0)))) ?_
  refine rvP C (.pv (.lit (.bool (((nSend ((nSend newN (Link.mk 0 1) (Sl.mk false [97])).1) (Link.mk 0 1) (Sl.mk false [98])).2) != 0)))) ?_
  refine rvc_nil ?_
  refine Awp.cond (b := (((nSend ((nSend newN (Link.mk 0 1) (Sl.mk false [97])).1) (Link.mk 0 1) (Sl.mk false [98])).2) != 0)) rfl (fun h2 => ?_) (fun h2 => ?_)
  ·
   replace hR := of_true h2 hR
   refine Awp.consP C ?_
   refine rvP C (.pv (.lit (.bool false))) ?_
   refine rvc_nil ?_
   refine Awp.ret ?_
   subst hR
   exact ⟨.inl rfl, rfl⟩
  ·
   replace hR := of_false h2 hR
   refine Awp.skip ?_
   refine Awp.cons C (fun _ => .writer) (by kernel_rfl) ?_
   refine rvP C (.ptr 9 0) ?_
   refine rvP C (.agg [.pv (.lit (.int .i64 0)), .pv (.lit (.int .i64 1))]) ?_
   refine rvc_un (rexec_callObj hP C (fun b => bif b == 0 then 9 else bif b == 1 then 509 else b) [] rfl rfl rfl (nTake_calls ((nSend ((nSend newN (Link.mk 0 1) (Sl.mk false [97])).1) (Link.mk 0 1) (Sl.mk false [98])).1) (Link.mk 0 1) 1 (send_ok (send_ok newN_ok _ _) _ _)) rfl rfl ⟨rfl, trivial⟩ (of_decide_eq_true rfl) rfl (of_decide_eq_true rfl) (of_decide_eq_true rfl) allB_nil allB_nil (allB_cons rfl allB_nil) ?_ rfl (allB_cons rfl allB_nil))
   refine rvP C (.tup [sS (some (nTake ((nSend ((nSend newN (Link.mk 0 1) (Sl.mk false [97])).1) (Link.mk 0 1) (Sl.mk false [98])).1) (Link.mk 0 1) 1).2.1.nil) (eI .u8) ((nTake ((nSend ((nSend newN (Link.mk 0 1) (Sl.mk false [97])).1) (Link.mk 0 1) (Sl.mk false [98])).1) (Link.mk 0 1) 1).2.1.D), .pv (.lit (.bool ((nTake ((nSend ((nSend newN (Link.mk 0 1) (Sl.mk false [97])).1) (Link.mk 0 1) (Sl.mk false [98])).1) (Link.mk 0 1) 1).2.2.1))), .pv (.lit (.int .i64 ((nTake ((nSend ((nSend newN (Link.mk 0 1) (Sl.mk false [97])).1) (Link.mk 0 1) (Sl.mk false [98])).1) (Link.mk 0 1) 1).2.2.2)))]) ?_
   refine rvP C (sS (some (nTake ((nSend ((nSend newN (Link.mk 0 1) (Sl.mk false [97])).1) (Link.mk 0 1) (Sl.mk false [98])).1) (Link.mk 0 1) 1).2.1.nil) (eI .u8) ((nTake ((nSend ((nSend newN (Link.mk 0 1) (Sl.mk false [97])).1) (Link.mk 0 1) (Sl.mk false [98])).1) (Link.mk 0 1) 1).2.1.D)) ?_
   refine rvP C (.pv (.lit (.bool ((nTake ((nSend ((nSend newN (Link.mk 0 1) (Sl.mk false [97])).1) (Link.mk 0 1) (Sl.mk false [98])).1) (Link.mk 0 1) 1).2.2.1)))) ?_
   refine rvP C (.pv (.lit (.int .i64 ((nTake ((nSend ((nSend newN (Link.mk 0 1) (Sl.mk false [97])).1) (Link.mk 0 1) (Sl.mk false [98])).1) (Link.mk 0 1) 1).2.2.2)))) ?_
   refine rvP C (sS (some (nTake ((nSend ((nSend newN (Link.mk 0 1) (Sl.mk false [97])).1) (Link.mk 0 1) (Sl.mk false [98])).1) (Link.mk 0 1) 1).2.1.nil) (eI .u8) ((nTake ((nSend ((nSend newN (Link.mk 0 1) (Sl.mk false [97])).1) (Link.mk 0 1) (Sl.mk false [98])).1) (Link.mk 0 1) 1).2.1.D)) ?_
   refine rvP C (.pv (.lit (.bool ((nTake ((nSend ((nSend newN (Link.mk 0 1) (Sl.mk false [97])).1) (Link.mk 0 1) (Sl.mk false [98])).1) (Link.mk 0 1) 1).2.2.1)))) ?_
   refine rvP C (.pv (.lit (.int .i64 ((nTake ((nSend ((nSend newN (Link.mk 0 1) (Sl.mk false [97])).1) (Link.mk 0 1) (Sl.mk false [98])).1) (Link.mk 0 1) 1).2.2.2)))) ?_
   refine rvc_nil ?_
   refine Awp.cons C (fun _ => .writer) (by kernel_rfl) ?_
   refine rvP C (.ptr 9 0) ?_
   refine rvc_un (rexec_buildSliceF C (eI .i64) [1] rfl rfl rfl rfl rfl rfl rfl (by decide) rfl ?_)
   refine rvc_un (rexec_call hP C rfl rfl rfl (maskOf_calls (Sl.mk false [1]) (of_decide_eq_true (by kernel_rfl))) ?_)
   refine rvc_un (rexec_callObj hP C (fun b => bif b == 0 then 9 else bif b == 1 then 509 else b) [] rfl rfl rfl (nWall_calls ((nTake ((nSend ((nSend newN (Link.mk 0 1) (Sl.mk false [97])).1) (Link.mk 0 1) (Sl.mk false [98])).1) (Link.mk 0 1) 1).1) (maskOf (Sl.mk false [1]))) rfl rfl ⟨rfl, trivial⟩ (of_decide_eq_true rfl) rfl (of_decide_eq_true rfl) (of_decide_eq_true rfl) allB_nil allB_nil (allB_cons rfl allB_nil) ?_ rfl (allB_cons rfl allB_nil))
   refine rvc_nil ?_
   refine Awp.cons C (fun _ => .writer) (by kernel_rfl) ?_
   refine rvP C (.ptr 9 0) ?_
   refine rvP C (.agg [.pv (.lit (.int .i64 0)), .pv (.lit (.int .i64 1))]) ?_
   refine rvc_un (rexec_callObj hP C (fun b => bif b == 0 then 9 else bif b == 1 then 509 else b) [] rfl rfl rfl (nTake_calls ((nWall ((nTake ((nSend ((nSend newN (Link.mk 0 1) (Sl.mk false [97])).1) (Link.mk 0 1) (Sl.mk false [98])).1) (Link.mk 0 1) 1).1) (maskOf (Sl.mk false [1]))).1) (Link.mk 0 1) 0 (wall_ok (take_ok (send_ok (send_ok newN_ok _ _) _ _) _ _) _)) rfl rfl ⟨rfl, trivial⟩ (of_decide_eq_true rfl) rfl (of_decide_eq_true rfl) (of_decide_eq_true rfl) allB_nil allB_nil (allB_cons rfl allB_nil) ?_ rfl (allB_cons rfl allB_nil))
   refine rvP C (.tup [sS (some (nTake ((nWall ((nTake ((nSend ((nSend newN (Link.mk 0 1) (Sl.mk false [97])).1) (Link.mk 0 1) (Sl.mk false [98])).1) (Link.mk 0 1) 1).1) (maskOf (Sl.mk false [1]))).1) (Link.mk 0 1) 0).2.1.nil) (eI .u8) ((nTake ((nWall ((nTake ((nSend ((nSend newN (Link.mk 0 1) (Sl.mk false [97])).1) (Link.mk 0 1) (Sl.mk false [98])).1) (Link.mk 0 1) 1).1) (maskOf (Sl.mk false [1]))).1) (Link.mk 0 1) 0).2.1.D), .pv (.lit (.bool ((nTake ((nWall ((nTake ((nSend ((nSend newN (Link.mk 0 1) (Sl.mk false [97])).1) (Link.mk 0 1) (Sl.mk false [98])).1) (Link.mk 0 1) 1).1) (maskOf (Sl.mk false [1]))).1) (Link.mk 0 1) 0).2.2.1))), .pv (.lit (.int .i64 ((nTake ((nWall ((nTake ((nSend ((nSend newN (Link.mk 0 1) (Sl.mk false [97])).1) (Link.mk 0 1) (Sl.mk false [98])).1) (Link.mk 0 1) 1).1) (maskOf (Sl.mk false [1]))).1) (Link.mk 0 1) 0).2.2.2)))]) ?_
   refine rvP C (sS (some (nTake ((nWall ((nTake ((nSend ((nSend newN (Link.mk 0 1) (Sl.mk false [97])).1) (Link.mk 0 1) (Sl.mk false [98])).1) (Link.mk 0 1) 1).1) (maskOf (Sl.mk false [1]))).1) (Link.mk 0 1) 0).2.1.nil) (eI .u8) ((nTake ((nWall ((nTake ((nSend ((nSend newN (Link.mk 0 1) (Sl.mk false [97])).1) (Link.mk 0 1) (Sl.mk false [98])).1) (Link.mk 0 1) 1).1) (maskOf (Sl.mk false [1]))).1) (Link.mk 0 1) 0).2.1.D)) ?_
   refine rvP C (.pv (.lit (.bool ((nTake ((nWall ((nTake ((nSend ((nSend newN (Link.mk 0 1) (Sl.mk false [97])).1) (Link.mk 0 1) (Sl.mk false [98])).1) (Link.mk 0 1) 1).1) (maskOf (Sl.mk false [1]))).1) (Link.mk 0 1) 0).2.2.1)))) ?_
   refine rvP C (.pv (.lit (.int .i64 ((nTake ((nWall ((nTake ((nSend ((nSend newN (Link.mk 0 1) (Sl.mk false [97])).1) (Link.mk 0 1) (Sl.mk false [98])).1) (Link.mk 0 1) 1).1) (maskOf (Sl.mk false [1]))).1) (Link.mk 0 1) 0).2.2.2)))) ?_
   refine rvP C (sS (some (nTake ((nWall ((nTake ((nSend ((nSend newN (Link.mk 0 1) (Sl.mk false [97])).1) (Link.mk 0 1) (Sl.mk false [98])).1) (Link.mk 0 1) 1).1) (maskOf (Sl.mk false [1]))).1) (Link.mk 0 1) 0).2.1.nil) (eI .u8) ((nTake ((nWall ((nTake ((nSend ((nSend newN (Link.mk 0 1) (Sl.mk false [97])).1) (Link.mk 0 1) (Sl.mk false [98])).1) (Link.mk 0 1) 1).1) (maskOf (Sl.mk false [1]))).1) (Link.mk 0 1) 0).2.1.D)) ?_
   refine rvP C (.pv (.lit (.bool ((nTake ((nWall ((nTake ((nSend ((nSend newN (Link.mk 0 1) (Sl.mk false [97])).1) (Link.mk 0 1) (Sl.mk false [98])).1) (Link.mk 0 1) 1).1) (maskOf (Sl.mk false [1]))).1) (Link.mk 0 1) 0).2.2.1)))) ?_
   refine rvP C (.pv (.lit (.int .i64 ((nTake ((nWall ((nTake ((nSend ((nSend newN (Link.mk 0 1) (Sl.mk false [97])).1) (Link.mk 0 1) (Sl.mk false [98])).1) (Link.mk 0 1) 1).1) (maskOf (Sl.mk false [1]))).1) (Link.mk 0 1) 0).2.2.2)))) ?_
   refine rvc_nil ?_
   refine Awp.cons C (fun _ => .writer) (by kernel_rfl) ?_
   refine rvP C (sS (some (nTake ((nSend ((nSend newN (Link.mk 0 1) (Sl.mk false [97])).1) (Link.mk 0 1) (Sl.mk false [98])).1) (Link.mk 0 1) 1).2.1.nil) (eI .u8) ((nTake ((nSend ((nSend newN (Link.mk 0 1) (Sl.mk false [97])).1) (Link.mk 0 1) (Sl.mk false [98])).1) (Link.mk 0 1) 1).2.1.D)) ?_
   refine rvc_un (rexec_convS C rfl rfl rfl rfl rfl rfl rfl rfl ?_)
   refine rvP C (.pv (.lit (.bool ((strOf ((nTake ((nSend ((nSend newN (Link.mk 0 1) (Sl.mk false [97])).1) (Link.mk 0 1) (Sl.mk false [98])).1) (Link.mk 0 1) 1).2.1.D)).toList == (⟨#[98]⟩ : ByteArray).toList)))) ?_
   refine rvP C (.pv (.lit (.bool ((strOf ((nTake ((nSend ((nSend newN (Link.mk 0 1) (Sl.mk false [97])).1) (Link.mk 0 1) (Sl.mk false [98])).1) (Link.mk 0 1) 1).2.1.D)).toList == (⟨#[98]⟩ : ByteArray).toList)))) ?_
   refine rvc_case 46 ((strOf ((nTake ((nSend ((nSend newN (Link.mk 0 1) (Sl.mk false [97])).1) (Link.mk 0 1) (Sl.mk false [98])).1) (Link.mk 0 1) 1).2.1.D)).toList == (⟨#[98]⟩ : ByteArray).toList) rfl (fun h3 => ?_) (fun h3 => ?_)
   ·
    replace hR := of_true h3 hR
    refine rvO C (.pv (.lit (.bool ((nTake ((nSend ((nSend newN (Link.mk 0 1) (Sl.mk false [97])).1) (Link.mk 0 1) (Sl.mk false [98])).1) (Link.mk 0 1) 1).2.2.1)))) ?_
    refine rvP C (.pv (.lit (.bool ((nTake ((nSend ((nSend newN (Link.mk 0 1) (Sl.mk false [97])).1) (Link.mk 0 1) (Sl.mk false [98])).1) (Link.mk 0 1) 1).2.2.1)))) ?_
    refine rvP C (.pv (.lit (.bool ((nTake ((nSend ((nSend newN (Link.mk 0 1) (Sl.mk false [97])).1) (Link.mk 0 1) (Sl.mk false [98])).1) (Link.mk 0 1) 1).2.2.1)))) ?_
    refine rvc_case 49 ((nTake ((nSend ((nSend newN (Link.mk 0 1) (Sl.mk false [97])).1) (Link.mk 0 1) (Sl.mk false [98])).1) (Link.mk 0 1) 1).2.2.1) rfl (fun h4 => ?_) (fun h4 => ?_)
    ·
     replace hR := of_true h4 hR
     refine rvO C (.pv (.lit (.int .i64 ((nTake ((nSend ((nSend newN (Link.mk 0 1) (Sl.mk false [97])).1) (Link.mk 0 1) (Sl.mk false [98])).1) (Link.mk 0 1) 1).2.2.2)))) ?_
     refine rvO C (.pv (.lit (.bool (((nTake ((nSend ((nSend newN (Link.mk 0 1) (Sl.mk false [97])).1) (Link.mk 0 1) (Sl.mk false [98])).1) (Link.mk 0 1) 1).2.2.2) == 0)))) ?_
     refine rvP C (.pv (.lit (.bool (((nTake ((nSend ((nSend newN (Link.mk 0 1) (Sl.mk false [97])).1) (Link.mk 0 1) (Sl.mk false [98])).1) (Link.mk 0 1) 1).2.2.2) == 0)))) ?_
     refine rvP C (.pv (.lit (.bool (((nTake ((nSend ((nSend newN (Link.mk 0 1) (Sl.mk false [97])).1) (Link.mk 0 1) (Sl.mk false [98])).1) (Link.mk 0 1) 1).2.2.2) == 0)))) ?_
     refine rvc_case 53 (((nTake ((nSend ((nSend newN (Link.mk 0 1) (Sl.mk false [97])).1) (Link.mk 0 1) (Sl.mk false [98])).1) (Link.mk 0 1) 1).2.2.2) == 0) rfl (fun h5 => ?_) (fun h5 => ?_)
     ·
      replace hR := of_true h5 hR
      refine rvO C (.pv (.lit (.bool ((nTake ((nWall ((nTake ((nSend ((nSend newN (Link.mk 0 1) (Sl.mk false [97])).1) (Link.mk 0 1) (Sl.mk false [98])).1) (Link.mk 0 1) 1).1) (maskOf (Sl.mk false [1]))).1) (Link.mk 0 1) 0).2.2.1)))) ?_
      refine rvO C (.pv (.lit (.bool (!((nTake ((nWall ((nTake ((nSend ((nSend newN (Link.mk 0 1) (Sl.mk false [97])).1) (Link.mk 0 1) (Sl.mk false [98])).1) (Link.mk 0 1) 1).1) (maskOf (Sl.mk false [1]))).1) (Link.mk 0 1) 0).2.2.1))))) ?_
      refine rvP C (.pv (.lit (.bool (!((nTake ((nWall ((nTake ((nSend ((nSend newN (Link.mk 0 1) (Sl.mk false [97])).1) (Link.mk 0 1) (Sl.mk false [98])).1) (Link.mk 0 1) 1).1) (maskOf (Sl.mk false [1]))).1) (Link.mk 0 1) 0).2.2.1))))) ?_
      refine rvP C (.pv (.lit (.bool (!((nTake ((nWall ((nTake ((nSend ((nSend newN (Link.mk 0 1) (Sl.mk false [97])).1) (Link.mk 0 1) (Sl.mk false [98])).1) (Link.mk 0 1) 1).1) (maskOf (Sl.mk false [1]))).1) (Link.mk 0 1) 0).2.2.1))))) ?_
      refine rvc_case 57 (!((nTake ((nWall ((nTake ((nSend ((nSend newN (Link.mk 0 1) (Sl.mk false [97])).1) (Link.mk 0 1) (Sl.mk false [98])).1) (Link.mk 0 1) 1).1) (maskOf (Sl.mk false [1]))).1) (Link.mk 0 1) 0).2.2.1)) rfl (fun h6 => ?_) (fun h6 => ?_)
      ·
       replace hR := of_true h6 hR
       refine rvO C (.pv (.lit (.int .i64 ((nTake ((nWall ((nTake ((nSend ((nSend newN (Link.mk 0 1) (Sl.mk false [97])).1) (Link.mk 0 1) (Sl.mk false [98])).1) (Link.mk 0 1) 1).1) (maskOf (Sl.mk false [1]))).1) (Link.mk 0 1) 0).2.2.2)))) ?_
       refine rvO C (.pv (.lit (.bool (((nTake ((nWall ((nTake ((nSend ((nSend newN (Link.mk 0 1) (Sl.mk false [97])).1) (Link.mk 0 1) (Sl.mk false [98])).1) (Link.mk 0 1) 1).1) (maskOf (Sl.mk false [1]))).1) (Link.mk 0 1) 0).2.2.2) == 0)))) ?_
       refine rvP C (.pv (.lit (.bool (((nTake ((nWall ((nTake ((nSend ((nSend newN (Link.mk 0 1) (Sl.mk false [97])).1) (Link.mk 0 1) (Sl.mk false [98])).1) (Link.mk 0 1) 1).1) (maskOf (Sl.mk false [1]))).1) (Link.mk 0 1) 0).2.2.2) == 0)))) ?_
       refine rvP C (.pv (.lit (.bool (((nTake ((nWall ((nTake ((nSend ((nSend newN (Link.mk 0 1) (Sl.mk false [97])).1) (Link.mk 0 1) (Sl.mk false [98])).1) (Link.mk 0 1) 1).1) (maskOf (Sl.mk false [1]))).1) (Link.mk 0 1) 0).2.2.2) == 0)))) ?_
       refine rvc_case 61 (((nTake ((nWall ((nTake ((nSend ((nSend newN (Link.mk 0 1) (Sl.mk false [97])).1) (Link.mk 0 1) (Sl.mk false [98])).1) (Link.mk 0 1) 1).1) (maskOf (Sl.mk false [1]))).1) (Link.mk 0 1) 0).2.2.2) == 0) rfl (fun h7 => ?_) (fun h7 => ?_)
       ·
        replace hR := of_true h7 hR
        refine rvO C (.ptr 9 0) ?_
        refine rvO C (.agg [.pv (.lit (.int .i64 0)), .pv (.lit (.int .i64 1))]) ?_
        refine rvc_open rfl rfl rfl (rexec_callObj hP C (fun b => bif b == 0 then 9 else bif b == 1 then 509 else b) [] rfl rfl rfl (nLen_calls ((nTake ((nWall ((nTake ((nSend ((nSend newN (Link.mk 0 1) (Sl.mk false [97])).1) (Link.mk 0 1) (Sl.mk false [98])).1) (Link.mk 0 1) 1).1) (maskOf (Sl.mk false [1]))).1) (Link.mk 0 1) 0).1) (Link.mk 0 1)) rfl rfl ⟨rfl, trivial⟩ (of_decide_eq_true rfl) rfl (of_decide_eq_true rfl) (of_decide_eq_true rfl) allB_nil allB_nil (allB_cons rfl allB_nil) ?_ rfl (allB_cons rfl allB_nil))
        refine rvO C (.pv (.lit (.bool ((nLen ((nTake ((nWall ((nTake ((nSend ((nSend newN (Link.mk 0 1) (Sl.mk false [97])).1) (Link.mk 0 1) (Sl.mk false [98])).1) (Link.mk 0 1) 1).1) (maskOf (Sl.mk false [1]))).1) (Link.mk 0 1) 0).1) (Link.mk 0 1)) == 0)))) ?_
        refine rvP C (.pv (.lit (.bool ((nLen ((nTake ((nWall ((nTake ((nSend ((nSend newN (Link.mk 0 1) (Sl.mk false [97])).1) (Link.mk 0 1) (Sl.mk false [98])).1) (Link.mk 0 1) 1).1) (maskOf (Sl.mk false [1]))).1) (Link.mk 0 1) 0).1) (Link.mk 0 1)) == 0)))) ?_
        refine rvP C (.pv (.lit (.bool ((nLen ((nTake ((nWall ((nTake ((nSend ((nSend newN (Link.mk 0 1) (Sl.mk false [97])).1) (Link.mk 0 1) (Sl.mk false [98])).1) (Link.mk 0 1) 1).1) (maskOf (Sl.mk false [1]))).1) (Link.mk 0 1) 0).1) (Link.mk 0 1)) == 0)))) ?_
        refine rvc_case 67 ((nLen ((nTake ((nWall ((nTake ((nSend ((nSend newN (Link.mk 0 1) (Sl.mk false [97])).1) (Link.mk 0 1) (Sl.mk false [98])).1) (Link.mk 0 1) 1).1) (maskOf (Sl.mk false [1]))).1) (Link.mk 0 1) 0).1) (Link.mk 0 1)) == 0) rfl (fun h8 => ?_) (fun h8 => ?_)
        ·
         replace hR := of_true h8 hR
         refine rvO C (.ptr 9 0) ?_
         refine rvO C (.agg [.pv (.lit (.int .i64 0)), .pv (.lit (.int .i64 0))]) ?_
         refine rvc_open rfl rfl rfl (rexec_callObj hP C (fun b => bif b == 0 then 9 else bif b == 1 then 509 else b) [] rfl rfl rfl (nSend_calls ((nTake ((nWall ((nTake ((nSend ((nSend newN (Link.mk 0 1) (Sl.mk false [97])).1) (Link.mk 0 1) (Sl.mk false [98])).1) (Link.mk 0 1) 1).1) (maskOf (Sl.mk false [1]))).1) (Link.mk 0 1) 0).1) (Link.mk 0 0) (Sl.mk true []) (by decide)) rfl rfl ⟨rfl, trivial⟩ (of_decide_eq_true rfl) rfl (of_decide_eq_true rfl) (of_decide_eq_true rfl) allB_nil allB_nil (allB_cons rfl allB_nil) ?_ rfl (allB_cons rfl allB_nil))
         refine rvO C (.pv (.lit (.bool (((nSend ((nTake ((nWall ((nTake ((nSend ((nSend newN (Link.mk 0 1) (Sl.mk false [97])).1) (Link.mk 0 1) (Sl.mk false [98])).1) (Link.mk 0 1) 1).1) (maskOf (Sl.mk false [1]))).1) (Link.mk 0 1) 0).1) (Link.mk 0 0) (Sl.mk true [])).2) == 40)))) ?_
         refine rvP C (.pv (.lit (.bool (((nSend ((nTake ((nWall ((nTake ((nSend ((nSend newN (Link.mk 0 1) (Sl.mk false [97])).1) (Link.mk 0 1) (Sl.mk false [98])).1) (Link.mk 0 1) 1).1) (maskOf (Sl.mk false [1]))).1) (Link.mk 0 1) 0).1) (Link.mk 0 0) (Sl.mk true [])).2) == 40)))) ?_
         refine rvP C (.pv (.lit (.bool (((nSend ((nTake ((nWall ((nTake ((nSend ((nSend newN (Link.mk 0 1) (Sl.mk false [97])).1) (Link.mk 0 1) (Sl.mk false [98])).1) (Link.mk 0 1) 1).1) (maskOf (Sl.mk false [1]))).1) (Link.mk 0 1) 0).1) (Link.mk 0 0) (Sl.mk true [])).2) == 40)))) ?_
         refine rvc_nil ?_
         refine Awp.ret ?_
         subst hR
         exact ⟨.inl rfl, rfl⟩
        ·
         replace hR := of_false h8 hR
         refine rvS ?_
         refine rvS ?_
         refine rvS ?_
         refine rvS ?_
         refine rvP C (.pv (.lit (.bool false))) ?_
         refine rvP C (.pv (.lit (.bool false))) ?_
         refine rvc_nil ?_
         refine Awp.ret ?_
         subst hR
         exact ⟨.inl rfl, rfl⟩
       ·
        replace hR := of_false h7 hR
        refine rvS ?_
        refine rvS ?_
        refine rvS ?_
        refine rvS ?_
        refine rvP C (.pv (.lit (.bool false))) ?_
        refine rvP C (.pv (.lit (.bool false))) ?_
        refine rvS ?_
        refine rvS ?_
        refine rvS ?_
        refine rvS ?_
        refine rvP C (.pv (.lit (.bool false))) ?_
        refine rvP C (.pv (.lit (.bool false))) ?_
        refine rvc_nil ?_
        refine Awp.ret ?_
        subst hR
        exact ⟨.inl rfl, rfl⟩
      ·
       replace hR := of_false h6 hR
       refine rvS ?_
       refine rvS ?_
       refine rvP C (.pv (.lit (.bool false))) ?_
       refine rvP C (.pv (.lit (.bool false))) ?_
       refine rvS ?_
       refine rvS ?_
       refine rvS ?_
       refine rvS ?_
       refine rvP C (.pv (.lit (.bool false))) ?_
       refine rvP C (.pv (.lit (.bool false))) ?_
       refine rvS ?_
       refine rvS ?_
       refine rvS ?_
       refine rvS ?_
       refine rvP C (.pv (.lit (.bool false))) ?_
       refine rvP C (.pv (.lit (.bool false))) ?_
       refine rvc_nil ?_
       refine Awp.ret ?_
       subst hR
       exact ⟨.inl rfl, rfl⟩
     ·
      replace hR := of_false h5 hR
      refine rvS ?_
      refine rvS ?_
      refine rvP C (.pv (.lit (.bool false))) ?_
      refine rvP C (.pv (.lit (.bool false))) ?_
      refine rvS ?_
      refine rvS ?_
      refine rvP C (.pv (.lit (.bool false))) ?_
      refine rvP C (.pv (.lit (.bool false))) ?_
      refine rvS ?_
      refine rvS ?_
      refine rvS ?_
      refine rvS ?_
      refine rvP C (.pv (.lit (.bool false))) ?_
      refine rvP C (.pv (.lit (.bool false))) ?_
      refine rvS ?_
      refine rvS ?_
      refine rvS ?_
      refine rvS ?_
      refine rvP C (.pv (.lit (.bool false))) ?_
      refine rvP C (.pv (.lit (.bool false))) ?_
      refine rvc_nil ?_
      refine Awp.ret ?_
      subst hR
      exact ⟨.inl rfl, rfl⟩
    ·
     replace hR := of_false h4 hR
     refine rvS ?_
     refine rvS ?_
     refine rvP C (.pv (.lit (.bool false))) ?_
     refine rvP C (.pv (.lit (.bool false))) ?_
     refine rvS ?_
     refine rvS ?_
     refine rvP C (.pv (.lit (.bool false))) ?_
     refine rvP C (.pv (.lit (.bool false))) ?_
     refine rvS ?_
     refine rvS ?_
     refine rvP C (.pv (.lit (.bool false))) ?_
     refine rvP C (.pv (.lit (.bool false))) ?_
     refine rvS ?_
     refine rvS ?_
     refine rvS ?_
     refine rvS ?_
     refine rvP C (.pv (.lit (.bool false))) ?_
     refine rvP C (.pv (.lit (.bool false))) ?_
     refine rvS ?_
     refine rvS ?_
     refine rvS ?_
     refine rvS ?_
     refine rvP C (.pv (.lit (.bool false))) ?_
     refine rvP C (.pv (.lit (.bool false))) ?_
     refine rvc_nil ?_
     refine Awp.ret ?_
     subst hR
     exact ⟨.inl rfl, rfl⟩
   ·
    replace hR := of_false h3 hR
    refine rvS ?_
    refine rvP C (.pv (.lit (.bool false))) ?_
    refine rvP C (.pv (.lit (.bool false))) ?_
    refine rvS ?_
    refine rvS ?_
    refine rvP C (.pv (.lit (.bool false))) ?_
    refine rvP C (.pv (.lit (.bool false))) ?_
    refine rvS ?_
    refine rvS ?_
    refine rvP C (.pv (.lit (.bool false))) ?_
    refine rvP C (.pv (.lit (.bool false))) ?_
    refine rvS ?_
    refine rvS ?_
    refine rvP C (.pv (.lit (.bool false))) ?_
    refine rvP C (.pv (.lit (.bool false))) ?_
    refine rvS ?_
    refine rvS ?_
    refine rvS ?_
    refine rvS ?_
    refine rvP C (.pv (.lit (.bool false))) ?_
    refine rvP C (.pv (.lit (.bool false))) ?_
    refine rvS ?_
    refine rvS ?_
    refine rvS ?_
    refine rvS ?_
    refine rvP C (.pv (.lit (.bool false))) ?_
    refine rvP C (.pv (.lit (.bool false))) ?_
    refine rvc_nil ?_
    refine Awp.ret ?_
    subst hR
    exact ⟨.inl rfl, rfl⟩
theorem short_l1_ok (x : Sl Do) (kk : Int → Int → Int → Bool) (hk : ∀ n a i, 0 ≤ a → a ≤ 151 → 0 ≤ n → n ≤ 32769 → kk n a i = true → a ≤ 150 ∧ n ≤ 16384) : ∀ (f : Nat) (n a i : Int), f = x.D.length - i.toNat + 1 → 0 ≤ i → i ≤ (x.D.length : Int) → i ≤ a → a ≤ 151 → 0 ≤ n → n ≤ 32769 → short_l1 x kk f n a i = true →
    (a ≤ 150 ∧ n ≤ 16384) ∧ (x.D.length : Int) - i + a ≤ 150 ∧ ∀ j, i.toNat ≤ j → ∀ y, x.D[j]? = some y → y.b.D.length ≤ 16384
  | 0, _, _, _, hf, _, _, _, _, _, _, _ => by omega
  | f + 1, n, a, i, hf, h0, h1, h2, h3, h4, h5, h => by
    unfold short_l1 at h
    cases e1 : decide (i < (x.D.length : Int))
    · rw [e1] at h
      have h6 := of_decide_eq_false e1
      have h7 := hk n a i (by omega) h3 h4 h5 h
      refine ⟨h7, by omega, fun j hj y hy => ?_⟩
      rw [List.getElem?_eq_none (by omega)] at hy; cases hy
    · have h6 := of_decide_eq_true e1
      rw [e1] at h
      simp only [cond_true] at h
      cases e2 : decide (a ≤ 150)
      · rw [e2] at h
        have := of_decide_eq_false e2
        have := (hk n a i (by omega) h3 h4 h5 h).1
        omega
      · have h7 := of_decide_eq_true e2
        rw [e2] at h
        simp only [cond_true] at h
        cases e3 : decide (n ≤ 16384)
        · rw [e3] at h
          have := of_decide_eq_false e3
          have := (hk n a i (by omega) h3 h4 h5 h).2
          omega
        · have h8 := of_decide_eq_true e3
          rw [e3] at h
          simp only [cond_true] at h
          have hm := min85 ((x.D[i.toNat]!.b.D).length : Int) (Int.natCast_nonneg _)
          have hw1 := wrapI (n + (bif (decide ((16385 : Int) < ((x.D[i.toNat]!.b.D).length : Int))) then (16385 : Int) else ((x.D[i.toNat]!.b.D).length : Int)))
          have hw2 := wrapI (a + 1)
          have hw3 := wrapI (i + 1)
          have ih := short_l1_ok x kk hk f _ _ _ (by omega) (by omega) (by omega) (by omega) (by omega) (by omega) (by omega) h
          obtain ⟨⟨i1, i2⟩, i3, i4⟩ := ih
          refine ⟨⟨h7, h8⟩, by omega, fun j hj y hy => ?_⟩
          rcases Nat.lt_or_ge i.toNat j with hlt | hge
          · exact i4 j (by omega) y hy
          · have hji : j = i.toNat := by omega
            subst hji
            have hy2 : x.D[i.toNat]! = y := by
              rw [getElem!_def, hy]
            rw [hy2] at hw1 hm i2
            cases e4 : decide ((16385 : Int) < (y.b.D.length : Int))
            · have := of_decide_eq_false e4
              rw [e4] at hw1 i2
              simp only [cond_false] at hw1 i2
              omega
            · rw [e4] at hw1 i2
              simp only [cond_true] at hw1 i2
              omega
theorem short_l0_ok : ∀ (l : List (Sl Do)) (i : Nat) (n a : Int), 0 ≤ a → a ≤ 151 → 0 ≤ n → n ≤ 32769 → short_l0 l i n a = true → (a ≤ 150 ∧ n ≤ 16384) ∧ ∀ x ∈ l, x.D.length ≤ 150 ∧ ∀ y ∈ x.D, y.b.D.length ≤ 16384
  | [], _, n, a, _, _, _, _, h => by
    unfold short_l0 at h
    cases e1 : decide (a ≤ 150)
    · rw [e1] at h; cases h
    · rw [e1] at h
      exact ⟨⟨of_decide_eq_true e1, of_decide_eq_true h⟩, fun x hx => by cases hx⟩
  | x :: l, i, n, a, h0, h1, h2, h3, h => by
    unfold short_l0 at h
    -- what follows holds of what the rounds leave
    by_cases hx : (a ≤ 150 ∧ n ≤ 16384) ∧ (x.D.length : Int) - 0 + a ≤ 150 ∧ ∀ j, (0 : Int).toNat ≤ j → ∀ y, x.D[j]? = some y → y.b.D.length ≤ 16384
    · obtain ⟨p1, p2, p3⟩ := hx
      have hx1 : x.D.length ≤ 150 ∧ ∀ y ∈ x.D, y.b.D.length ≤ 16384 := ⟨by omega, fun y hy => by
        obtain ⟨j, hj⟩ := List.getElem?_of_mem hy
        exact p3 j (Nat.zero_le _) y hj⟩
      refine ⟨p1, fun z hz => ?_⟩
      cases hz with
      | head => exact hx1
      | tail _ hz =>
        -- the rest
        have key : ∀ (f : Nat) (n a i' : Int), 0 ≤ i' → i' ≤ a → a ≤ 151 → 0 ≤ n → n ≤ 32769 → f = x.D.length - i'.toNat + 1 → i' ≤ (x.D.length : Int) → short_l1 x (fun n1 acts1 _ => short_l0 l (i + 1) n1 acts1) f n a i' = true → ∃ n1 a1, 0 ≤ a1 ∧ a1 ≤ 151 ∧ 0 ≤ n1 ∧ n1 ≤ 32769 ∧ short_l0 l (i + 1) n1 a1 = true := by
          intro f
          induction f with
          | zero => intro n a i' _ _ _ _ _ hf; omega
          | succ f ih =>
            intro n a i' q0 q1 q2 q3 q4 q5 q6 q
            unfold short_l1 at q
            cases e1 : decide (i' < (x.D.length : Int))
            · rw [e1] at q; exact ⟨n, a, by omega, q2, q3, q4, q⟩
            · have h6 := of_decide_eq_true e1
              rw [e1] at q
              simp only [cond_true] at q
              cases e2 : decide (a ≤ 150)
              · rw [e2] at q; exact ⟨n, a, by omega, q2, q3, q4, q⟩
              · have h7 := of_decide_eq_true e2
                rw [e2] at q
                simp only [cond_true] at q
                cases e3 : decide (n ≤ 16384)
                · rw [e3] at q; exact ⟨n, a, by omega, q2, q3, q4, q⟩
                · have h8 := of_decide_eq_true e3
                  rw [e3] at q
                  simp only [cond_true] at q
                  have hm := min85 ((x.D[i'.toNat]!.b.D).length : Int) (Int.natCast_nonneg _)
                  have hw1 := wrapI (n + (bif (decide ((16385 : Int) < ((x.D[i'.toNat]!.b.D).length : Int))) then (16385 : Int) else ((x.D[i'.toNat]!.b.D).length : Int)))
                  have hw2 := wrapI (a + 1)
                  have hw3 := wrapI (i' + 1)
                  exact ih _ _ _ (by omega) (by omega) (by omega) (by omega) (by omega) (by omega) (by omega) q
        obtain ⟨n1, a1, k1, k2, k3, k4, k5⟩ := key _ n a 0 (Int.le_refl _) h0 h1 h2 h3 rfl (by omega) h
        exact (short_l0_ok l (i + 1) n1 a1 k1 k2 k3 k4 k5).2 z hz
    · exact absurd (short_l1_ok x _ (fun n1 a1 _ g0 g1 g2 g3 hh => (short_l0_ok l (i + 1) n1 a1 g0 g1 g2 g3 hh).1) _ n a 0 rfl (Int.le_refl _) (by omega) h0 h1 h2 h3 h) hx
theorem short_ok {ls : Sl (Sl Do)} (h : (!(short ls)) = false) (l : Sl Do) (hl : l ∈ ls.D) : l.D.length ≤ 150 ∧ ∀ y ∈ l.D, y.b.D.length ≤ 16384 :=
  (short_l0_ok ls.D 0 0 0 (Int.le_refl _) (by decide) (Int.le_refl _) (by decide) (by simpa [short] using h)).2 l hl
theorem wrap_set {n : Net} (h : okF n) (l : Link) (q : Que) (hl : fitsL l = true) (hq : q.D ≠ []) : ∀ e ∈ mSet kLink l q n.of_, fitsL e.1 = true ∧ e.2.D ≠ [] := by
  have key : ∀ (D : List (Link × Que)), (∀ e ∈ D, fitsL e.1 = true ∧ e.2.D ≠ []) → ∀ e ∈ mSet kLink l q D, fitsL e.1 = true ∧ e.2.D ≠ [] := by
    intro D
    induction D with
    | nil => intro _ e he; simp only [mSet, List.mem_singleton] at he; rw [he]; exact ⟨hl, hq⟩
    | cons y D ih =>
      intro hD e he
      unfold mSet at he
      split at he
      · rcases List.mem_cons.1 he with rfl | he
        · exact ⟨(hD y (List.mem_cons_self ..)).1, hq⟩
        · exact hD e (List.mem_cons_of_mem _ he)
      · rcases List.mem_cons.1 he with rfl | he
        · exact hD _ (List.mem_cons_self ..)
        · exact ih (fun e he => hD e (List.mem_cons_of_mem _ he)) e he
  exact key n.of_ h
theorem able_fits {n : Net} {l : Link} {i : Int} (h : (able n l i != 0) = false) : fitsL l = true := by
  have h0 : able n l i = 0 := eq_of_bne_false h
  unfold able at h0
  cases h1 : nDead n
  case true => rw [h1] at h0; cases h0
  rw [h1, cond_false] at h0
  cases h2 : fitsL l
  · rw [h2] at h0; cases h0
  · rfl
theorem sendF {n : Net} (h : okF n) (l : Link) (b : Sl Int) : okF (nSend n l b).1 := by
  unfold nSend
  cases nDead n
  case true => exact h
  rw [cond_false]
  cases h2 : fitsL l
  · exact h
  rw [show (!true) = false from rfl, cond_false]
  cases decide ((b.D.length : Int) > 8192)
  case true => exact h
  rw [cond_false]
  cases decide (((((mGet kLink l n.of_).getD (Sl.mk true [])).D).length : Int) ≥ 8)
  case true => exact h
  rw [cond_false]
  cases ((mGet kLink l n.of_).getD (Sl.mk true [])).nil
  · exact wrap_set h l _ h2 (by simp)
  · exact wrap_set h l _ h2 (by simp)
theorem doubleF {n : Net} (h : okF n) (l : Link) (i : Int) : okF (nDouble n l i).1 := by
  unfold nDouble
  cases h1 : able n l i != 0
  case true => exact h
  rw [cond_false]
  cases decide (((((mGet kLink l n.of_).getD (Sl.mk true [])).D).length : Int) ≥ 8)
  case true => exact h
  exact wrap_set h l _ (able_fits h1) (by simp)
theorem cutF {n : Net} (h : okF n) (l : Link) (i : Int) (hl : fitsL l = true) : okF (nCut n l i).1 := by
  unfold nCut
  cases h1 : ((List.eraseIdx (((mGet kLink l n.of_).getD (Sl.mk true [])).D) (i).toNat).length : Int) == 0
  · refine wrap_set h l _ hl (fun e => ?_)
    dsimp only at e
    rw [e] at h1; simp at h1
  · exact fun e he => h e ((mDel_sub _).subset he)
theorem does_okF {n : Net} (h : okF n) (k : Do) : okF (does n k).1 := by
  unfold does
  have ht : okF (nTake n k.l k.i).1 := by
    unfold nTake
    cases h1 : able n k.l k.i != 0
    · rw [cond_false]
      cases !((mHas ((nCut n k.l k.i).1.side) k.l.from_) == (mHas ((nCut n k.l k.i).1.side) k.l.to))
      · exact cutF h _ _ (able_fits h1)
      · exact cutF h _ _ (able_fits h1)
    · exact h
  have hlo : okF (nLose n k.l k.i).1 := by
    unfold nLose
    cases h1 : able n k.l k.i != 0
    · exact cutF h _ _ (able_fits h1)
    · exact h
  have hw : okF (nWall n k.side).1 := by
    unfold nWall
    cases nDead n <;> exact h
  have hf : okF (nForget n k.i).1 := by
    unfold nForget
    cases nDead n
    · exact fun e he => h e (List.mem_filter.1 he).1
    · exact h
  generalize (IntKind.i64.wrap ((IntKind.u64.wrap k.op).tmod 9)) = o
  cases o == 3
  case true => exact ht
  rw [cond_false]
  cases o == 4
  case true => exact ht
  rw [cond_false]
  cases o == 5
  case true => exact hlo
  rw [cond_false]
  cases o == 6
  case true => exact doubleF h _ _
  rw [cond_false]
  cases o == 7
  case true => exact hw
  rw [cond_false]
  cases o == 8
  case true => exact hf
  exact sendF h _ _
theorem does_ok {n : Net} (h : okN n) (k : Do) : okN (does n k).1 := by
  unfold does
  generalize (IntKind.i64.wrap ((IntKind.u64.wrap k.op).tmod 9)) = o
  cases o == 3
  case true => exact take_ok h _ _
  rw [cond_false]
  cases o == 4
  case true => exact take_ok h _ _
  rw [cond_false]
  cases o == 5
  case true => exact lose_ok h _ _
  rw [cond_false]
  cases o == 6
  case true => exact double_ok h _ _
  rw [cond_false]
  cases o == 7
  case true => exact wall_ok h _
  rw [cond_false]
  cases o == 8
  case true => exact forget_ok h _
  exact send_ok h _ _
theorem newN_okF : okF newN := fun _ h => by cases h
theorem nBusy_len (n : Net) : (nBusy n).D.length ≤ 1024 := by
  have h := busy_len n.of_
  unfold nBusy
  generalize busyOf n.of_ = B at h ⊢
  cases nDead n
  · exact h
  · exact Nat.zero_le _
end Go.Proofs.Ytpeeofofagfooaa
namespace Go.Proofs.Ytpeeofofagfooaa
open Go.Am
section maps
variable {κ β : Type} {KE : KEnc κ}
theorem mGet_mSet (k k' : κ) (x : β) : ∀ (D : List (κ × β)), mGet KE k' (mSet KE k x D) = if KE.eq k' k = true then some x else mGet KE k' D
  | [] => by simp only [mSet, mGet]
  | e :: D => by
    unfold mSet
    by_cases h : KE.eq k e.1 = true
    · rw [if_pos h]
      have he := (KE.spec _ _).1 h
      simp only [mGet]
      by_cases h2 : KE.eq k' e.1 = true
      · have : KE.eq k' k = true := (KE.spec _ _).2 (((KE.spec _ _).1 h2).trans he.symm)
        rw [if_pos h2, if_pos this]
      · have : ¬ KE.eq k' k = true := fun h3 => h2 ((KE.spec _ _).2 (((KE.spec _ _).1 h3).trans he))
        rw [if_neg h2, if_neg this, if_neg h2]
    · rw [if_neg h]
      simp only [mGet]
      by_cases h2 : KE.eq k' e.1 = true
      · have : ¬ KE.eq k' k = true := fun h3 => h ((KE.spec _ _).2 (((KE.spec _ _).1 h3).symm.trans ((KE.spec _ _).1 h2)))
        rw [if_pos h2, if_neg this, if_pos h2]
      · rw [if_neg h2, if_neg h2, mGet_mSet k k' x D]
theorem mGet_none_of {k : κ} : ∀ {D : List (κ × β)}, (∀ e ∈ D, ¬ KE.eq k e.1 = true) → mGet KE k D = none
  | [], _ => rfl
  | e :: D, h => by
    unfold mGet
    rw [if_neg (h e (List.mem_cons_self ..))]
    exact mGet_none_of fun e he => h e (List.mem_cons_of_mem _ he)
theorem mGet_mDel (k k' : κ) : ∀ (D : List (κ × β)), mOnce KE D → mGet KE k' (mDel KE k D) = if KE.eq k' k = true then none else mGet KE k' D
  | [], _ => by simp [mDel, mGet]
  | e :: D, h => by
    unfold mDel
    by_cases h1 : KE.eq k e.1 = true
    · rw [if_pos h1]
      have he := (KE.spec _ _).1 h1
      by_cases h2 : KE.eq k' k = true
      · rw [if_pos h2]
        refine mGet_none_of fun f hf h3 => ?_
        unfold mOnce at h
        rw [List.map_cons, List.nodup_cons] at h
        refine h.1 (List.mem_map.2 ⟨f, hf, ?_⟩)
        rw [← he, ← (KE.spec _ _).1 h2, (KE.spec _ _).1 h3]
      · have : ¬ KE.eq k' e.1 = true := fun h3 => h2 ((KE.spec _ _).2 (((KE.spec _ _).1 h3).trans he.symm))
        rw [if_neg h2, mGet, if_neg this]
    · rw [if_neg h1]
      simp only [mGet]
      by_cases h2 : KE.eq k' e.1 = true
      · have : ¬ KE.eq k' k = true := fun h3 => h1 ((KE.spec _ _).2 (((KE.spec _ _).1 h3).symm.trans ((KE.spec _ _).1 h2)))
        rw [if_pos h2, if_neg this, if_pos h2]
      · rw [if_neg h2, if_neg h2, mGet_mDel k k' D h.tail]
theorem mGet_filter {p : κ → Bool} (hp : ∀ a b, KE.eq a b = true → p a = p b) (k : κ) : ∀ (D : List (κ × β)), mGet KE k (D.filter fun e => p e.1) = if p k then mGet KE k D else none
  | [] => by simp [mGet]
  | e :: D => by
    rw [List.filter_cons]
    by_cases h1 : KE.eq k e.1 = true
    · have := hp _ _ h1
      by_cases h2 : p e.1 = true
      · rw [if_pos h2, this, if_pos h2, mGet, if_pos h1, mGet, if_pos h1]
      · rw [if_neg h2, mGet_filter hp k D, this, if_neg h2, if_neg h2]
    · by_cases h2 : p e.1 = true
      · rw [if_pos h2, mGet, if_neg h1, mGet_filter hp k D, mGet, if_neg h1]
      · rw [if_neg h2, mGet_filter hp k D, mGet, if_neg h1]
end maps
theorem qOf_set (D : List (Link × Que)) (l l' : Link) (q : Que) : qOf (mSet kLink l q D) l' = if l' = l then q else qOf D l' := by
  unfold qOf
  rw [mGet_mSet]
  by_cases h : l' = l
  · rw [if_pos (link_eq.2 h), if_pos h]; rfl
  · rw [if_neg (fun h2 => h (link_eq.1 h2)), if_neg h]
theorem qOf_del {D : List (Link × Que)} (hD : mOnce kLink D) (l l' : Link) : qOf (mDel kLink l D) l' = if l' = l then Sl.mk true [] else qOf D l' := by
  unfold qOf
  rw [mGet_mDel _ _ _ hD]
  by_cases h : l' = l
  · rw [if_pos (link_eq.2 h), if_pos h]; rfl
  · rw [if_neg (fun h2 => h (link_eq.1 h2)), if_neg h]
theorem qOf_filter (D : List (Link × Que)) (p : Link → Bool) (l : Link) : qOf (D.filter fun e => p e.1) l = if p l then qOf D l else Sl.mk true [] := by
  unfold qOf
  rw [mGet_filter (fun a b h => by rw [link_eq.1 h])]
  cases p l <;> rfl
theorem clone_D {b : Sl Int} (h : b.nil = true → b.D = []) : (cloneBytes b).D = b.D := by
  unfold cloneBytes
  cases hb : b.nil
  · rfl
  · rw [h hb]; rfl
structure Rel (N : Nat) (n : Net) (x : Net51) : Prop where
  ok : okN n
  okF : okF n
  okR : okRL N x
  made : n.made = true
  on : ∀ l, (qOf n.of_ l).D.map (fun b => strOf b.D) = onL x.items.D l
  lost : n.lost = x.lost
  side : ∀ j : Nat, j < 64 → mHas n.side (j : Int) = x.side j
theorem Rel.len {N : Nat} {n : Net} {x : Net51} (h : Rel N n x) (l : Link) : (qOf n.of_ l).D.length = (onL x.items.D l).length := by rw [← h.on l, List.length_map]
theorem Rel.at {N : Nat} {n : Net} {x : Net51} (h : Rel N n x) (l : Link) {i : Nat} (hi : i < (onL x.items.D l).length) : strOf (qOf n.of_ l).D[i]!.D = (onL x.items.D l)[i]! := by
  have hi2 : i < (qOf n.of_ l).D.length := by rw [h.len]; exact hi
  rw [getElem!_pos _ i hi2, getElem!_pos _ i hi]
  simp only [← h.on l, List.getElem_map]
theorem onL_right {x : Net51} (h : okR x) {l : Link} (hl : rRight l = false) : onL x.items.D l = [] := by
  unfold onL
  have : x.items.D.filter (isL l) = [] := List.filter_eq_nil_iff.2 fun y hy h2 => by
    have := h y hy
    rw [isL_iff.1 h2, hl] at this; cases this
  rw [this]; rfl
theorem Rel.able {N : Nat} {n : Net} {x : Net51} (h : Rel N n x) (l : Link) (i : Int) :
    (able n l i = 0 ∧ 0 ≤ i ∧ i < ((onL x.items.D l).length : Int)) ∨ (able n l i = 40 ∧ ¬ (0 ≤ i ∧ i < ((onL x.items.D l).length : Int))) := by
  have hd : nDead n = false := by unfold nDead; rw [h.made]; rfl
  have hq := h.len l
  unfold qOf at hq
  unfold Go.Proofs.Ytpeeofofagfooaa.able
  rw [hd, cond_false, hq]
  cases hf : fitsL l
  · refine .inr ⟨rfl, ?_⟩
    rw [onL_right h.okR.1 hf]
    intro h2; simp at h2; omega
  · rw [show (!true) = false from rfl, cond_false]
    by_cases h1 : i < 0
    · rw [decide_eq_true h1]; exact .inr ⟨rfl, by omega⟩
    · rw [decide_eq_false h1, cond_false]
      by_cases h2 : i ≥ ((onL x.items.D l).length : Int)
      · rw [decide_eq_true h2]; exact .inr ⟨rfl, by omega⟩
      · rw [decide_eq_false h2]; exact .inl ⟨rfl, by omega, by omega⟩
theorem cut_view {n : Net} (ho : okN n) (l : Link) (i : Int) (l' : Link) : (qOf (nCut n l i).1.of_ l').D = if l' = l then (qOf n.of_ l).D.eraseIdx i.toNat else (qOf n.of_ l').D := by
  unfold nCut
  cases h1 : ((List.eraseIdx (((mGet kLink l n.of_).getD (Sl.mk true [])).D) (i).toNat).length : Int) == 0
  · show (qOf (mSet kLink l _ n.of_) l').D = _
    rw [qOf_set]
    split <;> rfl
  · have h0 : ((qOf n.of_ l).D.eraseIdx i.toNat) = [] := by
      have : (List.eraseIdx (((mGet kLink l n.of_).getD (Sl.mk true [])).D) (i).toNat).length = 0 := by simpa using h1
      exact List.eq_nil_of_length_eq_zero this
    show (qOf (mDel kLink l n.of_) l').D = _
    rw [qOf_del ho.1, h0]
    split <;> rfl
theorem cut_rest (n : Net) (l : Link) (i : Int) : (nCut n l i).1.side = n.side ∧ (nCut n l i).1.lost = n.lost ∧ (nCut n l i).1.made = n.made ∧ (nCut n l i).2 = (qOf n.of_ l).D[i.toNat]! := by
  unfold nCut
  cases ((List.eraseIdx (((mGet kLink l n.of_).getD (Sl.mk true [])).D) (i).toNat).length : Int) == 0 <;> exact ⟨rfl, rfl, rfl, rfl⟩
/-- The document's net without a message. -/
def cutX (x : Net51) (l : Link) (i : Int) : Net51 := (Net51.mk (Sl.mk false ((x.items.D.take ((rPlace x l i).toNat)) ++ (x.items.D.drop ((IntKind.i64.wrap ((rPlace x l i) + 1)).toNat)))) x.side x.lost)
theorem Rel.cut {N : Nat} {n : Net} {x : Net51} (h : Rel N n x) (hN : N ≤ 1000000) {l : Link} {i : Int} (hi : 0 ≤ i ∧ i < ((onL x.items.D l).length : Int)) :
    Rel (N + 1) (nCut n l i).1 (cutX x l i) ∧ strOf (nCut n l i).2.D = x.items.D[(rPlace x l i).toNat]!.b ∧ ¬ rPlace x l i < 0 ∧ ((nCut n l i).2.nil = true → (nCut n l i).2.D = []) := by
  have hxl := h.okR.2
  obtain ⟨p, e1, hp, e2, e3, e4⟩ := (rPlace_eq x l i (by omega)).1 hi
  have hneg : ¬ rPlace x l i < 0 := by omega
  have hr := cut_rest n l i
  have hc : x.items.D.take ((rPlace x l i).toNat) ++ x.items.D.drop ((IntKind.i64.wrap ((rPlace x l i) + 1)).toNat) = x.items.D.take p ++ x.items.D.drop (p + 1) := by
    rw [wrap1 (by omega) (by omega), e1]; rfl
  have hq := h.len l
  have hf : fitsL l = true := by
    have := rRight_le (h.okR.1 x.items.D[p]! (by rw [getElem!_pos _ p hp]; exact List.getElem_mem _))
    have h2 := h.okR.1 x.items.D[p]! (by rw [getElem!_pos _ p hp]; exact List.getElem_mem _)
    rw [e2] at h2; exact h2
  refine ⟨⟨cut_ok h.ok l i, cutF h.okF l i hf, ⟨(rCut h.okR hN l i (decide_eq_false hneg)).1, Nat.le_trans (rCut h.okR hN l i (decide_eq_false hneg)).2 (Nat.le_succ_of_le hxl)⟩, hr.2.2.1.trans h.made, fun l' => ?_, hr.2.1.trans h.lost, fun j hj => by rw [hr.1]; exact h.side j hj⟩, ?_, hneg, ?_⟩
  · rw [cut_view h.ok]
    show _ = onL (x.items.D.take ((rPlace x l i).toNat) ++ x.items.D.drop ((IntKind.i64.wrap ((rPlace x l i) + 1)).toNat)) l'
    rw [hc, e4 l']
    by_cases hl : l' = l
    · rw [if_pos hl, if_pos hl, ← h.on l, List.eraseIdx_eq_take_drop_succ, List.eraseIdx_eq_take_drop_succ, List.map_append, List.map_take, List.map_drop]
    · rw [if_neg hl, if_neg hl]; exact h.on l'
  · rw [hr.2.2.2, e1, Int.toNat_natCast, ← e3]
    exact h.at l (by omega)
  · rw [hr.2.2.2, getElem!_pos _ i.toNat (by omega)]
    exact ((h.ok.q l).2.2 _ (List.getElem_mem _)).1
theorem Rel.more {N M : Nat} {n : Net} {x : Net51} (h : Rel N n x) (hM : N ≤ M) : Rel M n x := ⟨h.ok, h.okF, ⟨h.okR.1, Nat.le_trans h.okR.2 hM⟩, h.made, h.on, h.lost, h.side⟩
/-- What a call answers, by the code and by the document. -/
def Same (a : Net × (Sl Int) × Bool × Int) (b : Net51 × ByteArray × Bool × Int) : Prop := strOf a.2.1.D = b.2.1 ∧ a.2.2.1 = b.2.2.1 ∧ a.2.2.2 = b.2.2.2
theorem Rel.take {N : Nat} {n : Net} {x : Net51} (h : Rel N n x) (hN : N ≤ 1000000) (l : Link) (i : Int) : Rel (N + 1) (nTake n l i).1 (rTake x l i).1 ∧ Same (nTake n l i) (rTake x l i) := by
  unfold nTake rTake
  rcases h.able l i with ⟨ha, hi⟩ | ⟨ha, hi⟩
  · obtain ⟨h1, h2, h3, h4⟩ := h.cut hN hi
    rw [ha, show ((0 : Int) != 0) = false from rfl, cond_false, decide_eq_false h3, cond_false]
    have hs := rTake_ix h.okR.1 (decide_eq_false h3)
    have s1 : mHas (nCut n l i).1.side ((l.from_.toNat : Nat) : Int) = x.side l.from_.toNat := h1.side l.from_.toNat (by omega)
    have s2 : mHas (nCut n l i).1.side ((l.to.toNat : Nat) : Int) = x.side l.to.toNat := h1.side l.to.toNat (by omega)
    rw [Int.toNat_of_nonneg (by omega)] at s1 s2
    rw [s1, s2]
    cases !(x.side l.from_.toNat == x.side l.to.toNat)
    · refine ⟨h1, ?_, rfl, rfl⟩
      show strOf (cloneBytes (nCut n l i).2).D = _
      rw [clone_D h4]; exact h2
    · exact ⟨h1, rfl, rfl, rfl⟩
  · have h3 := (rPlace_eq x l i (Nat.le_trans h.okR.2 hN)).2 hi
    rw [ha, show ((40 : Int) != 0) = true from rfl, cond_true, h3]
    exact ⟨h.more (Nat.le_succ _), rfl, rfl, rfl⟩
theorem Rel.lose {N : Nat} {n : Net} {x : Net51} (h : Rel N n x) (hN : N ≤ 1000000) (l : Link) (i : Int) : Rel (N + 1) (nLose n l i).1 (rLose x l i).1 ∧ (nLose n l i).2 = (rLose x l i).2 := by
  unfold nLose rLose
  rcases h.able l i with ⟨ha, hi⟩ | ⟨ha, hi⟩
  · obtain ⟨h1, h2, h3, h4⟩ := h.cut hN hi
    rw [ha, show ((0 : Int) != 0) = false from rfl, cond_false, decide_eq_false h3, cond_false]
    exact ⟨h1, rfl⟩
  · have h3 := (rPlace_eq x l i (Nat.le_trans h.okR.2 hN)).2 hi
    rw [ha, show ((40 : Int) != 0) = true from rfl, cond_true, h3]
    exact ⟨h.more (Nat.le_succ _), rfl⟩
theorem Rel.put {N : Nat} {n : Net} {x : Net51} (h : Rel N n x) {l : Link} (hl : fitsL l = true) {b : Sl Int} (hb : okB b) (hq : (qOf n.of_ l).D.length < 8) {f : Bool} {D : List (Sl Int)} (hD : D = (qOf n.of_ l).D ++ [b]) :
    Rel (N + 1) (Net.mk (mSet kLink l (Sl.mk false D) n.of_) n.side n.lost n.made) (Net51.mk (Sl.mk f (x.items.D ++ [Item.mk l (strOf b.D)])) x.side x.lost) := by
  subst hD
  have hx := h.okR.2
  refine ⟨h.ok.set l (okQ_more (h.ok.q l) hq hb) _ _ _, wrap_set h.okF l _ hl (by simp), ⟨fun y hy => ?_, by show (x.items.D ++ [_]).length ≤ _; rw [List.length_append, List.length_singleton]; omega⟩, h.made, fun l' => ?_, h.lost, h.side⟩
  · rcases List.mem_append.1 hy with hy | hy
    · exact h.okR.1 y hy
    · rw [List.mem_singleton.1 hy]; exact hl
  · show (qOf (mSet kLink l _ n.of_) l').D.map _ = onL (x.items.D ++ [_]) l'
    rw [qOf_set, onL_append, onL_one]
    by_cases hll : l' = l
    · rw [if_pos hll, if_pos hll, List.map_append, h.on l, hll]; rfl
    · rw [if_neg hll, if_neg hll, List.append_nil]; exact h.on l'
theorem Rel.double {N : Nat} {n : Net} {x : Net51} (h : Rel N n x) (hN : N ≤ 1000000) (l : Link) (i : Int) : Rel (N + 1) (nDouble n l i).1 (rDouble x l i).1 ∧ (nDouble n l i).2 = (rDouble x l i).2 := by
  unfold nDouble rDouble
  have hxl := h.okR.2
  have hlen : ((((mGet kLink l n.of_).getD (Sl.mk true [])).D).length : Int) = rLen x l := by
    rw [rLen_eq x l (by omega), ← h.len l]; rfl
  rcases h.able l i with ⟨ha, hi⟩ | ⟨ha, hi⟩
  · obtain ⟨p, e1, hp, e2, e3, _⟩ := (rPlace_eq x l i (by omega)).1 hi
    rw [ha, show ((0 : Int) != 0) = false from rfl, cond_false, decide_eq_false (show ¬ rPlace x l i < 0 by omega), cond_false, hlen]
    by_cases h8 : rLen x l ≥ 8
    · rw [decide_eq_true h8]; exact ⟨h.more (Nat.le_succ _), rfl⟩
    · rw [decide_eq_false h8, cond_false, cond_false, e1, Int.toNat_natCast]
      have hl2 := h.len l
      have hb : okB (qOf n.of_ l).D[i.toNat]! := by
        rw [getElem!_pos _ i.toNat (by omega)]
        exact (h.ok.q l).2.2 _ (List.getElem_mem _)
      have hf : fitsL l = true := by
        have h2 := h.okR.1 x.items.D[p]! (by rw [getElem!_pos _ p hp]; exact List.getElem_mem _)
        rw [e2] at h2; exact h2
      have r := h.put hf hb (f := false) (by unfold qOf; omega) rfl
      rw [h.at l (by omega), e3] at r
      have e5 : Item.mk l x.items.D[p]!.b = x.items.D[p]! := by rw [← e2]
      rw [e5] at r
      exact ⟨r, rfl⟩
  · have h3 := (rPlace_eq x l i (Nat.le_trans h.okR.2 hN)).2 hi
    rw [ha, show ((40 : Int) != 0) = true from rfl, cond_true, h3]
    exact ⟨h.more (Nat.le_succ _), rfl⟩
theorem Rel.send {N : Nat} {n : Net} {x : Net51} (h : Rel N n x) (hN : N ≤ 1000000) (l : Link) {b : Sl Int} (hb : b.nil = true → b.D = []) : Rel (N + 1) (nSend n l b).1 (rSend x l b).1 ∧ (nSend n l b).2 = (rSend x l b).2 := by
  unfold nSend rSend
  have hxl := h.okR.2
  have hlen : ((((mGet kLink l n.of_).getD (Sl.mk true [])).D).length : Int) = rLen x l := by
    rw [rLen_eq x l (by omega), ← h.len l]; rfl
  have hd : nDead n = false := by unfold nDead; rw [h.made]; rfl
  have hfr : fitsL l = rRight l := rfl
  rw [hd, cond_false, hlen, hfr]
  cases hf : rRight l
  · exact ⟨h.more (Nat.le_succ _), rfl⟩
  rw [show (!true) = false from rfl, cond_false, cond_false]
  by_cases h4 : (b.D.length : Int) > 8192
  · rw [decide_eq_true h4]; exact ⟨h.more (Nat.le_succ _), rfl⟩
  rw [decide_eq_false h4, cond_false, cond_false]
  by_cases h8 : rLen x l ≥ 8
  · rw [decide_eq_true h8, cond_true, cond_true]
    refine ⟨⟨h.ok.same _ _ _, h.okF, ⟨h.okR.1, Nat.le_succ_of_le hxl⟩, h.made, h.on, ?_, h.side⟩, rfl⟩
    show IntKind.i64.wrap (n.lost + 1) = IntKind.i64.wrap (x.lost + 1)
    rw [h.lost]
  rw [decide_eq_false h8, cond_false, cond_false]
  have e : strOf (cloneBytes b).D = strOf b.D := by rw [clone_D hb]
  have hk : okB (cloneBytes b) := okB_clone (by omega)
  cases h5 : ((mGet kLink l n.of_).getD (Sl.mk true [])).nil
  · have r := h.put hf hk (f := false) (by unfold qOf; omega) rfl
    rw [e] at r
    exact ⟨r, rfl⟩
  · have h6 : (qOf n.of_ l).D = [] := (h.ok.q l).1 h5
    have r := h.put hf hk (f := false) (by unfold qOf; omega) (D := [cloneBytes b]) (by rw [h6]; rfl)
    rw [e] at r
    exact ⟨r, rfl⟩
theorem Rel.wall {N : Nat} {n : Net} {x : Net51} (h : Rel N n x) {w : Int} (hw : 0 ≤ w ∧ w < 18446744073709551616) : Rel (N + 1) (nWall n w).1 (Net51.mk x.items (fromW w) x.lost) ∧ (nWall n w).2 = 0 := by
  have hd : nDead n = false := by unfold nDead; rw [h.made]; rfl
  unfold nWall
  rw [hd, cond_false]
  exact ⟨⟨h.ok, h.okF, ⟨h.okR.1, Nat.le_succ_of_le h.okR.2⟩, h.made, h.on, h.lost, fun j hj => side_at hw hj⟩, rfl⟩
theorem Rel.forget {N : Nat} {n : Net} {x : Net51} (h : Rel N n x) (p : Int) : Rel (N + 1) (nForget n p).1 (rForget x p) ∧ (nForget n p).2 = 0 := by
  have hd : nDead n = false := by unfold nDead; rw [h.made]; rfl
  obtain ⟨f1, f2, f3⟩ := rForget_eq x p
  have g1 := forget_ok h.ok p
  unfold nForget at g1 ⊢
  rw [hd, cond_false] at g1 ⊢
  refine ⟨⟨g1, fun e he => h.okF e (List.mem_filter.1 he).1, ⟨fun y hy => ?_, ?_⟩, h.made, fun l' => ?_, h.lost.trans f3.symm, fun j hj => by rw [f2]; exact h.side j hj⟩, rfl⟩
  · rw [f1] at hy; exact h.okR.1 y (List.mem_filter.1 hy).1
  · rw [f1]; exact Nat.le_trans (List.length_filter_le _ _) (Nat.le_succ_of_le h.okR.2)
  · rw [f1, onL_filter]
    show (qOf (n.of_.filter fun e => keepF p e.1) l').D.map _ = _
    rw [qOf_filter]
    cases keepF p l'
    · rfl
    · exact h.on l'
/-- A call keeps them together, and answers the same. -/
theorem Rel.step {N : Nat} {n : Net} {x : Net51} (h : Rel N n x) (hN : N ≤ 1000000) (k : Do) (hb : k.b.nil = true → k.b.D = []) (hw : 0 ≤ k.side ∧ k.side < 18446744073709551616) : Rel (N + 1) (does n k).1 (also x k).1 ∧ Same (does n k) (also x k) := by
  unfold does also
  generalize (IntKind.i64.wrap ((IntKind.u64.wrap k.op).tmod 9)) = o
  cases o == 3
  case true => exact h.take hN k.l k.i
  rw [cond_false, cond_false]
  cases o == 4
  case true => exact h.take hN k.l k.i
  rw [cond_false, cond_false]
  cases o == 5
  case true => exact ⟨(h.lose hN k.l k.i).1, rfl, rfl, (h.lose hN k.l k.i).2⟩
  rw [cond_false, cond_false]
  cases o == 6
  case true => exact ⟨(h.double hN k.l k.i).1, rfl, rfl, (h.double hN k.l k.i).2⟩
  rw [cond_false, cond_false]
  cases o == 7
  case true => exact ⟨(h.wall hw).1, rfl, rfl, (h.wall hw).2⟩
  rw [cond_false, cond_false]
  cases o == 8
  case true => exact ⟨(h.forget k.i).1, rfl, rfl, (h.forget k.i).2⟩
  exact ⟨(h.send hN k.l hb).1, rfl, rfl, (h.send hN k.l hb).2⟩
end Go.Proofs.Ytpeeofofagfooaa
namespace Go.Proofs.Ytpeeofofagfooaa
open Go.Am
def eqLinks_l0 (s2 : (Sl Link)) : List Link → Nat → Bool
  | [], _ => true
  | x :: xs, i => (bif (!((x.from_ == (s2.D[(i : Int).toNat]!.from_)) && ((x.to == (s2.D[(i : Int).toNat]!.to)) && true))) then false else eqLinks_l0 s2 xs (i + 1) )
def eqLinks (s1 : (Sl Link)) (s2 : (Sl Link)) : Bool :=
  (bif ((s1.D.length : Int) != (s2.D.length : Int)) then false else eqLinks_l0 s2 s1.D 0 )
theorem eqLinks_calls (s1 : (Sl Link)) (s2 : (Sl Link)) (_hl1 : s1.D.length ≤ 9223372036854775807) : PCalls Try.prog 23 [sS (some s1.nil) eLink s1.D, sS (some s2.nil) eLink s2.D] (.pv (.lit (.bool (eqLinks s1 s2)))) := by
 generalize hR : eqLinks s1 s2 = R
 refine PCalls.of_body tabOk Try.func23 rfl rfl rfl rfl rfl mixed fun E hP C hI => ?_
 refine Awp.consP C ?_
 refine rvP C (.pv (.lit (.bool false))) ?_
 refine rvc_nil ?_
 refine Awp.seq ?_
 refine Awp.consP C ?_
 refine rvP C (sS (some s1.nil) eLink s1.D) ?_
 refine rvP C (.pv (.lit (.int .i64 (s1.D.length : Int)))) ?_
 refine rvP C (sS (some s2.nil) eLink s2.D) ?_
 refine rvP C (.pv (.lit (.int .i64 (s2.D.length : Int)))) ?_
 refine rvP C (.pv (.lit (.bool ((s1.D.length : Int) != (s2.D.length : Int))))) ?_
 refine rvc_nil ?_
 refine Awp.cond (b := ((s1.D.length : Int) != (s2.D.length : Int))) rfl (fun h1 => ?_) (fun h1 => ?_)
 ·
  replace hR := of_true h1 hR
  refine Awp.consP C ?_
  refine rvP C (.pv (.lit (.bool false))) ?_
  refine rvc_nil ?_
  refine Awp.ret ?_
  subst hR
  exact ⟨.inl rfl, rfl⟩
 ·
  replace hR := of_false h1 hR
  refine Awp.skip ?_
  refine Awp.seq ?_
  refine Awp.consP C ?_
  refine rvP C (sS (some s1.nil) eLink s1.D) ?_
  refine rvP C (.pv (.lit (.int .i64 (s1.D.length : Int)))) ?_
  refine rvP C (.pv (.lit (.int .i64 0))) ?_
  refine rvc_nil ?_
  refine Awp.block ?_
  refine Awp.forR (σ := Unit) (s1.D.length) (fun i _v => [(0, sS (some s1.nil) eLink s1.D), (1, sS (some s2.nil) eLink s2.D), (12, .pv (.lit (.int .i64 (s1.D.length : Int)))), (13, .pv (.lit (.int .i64 (i : Int))))]) (fun i _v => []) [] (fun i _v => eqLinks_l0 s2 (s1.D.drop i) i  = R) () ?_ ?_ (fun i _v h2 hR => ?_)
  · exact hR
  · exact ⟨fun b => b, WeakerR.ofL (Ks := []) hI ⟨⟨rfl, rfl⟩, ⟨rfl, rfl⟩, ⟨rfl, rfl⟩, ⟨rfl, rfl⟩, trivial⟩ (okH_nil) rfl⟩
  refine Awp.consP C ?_
  refine rvP C (.pv (.lit (.bool (decide ((i : Int) < (s1.D.length : Int)))))) ?_
  refine rvc_nil ?_
  refine Awp.seq ?_
  refine Awp.cond (b := (decide ((i : Int) < (s1.D.length : Int)))) rfl (fun h3 => ?_) (fun h3 => ?_)
  ·
   have h4 : i < s1.D.length := by have := of_decide_eq_true h3; omega
   obtain ⟨x, h5⟩ := getX h4
   rw [drop_at h5] at hR
   refine Awp.skip ?_
   refine Awp.seq ?_
   refine Awp.block ?_
   refine Awp.consP C ?_
   refine rvP C (.pv (.lit (.int .i64 (i : Int)))) ?_
   refine rvP C (.pv (.lit (.int .i64 (i : Int)))) ?_
   refine rvc_nil ?_
   refine Awp.consP C ?_
   refine rvP C (sS (some s1.nil) eLink s1.D) ?_
   refine rvP C (.pv (.lit (.int .i64 (i : Int)))) ?_
   refine rvc_un (rexec_idxS C rfl rfl rfl rfl rfl rfl x (Int.natCast_nonneg _) h5 ?_)
   refine rvP C (.agg [.pv (.lit (.int .i64 x.from_)), .pv (.lit (.int .i64 x.to))]) ?_
   refine rvP C (sS (some s2.nil) eLink s2.D) ?_
   refine rvP C (.pv (.lit (.int .i64 (i : Int)))) ?_
   have h6 : s2.D[(i : Int).toNat]? = some s2.D[(i : Int).toNat]! := getE (by have := eq_of_bne_false h1; have := of_decide_eq_true h3; omega)
   refine rvc_un (rexec_idxS C rfl rfl rfl rfl rfl rfl (s2.D[(i : Int).toNat]!) (Int.natCast_nonneg _) h6 ?_)
   refine rvP C (.agg [.pv (.lit (.int .i64 (s2.D[(i : Int).toNat]!.from_))), .pv (.lit (.int .i64 (s2.D[(i : Int).toNat]!.to)))]) ?_
   refine rvP C (.pv (.lit (.bool (!((x.from_ == (s2.D[(i : Int).toNat]!.from_)) && ((x.to == (s2.D[(i : Int).toNat]!.to)) && true)))))) ?_
   refine rvc_nil ?_
   refine Awp.cond (b := (!((x.from_ == (s2.D[(i : Int).toNat]!.from_)) && ((x.to == (s2.D[(i : Int).toNat]!.to)) && true)))) rfl (fun h7 => ?_) (fun h7 => ?_)
   ·
    replace hR := of_true h7 hR
    refine Awp.consP C ?_
    refine rvP C (.pv (.lit (.bool false))) ?_
    refine rvc_nil ?_
    refine Awp.ret ?_
    subst hR
    exact ⟨.inl rfl, rfl⟩
   ·
    replace hR := of_false h7 hR
    refine Awp.skip ?_
    refine Awp.regionP C ?_
    refine rvP C (.pv (.lit (.int .i64 (IntKind.i64.wrap ((i : Int) + 1))))) ?_
    refine rvP C (.pv (.lit (.int .i64 (IntKind.i64.wrap ((i : Int) + 1))))) ?_
    refine rvc_nil ?_
    refine ⟨h4, (), ?_, ?_⟩
    · exact hR
    · exact ⟨fun b => b, WeakerR.ofL (Ks := []) hI ⟨⟨rfl, rfl⟩, ⟨rfl, rfl⟩, ⟨rfl, rfl⟩, ⟨lit_cast (wrap_i64 (by omega) (by omega)), rfl⟩, trivial⟩ (okH_nil) rfl⟩
  ·
   have h4 : ¬ i < s1.D.length := by have := of_decide_eq_false h3; omega
   rw [drop_end h4] at hR
   refine Awp.exit ?_
   refine Awp.consP C ?_
   refine rvP C (.pv (.lit (.bool true))) ?_
   refine rvc_nil ?_
   refine Awp.ret ?_
   subst hR
   exact ⟨.inl rfl, rfl⟩
def same_l1 (n : Net) (x : Net51) (x1 : Link) (kk : Bool) : Nat → Nat → Bool
  | 0, _ => kk 
  | k + 1, i1 => (bif (!((strOf ((nPeek n x1 (i1 : Int)).1.D)).toList == ((rPeek x x1 (i1 : Int)).1).toList)) then false else (bif (((nPeek n x1 (i1 : Int)).2) != ((rPeek x x1 (i1 : Int)).2)) then false else same_l1 n x x1 kk k (i1 + 1) ))
def same_l0 (n : Net) (x : Net51) : List Link → Nat → Bool
  | [], _ => true
  | x1 :: x1s, i => same_l1 n x x1 (same_l0 n x x1s (i + 1) ) (rLen x x1).toNat 0
def same (n : Net) (x : Net51) : Bool :=
  (bif (!(eqLinks (nBusy n) (rBusy x))) then false else (bif ((nLost n) != x.lost) then false else same_l0 n x ((rBusy x).D) 0 ))
end Go.Proofs.Ytpeeofofagfooaa
namespace Go.Proofs.Ytpeeofofagfooaa
open Go.Am
theorem eqLinks_l0_drop (s2 : Sl Link) : ∀ (l : List Link) (i : Nat), l = s2.D.drop i → eqLinks_l0 s2 l i = true
  | [], _, _ => rfl
  | x :: xs, i, h => by
    have hi : i < s2.D.length := by
      have := congrArg List.length h
      rw [List.length_cons, List.length_drop] at this; omega
    rw [List.drop_eq_getElem_cons hi] at h
    injection h with h1 h2
    have e : s2.D[(i : Int).toNat]! = x := by
      rw [Int.toNat_natCast, getElem!_pos _ i hi]; exact h1.symm
    unfold eqLinks_l0
    rw [e, eqLinks_l0_drop s2 xs (i + 1) h2]
    simp
theorem eqLinks_same {s1 s2 : Sl Link} (h : s1.D = s2.D) : eqLinks s1 s2 = true := by
  unfold eqLinks
  rw [h, eqLinks_l0_drop s2 s2.D 0 rfl]
  simp
theorem all_grid : ((List.range' 0 32).flatMap fun (i : Nat) => (List.range' 0 32).map fun (j : Nat) => Link.mk (i : Int) (j : Int)) = allLinks := by decide +kernel
theorem gridR_eq (x : Net51) : gridR x 32 0 = allLinks.filter fun l => decide (rLen x l > 0) := by
  rw [← all_grid, List.filter_flatMap]
  unfold gridR rowR
  exact Eq.refl _
theorem Rel.busy {N : Nat} {n : Net} {x : Net51} (h : Rel N n x) (hN : N ≤ 1000000) : (nBusy n).D = (rBusy x).D := by
  have hd : nDead n = false := by unfold nDead; rw [h.made]; rfl
  unfold nBusy
  rw [hd, cond_false, rBusy_eq, gridR_eq]
  dsimp only
  unfold busyOf
  refine List.filter_congr fun l _ => ?_
  rw [rLen_eq x l (Nat.le_trans h.okR.2 hN), ← h.len l]
  unfold qOf
  cases hg : mGet kLink l n.of_ with
  | none => simp
  | some q =>
    obtain ⟨e, he, _, e2⟩ := mGet_mem hg
    have := (h.okF e he).2
    rw [e2] at this
    have h2 : 0 < q.D.length := List.length_pos_iff.2 this
    rw [Option.getD_some, Option.isSome_some, decide_eq_true (by omega)]
theorem Rel.peek {N : Nat} {n : Net} {x : Net51} (h : Rel N n x) (hN : N ≤ 1000000) (l : Link) (i : Int) : strOf (nPeek n l i).1.D = (rPeek x l i).1 ∧ (nPeek n l i).2 = (rPeek x l i).2 := by
  unfold nPeek rPeek
  rcases h.able l i with ⟨ha, hi⟩ | ⟨ha, hi⟩
  · have hxl := h.okR.2
    obtain ⟨p, e1, hp, e2, e3, _⟩ := (rPlace_eq x l i (by omega)).1 hi
    have hl2 := h.len l
    rw [ha, show ((0 : Int) != 0) = false from rfl, cond_false, decide_eq_false (show ¬ rPlace x l i < 0 by omega), cond_false, e1, Int.toNat_natCast]
    refine ⟨?_, rfl⟩
    have hb : okB (qOf n.of_ l).D[i.toNat]! := by
      rw [getElem!_pos _ i.toNat (by omega)]
      exact (h.ok.q l).2.2 _ (List.getElem_mem _)
    show strOf (cloneBytes (qOf n.of_ l).D[i.toNat]!).D = _
    rw [clone_D hb.1, h.at l (by omega), e3]
  · have h3 := (rPlace_eq x l i (Nat.le_trans h.okR.2 hN)).2 hi
    rw [ha, show ((40 : Int) != 0) = true from rfl, cond_true, h3]
    exact ⟨rfl, rfl⟩
theorem rel_new : Rel 0 newN (Net51.mk (Sl.mk true []) (ofL [false, false, false, false, false, false, false, false, false, false, false, false, false, false, false, false, false, false, false, false, false, false, false, false, false, false, false, false, false, false, false, false, false, false, false, false, false, false, false, false, false, false, false, false, false, false, false, false, false, false, false, false, false, false, false, false, false, false, false, false, false, false, false, false]) 0) :=
  ⟨newN_ok, newN_okF, ⟨(fun _ h => by cases h), Nat.le_refl _⟩, rfl, fun _ => rfl, rfl, by decide +kernel⟩
end Go.Proofs.Ytpeeofofagfooaa
namespace Go.Proofs.Ytpeeofofagfooaa
open Go.Am
end Go.Proofs.Ytpeeofofagfooaa
namespace Go.Proofs.Ytpeeofofagfooaa
open Go.Am
end Go.Proofs.Ytpeeofofagfooaa
namespace Go.Proofs.Ytpeeofofagfooaa
open Go.Am
end Go.Proofs.Ytpeeofofagfooaa
namespace Go.Proofs.Ytpeeofofagfooaa
open Go.Am
end Go.Proofs.Ytpeeofofagfooaa
namespace Go.Proofs.Ytpeeofofagfooaa
open Go.Am
end Go.Proofs.Ytpeeofofagfooaa
namespace Go.Proofs.Ytpeeofofagfooaa
open Go.Am
end Go.Proofs.Ytpeeofofagfooaa
namespace Go.Proofs.Ytpeeofofagfooaa
open Go.Am
theorem awake_true : awake = true := by decide +kernel
end Go.Proofs.Ytpeeofofagfooaa
namespace Go.Proofs.Ytpeeofofagfooaa
open Go.Am
def goodD (y : Do) : Prop := (y.b.nil = true → y.b.D = []) ∧ 0 ≤ y.side ∧ y.side < 18446744073709551616
end Go.Proofs.Ytpeeofofagfooaa
namespace Go.Proofs.Ytpeeofofagfooaa
open Go.Am
set_option maxRecDepth 100000 in
theorem flat3 {m : Nat} {ps : List PV} (h : Flat Try.prog (m + 1) 3 ps) : ∃ n, ps = [.lit (.int .i64 n)] ∧ (Lit.int .i64 n).wf = true := by
  unfold Flat at h
  rw [Try.underlying3] at h
  exact h
def WT29 (x : Link) : Prop := (Lit.int .i64 x.from_).wf = true ∧ (Lit.int .i64 x.to).wf = true
set_option maxRecDepth 100000 in
theorem flat29 {m : Nat} {ps : List PV} (h : Flat Try.prog (m + 2) 29 ps) : ∃ x : Link, ps = eLink.enc x ∧ WT29 x := by
  unfold Flat at h
  rw [Try.underlying29] at h
  obtain ⟨a0, b0, e0, h0, a1, b1, e1, h1, el⟩ := h
  obtain ⟨x0, rfl, w0⟩ := flat3 (m := m + 0) h0
  obtain ⟨x1, rfl, w1⟩ := flat3 (m := m + 0) h1
  subst el
  subst e1
  subst e0
  exact ⟨⟨x0, x1⟩, rfl, w0, w1⟩
set_option maxRecDepth 100000 in
theorem flat5 {m : Nat} {ps : List PV} (h : Flat Try.prog (m + 1) 5 ps) : ∃ n, ps = [.lit (.int .u8 n)] ∧ (Lit.int .u8 n).wf = true := by
  unfold Flat at h
  rw [Try.underlying5] at h
  exact h
def WT30 (s : Sl Int) : Prop := s.D.length ≤ maxLen ∧ (s.nil = true → s.D = []) ∧ ∀ x ∈ s.D, (Lit.int .u8 x).wf = true
set_option maxRecDepth 100000 in
theorem flat30 {m : Nat} {ps : List PV} (h : Flat Try.prog (m + 2) 30 ps) : ∃ s : Sl Int, ps = [.sl (some s.nil) s.D.length (encL (eI .u8) s.D)] ∧ WT30 s := by
  unfold Flat at h
  rw [Try.underlying30] at h
  obtain ⟨b, D, rfl, h1, h2, h3⟩ := h
  obtain ⟨D2, e1, e2, e3⟩ := enc_list (e := (eI .u8)) (W := fun x => (Lit.int .u8 x).wf = true) D fun y hy => flat5 (h3 y hy)
  rw [e2, ← e1]
  exact ⟨⟨b, D2⟩, rfl, (by show D2.length ≤ _; rw [e1]; exact h1), (fun hb => by have := h2 hb; rw [this] at e1; exact List.eq_nil_of_length_eq_zero e1), e3⟩
set_option maxRecDepth 100000 in
theorem flat31 {m : Nat} {ps : List PV} (h : Flat Try.prog (m + 1) 31 ps) : ∃ n, ps = [.lit (.int .u64 n)] ∧ (Lit.int .u64 n).wf = true := by
  unfold Flat at h
  rw [Try.underlying31] at h
  exact h
def WT33 (x : Do) : Prop := (Lit.int .i64 x.op).wf = true ∧ (Lit.int .i64 x.i).wf = true ∧ WT29 x.l ∧ WT30 x.b ∧ (Lit.int .u64 x.side).wf = true
set_option maxRecDepth 100000 in
theorem flat33 {m : Nat} {ps : List PV} (h : Flat Try.prog (m + 3) 33 ps) : ∃ x : Do, ps = eDo.enc x ∧ WT33 x := by
  unfold Flat at h
  rw [Try.underlying33] at h
  obtain ⟨a0, b0, e0, h0, a1, b1, e1, h1, a2, b2, e2, h2, a3, b3, e3, h3, a4, b4, e4, h4, el⟩ := h
  obtain ⟨x0, rfl, w0⟩ := flat3 (m := m + 1) h0
  obtain ⟨x1, rfl, w1⟩ := flat3 (m := m + 1) h1
  obtain ⟨x2, rfl, w2⟩ := flat29 (m := m + 0) h2
  obtain ⟨x3, rfl, w3⟩ := flat30 (m := m + 0) h3
  obtain ⟨x4, rfl, w4⟩ := flat31 (m := m + 1) h4
  subst el
  subst e4
  subst e3
  subst e2
  subst e1
  subst e0
  exact ⟨⟨x0, x1, x2, x3, x4⟩, rfl, w0, w1, w2, w3, w4⟩
def WT22 (s : Sl Do) : Prop := s.D.length ≤ maxLen ∧ (s.nil = true → s.D = []) ∧ ∀ x ∈ s.D, WT33 x
set_option maxRecDepth 100000 in
theorem flat22 {m : Nat} {ps : List PV} (h : Flat Try.prog (m + 4) 22 ps) : ∃ s : Sl Do, ps = [.sl (some s.nil) s.D.length (encL eDo s.D)] ∧ WT22 s := by
  unfold Flat at h
  rw [Try.underlying22] at h
  obtain ⟨b, D, rfl, h1, h2, h3⟩ := h
  obtain ⟨D2, e1, e2, e3⟩ := enc_list (e := eDo) (W := fun x => WT33 x) D fun y hy => flat33 (h3 y hy)
  rw [e2, ← e1]
  exact ⟨⟨b, D2⟩, rfl, (by show D2.length ≤ _; rw [e1]; exact h1), (fun hb => by have := h2 hb; rw [this] at e1; exact List.eq_nil_of_length_eq_zero e1), e3⟩
end Go.Proofs.Ytpeeofofagfooaa
namespace Go.Proofs.Ytpeeofofagfooaa
open Go.Am
theorem WT22.goods {l : Sl Do} (w : WT22 l) : ∀ y ∈ l.D, goodD y := fun y hy => by
  have h := (w.2.2 y hy).2.2.2.2
  simp [Lit.wf, IntKind.min, IntKind.max, IntKind.bits, IntKind.signed] at h
  exact ⟨(w.2.2 y hy).2.2.2.1.2.1, by omega, by omega⟩
end Go.Proofs.Ytpeeofofagfooaa
namespace Go.Proofs.Ytpeeofofagfooaa
open Go.Am
def cloneBytesO (s : (Sl Int)) : List Int :=
  s.D
theorem cloneBytesO_calls (s : (Sl Int)) (hn : s.nil = false) (_hl1 : s.D.length ≤ 1000000) : OCalls Try.prog 18 [sS (some s.nil) (eI .u8) s.D] (.sl 0 0 (cloneBytesO s).length 1 false) (.cells (encC (eI .u8) (cloneBytesO s))) := by
 generalize hR : cloneBytesO s = R
 refine OCalls.of_body tabOk Try.func18 rfl rfl rfl rfl rfl (encC_within _ _) mixed fun E hP C hI => ?_
 refine Awp.consP C ?_
 refine rvP C (sS (some true) (eI .u8) []) ?_
 refine rvc_nil ?_
 refine Awp.seq ?_
 refine Awp.consP C ?_
 refine rvP C (sS (some s.nil) (eI .u8) s.D) ?_
 refine rvc_un (rexec_eqNil C (f := s.nil) rfl rfl rfl rfl ?_)
 refine rvc_nil ?_
 refine Awp.condF (b := s.nil) rfl hn ?_
 refine Awp.skip ?_
 refine Awp.consP C ?_
 refine rvc_un (rexec_prim C (δ := { v := .sl 5 0 0 1 true, new := [(5, .cells (encC (eI .u8) []))] }) rfl rfl rfl rfl trivial rfl ?_)
 refine rvP C (sS (some s.nil) (eI .u8) s.D) ?_
 refine rvc_un (rexec_append C rfl rfl rfl rfl rfl rfl rfl rfl (fun _ h => by cases h) rfl (en := (eI .u8)) (D0 := []) (D := s.D) rfl rfl rfl rfl (by first | omega | (simp <;> omega)) (by decide) (nn := s.D.length) (by simp <;> omega) ?_)
 refine rvP C (.sl 7 0 s.D.length 1 false) ?_
 refine rvc_nil ?_
 refine Awp.weakenR (S := [(2, .sl 0 0 s.D.length 1 false)]) (H := [(0, .cells (encC (eI .u8) s.D))]) (U := [0]) (fun x => bif x == 0 then 7 else x) (WeakerR.ofL (Ks := [0]) hI ⟨⟨rfl, rfl⟩, trivial⟩ (okH_list rfl rfl rfl okH_nil) rfl) ?_
 refine Awp.ret ?_
 subst hR
 exact ⟨.inl rfl, rfl, rfl⟩
theorem cloneBytes_of {s : Sl Int} (h : s.nil = false) : cloneBytes s = Sl.mk false s.D := by unfold cloneBytes; rw [h]; rfl
theorem cloneBytes_nil {s : Sl Int} (h : s.nil = true) : cloneBytes s = Sl.mk true [] := by unfold cloneBytes; rw [h]; rfl
theorem cloneBytesO_nil (s : Sl Int) (h : s.nil = true) (hl : s.D.length ≤ 1000000) : PCalls Try.prog 18 [sS (some s.nil) (eI .u8) s.D] (sS (some true) (eI .u8) []) := by
  have r := cloneBytes_calls s hl
  rw [cloneBytes_nil h] at r
  exact r
theorem cloneBytesW_calls (s : Sl Int) (n_ : Nat) (tt_ : Bool) (hn_ : n_ = s.D.length) (hb : s.nil = false) (hl1 : s.D.length ≤ 1000000) : MCalls Try.prog 18 [.sl 0 0 n_ 1 tt_] (.cells (encC (eI .u8) s.D)) (sS (some (cloneBytes s).nil) (eI .u8) (cloneBytes s).D) (.cells (encC (eI .u8) s.D)) := by
  subst hn_
  rw [cloneBytes_of hb]
  have F := cloneBytesO_calls s hb hl1
  rw [hb] at F
  exact MCalls.of_OCalls (qs := encL (eI .u8) s.D) (ps := encL (eI .u8) s.D) F (fun q hq => by rw [eI_L] at hq; obtain ⟨x, _, rfl⟩ := List.mem_map.1 hq; exact ⟨_, rfl⟩) ⟨.inr ⟨_, _, _, rfl, rfl⟩, trivial⟩ rfl
end Go.Proofs.Ytpeeofofagfooaa
namespace Go.Proofs.Ytpeeofofagfooaa
open Go.Am
def nSendW (n : Net) (l : Link) (b : (Sl Int)) : Net × Int :=
  (bif (nDead n) then (n, 6) else (bif (!(fitsL l)) then (n, 40) else (bif (decide ((b.D.length : Int) > 8192)) then (n, 4) else (bif (decide (((((mGet kLink l n.of_).getD (Sl.mk true [])).D).length : Int) ≥ 8)) then ((Net.mk n.of_ n.side (IntKind.i64.wrap (n.lost + 1)) n.made), 7) else (bif ((mGet kLink l n.of_).getD (Sl.mk true [])).nil then ((Net.mk (mSet kLink l (Sl.mk false [(cloneBytes (Sl.mk false b.D))]) n.of_) n.side n.lost n.made), 0) else ((Net.mk (mSet kLink l (Sl.mk false ((((mGet kLink l n.of_).getD (Sl.mk true [])).D) ++ [(cloneBytes (Sl.mk false b.D))])) n.of_) n.side n.lost n.made), 0))))))
theorem nSendW_calls (n : Net) (l : Link) (b : (Sl Int)) (n_ : Nat) (tt_ : Bool) (hn_ : n_ = b.D.length) (hl1 : b.D.length ≤ 1000000) : ObjCalls Try.prog 28 [.ptr 0 0, .agg [.pv (.lit (.int .i64 l.from_)), .pv (.lit (.int .i64 l.to))], .sl 2 0 n_ 1 tt_] [.mp 1, .pv (.lit (.int .u64 n.side)), .pv (.lit (.int .i64 n.lost)), .pv (.lit (.bool n.made))] [(1, mapE kLink vT77.enc n.of_), (2, .cells (encC (eI .u8) b.D))] (.pv (.lit (.int .i64 ((nSendW n l b).2)))) [.mp 1, .pv (.lit (.int .u64 ((nSendW n l b).1.side))), .pv (.lit (.int .i64 ((nSendW n l b).1.lost))), .pv (.lit (.bool ((nSendW n l b).1.made)))] [(1, mapE kLink vT77.enc ((nSendW n l b).1.of_)), (2, .cells (encC (eI .u8) b.D))] := by
 generalize hR : nSendW n l b = R
 subst hn_
 refine ObjCalls.of_body tabOk Try.func28 rfl rfl rfl rfl rfl (allB_cons (mapE_within _ _) (allB_cons (encC_within _ _) allB_nil)) (of_decide_eq_true rfl) rfl rfl (allB_cons (mapE_within _ _) (allB_cons (encC_within _ _) allB_nil)) (of_decide_eq_true rfl) mixed fun E hP C hI => ?_
 refine Awp.consP C ?_
 refine rvc_un (rexec_prim C (δ := { v := .ptr 4 0, new := [(4, .cells [.pv (.lit (.int .i64 l.from_)), .pv (.lit (.int .i64 l.to))])] }) rfl rfl rfl rfl trivial rfl ?_)
 refine rvP C (.pv (.lit (.int .i64 0))) ?_
 refine rvc_nil ?_
 refine Awp.seq ?_
 refine Awp.block ?_
 refine Awp.cons C (fun _ => .writer) (by kernel_rfl) ?_
 refine rvP C (.ptr 0 0) ?_
 refine rvc_un (rexec_callObj hP C (fun b => bif b == 0 then 0 else bif b == 1 then 1 else b) [] rfl rfl rfl (nDead_calls n) rfl rfl ⟨rfl, trivial⟩ (of_decide_eq_true rfl) rfl (of_decide_eq_true rfl) (of_decide_eq_true rfl) allB_nil allB_nil (allB_cons rfl allB_nil) ?_ rfl (allB_cons rfl allB_nil))
 refine rvP C (.pv (.lit (.bool (nDead n)))) ?_
 refine rvc_nil ?_
 refine Awp.cond (b := (nDead n)) rfl (fun h1 => ?_) (fun h1 => ?_)
 ·
  replace hR := of_true h1 hR
  refine Awp.consP C ?_
  refine rvP C (.pv (.lit (.int .i64 6))) ?_
  refine rvc_nil ?_
  refine Awp.ret ?_
  subst hR
  exact ⟨.inl rfl, rfl, rfl, ⟨rfl, rfl, trivial⟩⟩
 ·
  replace hR := of_false h1 hR
  refine Awp.consP C ?_
  refine rvP C (.agg [.pv (.lit (.int .i64 l.from_)), .pv (.lit (.int .i64 l.to))]) ?_
  refine rvc_un (rexec_call hP C rfl rfl rfl (fitsL_calls l) ?_)
  refine rvP C (.pv (.lit (.bool (!(fitsL l))))) ?_
  refine rvP C (.pv (.lit (.bool (!(fitsL l))))) ?_
  refine rvc_nil ?_
  refine Awp.cond (b := (!(fitsL l))) rfl (fun h2 => ?_) (fun h2 => ?_)
  ·
   replace hR := of_true h2 hR
   refine Awp.consP C ?_
   refine rvP C (.pv (.lit (.int .i64 40))) ?_
   refine rvc_nil ?_
   refine Awp.ret ?_
   subst hR
   exact ⟨.inl rfl, rfl, rfl, ⟨rfl, rfl, trivial⟩⟩
  ·
   replace hR := of_false h2 hR
   refine Awp.consP C ?_
   refine rvP C (.sl 2 0 b.D.length 1 tt_) ?_
   refine rvP C (.pv (.lit (.int .i64 (b.D.length : Int)))) ?_
   refine rvP C (.pv (.lit (.bool (decide ((b.D.length : Int) > 8192))))) ?_
   refine rvP C (.pv (.lit (.bool (decide ((b.D.length : Int) > 8192))))) ?_
   refine rvc_nil ?_
   refine Awp.cond (b := (decide ((b.D.length : Int) > 8192))) rfl (fun h3 => ?_) (fun h3 => ?_)
   ·
    replace hR := of_true h3 hR
    refine Awp.consP C ?_
    refine rvP C (.pv (.lit (.int .i64 4))) ?_
    refine rvc_nil ?_
    refine Awp.ret ?_
    subst hR
    exact ⟨.inl rfl, rfl, rfl, ⟨rfl, rfl, trivial⟩⟩
   ·
    replace hR := of_false h3 hR
    refine Awp.consP C ?_
    refine rvP C (.ptr 0 0) ?_
    refine rvP C (.ptr 0 0) ?_
    refine rvP C (.ptr 0 0) ?_
    refine rvP C (.mp 1) ?_
    refine rvP C (.agg [.pv (.lit (.int .i64 l.from_)), .pv (.lit (.int .i64 l.to))]) ?_
    refine rvc_un (rexec_lookup hP C rfl l (Sl.mk true []) rfl rfl rfl rfl rfl rfl kLink_ok rfl (sS (some ((mGet kLink l n.of_).getD (Sl.mk true [])).nil) (eSl (eI .u8)) (((mGet kLink l n.of_).getD (Sl.mk true [])).D)) rfl ?_)
    refine rvP C (.pv (.lit (.int .i64 ((((mGet kLink l n.of_).getD (Sl.mk true [])).D).length : Int)))) ?_
    refine rvP C (.pv (.lit (.bool (decide (((((mGet kLink l n.of_).getD (Sl.mk true [])).D).length : Int) ≥ 8))))) ?_
    refine rvP C (.pv (.lit (.bool (decide (((((mGet kLink l n.of_).getD (Sl.mk true [])).D).length : Int) ≥ 8))))) ?_
    refine rvc_nil ?_
    refine Awp.cond (b := (decide (((((mGet kLink l n.of_).getD (Sl.mk true [])).D).length : Int) ≥ 8))) rfl (fun h4 => ?_) (fun h4 => ?_)
    ·
     replace hR := of_true h4 hR
     refine Awp.consP C ?_
     refine rvP C (.ptr 0 0) ?_
     refine rvP C (.ptr 0 0) ?_
     refine rvP C (.ptr 0 2) ?_
     refine rvP C (.pv (.lit (.int .i64 n.lost))) ?_
     refine rvP C (.pv (.lit (.int .i64 (IntKind.i64.wrap (n.lost + 1))))) ?_
     refine rvP C (.ptr 0 0) ?_
     refine rvP C (.ptr 0 2) ?_
     refine rvc_un (rexec_prim C (δ := { v := .undef, wr := [(0, some (.cells [.mp 1, .pv (.lit (.int .u64 n.side)), .pv (.lit (.int .i64 (IntKind.i64.wrap (n.lost + 1)))), .pv (.lit (.bool n.made))]))] }) rfl rfl rfl rfl trivial rfl ?_)
     refine rvc_nil ?_
     refine Awp.consP C ?_
     refine rvP C (.pv (.lit (.int .i64 7))) ?_
     refine rvc_nil ?_
     refine Awp.ret ?_
     subst hR
     exact ⟨.inl rfl, rfl, rfl, ⟨rfl, rfl, trivial⟩⟩
    ·
     replace hR := of_false h4 hR
     refine Awp.skip ?_
     refine Awp.cons C (fun o => match o.dst with | some 47 => .writes [2] | some 37 => .reads [0] | some 42 => .reads [0] | some 38 => .reads [4] | some 43 => .reads [4] | some 44 => .reads [1] | some 45 => .writes [45] | some 48 => .writes [] | some 49 => .writes [45, 49] | none => .writer | _ => .pure) (by kernel_rfl) ?_
     refine rvP C (.ptr 0 0) ?_
     refine rvP C (.ptr 0 0) ?_
     refine rvP C (.ptr 0 0) ?_
     refine rvP C (.mp 1) ?_
     refine rvP C (.agg [.pv (.lit (.int .i64 l.from_)), .pv (.lit (.int .i64 l.to))]) ?_
     refine rvP C (.ptr 0 0) ?_
     refine rvP C (.ptr 0 0) ?_
     refine rvP C (.ptr 0 0) ?_
     refine rvP C (.mp 1) ?_
     refine rvP C (.agg [.pv (.lit (.int .i64 l.from_)), .pv (.lit (.int .i64 l.to))]) ?_
     refine rvc_un (rexec_lookup hP C rfl l (Sl.mk true []) rfl rfl rfl rfl rfl rfl kLink_ok rfl (sS (some ((mGet kLink l n.of_).getD (Sl.mk true [])).nil) (eSl (eI .u8)) (((mGet kLink l n.of_).getD (Sl.mk true [])).D)) rfl ?_)
     rcases Bool.eq_false_or_eq_true (((mGet kLink l n.of_).getD (Sl.mk true [])).nil) with h5 | h5
     ·
      replace hR := of_true h5 hR
      refine rvc_un (rexec_call hP C rfl rfl rfl (cloneQO_nil ((mGet kLink l n.of_).getD (Sl.mk true [])) h5 (by have := of_decide_eq_false h3; have := of_decide_eq_false h4; omega)) ?_)
      refine rvP C (.sl 2 0 b.D.length 1 tt_) ?_
      refine rvc_un (rexec_callM hP C (b := 2) rfl rfl rfl (cloneBytesW_calls (Sl.mk false b.D) b.D.length tt_ rfl rfl hl1) rfl rfl ?_)
      refine rvc_un (rexec_buildSliceF C (eSl (eI .u8)) [(cloneBytes (Sl.mk false b.D))] rfl rfl rfl rfl rfl rfl rfl (by decide) rfl ?_)
      refine rvc_un (rexec_appendN C rfl rfl rfl rfl rfl rfl rfl rfl (fun _ h => by cases h) rfl (en := (eSl (eI .u8))) (D := [(cloneBytes (Sl.mk false b.D))]) rfl rfl (by simp) (by have := of_decide_eq_false h3; have := of_decide_eq_false h4; first | omega | (simp <;> omega)) (by decide) (nn := [(cloneBytes (Sl.mk false b.D))].length) rfl ?_)
      refine rvc_un (rexec_mapUpdateO hP C (en := (eSl (eI .u8))) l (Sl.mk false [(cloneBytes (Sl.mk false b.D))]) rfl rfl rfl rfl rfl rfl rfl rfl rfl rfl kLink_ok ?_)
      refine rvc_nil ?_
      refine Awp.consP C ?_
      refine rvP C (.pv (.lit (.int .i64 0))) ?_
      refine rvc_nil ?_
      refine Awp.ret ?_
      subst hR
      exact ⟨.inl rfl, rfl, rfl, ⟨rfl, rfl, trivial⟩⟩
     ·
      replace hR := of_false h5 hR
      refine rvc_un (rexec_callO hP C rfl rfl rfl rfl (cloneQO_calls ((mGet kLink l n.of_).getD (Sl.mk true [])) h5 (by have := of_decide_eq_false h3; have := of_decide_eq_false h4; omega)) ?_)
      refine rvP C (.sl 2 0 b.D.length 1 tt_) ?_
      refine rvc_un (rexec_callM hP C (b := 2) rfl rfl rfl (cloneBytesW_calls (Sl.mk false b.D) b.D.length tt_ rfl rfl hl1) rfl rfl ?_)
      refine rvc_un (rexec_buildSliceF C (eSl (eI .u8)) [(cloneBytes (Sl.mk false b.D))] rfl rfl rfl rfl rfl rfl rfl (by decide) rfl ?_)
      refine rvc_un (rexec_append C rfl rfl rfl rfl rfl rfl rfl rfl (fun _ h => by cases h) rfl (en := (eSl (eI .u8))) (D0 := (((mGet kLink l n.of_).getD (Sl.mk true [])).D)) (D := [(cloneBytes (Sl.mk false b.D))]) rfl rfl rfl (by first | rfl | simp) (by have := of_decide_eq_false h3; have := of_decide_eq_false h4; first | omega | (simp <;> omega)) (by decide) (nn := ((((mGet kLink l n.of_).getD (Sl.mk true [])).D) ++ [(cloneBytes (Sl.mk false b.D))]).length) (by simp <;> omega) ?_)
      refine rvc_un (rexec_mapUpdateO hP C (en := (eSl (eI .u8))) l (Sl.mk false ((((mGet kLink l n.of_).getD (Sl.mk true [])).D) ++ [(cloneBytes (Sl.mk false b.D))])) rfl rfl rfl rfl rfl rfl rfl rfl rfl rfl kLink_ok ?_)
      refine rvc_nil ?_
      refine Awp.consP C ?_
      refine rvP C (.pv (.lit (.int .i64 0))) ?_
      refine rvc_nil ?_
      refine Awp.ret ?_
      subst hR
      exact ⟨.inl rfl, rfl, rfl, ⟨rfl, rfl, trivial⟩⟩
end Go.Proofs.Ytpeeofofagfooaa
namespace Go.Proofs.Ytpeeofofagfooaa
open Go.Am
def nTakeO (n : Net) (l : Link) (i : Int) : Net × (Sl Int) × Bool × Int :=
  (bif ((able n l i) != 0) then (n, (Sl.mk true []), false, (able n l i)) else (bif (!((mHas ((nCut n l i).1.side) l.from_) == (mHas ((nCut n l i).1.side) l.to))) then ((nCut n l i).1, (Sl.mk true []), false, 0) else (bif ((nCut n l i).2).nil then ((nCut n l i).1, (Sl.mk true []), true, 0) else ((nCut n l i).1, (Sl.mk false (((nCut n l i).2).D)), true, 0))))
theorem nTakeO_calls (n : Net) (l : Link) (i : Int) (ho : okN n) (hne : (nTakeO n l i).2.1.nil = false) : ObjCallsR Try.prog 29 [.ptr 0 0, .agg [.pv (.lit (.int .i64 l.from_)), .pv (.lit (.int .i64 l.to))], .pv (.lit (.int .i64 i))] [.mp 1, .pv (.lit (.int .u64 n.side)), .pv (.lit (.int .i64 n.lost)), .pv (.lit (.bool n.made))] [(1, mapE kLink vT77.enc n.of_)] (.tup [.sl 2 0 ((nTakeO n l i).2.1.D.length) 1 false, .pv (.lit (.bool ((nTakeO n l i).2.2.1))), .pv (.lit (.int .i64 ((nTakeO n l i).2.2.2)))]) [.mp 1, .pv (.lit (.int .u64 ((nTakeO n l i).1.side))), .pv (.lit (.int .i64 ((nTakeO n l i).1.lost))), .pv (.lit (.bool ((nTakeO n l i).1.made)))] [(1, mapE kLink vT77.enc ((nTakeO n l i).1.of_)), (2, .cells (encC (eI .u8) ((nTakeO n l i).2.1.D)))] := by
 generalize hR : nTakeO n l i = R
 rw [hR] at hne
 refine ObjCallsR.of_body tabOk Try.func29 rfl rfl rfl rfl rfl (allB_cons (mapE_within _ _) allB_nil) (of_decide_eq_true rfl) rfl rfl (allB_cons (mapE_within _ _) (allB_cons (encC_within _ _) allB_nil)) (of_decide_eq_true rfl) mixed fun E hP C hI => ?_
 refine Awp.consP C ?_
 refine rvc_un (rexec_prim C (δ := { v := .ptr 4 0, new := [(4, .cells [.pv (.lit (.int .i64 l.from_)), .pv (.lit (.int .i64 l.to))])] }) rfl rfl rfl rfl trivial rfl ?_)
 refine rvP C (sS (some true) (eI .u8) []) ?_
 refine rvP C (.pv (.lit (.bool false))) ?_
 refine rvP C (.pv (.lit (.int .i64 0))) ?_
 refine rvc_nil ?_
 refine Awp.seq ?_
 refine Awp.cons C (fun _ => .writer) (by kernel_rfl) ?_
 refine rvP C (.ptr 0 0) ?_
 refine rvP C (.agg [.pv (.lit (.int .i64 l.from_)), .pv (.lit (.int .i64 l.to))]) ?_
 refine rvP C (.pv (.lit (.int .i64 i))) ?_
 refine rvc_un (rexec_callObj hP C (fun b => bif b == 0 then 0 else bif b == 1 then 1 else b) [] rfl rfl rfl (able_calls n l i) rfl rfl ⟨rfl, trivial⟩ (of_decide_eq_true rfl) rfl (of_decide_eq_true rfl) (of_decide_eq_true rfl) allB_nil allB_nil (allB_cons rfl allB_nil) ?_ rfl (allB_cons rfl allB_nil))
 refine rvP C (.pv (.lit (.int .i64 (able n l i)))) ?_
 refine rvc_nil ?_
 refine Awp.consP C ?_
 refine rvP C (.pv (.lit (.int .i64 (able n l i)))) ?_
 refine rvP C (.pv (.lit (.bool ((able n l i) != 0)))) ?_
 refine rvc_nil ?_
 refine Awp.cond (b := ((able n l i) != 0)) rfl (fun h1 => ?_) (fun h1 => ?_)
 ·
  replace hR := of_true h1 hR
  refine Awp.consP C ?_
  refine rvP C (.pv (.lit (.int .i64 (able n l i)))) ?_
  refine rvP C (sS (some true) (eI .u8) []) ?_
  refine rvP C (.pv (.lit (.bool false))) ?_
  refine rvP C (.pv (.lit (.int .i64 (able n l i)))) ?_
  refine rvc_nil ?_
  subst hR
  cases hne
 ·
  replace hR := of_false h1 hR
  refine Awp.skip ?_
  refine Awp.cons C (fun _ => .writer) (by kernel_rfl) ?_
  refine rvP C (.ptr 0 0) ?_
  refine rvP C (.agg [.pv (.lit (.int .i64 l.from_)), .pv (.lit (.int .i64 l.to))]) ?_
  refine rvP C (.pv (.lit (.int .i64 i))) ?_
  refine rvc_un (rexec_callObj hP C (fun b => bif b == 0 then 0 else bif b == 1 then 1 else b) [] rfl rfl rfl (nCut_calls n l i ho (able_q ho (by assumption)).1 (able_q ho (by assumption)).2) rfl rfl ⟨rfl, trivial⟩ (of_decide_eq_true rfl) rfl (of_decide_eq_true rfl) (of_decide_eq_true rfl) allB_nil allB_nil (allB_cons rfl allB_nil) ?_ rfl (allB_cons rfl allB_nil))
  refine rvP C (sS (some (nCut n l i).2.nil) (eI .u8) ((nCut n l i).2.D)) ?_
  refine rvc_nil ?_
  refine Awp.seq ?_
  refine Awp.consP C ?_
  refine rvP C (.ptr 0 0) ?_
  refine rvP C (.ptr 0 0) ?_
  refine rvP C (.ptr 0 1) ?_
  refine rvP C (.pv (.lit (.int .u64 ((nCut n l i).1.side)))) ?_
  refine rvP C (.ptr 4 0) ?_
  refine rvP C (.pv (.lit (.int .i64 l.from_))) ?_
  refine rvc_un (rexec_call hP C rfl rfl rfl (mHas_calls ((nCut n l i).1.side) l.from_) ?_)
  refine rvP C (.ptr 0 0) ?_
  refine rvP C (.ptr 0 0) ?_
  refine rvP C (.ptr 0 1) ?_
  refine rvP C (.pv (.lit (.int .u64 ((nCut n l i).1.side)))) ?_
  refine rvP C (.ptr 4 1) ?_
  refine rvP C (.pv (.lit (.int .i64 l.to))) ?_
  refine rvc_un (rexec_call hP C rfl rfl rfl (mHas_calls ((nCut n l i).1.side) l.to) ?_)
  refine rvP C (.pv (.lit (.bool (!((mHas ((nCut n l i).1.side) l.from_) == (mHas ((nCut n l i).1.side) l.to)))))) ?_
  refine rvc_nil ?_
  refine Awp.cond (b := (!((mHas ((nCut n l i).1.side) l.from_) == (mHas ((nCut n l i).1.side) l.to)))) rfl (fun h2 => ?_) (fun h2 => ?_)
  ·
   replace hR := of_true h2 hR
   refine Awp.consP C ?_
   refine rvP C (sS (some true) (eI .u8) []) ?_
   refine rvP C (.pv (.lit (.bool false))) ?_
   refine rvP C (.pv (.lit (.int .i64 0))) ?_
   refine rvc_nil ?_
   subst hR
   cases hne
  ·
   replace hR := of_false h2 hR
   refine Awp.skip ?_
   refine Awp.cons C (fun _ => .quiet) (by kernel_rfl) ?_
   refine rvP C (sS (some (nCut n l i).2.nil) (eI .u8) ((nCut n l i).2.D)) ?_
   rcases Bool.eq_false_or_eq_true (((nCut n l i).2).nil) with h3 | h3
   ·
    replace hR := of_true h3 hR
    refine rvc_un (rexec_call hP C rfl rfl rfl (cloneBytesO_nil ((nCut n l i).2) h3 (cut_len ho l i)) ?_)
    refine rvP C (sS (some true) (eI .u8) []) ?_
    refine rvP C (.pv (.lit (.bool true))) ?_
    refine rvP C (.pv (.lit (.int .i64 0))) ?_
    refine rvc_nil ?_
    subst hR
    cases hne
   ·
    replace hR := of_false h3 hR
    refine rvc_un (rexec_callO hP C rfl rfl rfl rfl (cloneBytesO_calls ((nCut n l i).2) h3 (cut_len ho l i)) ?_)
    refine rvP C (.sl 38 0 (((nCut n l i).2).D.length) 1 false) ?_
    refine rvP C (.pv (.lit (.bool true))) ?_
    refine rvP C (.pv (.lit (.int .i64 0))) ?_
    refine rvc_nil ?_
    refine Awp.weakenR (S := [(6, .sl 2 0 (((nCut n l i).2).D).length 1 false), (7, .pv (.lit (.bool true))), (8, .pv (.lit (.int .i64 0)))]) (H := [(0, .cells [.mp 1, .pv (.lit (.int .u64 ((nCut n l i).1.side))), .pv (.lit (.int .i64 ((nCut n l i).1.lost))), .pv (.lit (.bool ((nCut n l i).1.made)))]), (1, mapE kLink vT77.enc ((nCut n l i).1.of_)), (2, .cells (encC (eI .u8) (((nCut n l i).2).D)))]) (U := [0, 1, 2]) (fun x => bif x == 2 then 38 else x) (WeakerR.ofLI (I := [0, 1]) (Ks := [0, 1, 2]) hI ⟨⟨(sl_to rfl rfl (by simp)), rfl⟩, ⟨rfl, rfl⟩, ⟨rfl, rfl⟩, trivial⟩ (okH_cons rfl rfl rfl rfl (okH_map rfl rfl rfl (okH_list rfl rfl rfl (okH_nil)))) rfl rfl) ?_
    refine Awp.ret ?_
    subst hR
    exact ⟨.inl rfl, rfl, rfl, ⟨rfl, rfl, trivial⟩⟩
theorem nTakeO_eq (n : Net) (l : Link) (i : Int) : nTakeO n l i = nTake n l i := by
  unfold nTakeO nTake cloneBytes
  cases (able n l i) != 0 <;> simp only [cond_true, cond_false]
  cases (!((mHas ((nCut n l i).1.side) l.from_) == (mHas ((nCut n l i).1.side) l.to))) <;> simp only [cond_true, cond_false]
  cases (nCut n l i).2.nil <;> rfl
theorem nTakeR_calls (n : Net) (l : Link) (i : Int) (ho : okN n) (hne : (nTake n l i).2.1.nil = false) : ObjCallsR Try.prog 29 [.ptr 0 0, .agg [.pv (.lit (.int .i64 l.from_)), .pv (.lit (.int .i64 l.to))], .pv (.lit (.int .i64 i))] [.mp 1, .pv (.lit (.int .u64 n.side)), .pv (.lit (.int .i64 n.lost)), .pv (.lit (.bool n.made))] [(1, mapE kLink vT77.enc n.of_)] (.tup [.sl 2 0 ((nTake n l i).2.1.D.length) 1 false, .pv (.lit (.bool ((nTake n l i).2.2.1))), .pv (.lit (.int .i64 ((nTake n l i).2.2.2)))]) [.mp 1, .pv (.lit (.int .u64 ((nTake n l i).1.side))), .pv (.lit (.int .i64 ((nTake n l i).1.lost))), .pv (.lit (.bool ((nTake n l i).1.made)))] [(1, mapE kLink vT77.enc ((nTake n l i).1.of_)), (2, .cells (encC (eI .u8) ((nTake n l i).2.1.D)))] := by
  have F := nTakeO_calls n l i ho (by rw [nTakeO_eq]; exact hne)
  rw [nTakeO_eq] at F
  exact F
def nPeekO (n : Net) (l : Link) (i : Int) : (Sl Int) × Int :=
  (bif ((able n l i) != 0) then ((Sl.mk true []), (able n l i)) else (bif ((((mGet kLink l n.of_).getD (Sl.mk true [])).D)[i.toNat]!).nil then ((Sl.mk true []), 0) else ((Sl.mk false (((((mGet kLink l n.of_).getD (Sl.mk true [])).D)[i.toNat]!).D)), 0)))
theorem nPeekO_calls (n : Net) (l : Link) (i : Int) (ho : okN n) (hne : (nPeekO n l i).1.nil = false) : ObjCallsR Try.prog 14 [.ptr 0 0, .agg [.pv (.lit (.int .i64 l.from_)), .pv (.lit (.int .i64 l.to))], .pv (.lit (.int .i64 i))] [.mp 1, .pv (.lit (.int .u64 n.side)), .pv (.lit (.int .i64 n.lost)), .pv (.lit (.bool n.made))] [(1, mapE kLink vT77.enc n.of_)] (.tup [.sl 2 0 ((nPeekO n l i).1.D.length) 1 false, .pv (.lit (.int .i64 ((nPeekO n l i).2)))]) [.mp 1, .pv (.lit (.int .u64 n.side)), .pv (.lit (.int .i64 n.lost)), .pv (.lit (.bool n.made))] [(1, mapE kLink vT77.enc n.of_), (2, .cells (encC (eI .u8) ((nPeekO n l i).1.D)))] := by
 generalize hR : nPeekO n l i = R
 rw [hR] at hne
 refine ObjCallsR.of_body tabOk Try.func14 rfl rfl rfl rfl rfl (allB_cons (mapE_within _ _) allB_nil) (of_decide_eq_true rfl) rfl rfl (allB_cons (mapE_within _ _) (allB_cons (encC_within _ _) allB_nil)) (of_decide_eq_true rfl) mixed fun E hP C hI => ?_
 refine Awp.consP C ?_
 refine rvc_un (rexec_prim C (δ := { v := .ptr 4 0, new := [(4, .cells [.pv (.lit (.int .i64 l.from_)), .pv (.lit (.int .i64 l.to))])] }) rfl rfl rfl rfl trivial rfl ?_)
 refine rvP C (sS (some true) (eI .u8) []) ?_
 refine rvP C (.pv (.lit (.int .i64 0))) ?_
 refine rvc_nil ?_
 refine Awp.seq ?_
 refine Awp.cons C (fun _ => .writer) (by kernel_rfl) ?_
 refine rvP C (.ptr 0 0) ?_
 refine rvP C (.agg [.pv (.lit (.int .i64 l.from_)), .pv (.lit (.int .i64 l.to))]) ?_
 refine rvP C (.pv (.lit (.int .i64 i))) ?_
 refine rvc_un (rexec_callObj hP C (fun b => bif b == 0 then 0 else bif b == 1 then 1 else b) [] rfl rfl rfl (able_calls n l i) rfl rfl ⟨rfl, trivial⟩ (of_decide_eq_true rfl) rfl (of_decide_eq_true rfl) (of_decide_eq_true rfl) allB_nil allB_nil (allB_cons rfl allB_nil) ?_ rfl (allB_cons rfl allB_nil))
 refine rvP C (.pv (.lit (.int .i64 (able n l i)))) ?_
 refine rvc_nil ?_
 refine Awp.consP C ?_
 refine rvP C (.pv (.lit (.int .i64 (able n l i)))) ?_
 refine rvP C (.pv (.lit (.bool ((able n l i) != 0)))) ?_
 refine rvc_nil ?_
 refine Awp.cond (b := ((able n l i) != 0)) rfl (fun h1 => ?_) (fun h1 => ?_)
 ·
  replace hR := of_true h1 hR
  refine Awp.consP C ?_
  refine rvP C (.pv (.lit (.int .i64 (able n l i)))) ?_
  refine rvP C (sS (some true) (eI .u8) []) ?_
  refine rvP C (.pv (.lit (.int .i64 (able n l i)))) ?_
  refine rvc_nil ?_
  subst hR
  cases hne
 ·
  replace hR := of_false h1 hR
  refine Awp.skip ?_
  refine Awp.cons C (fun _ => .quiet) (by kernel_rfl) ?_
  refine rvP C (.ptr 0 0) ?_
  refine rvP C (.ptr 0 0) ?_
  refine rvP C (.ptr 0 0) ?_
  refine rvP C (.mp 1) ?_
  refine rvP C (.agg [.pv (.lit (.int .i64 l.from_)), .pv (.lit (.int .i64 l.to))]) ?_
  refine rvc_un (rexec_lookup hP C rfl l (Sl.mk true []) rfl rfl rfl rfl rfl rfl kLink_ok rfl (sS (some ((mGet kLink l n.of_).getD (Sl.mk true [])).nil) (eSl (eI .u8)) (((mGet kLink l n.of_).getD (Sl.mk true [])).D)) rfl ?_)
  refine rvP C (.pv (.lit (.int .i64 i))) ?_
  have hq_ := (able_q ho (by assumption)).1
  have h2 : (((mGet kLink l n.of_).getD (Sl.mk true [])).D)[i.toNat]? = some (((mGet kLink l n.of_).getD (Sl.mk true [])).D)[i.toNat]! := getE (by have := eq_of_bne_false h1; omega)
  refine rvc_un (rexec_idxS C rfl rfl rfl rfl rfl rfl ((((mGet kLink l n.of_).getD (Sl.mk true [])).D)[i.toNat]!) (by have := eq_of_bne_false h1; omega) h2 ?_)
  refine rvP C (sS (some (((mGet kLink l n.of_).getD (Sl.mk true [])).D)[i.toNat]!.nil) (eI .u8) ((((mGet kLink l n.of_).getD (Sl.mk true [])).D)[i.toNat]!.D)) ?_
  rcases Bool.eq_false_or_eq_true (((((mGet kLink l n.of_).getD (Sl.mk true [])).D)[i.toNat]!).nil) with h3 | h3
  ·
   replace hR := of_true h3 hR
   refine rvc_un (rexec_call hP C rfl rfl rfl (cloneBytesO_nil ((((mGet kLink l n.of_).getD (Sl.mk true [])).D)[i.toNat]!) h3 (Nat.le_trans (okN.msg ho l _) (by decide))) ?_)
   refine rvP C (sS (some true) (eI .u8) []) ?_
   refine rvP C (.pv (.lit (.int .i64 0))) ?_
   refine rvc_nil ?_
   subst hR
   cases hne
  ·
   replace hR := of_false h3 hR
   refine rvc_un (rexec_callO hP C rfl rfl rfl rfl (cloneBytesO_calls ((((mGet kLink l n.of_).getD (Sl.mk true [])).D)[i.toNat]!) h3 (Nat.le_trans (okN.msg ho l _) (by decide))) ?_)
   refine rvP C (.sl 25 0 (((((mGet kLink l n.of_).getD (Sl.mk true [])).D)[i.toNat]!).D.length) 1 false) ?_
   refine rvP C (.pv (.lit (.int .i64 0))) ?_
   refine rvc_nil ?_
   refine Awp.weakenR (S := [(6, .sl 2 0 (((((mGet kLink l n.of_).getD (Sl.mk true [])).D)[i.toNat]!).D).length 1 false), (7, .pv (.lit (.int .i64 0)))]) (H := [(0, .cells [.mp 1, .pv (.lit (.int .u64 n.side)), .pv (.lit (.int .i64 n.lost)), .pv (.lit (.bool n.made))]), (1, mapE kLink vT77.enc n.of_), (2, .cells (encC (eI .u8) (((((mGet kLink l n.of_).getD (Sl.mk true [])).D)[i.toNat]!).D)))]) (U := [0, 1, 2]) (fun x => bif x == 2 then 25 else x) (WeakerR.ofLI (I := [0, 1]) (Ks := [0, 1, 2]) hI ⟨⟨(sl_to rfl rfl (by simp)), rfl⟩, ⟨rfl, rfl⟩, trivial⟩ (okH_cons rfl rfl rfl rfl (okH_map rfl rfl rfl (okH_list rfl rfl rfl (okH_nil)))) rfl rfl) ?_
   refine Awp.ret ?_
   subst hR
   exact ⟨.inl rfl, rfl, rfl, ⟨rfl, rfl, trivial⟩⟩
theorem nPeekO_eq (n : Net) (l : Link) (i : Int) : nPeekO n l i = nPeek n l i := by
  unfold nPeekO nPeek cloneBytes
  cases (able n l i) != 0 <;> simp only [cond_true, cond_false]
  cases ((((mGet kLink l n.of_).getD (Sl.mk true [])).D)[i.toNat]!).nil <;> rfl
theorem nPeekR_calls (n : Net) (l : Link) (i : Int) (ho : okN n) (hne : (nPeek n l i).1.nil = false) : ObjCallsR Try.prog 14 [.ptr 0 0, .agg [.pv (.lit (.int .i64 l.from_)), .pv (.lit (.int .i64 l.to))], .pv (.lit (.int .i64 i))] [.mp 1, .pv (.lit (.int .u64 n.side)), .pv (.lit (.int .i64 n.lost)), .pv (.lit (.bool n.made))] [(1, mapE kLink vT77.enc n.of_)] (.tup [.sl 2 0 ((nPeek n l i).1.D.length) 1 false, .pv (.lit (.int .i64 ((nPeek n l i).2)))]) [.mp 1, .pv (.lit (.int .u64 n.side)), .pv (.lit (.int .i64 n.lost)), .pv (.lit (.bool n.made))] [(1, mapE kLink vT77.enc n.of_), (2, .cells (encC (eI .u8) ((nPeek n l i).1.D)))] := by
  have F := nPeekO_calls n l i ho (by rw [nPeekO_eq]; exact hne)
  rw [nPeekO_eq] at F
  exact F
end Go.Proofs.Ytpeeofofagfooaa
namespace Go.Proofs.Ytpeeofofagfooaa
open Go.Am
def doesW (n : Net) (k : Do) : Net × (Sl Int) × Bool × Int :=
  (bif ((IntKind.i64.wrap ((IntKind.u64.wrap k.op).tmod 9)) == 3) then ((nTake n k.l k.i).1, (nTake n k.l k.i).2.1, (nTake n k.l k.i).2.2.1, (nTake n k.l k.i).2.2.2) else (bif ((IntKind.i64.wrap ((IntKind.u64.wrap k.op).tmod 9)) == 4) then ((nTake n k.l k.i).1, (nTake n k.l k.i).2.1, (nTake n k.l k.i).2.2.1, (nTake n k.l k.i).2.2.2) else (bif ((IntKind.i64.wrap ((IntKind.u64.wrap k.op).tmod 9)) == 5) then ((nLose n k.l k.i).1, (Sl.mk true []), false, (nLose n k.l k.i).2) else (bif ((IntKind.i64.wrap ((IntKind.u64.wrap k.op).tmod 9)) == 6) then ((nDouble n k.l k.i).1, (Sl.mk true []), false, (nDouble n k.l k.i).2) else (bif ((IntKind.i64.wrap ((IntKind.u64.wrap k.op).tmod 9)) == 7) then ((nWall n k.side).1, (Sl.mk true []), false, (nWall n k.side).2) else (bif ((IntKind.i64.wrap ((IntKind.u64.wrap k.op).tmod 9)) == 8) then ((nForget n k.i).1, (Sl.mk true []), false, (nForget n k.i).2) else ((nSendW n k.l (Sl.mk false k.b.D)).1, (Sl.mk true []), false, (nSendW n k.l (Sl.mk false k.b.D)).2)))))))
theorem doesW_calls (n : Net) (k : Do) (n_ : Nat) (tt_ : Bool) (hn_ : n_ = k.b.D.length) (ho : okN n) (hl1 : k.b.D.length ≤ 1000000) : ObjCalls Try.prog 13 [.ptr 0 0, .agg [.pv (.lit (.int .i64 k.op)), .pv (.lit (.int .i64 k.i)), .pv (.lit (.int .i64 k.l.from_)), .pv (.lit (.int .i64 k.l.to)), .sl 2 0 n_ 1 tt_, .pv (.lit (.int .u64 k.side))]] [.mp 1, .pv (.lit (.int .u64 n.side)), .pv (.lit (.int .i64 n.lost)), .pv (.lit (.bool n.made))] [(1, mapE kLink vT77.enc n.of_), (2, .cells (encC (eI .u8) k.b.D))] (.tup [sS (some (doesW n k).2.1.nil) (eI .u8) ((doesW n k).2.1.D), .pv (.lit (.bool ((doesW n k).2.2.1))), .pv (.lit (.int .i64 ((doesW n k).2.2.2)))]) [.mp 1, .pv (.lit (.int .u64 ((doesW n k).1.side))), .pv (.lit (.int .i64 ((doesW n k).1.lost))), .pv (.lit (.bool ((doesW n k).1.made)))] [(1, mapE kLink vT77.enc ((doesW n k).1.of_)), (2, .cells (encC (eI .u8) k.b.D))] := by
 generalize hR : doesW n k = R
 subst hn_
 refine ObjCalls.of_body tabOk Try.func13 rfl rfl rfl rfl rfl (allB_cons (mapE_within _ _) (allB_cons (encC_within _ _) allB_nil)) (of_decide_eq_true rfl) rfl rfl (allB_cons (mapE_within _ _) (allB_cons (encC_within _ _) allB_nil)) (of_decide_eq_true rfl) mixed fun E hP C hI => ?_
 refine Awp.consP C ?_
 refine rvc_un (rexec_prim C (δ := { v := .ptr 3 0, new := [(3, .cells [.pv (.lit (.int .i64 k.op)), .pv (.lit (.int .i64 k.i)), .pv (.lit (.int .i64 k.l.from_)), .pv (.lit (.int .i64 k.l.to)), .sl 2 0 k.b.D.length 1 tt_, .pv (.lit (.int .u64 k.side))])] }) rfl rfl rfl rfl trivial rfl ?_)
 refine rvP C (sS (some true) (eI .u8) []) ?_
 refine rvP C (.pv (.lit (.bool false))) ?_
 refine rvP C (.pv (.lit (.int .i64 0))) ?_
 refine rvc_nil ?_
 refine Awp.seq ?_
 refine Awp.consP C ?_
 refine rvP C (.ptr 3 0) ?_
 refine rvP C (.pv (.lit (.int .i64 k.op))) ?_
 refine rvP C (.pv (.lit (.int .u64 (IntKind.u64.wrap k.op)))) ?_
 refine rvc_un (rexec_prim C (δ := { v := .pv (.lit (.int .u64 ((IntKind.u64.wrap k.op).tmod 9))) }) rfl rfl rfl rfl (by first | decide | omega) rfl ?_)
 refine rvP C (.pv (.lit (.int .i64 (IntKind.i64.wrap ((IntKind.u64.wrap k.op).tmod 9))))) ?_
 refine rvc_nil ?_
 refine Awp.block ?_
 refine Awp.seq ?_
 refine Awp.consP C ?_
 refine rvP C (.pv (.lit (.bool ((IntKind.i64.wrap ((IntKind.u64.wrap k.op).tmod 9)) == 3)))) ?_
 refine rvP C (.pv (.lit (.bool ((IntKind.i64.wrap ((IntKind.u64.wrap k.op).tmod 9)) == 3)))) ?_
 refine rvc_nil ?_
 refine Awp.cond (b := ((IntKind.i64.wrap ((IntKind.u64.wrap k.op).tmod 9)) == 3)) rfl (fun h1 => ?_) (fun h1 => ?_)
 ·
  replace hR := of_true h1 hR
  refine Awp.skip ?_
  refine Awp.condT (b := ((IntKind.i64.wrap ((IntKind.u64.wrap k.op).tmod 9)) == 3)) rfl h1 ?_
  refine Awp.cons C (fun _ => .writer) (by kernel_rfl) ?_
  refine rvP C (.ptr 0 0) ?_
  refine rvP C (.ptr 3 2) ?_
  refine rvP C (.agg [.pv (.lit (.int .i64 k.l.from_)), .pv (.lit (.int .i64 k.l.to))]) ?_
  refine rvP C (.ptr 3 1) ?_
  refine rvP C (.pv (.lit (.int .i64 k.i))) ?_
  refine rvc_un (rexec_callObj hP C (fun b => bif b == 0 then 0 else bif b == 1 then 1 else b) [] rfl rfl rfl (nTake_calls n k.l k.i ho) rfl rfl ⟨rfl, trivial⟩ (of_decide_eq_true rfl) rfl (of_decide_eq_true rfl) (of_decide_eq_true rfl) allB_nil allB_nil (allB_cons rfl allB_nil) ?_ rfl (allB_cons rfl allB_nil))
  refine rvP C (sS (some (nTake n k.l k.i).2.1.nil) (eI .u8) ((nTake n k.l k.i).2.1.D)) ?_
  refine rvP C (.pv (.lit (.bool ((nTake n k.l k.i).2.2.1)))) ?_
  refine rvP C (.pv (.lit (.int .i64 ((nTake n k.l k.i).2.2.2)))) ?_
  refine rvP C (sS (some (nTake n k.l k.i).2.1.nil) (eI .u8) ((nTake n k.l k.i).2.1.D)) ?_
  refine rvP C (.pv (.lit (.bool ((nTake n k.l k.i).2.2.1)))) ?_
  refine rvP C (.pv (.lit (.int .i64 ((nTake n k.l k.i).2.2.2)))) ?_
  refine rvc_nil ?_
  refine Awp.ret ?_
  subst hR
  exact ⟨.inl rfl, rfl, rfl, ⟨rfl, rfl, trivial⟩⟩
 ·
  replace hR := of_false h1 hR
  refine Awp.regionP C ?_
  refine rvP C (.pv (.lit (.bool ((IntKind.i64.wrap ((IntKind.u64.wrap k.op).tmod 9)) == 4)))) ?_
  refine rvP C (.pv (.lit (.bool ((IntKind.i64.wrap ((IntKind.u64.wrap k.op).tmod 9)) == 4)))) ?_
  refine rvc_nil ?_
  refine Awp.cond (b := ((IntKind.i64.wrap ((IntKind.u64.wrap k.op).tmod 9)) == 4)) rfl (fun h2 => ?_) (fun h2 => ?_)
  ·
   replace hR := of_true h2 hR
   refine Awp.cons C (fun _ => .writer) (by kernel_rfl) ?_
   refine rvP C (.ptr 0 0) ?_
   refine rvP C (.ptr 3 2) ?_
   refine rvP C (.agg [.pv (.lit (.int .i64 k.l.from_)), .pv (.lit (.int .i64 k.l.to))]) ?_
   refine rvP C (.ptr 3 1) ?_
   refine rvP C (.pv (.lit (.int .i64 k.i))) ?_
   refine rvc_un (rexec_callObj hP C (fun b => bif b == 0 then 0 else bif b == 1 then 1 else b) [] rfl rfl rfl (nTake_calls n k.l k.i ho) rfl rfl ⟨rfl, trivial⟩ (of_decide_eq_true rfl) rfl (of_decide_eq_true rfl) (of_decide_eq_true rfl) allB_nil allB_nil (allB_cons rfl allB_nil) ?_ rfl (allB_cons rfl allB_nil))
   refine rvP C (sS (some (nTake n k.l k.i).2.1.nil) (eI .u8) ((nTake n k.l k.i).2.1.D)) ?_
   refine rvP C (.pv (.lit (.bool ((nTake n k.l k.i).2.2.1)))) ?_
   refine rvP C (.pv (.lit (.int .i64 ((nTake n k.l k.i).2.2.2)))) ?_
   refine rvP C (sS (some (nTake n k.l k.i).2.1.nil) (eI .u8) ((nTake n k.l k.i).2.1.D)) ?_
   refine rvP C (.pv (.lit (.bool ((nTake n k.l k.i).2.2.1)))) ?_
   refine rvP C (.pv (.lit (.int .i64 ((nTake n k.l k.i).2.2.2)))) ?_
   refine rvc_nil ?_
   refine Awp.ret ?_
   subst hR
   exact ⟨.inl rfl, rfl, rfl, ⟨rfl, rfl, trivial⟩⟩
  ·
   replace hR := of_false h2 hR
   refine Awp.consP C ?_
   refine rvP C (.pv (.lit (.bool ((IntKind.i64.wrap ((IntKind.u64.wrap k.op).tmod 9)) == 5)))) ?_
   refine rvP C (.pv (.lit (.bool ((IntKind.i64.wrap ((IntKind.u64.wrap k.op).tmod 9)) == 5)))) ?_
   refine rvc_nil ?_
   refine Awp.cond (b := ((IntKind.i64.wrap ((IntKind.u64.wrap k.op).tmod 9)) == 5)) rfl (fun h3 => ?_) (fun h3 => ?_)
   ·
    replace hR := of_true h3 hR
    refine Awp.cons C (fun _ => .writer) (by kernel_rfl) ?_
    refine rvP C (.ptr 0 0) ?_
    refine rvP C (.ptr 3 2) ?_
    refine rvP C (.agg [.pv (.lit (.int .i64 k.l.from_)), .pv (.lit (.int .i64 k.l.to))]) ?_
    refine rvP C (.ptr 3 1) ?_
    refine rvP C (.pv (.lit (.int .i64 k.i))) ?_
    refine rvc_un (rexec_callObj hP C (fun b => bif b == 0 then 0 else bif b == 1 then 1 else b) [] rfl rfl rfl (nLose_calls n k.l k.i ho) rfl rfl ⟨rfl, trivial⟩ (of_decide_eq_true rfl) rfl (of_decide_eq_true rfl) (of_decide_eq_true rfl) allB_nil allB_nil (allB_cons rfl allB_nil) ?_ rfl (allB_cons rfl allB_nil))
    refine rvP C (sS (some true) (eI .u8) []) ?_
    refine rvP C (.pv (.lit (.bool false))) ?_
    refine rvP C (.pv (.lit (.int .i64 ((nLose n k.l k.i).2)))) ?_
    refine rvc_nil ?_
    refine Awp.ret ?_
    subst hR
    exact ⟨.inl rfl, rfl, rfl, ⟨rfl, rfl, trivial⟩⟩
   ·
    replace hR := of_false h3 hR
    refine Awp.consP C ?_
    refine rvP C (.pv (.lit (.bool ((IntKind.i64.wrap ((IntKind.u64.wrap k.op).tmod 9)) == 6)))) ?_
    refine rvP C (.pv (.lit (.bool ((IntKind.i64.wrap ((IntKind.u64.wrap k.op).tmod 9)) == 6)))) ?_
    refine rvc_nil ?_
    refine Awp.cond (b := ((IntKind.i64.wrap ((IntKind.u64.wrap k.op).tmod 9)) == 6)) rfl (fun h4 => ?_) (fun h4 => ?_)
    ·
     replace hR := of_true h4 hR
     refine Awp.cons C (fun _ => .writer) (by kernel_rfl) ?_
     refine rvP C (.ptr 0 0) ?_
     refine rvP C (.ptr 3 2) ?_
     refine rvP C (.agg [.pv (.lit (.int .i64 k.l.from_)), .pv (.lit (.int .i64 k.l.to))]) ?_
     refine rvP C (.ptr 3 1) ?_
     refine rvP C (.pv (.lit (.int .i64 k.i))) ?_
     refine rvc_un (rexec_callObj hP C (fun b => bif b == 0 then 0 else bif b == 1 then 1 else b) [] rfl rfl rfl (nDouble_calls n k.l k.i ho) rfl rfl ⟨rfl, trivial⟩ (of_decide_eq_true rfl) rfl (of_decide_eq_true rfl) (of_decide_eq_true rfl) allB_nil allB_nil (allB_cons rfl allB_nil) ?_ rfl (allB_cons rfl allB_nil))
     refine rvP C (sS (some true) (eI .u8) []) ?_
     refine rvP C (.pv (.lit (.bool false))) ?_
     refine rvP C (.pv (.lit (.int .i64 ((nDouble n k.l k.i).2)))) ?_
     refine rvc_nil ?_
     refine Awp.ret ?_
     subst hR
     exact ⟨.inl rfl, rfl, rfl, ⟨rfl, rfl, trivial⟩⟩
    ·
     replace hR := of_false h4 hR
     refine Awp.consP C ?_
     refine rvP C (.pv (.lit (.bool ((IntKind.i64.wrap ((IntKind.u64.wrap k.op).tmod 9)) == 7)))) ?_
     refine rvP C (.pv (.lit (.bool ((IntKind.i64.wrap ((IntKind.u64.wrap k.op).tmod 9)) == 7)))) ?_
     refine rvc_nil ?_
     refine Awp.cond (b := ((IntKind.i64.wrap ((IntKind.u64.wrap k.op).tmod 9)) == 7)) rfl (fun h5 => ?_) (fun h5 => ?_)
     ·
      replace hR := of_true h5 hR
      refine Awp.cons C (fun _ => .writer) (by kernel_rfl) ?_
      refine rvP C (.ptr 0 0) ?_
      refine rvP C (.ptr 3 5) ?_
      refine rvP C (.pv (.lit (.int .u64 k.side))) ?_
      refine rvc_un (rexec_callObj hP C (fun b => bif b == 0 then 0 else bif b == 1 then 1 else b) [] rfl rfl rfl (nWall_calls n k.side) rfl rfl ⟨rfl, trivial⟩ (of_decide_eq_true rfl) rfl (of_decide_eq_true rfl) (of_decide_eq_true rfl) allB_nil allB_nil (allB_cons rfl allB_nil) ?_ rfl (allB_cons rfl allB_nil))
      refine rvP C (sS (some true) (eI .u8) []) ?_
      refine rvP C (.pv (.lit (.bool false))) ?_
      refine rvP C (.pv (.lit (.int .i64 ((nWall n k.side).2)))) ?_
      refine rvc_nil ?_
      refine Awp.ret ?_
      subst hR
      exact ⟨.inl rfl, rfl, rfl, ⟨rfl, rfl, trivial⟩⟩
     ·
      replace hR := of_false h5 hR
      refine Awp.consP C ?_
      refine rvP C (.pv (.lit (.bool ((IntKind.i64.wrap ((IntKind.u64.wrap k.op).tmod 9)) == 8)))) ?_
      refine rvP C (.pv (.lit (.bool ((IntKind.i64.wrap ((IntKind.u64.wrap k.op).tmod 9)) == 8)))) ?_
      refine rvc_nil ?_
      refine Awp.cond (b := ((IntKind.i64.wrap ((IntKind.u64.wrap k.op).tmod 9)) == 8)) rfl (fun h6 => ?_) (fun h6 => ?_)
      ·
       replace hR := of_true h6 hR
       refine Awp.cons C (fun _ => .writer) (by kernel_rfl) ?_
       refine rvP C (.ptr 0 0) ?_
       refine rvP C (.ptr 3 1) ?_
       refine rvP C (.pv (.lit (.int .i64 k.i))) ?_
       refine rvc_un (rexec_callObj hP C (fun b => bif b == 0 then 0 else bif b == 1 then 1 else b) [] rfl rfl rfl (nForget_calls n k.i) rfl rfl ⟨rfl, trivial⟩ (of_decide_eq_true rfl) rfl (of_decide_eq_true rfl) (of_decide_eq_true rfl) allB_nil allB_nil (allB_cons rfl allB_nil) ?_ rfl (allB_cons rfl allB_nil))
       refine rvP C (sS (some true) (eI .u8) []) ?_
       refine rvP C (.pv (.lit (.bool false))) ?_
       refine rvP C (.pv (.lit (.int .i64 ((nForget n k.i).2)))) ?_
       refine rvc_nil ?_
       refine Awp.ret ?_
       subst hR
       exact ⟨.inl rfl, rfl, rfl, ⟨rfl, rfl, trivial⟩⟩
      ·
       replace hR := of_false h6 hR
       refine Awp.skip ?_
       refine Awp.cons C (fun _ => .writer) (by kernel_rfl) ?_
       refine rvP C (.ptr 0 0) ?_
       refine rvP C (.ptr 3 2) ?_
       refine rvP C (.agg [.pv (.lit (.int .i64 k.l.from_)), .pv (.lit (.int .i64 k.l.to))]) ?_
       refine rvP C (.ptr 3 4) ?_
       refine rvP C (.sl 2 0 k.b.D.length 1 tt_) ?_
       refine rvc_un (rexec_callObj hP C (fun b => bif b == 0 then 0 else bif b == 1 then 1 else bif b == 2 then 2 else b) [] rfl rfl rfl (nSendW_calls n k.l (Sl.mk false k.b.D) k.b.D.length tt_ rfl hl1) rfl rfl ⟨rfl, rfl, trivial⟩ (of_decide_eq_true rfl) rfl (of_decide_eq_true rfl) (of_decide_eq_true rfl) allB_nil allB_nil (allB_cons rfl (allB_cons rfl allB_nil)) ?_ rfl (allB_cons rfl (allB_cons rfl allB_nil)))
       refine rvP C (sS (some true) (eI .u8) []) ?_
       refine rvP C (.pv (.lit (.bool false))) ?_
       refine rvP C (.pv (.lit (.int .i64 ((nSendW n k.l (Sl.mk false k.b.D)).2)))) ?_
       refine rvc_nil ?_
       refine Awp.ret ?_
       subst hR
       exact ⟨.inl rfl, rfl, rfl, ⟨rfl, rfl, trivial⟩⟩
def doesWO (n : Net) (k : Do) : Net × (Sl Int) × Bool × Int :=
  (bif ((IntKind.i64.wrap ((IntKind.u64.wrap k.op).tmod 9)) == 3) then ((nTake n k.l k.i).1, (nTake n k.l k.i).2.1, (nTake n k.l k.i).2.2.1, (nTake n k.l k.i).2.2.2) else (bif ((IntKind.i64.wrap ((IntKind.u64.wrap k.op).tmod 9)) == 4) then ((nTake n k.l k.i).1, (nTake n k.l k.i).2.1, (nTake n k.l k.i).2.2.1, (nTake n k.l k.i).2.2.2) else (bif ((IntKind.i64.wrap ((IntKind.u64.wrap k.op).tmod 9)) == 5) then ((nLose n k.l k.i).1, (Sl.mk true []), false, (nLose n k.l k.i).2) else (bif ((IntKind.i64.wrap ((IntKind.u64.wrap k.op).tmod 9)) == 6) then ((nDouble n k.l k.i).1, (Sl.mk true []), false, (nDouble n k.l k.i).2) else (bif ((IntKind.i64.wrap ((IntKind.u64.wrap k.op).tmod 9)) == 7) then ((nWall n k.side).1, (Sl.mk true []), false, (nWall n k.side).2) else (bif ((IntKind.i64.wrap ((IntKind.u64.wrap k.op).tmod 9)) == 8) then ((nForget n k.i).1, (Sl.mk true []), false, (nForget n k.i).2) else ((nSendW n k.l (Sl.mk false k.b.D)).1, (Sl.mk true []), false, (nSendW n k.l (Sl.mk false k.b.D)).2)))))))
theorem doesWO_calls (n : Net) (k : Do) (n_ : Nat) (tt_ : Bool) (hn_ : n_ = k.b.D.length) (ho : okN n) (hne : (doesWO n k).2.1.nil = false) (hl1 : k.b.D.length ≤ 1000000) : ObjCallsR Try.prog 13 [.ptr 0 0, .agg [.pv (.lit (.int .i64 k.op)), .pv (.lit (.int .i64 k.i)), .pv (.lit (.int .i64 k.l.from_)), .pv (.lit (.int .i64 k.l.to)), .sl 2 0 n_ 1 tt_, .pv (.lit (.int .u64 k.side))]] [.mp 1, .pv (.lit (.int .u64 n.side)), .pv (.lit (.int .i64 n.lost)), .pv (.lit (.bool n.made))] [(1, mapE kLink vT77.enc n.of_), (2, .cells (encC (eI .u8) k.b.D))] (.tup [.sl 3 0 ((doesWO n k).2.1.D.length) 1 false, .pv (.lit (.bool ((doesWO n k).2.2.1))), .pv (.lit (.int .i64 ((doesWO n k).2.2.2)))]) [.mp 1, .pv (.lit (.int .u64 ((doesWO n k).1.side))), .pv (.lit (.int .i64 ((doesWO n k).1.lost))), .pv (.lit (.bool ((doesWO n k).1.made)))] [(1, mapE kLink vT77.enc ((doesWO n k).1.of_)), (2, .cells (encC (eI .u8) k.b.D)), (3, .cells (encC (eI .u8) ((doesWO n k).2.1.D)))] := by
 generalize hR : doesWO n k = R
 rw [hR] at hne
 subst hn_
 refine ObjCallsR.of_body tabOk Try.func13 rfl rfl rfl rfl rfl (allB_cons (mapE_within _ _) (allB_cons (encC_within _ _) allB_nil)) (of_decide_eq_true rfl) rfl rfl (allB_cons (mapE_within _ _) (allB_cons (encC_within _ _) (allB_cons (encC_within _ _) allB_nil))) (of_decide_eq_true rfl) mixed fun E hP C hI => ?_
 refine Awp.consP C ?_
 refine rvc_un (rexec_prim C (δ := { v := .ptr 3 0, new := [(3, .cells [.pv (.lit (.int .i64 k.op)), .pv (.lit (.int .i64 k.i)), .pv (.lit (.int .i64 k.l.from_)), .pv (.lit (.int .i64 k.l.to)), .sl 2 0 k.b.D.length 1 tt_, .pv (.lit (.int .u64 k.side))])] }) rfl rfl rfl rfl trivial rfl ?_)
 refine rvP C (sS (some true) (eI .u8) []) ?_
 refine rvP C (.pv (.lit (.bool false))) ?_
 refine rvP C (.pv (.lit (.int .i64 0))) ?_
 refine rvc_nil ?_
 refine Awp.seq ?_
 refine Awp.consP C ?_
 refine rvP C (.ptr 3 0) ?_
 refine rvP C (.pv (.lit (.int .i64 k.op))) ?_
 refine rvP C (.pv (.lit (.int .u64 (IntKind.u64.wrap k.op)))) ?_
 refine rvc_un (rexec_prim C (δ := { v := .pv (.lit (.int .u64 ((IntKind.u64.wrap k.op).tmod 9))) }) rfl rfl rfl rfl (by first | decide | omega) rfl ?_)
 refine rvP C (.pv (.lit (.int .i64 (IntKind.i64.wrap ((IntKind.u64.wrap k.op).tmod 9))))) ?_
 refine rvc_nil ?_
 refine Awp.block ?_
 refine Awp.seq ?_
 refine Awp.consP C ?_
 refine rvP C (.pv (.lit (.bool ((IntKind.i64.wrap ((IntKind.u64.wrap k.op).tmod 9)) == 3)))) ?_
 refine rvP C (.pv (.lit (.bool ((IntKind.i64.wrap ((IntKind.u64.wrap k.op).tmod 9)) == 3)))) ?_
 refine rvc_nil ?_
 refine Awp.cond (b := ((IntKind.i64.wrap ((IntKind.u64.wrap k.op).tmod 9)) == 3)) rfl (fun h1 => ?_) (fun h1 => ?_)
 ·
  replace hR := of_true h1 hR
  refine Awp.skip ?_
  refine Awp.condT (b := ((IntKind.i64.wrap ((IntKind.u64.wrap k.op).tmod 9)) == 3)) rfl h1 ?_
  refine Awp.cons C (fun _ => .writer) (by kernel_rfl) ?_
  refine rvP C (.ptr 0 0) ?_
  refine rvP C (.ptr 3 2) ?_
  refine rvP C (.agg [.pv (.lit (.int .i64 k.l.from_)), .pv (.lit (.int .i64 k.l.to))]) ?_
  refine rvP C (.ptr 3 1) ?_
  refine rvP C (.pv (.lit (.int .i64 k.i))) ?_
  refine rvc_un (rexec_callObjR hP C (fun b => bif b == 0 then 0 else bif b == 1 then 1 else b) [(20, 2)] rfl rfl rfl (nTakeR_calls n k.l k.i ho (by rw [← hR] at hne; exact hne)) rfl rfl ⟨rfl, trivial⟩ (of_decide_eq_true rfl) rfl (of_decide_eq_true rfl) (of_decide_eq_true rfl) (allB_cons rfl allB_nil) (allB_cons rfl allB_nil) (allB_cons rfl (allB_cons rfl allB_nil)) ?_ rfl (allB_cons rfl allB_nil))
  refine rvP C (.sl 20 0 ((nTake n k.l k.i).2.1.D.length) 1 false) ?_
  refine rvP C (.pv (.lit (.bool ((nTake n k.l k.i).2.2.1)))) ?_
  refine rvP C (.pv (.lit (.int .i64 ((nTake n k.l k.i).2.2.2)))) ?_
  refine rvP C (.sl 20 0 ((nTake n k.l k.i).2.1.D.length) 1 false) ?_
  refine rvP C (.pv (.lit (.bool ((nTake n k.l k.i).2.2.1)))) ?_
  refine rvP C (.pv (.lit (.int .i64 ((nTake n k.l k.i).2.2.2)))) ?_
  refine rvc_nil ?_
  refine Awp.weakenR (S := [(4, .sl 3 0 ((nTake n k.l k.i).2.1.D).length 1 false), (5, .pv (.lit (.bool ((nTake n k.l k.i).2.2.1)))), (6, .pv (.lit (.int .i64 ((nTake n k.l k.i).2.2.2))))]) (H := [(0, .cells [.mp 1, .pv (.lit (.int .u64 ((nTake n k.l k.i).1.side))), .pv (.lit (.int .i64 ((nTake n k.l k.i).1.lost))), .pv (.lit (.bool ((nTake n k.l k.i).1.made)))]), (1, mapE kLink vT77.enc ((nTake n k.l k.i).1.of_)), (2, .cells (encC (eI .u8) k.b.D)), (3, .cells (encC (eI .u8) ((nTake n k.l k.i).2.1.D)))]) (U := [0, 1, 2, 3]) (fun x => bif x == 3 then 20 else x) (WeakerR.ofLI (I := [0, 1, 2]) (Ks := [0, 1, 2, 3]) hI ⟨⟨(sl_to rfl rfl (by simp)), rfl⟩, ⟨rfl, rfl⟩, ⟨rfl, rfl⟩, trivial⟩ (okH_cons rfl rfl rfl rfl (okH_map rfl rfl rfl (okH_list rfl rfl rfl (okH_list rfl rfl rfl (okH_nil))))) rfl rfl) ?_
  refine Awp.ret ?_
  subst hR
  exact ⟨.inl rfl, rfl, rfl, ⟨rfl, rfl, rfl, trivial⟩⟩
 ·
  replace hR := of_false h1 hR
  refine Awp.regionP C ?_
  refine rvP C (.pv (.lit (.bool ((IntKind.i64.wrap ((IntKind.u64.wrap k.op).tmod 9)) == 4)))) ?_
  refine rvP C (.pv (.lit (.bool ((IntKind.i64.wrap ((IntKind.u64.wrap k.op).tmod 9)) == 4)))) ?_
  refine rvc_nil ?_
  refine Awp.cond (b := ((IntKind.i64.wrap ((IntKind.u64.wrap k.op).tmod 9)) == 4)) rfl (fun h2 => ?_) (fun h2 => ?_)
  ·
   replace hR := of_true h2 hR
   refine Awp.cons C (fun _ => .writer) (by kernel_rfl) ?_
   refine rvP C (.ptr 0 0) ?_
   refine rvP C (.ptr 3 2) ?_
   refine rvP C (.agg [.pv (.lit (.int .i64 k.l.from_)), .pv (.lit (.int .i64 k.l.to))]) ?_
   refine rvP C (.ptr 3 1) ?_
   refine rvP C (.pv (.lit (.int .i64 k.i))) ?_
   refine rvc_un (rexec_callObjR hP C (fun b => bif b == 0 then 0 else bif b == 1 then 1 else b) [(20, 2)] rfl rfl rfl (nTakeR_calls n k.l k.i ho (by rw [← hR] at hne; exact hne)) rfl rfl ⟨rfl, trivial⟩ (of_decide_eq_true rfl) rfl (of_decide_eq_true rfl) (of_decide_eq_true rfl) (allB_cons rfl allB_nil) (allB_cons rfl allB_nil) (allB_cons rfl (allB_cons rfl allB_nil)) ?_ rfl (allB_cons rfl allB_nil))
   refine rvP C (.sl 20 0 ((nTake n k.l k.i).2.1.D.length) 1 false) ?_
   refine rvP C (.pv (.lit (.bool ((nTake n k.l k.i).2.2.1)))) ?_
   refine rvP C (.pv (.lit (.int .i64 ((nTake n k.l k.i).2.2.2)))) ?_
   refine rvP C (.sl 20 0 ((nTake n k.l k.i).2.1.D.length) 1 false) ?_
   refine rvP C (.pv (.lit (.bool ((nTake n k.l k.i).2.2.1)))) ?_
   refine rvP C (.pv (.lit (.int .i64 ((nTake n k.l k.i).2.2.2)))) ?_
   refine rvc_nil ?_
   refine Awp.weakenR (S := [(4, .sl 3 0 ((nTake n k.l k.i).2.1.D).length 1 false), (5, .pv (.lit (.bool ((nTake n k.l k.i).2.2.1)))), (6, .pv (.lit (.int .i64 ((nTake n k.l k.i).2.2.2))))]) (H := [(0, .cells [.mp 1, .pv (.lit (.int .u64 ((nTake n k.l k.i).1.side))), .pv (.lit (.int .i64 ((nTake n k.l k.i).1.lost))), .pv (.lit (.bool ((nTake n k.l k.i).1.made)))]), (1, mapE kLink vT77.enc ((nTake n k.l k.i).1.of_)), (2, .cells (encC (eI .u8) k.b.D)), (3, .cells (encC (eI .u8) ((nTake n k.l k.i).2.1.D)))]) (U := [0, 1, 2, 3]) (fun x => bif x == 3 then 20 else x) (WeakerR.ofLI (I := [0, 1, 2]) (Ks := [0, 1, 2, 3]) hI ⟨⟨(sl_to rfl rfl (by simp)), rfl⟩, ⟨rfl, rfl⟩, ⟨rfl, rfl⟩, trivial⟩ (okH_cons rfl rfl rfl rfl (okH_map rfl rfl rfl (okH_list rfl rfl rfl (okH_list rfl rfl rfl (okH_nil))))) rfl rfl) ?_
   refine Awp.ret ?_
   subst hR
   exact ⟨.inl rfl, rfl, rfl, ⟨rfl, rfl, rfl, trivial⟩⟩
  ·
   replace hR := of_false h2 hR
   refine Awp.consP C ?_
   refine rvP C (.pv (.lit (.bool ((IntKind.i64.wrap ((IntKind.u64.wrap k.op).tmod 9)) == 5)))) ?_
   refine rvP C (.pv (.lit (.bool ((IntKind.i64.wrap ((IntKind.u64.wrap k.op).tmod 9)) == 5)))) ?_
   refine rvc_nil ?_
   refine Awp.cond (b := ((IntKind.i64.wrap ((IntKind.u64.wrap k.op).tmod 9)) == 5)) rfl (fun h3 => ?_) (fun h3 => ?_)
   ·
    replace hR := of_true h3 hR
    refine Awp.cons C (fun _ => .writer) (by kernel_rfl) ?_
    refine rvP C (.ptr 0 0) ?_
    refine rvP C (.ptr 3 2) ?_
    refine rvP C (.agg [.pv (.lit (.int .i64 k.l.from_)), .pv (.lit (.int .i64 k.l.to))]) ?_
    refine rvP C (.ptr 3 1) ?_
    refine rvP C (.pv (.lit (.int .i64 k.i))) ?_
    refine rvc_un (rexec_callObj hP C (fun b => bif b == 0 then 0 else bif b == 1 then 1 else b) [] rfl rfl rfl (nLose_calls n k.l k.i ho) rfl rfl ⟨rfl, trivial⟩ (of_decide_eq_true rfl) rfl (of_decide_eq_true rfl) (of_decide_eq_true rfl) allB_nil allB_nil (allB_cons rfl allB_nil) ?_ rfl (allB_cons rfl allB_nil))
    refine rvP C (sS (some true) (eI .u8) []) ?_
    refine rvP C (.pv (.lit (.bool false))) ?_
    refine rvP C (.pv (.lit (.int .i64 ((nLose n k.l k.i).2)))) ?_
    refine rvc_nil ?_
    subst hR
    cases hne
   ·
    replace hR := of_false h3 hR
    refine Awp.consP C ?_
    refine rvP C (.pv (.lit (.bool ((IntKind.i64.wrap ((IntKind.u64.wrap k.op).tmod 9)) == 6)))) ?_
    refine rvP C (.pv (.lit (.bool ((IntKind.i64.wrap ((IntKind.u64.wrap k.op).tmod 9)) == 6)))) ?_
    refine rvc_nil ?_
    refine Awp.cond (b := ((IntKind.i64.wrap ((IntKind.u64.wrap k.op).tmod 9)) == 6)) rfl (fun h4 => ?_) (fun h4 => ?_)
    ·
     replace hR := of_true h4 hR
     refine Awp.cons C (fun _ => .writer) (by kernel_rfl) ?_
     refine rvP C (.ptr 0 0) ?_
     refine rvP C (.ptr 3 2) ?_
     refine rvP C (.agg [.pv (.lit (.int .i64 k.l.from_)), .pv (.lit (.int .i64 k.l.to))]) ?_
     refine rvP C (.ptr 3 1) ?_
     refine rvP C (.pv (.lit (.int .i64 k.i))) ?_
     refine rvc_un (rexec_callObj hP C (fun b => bif b == 0 then 0 else bif b == 1 then 1 else b) [] rfl rfl rfl (nDouble_calls n k.l k.i ho) rfl rfl ⟨rfl, trivial⟩ (of_decide_eq_true rfl) rfl (of_decide_eq_true rfl) (of_decide_eq_true rfl) allB_nil allB_nil (allB_cons rfl allB_nil) ?_ rfl (allB_cons rfl allB_nil))
     refine rvP C (sS (some true) (eI .u8) []) ?_
     refine rvP C (.pv (.lit (.bool false))) ?_
     refine rvP C (.pv (.lit (.int .i64 ((nDouble n k.l k.i).2)))) ?_
     refine rvc_nil ?_
     subst hR
     cases hne
    ·
     replace hR := of_false h4 hR
     refine Awp.consP C ?_
     refine rvP C (.pv (.lit (.bool ((IntKind.i64.wrap ((IntKind.u64.wrap k.op).tmod 9)) == 7)))) ?_
     refine rvP C (.pv (.lit (.bool ((IntKind.i64.wrap ((IntKind.u64.wrap k.op).tmod 9)) == 7)))) ?_
     refine rvc_nil ?_
     refine Awp.cond (b := ((IntKind.i64.wrap ((IntKind.u64.wrap k.op).tmod 9)) == 7)) rfl (fun h5 => ?_) (fun h5 => ?_)
     ·
      replace hR := of_true h5 hR
      refine Awp.cons C (fun _ => .writer) (by kernel_rfl) ?_
      refine rvP C (.ptr 0 0) ?_
      refine rvP C (.ptr 3 5) ?_
      refine rvP C (.pv (.lit (.int .u64 k.side))) ?_
      refine rvc_un (rexec_callObj hP C (fun b => bif b == 0 then 0 else bif b == 1 then 1 else b) [] rfl rfl rfl (nWall_calls n k.side) rfl rfl ⟨rfl, trivial⟩ (of_decide_eq_true rfl) rfl (of_decide_eq_true rfl) (of_decide_eq_true rfl) allB_nil allB_nil (allB_cons rfl allB_nil) ?_ rfl (allB_cons rfl allB_nil))
      refine rvP C (sS (some true) (eI .u8) []) ?_
      refine rvP C (.pv (.lit (.bool false))) ?_
      refine rvP C (.pv (.lit (.int .i64 ((nWall n k.side).2)))) ?_
      refine rvc_nil ?_
      subst hR
      cases hne
     ·
      replace hR := of_false h5 hR
      refine Awp.consP C ?_
      refine rvP C (.pv (.lit (.bool ((IntKind.i64.wrap ((IntKind.u64.wrap k.op).tmod 9)) == 8)))) ?_
      refine rvP C (.pv (.lit (.bool ((IntKind.i64.wrap ((IntKind.u64.wrap k.op).tmod 9)) == 8)))) ?_
      refine rvc_nil ?_
      refine Awp.cond (b := ((IntKind.i64.wrap ((IntKind.u64.wrap k.op).tmod 9)) == 8)) rfl (fun h6 => ?_) (fun h6 => ?_)
      ·
       replace hR := of_true h6 hR
       refine Awp.cons C (fun _ => .writer) (by kernel_rfl) ?_
       refine rvP C (.ptr 0 0) ?_
       refine rvP C (.ptr 3 1) ?_
       refine rvP C (.pv (.lit (.int .i64 k.i))) ?_
       refine rvc_un (rexec_callObj hP C (fun b => bif b == 0 then 0 else bif b == 1 then 1 else b) [] rfl rfl rfl (nForget_calls n k.i) rfl rfl ⟨rfl, trivial⟩ (of_decide_eq_true rfl) rfl (of_decide_eq_true rfl) (of_decide_eq_true rfl) allB_nil allB_nil (allB_cons rfl allB_nil) ?_ rfl (allB_cons rfl allB_nil))
       refine rvP C (sS (some true) (eI .u8) []) ?_
       refine rvP C (.pv (.lit (.bool false))) ?_
       refine rvP C (.pv (.lit (.int .i64 ((nForget n k.i).2)))) ?_
       refine rvc_nil ?_
       subst hR
       cases hne
      ·
       replace hR := of_false h6 hR
       refine Awp.skip ?_
       refine Awp.cons C (fun _ => .writer) (by kernel_rfl) ?_
       refine rvP C (.ptr 0 0) ?_
       refine rvP C (.ptr 3 2) ?_
       refine rvP C (.agg [.pv (.lit (.int .i64 k.l.from_)), .pv (.lit (.int .i64 k.l.to))]) ?_
       refine rvP C (.ptr 3 4) ?_
       refine rvP C (.sl 2 0 k.b.D.length 1 tt_) ?_
       refine rvc_un (rexec_callObj hP C (fun b => bif b == 0 then 0 else bif b == 1 then 1 else bif b == 2 then 2 else b) [] rfl rfl rfl (nSendW_calls n k.l (Sl.mk false k.b.D) k.b.D.length tt_ rfl hl1) rfl rfl ⟨rfl, rfl, trivial⟩ (of_decide_eq_true rfl) rfl (of_decide_eq_true rfl) (of_decide_eq_true rfl) allB_nil allB_nil (allB_cons rfl (allB_cons rfl allB_nil)) ?_ rfl (allB_cons rfl (allB_cons rfl allB_nil)))
       refine rvP C (sS (some true) (eI .u8) []) ?_
       refine rvP C (.pv (.lit (.bool false))) ?_
       refine rvP C (.pv (.lit (.int .i64 ((nSendW n k.l (Sl.mk false k.b.D)).2)))) ?_
       refine rvc_nil ?_
       subst hR
       cases hne
def doesO (n : Net) (k : Do) : Net × (Sl Int) × Bool × Int :=
  (bif ((IntKind.i64.wrap ((IntKind.u64.wrap k.op).tmod 9)) == 3) then ((nTake n k.l k.i).1, (nTake n k.l k.i).2.1, (nTake n k.l k.i).2.2.1, (nTake n k.l k.i).2.2.2) else (bif ((IntKind.i64.wrap ((IntKind.u64.wrap k.op).tmod 9)) == 4) then ((nTake n k.l k.i).1, (nTake n k.l k.i).2.1, (nTake n k.l k.i).2.2.1, (nTake n k.l k.i).2.2.2) else (bif ((IntKind.i64.wrap ((IntKind.u64.wrap k.op).tmod 9)) == 5) then ((nLose n k.l k.i).1, (Sl.mk true []), false, (nLose n k.l k.i).2) else (bif ((IntKind.i64.wrap ((IntKind.u64.wrap k.op).tmod 9)) == 6) then ((nDouble n k.l k.i).1, (Sl.mk true []), false, (nDouble n k.l k.i).2) else (bif ((IntKind.i64.wrap ((IntKind.u64.wrap k.op).tmod 9)) == 7) then ((nWall n k.side).1, (Sl.mk true []), false, (nWall n k.side).2) else (bif ((IntKind.i64.wrap ((IntKind.u64.wrap k.op).tmod 9)) == 8) then ((nForget n k.i).1, (Sl.mk true []), false, (nForget n k.i).2) else ((nSend n k.l k.b).1, (Sl.mk true []), false, (nSend n k.l k.b).2)))))))
theorem doesO_calls (n : Net) (k : Do) (ho : okN n) (hne : (doesO n k).2.1.nil = false) (hl1 : k.b.D.length ≤ 1000000) : ObjCallsR Try.prog 13 [.ptr 0 0, .agg [.pv (.lit (.int .i64 k.op)), .pv (.lit (.int .i64 k.i)), .pv (.lit (.int .i64 k.l.from_)), .pv (.lit (.int .i64 k.l.to)), sS (some k.b.nil) (eI .u8) k.b.D, .pv (.lit (.int .u64 k.side))]] [.mp 1, .pv (.lit (.int .u64 n.side)), .pv (.lit (.int .i64 n.lost)), .pv (.lit (.bool n.made))] [(1, mapE kLink vT77.enc n.of_)] (.tup [.sl 2 0 ((doesO n k).2.1.D.length) 1 false, .pv (.lit (.bool ((doesO n k).2.2.1))), .pv (.lit (.int .i64 ((doesO n k).2.2.2)))]) [.mp 1, .pv (.lit (.int .u64 ((doesO n k).1.side))), .pv (.lit (.int .i64 ((doesO n k).1.lost))), .pv (.lit (.bool ((doesO n k).1.made)))] [(1, mapE kLink vT77.enc ((doesO n k).1.of_)), (2, .cells (encC (eI .u8) ((doesO n k).2.1.D)))] := by
 generalize hR : doesO n k = R
 rw [hR] at hne
 refine ObjCallsR.of_body tabOk Try.func13 rfl rfl rfl rfl rfl (allB_cons (mapE_within _ _) allB_nil) (of_decide_eq_true rfl) rfl rfl (allB_cons (mapE_within _ _) (allB_cons (encC_within _ _) allB_nil)) (of_decide_eq_true rfl) mixed fun E hP C hI => ?_
 refine Awp.consP C ?_
 refine rvc_un (rexec_prim C (δ := { v := .ptr 3 0, new := [(3, .cells [.pv (.lit (.int .i64 k.op)), .pv (.lit (.int .i64 k.i)), .pv (.lit (.int .i64 k.l.from_)), .pv (.lit (.int .i64 k.l.to)), sS (some k.b.nil) (eI .u8) k.b.D, .pv (.lit (.int .u64 k.side))])] }) rfl rfl rfl rfl trivial rfl ?_)
 refine rvP C (sS (some true) (eI .u8) []) ?_
 refine rvP C (.pv (.lit (.bool false))) ?_
 refine rvP C (.pv (.lit (.int .i64 0))) ?_
 refine rvc_nil ?_
 refine Awp.seq ?_
 refine Awp.consP C ?_
 refine rvP C (.ptr 3 0) ?_
 refine rvP C (.pv (.lit (.int .i64 k.op))) ?_
 refine rvP C (.pv (.lit (.int .u64 (IntKind.u64.wrap k.op)))) ?_
 refine rvc_un (rexec_prim C (δ := { v := .pv (.lit (.int .u64 ((IntKind.u64.wrap k.op).tmod 9))) }) rfl rfl rfl rfl (by first | decide | omega) rfl ?_)
 refine rvP C (.pv (.lit (.int .i64 (IntKind.i64.wrap ((IntKind.u64.wrap k.op).tmod 9))))) ?_
 refine rvc_nil ?_
 refine Awp.block ?_
 refine Awp.seq ?_
 refine Awp.consP C ?_
 refine rvP C (.pv (.lit (.bool ((IntKind.i64.wrap ((IntKind.u64.wrap k.op).tmod 9)) == 3)))) ?_
 refine rvP C (.pv (.lit (.bool ((IntKind.i64.wrap ((IntKind.u64.wrap k.op).tmod 9)) == 3)))) ?_
 refine rvc_nil ?_
 refine Awp.cond (b := ((IntKind.i64.wrap ((IntKind.u64.wrap k.op).tmod 9)) == 3)) rfl (fun h1 => ?_) (fun h1 => ?_)
 ·
  replace hR := of_true h1 hR
  refine Awp.skip ?_
  refine Awp.condT (b := ((IntKind.i64.wrap ((IntKind.u64.wrap k.op).tmod 9)) == 3)) rfl h1 ?_
  refine Awp.cons C (fun _ => .writer) (by kernel_rfl) ?_
  refine rvP C (.ptr 0 0) ?_
  refine rvP C (.ptr 3 2) ?_
  refine rvP C (.agg [.pv (.lit (.int .i64 k.l.from_)), .pv (.lit (.int .i64 k.l.to))]) ?_
  refine rvP C (.ptr 3 1) ?_
  refine rvP C (.pv (.lit (.int .i64 k.i))) ?_
  refine rvc_un (rexec_callObjR hP C (fun b => bif b == 0 then 0 else bif b == 1 then 1 else b) [(20, 2)] rfl rfl rfl (nTakeR_calls n k.l k.i ho (by rw [← hR] at hne; exact hne)) rfl rfl ⟨rfl, trivial⟩ (of_decide_eq_true rfl) rfl (of_decide_eq_true rfl) (of_decide_eq_true rfl) (allB_cons rfl allB_nil) (allB_cons rfl allB_nil) (allB_cons rfl (allB_cons rfl allB_nil)) ?_ rfl (allB_cons rfl allB_nil))
  refine rvP C (.sl 20 0 ((nTake n k.l k.i).2.1.D.length) 1 false) ?_
  refine rvP C (.pv (.lit (.bool ((nTake n k.l k.i).2.2.1)))) ?_
  refine rvP C (.pv (.lit (.int .i64 ((nTake n k.l k.i).2.2.2)))) ?_
  refine rvP C (.sl 20 0 ((nTake n k.l k.i).2.1.D.length) 1 false) ?_
  refine rvP C (.pv (.lit (.bool ((nTake n k.l k.i).2.2.1)))) ?_
  refine rvP C (.pv (.lit (.int .i64 ((nTake n k.l k.i).2.2.2)))) ?_
  refine rvc_nil ?_
  refine Awp.weakenR (S := [(4, .sl 2 0 ((nTake n k.l k.i).2.1.D).length 1 false), (5, .pv (.lit (.bool ((nTake n k.l k.i).2.2.1)))), (6, .pv (.lit (.int .i64 ((nTake n k.l k.i).2.2.2))))]) (H := [(0, .cells [.mp 1, .pv (.lit (.int .u64 ((nTake n k.l k.i).1.side))), .pv (.lit (.int .i64 ((nTake n k.l k.i).1.lost))), .pv (.lit (.bool ((nTake n k.l k.i).1.made)))]), (1, mapE kLink vT77.enc ((nTake n k.l k.i).1.of_)), (2, .cells (encC (eI .u8) ((nTake n k.l k.i).2.1.D)))]) (U := [0, 1, 2]) (fun x => bif x == 2 then 20 else x) (WeakerR.ofLI (I := [0, 1]) (Ks := [0, 1, 2]) hI ⟨⟨(sl_to rfl rfl (by simp)), rfl⟩, ⟨rfl, rfl⟩, ⟨rfl, rfl⟩, trivial⟩ (okH_cons rfl rfl rfl rfl (okH_map rfl rfl rfl (okH_list rfl rfl rfl (okH_nil)))) rfl rfl) ?_
  refine Awp.ret ?_
  subst hR
  exact ⟨.inl rfl, rfl, rfl, ⟨rfl, rfl, trivial⟩⟩
 ·
  replace hR := of_false h1 hR
  refine Awp.regionP C ?_
  refine rvP C (.pv (.lit (.bool ((IntKind.i64.wrap ((IntKind.u64.wrap k.op).tmod 9)) == 4)))) ?_
  refine rvP C (.pv (.lit (.bool ((IntKind.i64.wrap ((IntKind.u64.wrap k.op).tmod 9)) == 4)))) ?_
  refine rvc_nil ?_
  refine Awp.cond (b := ((IntKind.i64.wrap ((IntKind.u64.wrap k.op).tmod 9)) == 4)) rfl (fun h2 => ?_) (fun h2 => ?_)
  ·
   replace hR := of_true h2 hR
   refine Awp.cons C (fun _ => .writer) (by kernel_rfl) ?_
   refine rvP C (.ptr 0 0) ?_
   refine rvP C (.ptr 3 2) ?_
   refine rvP C (.agg [.pv (.lit (.int .i64 k.l.from_)), .pv (.lit (.int .i64 k.l.to))]) ?_
   refine rvP C (.ptr 3 1) ?_
   refine rvP C (.pv (.lit (.int .i64 k.i))) ?_
   refine rvc_un (rexec_callObjR hP C (fun b => bif b == 0 then 0 else bif b == 1 then 1 else b) [(20, 2)] rfl rfl rfl (nTakeR_calls n k.l k.i ho (by rw [← hR] at hne; exact hne)) rfl rfl ⟨rfl, trivial⟩ (of_decide_eq_true rfl) rfl (of_decide_eq_true rfl) (of_decide_eq_true rfl) (allB_cons rfl allB_nil) (allB_cons rfl allB_nil) (allB_cons rfl (allB_cons rfl allB_nil)) ?_ rfl (allB_cons rfl allB_nil))
   refine rvP C (.sl 20 0 ((nTake n k.l k.i).2.1.D.length) 1 false) ?_
   refine rvP C (.pv (.lit (.bool ((nTake n k.l k.i).2.2.1)))) ?_
   refine rvP C (.pv (.lit (.int .i64 ((nTake n k.l k.i).2.2.2)))) ?_
   refine rvP C (.sl 20 0 ((nTake n k.l k.i).2.1.D.length) 1 false) ?_
   refine rvP C (.pv (.lit (.bool ((nTake n k.l k.i).2.2.1)))) ?_
   refine rvP C (.pv (.lit (.int .i64 ((nTake n k.l k.i).2.2.2)))) ?_
   refine rvc_nil ?_
   refine Awp.weakenR (S := [(4, .sl 2 0 ((nTake n k.l k.i).2.1.D).length 1 false), (5, .pv (.lit (.bool ((nTake n k.l k.i).2.2.1)))), (6, .pv (.lit (.int .i64 ((nTake n k.l k.i).2.2.2))))]) (H := [(0, .cells [.mp 1, .pv (.lit (.int .u64 ((nTake n k.l k.i).1.side))), .pv (.lit (.int .i64 ((nTake n k.l k.i).1.lost))), .pv (.lit (.bool ((nTake n k.l k.i).1.made)))]), (1, mapE kLink vT77.enc ((nTake n k.l k.i).1.of_)), (2, .cells (encC (eI .u8) ((nTake n k.l k.i).2.1.D)))]) (U := [0, 1, 2]) (fun x => bif x == 2 then 20 else x) (WeakerR.ofLI (I := [0, 1]) (Ks := [0, 1, 2]) hI ⟨⟨(sl_to rfl rfl (by simp)), rfl⟩, ⟨rfl, rfl⟩, ⟨rfl, rfl⟩, trivial⟩ (okH_cons rfl rfl rfl rfl (okH_map rfl rfl rfl (okH_list rfl rfl rfl (okH_nil)))) rfl rfl) ?_
   refine Awp.ret ?_
   subst hR
   exact ⟨.inl rfl, rfl, rfl, ⟨rfl, rfl, trivial⟩⟩
  ·
   replace hR := of_false h2 hR
   refine Awp.consP C ?_
   refine rvP C (.pv (.lit (.bool ((IntKind.i64.wrap ((IntKind.u64.wrap k.op).tmod 9)) == 5)))) ?_
   refine rvP C (.pv (.lit (.bool ((IntKind.i64.wrap ((IntKind.u64.wrap k.op).tmod 9)) == 5)))) ?_
   refine rvc_nil ?_
   refine Awp.cond (b := ((IntKind.i64.wrap ((IntKind.u64.wrap k.op).tmod 9)) == 5)) rfl (fun h3 => ?_) (fun h3 => ?_)
   ·
    replace hR := of_true h3 hR
    refine Awp.cons C (fun _ => .writer) (by kernel_rfl) ?_
    refine rvP C (.ptr 0 0) ?_
    refine rvP C (.ptr 3 2) ?_
    refine rvP C (.agg [.pv (.lit (.int .i64 k.l.from_)), .pv (.lit (.int .i64 k.l.to))]) ?_
    refine rvP C (.ptr 3 1) ?_
    refine rvP C (.pv (.lit (.int .i64 k.i))) ?_
    refine rvc_un (rexec_callObj hP C (fun b => bif b == 0 then 0 else bif b == 1 then 1 else b) [] rfl rfl rfl (nLose_calls n k.l k.i ho) rfl rfl ⟨rfl, trivial⟩ (of_decide_eq_true rfl) rfl (of_decide_eq_true rfl) (of_decide_eq_true rfl) allB_nil allB_nil (allB_cons rfl allB_nil) ?_ rfl (allB_cons rfl allB_nil))
    refine rvP C (sS (some true) (eI .u8) []) ?_
    refine rvP C (.pv (.lit (.bool false))) ?_
    refine rvP C (.pv (.lit (.int .i64 ((nLose n k.l k.i).2)))) ?_
    refine rvc_nil ?_
    subst hR
    cases hne
   ·
    replace hR := of_false h3 hR
    refine Awp.consP C ?_
    refine rvP C (.pv (.lit (.bool ((IntKind.i64.wrap ((IntKind.u64.wrap k.op).tmod 9)) == 6)))) ?_
    refine rvP C (.pv (.lit (.bool ((IntKind.i64.wrap ((IntKind.u64.wrap k.op).tmod 9)) == 6)))) ?_
    refine rvc_nil ?_
    refine Awp.cond (b := ((IntKind.i64.wrap ((IntKind.u64.wrap k.op).tmod 9)) == 6)) rfl (fun h4 => ?_) (fun h4 => ?_)
    ·
     replace hR := of_true h4 hR
     refine Awp.cons C (fun _ => .writer) (by kernel_rfl) ?_
     refine rvP C (.ptr 0 0) ?_
     refine rvP C (.ptr 3 2) ?_
     refine rvP C (.agg [.pv (.lit (.int .i64 k.l.from_)), .pv (.lit (.int .i64 k.l.to))]) ?_
     refine rvP C (.ptr 3 1) ?_
     refine rvP C (.pv (.lit (.int .i64 k.i))) ?_
     refine rvc_un (rexec_callObj hP C (fun b => bif b == 0 then 0 else bif b == 1 then 1 else b) [] rfl rfl rfl (nDouble_calls n k.l k.i ho) rfl rfl ⟨rfl, trivial⟩ (of_decide_eq_true rfl) rfl (of_decide_eq_true rfl) (of_decide_eq_true rfl) allB_nil allB_nil (allB_cons rfl allB_nil) ?_ rfl (allB_cons rfl allB_nil))
     refine rvP C (sS (some true) (eI .u8) []) ?_
     refine rvP C (.pv (.lit (.bool false))) ?_
     refine rvP C (.pv (.lit (.int .i64 ((nDouble n k.l k.i).2)))) ?_
     refine rvc_nil ?_
     subst hR
     cases hne
    ·
     replace hR := of_false h4 hR
     refine Awp.consP C ?_
     refine rvP C (.pv (.lit (.bool ((IntKind.i64.wrap ((IntKind.u64.wrap k.op).tmod 9)) == 7)))) ?_
     refine rvP C (.pv (.lit (.bool ((IntKind.i64.wrap ((IntKind.u64.wrap k.op).tmod 9)) == 7)))) ?_
     refine rvc_nil ?_
     refine Awp.cond (b := ((IntKind.i64.wrap ((IntKind.u64.wrap k.op).tmod 9)) == 7)) rfl (fun h5 => ?_) (fun h5 => ?_)
     ·
      replace hR := of_true h5 hR
      refine Awp.cons C (fun _ => .writer) (by kernel_rfl) ?_
      refine rvP C (.ptr 0 0) ?_
      refine rvP C (.ptr 3 5) ?_
      refine rvP C (.pv (.lit (.int .u64 k.side))) ?_
      refine rvc_un (rexec_callObj hP C (fun b => bif b == 0 then 0 else bif b == 1 then 1 else b) [] rfl rfl rfl (nWall_calls n k.side) rfl rfl ⟨rfl, trivial⟩ (of_decide_eq_true rfl) rfl (of_decide_eq_true rfl) (of_decide_eq_true rfl) allB_nil allB_nil (allB_cons rfl allB_nil) ?_ rfl (allB_cons rfl allB_nil))
      refine rvP C (sS (some true) (eI .u8) []) ?_
      refine rvP C (.pv (.lit (.bool false))) ?_
      refine rvP C (.pv (.lit (.int .i64 ((nWall n k.side).2)))) ?_
      refine rvc_nil ?_
      subst hR
      cases hne
     ·
      replace hR := of_false h5 hR
      refine Awp.consP C ?_
      refine rvP C (.pv (.lit (.bool ((IntKind.i64.wrap ((IntKind.u64.wrap k.op).tmod 9)) == 8)))) ?_
      refine rvP C (.pv (.lit (.bool ((IntKind.i64.wrap ((IntKind.u64.wrap k.op).tmod 9)) == 8)))) ?_
      refine rvc_nil ?_
      refine Awp.cond (b := ((IntKind.i64.wrap ((IntKind.u64.wrap k.op).tmod 9)) == 8)) rfl (fun h6 => ?_) (fun h6 => ?_)
      ·
       replace hR := of_true h6 hR
       refine Awp.cons C (fun _ => .writer) (by kernel_rfl) ?_
       refine rvP C (.ptr 0 0) ?_
       refine rvP C (.ptr 3 1) ?_
       refine rvP C (.pv (.lit (.int .i64 k.i))) ?_
       refine rvc_un (rexec_callObj hP C (fun b => bif b == 0 then 0 else bif b == 1 then 1 else b) [] rfl rfl rfl (nForget_calls n k.i) rfl rfl ⟨rfl, trivial⟩ (of_decide_eq_true rfl) rfl (of_decide_eq_true rfl) (of_decide_eq_true rfl) allB_nil allB_nil (allB_cons rfl allB_nil) ?_ rfl (allB_cons rfl allB_nil))
       refine rvP C (sS (some true) (eI .u8) []) ?_
       refine rvP C (.pv (.lit (.bool false))) ?_
       refine rvP C (.pv (.lit (.int .i64 ((nForget n k.i).2)))) ?_
       refine rvc_nil ?_
       subst hR
       cases hne
      ·
       replace hR := of_false h6 hR
       refine Awp.skip ?_
       refine Awp.cons C (fun _ => .writer) (by kernel_rfl) ?_
       refine rvP C (.ptr 0 0) ?_
       refine rvP C (.ptr 3 2) ?_
       refine rvP C (.agg [.pv (.lit (.int .i64 k.l.from_)), .pv (.lit (.int .i64 k.l.to))]) ?_
       refine rvP C (.ptr 3 4) ?_
       refine rvP C (sS (some k.b.nil) (eI .u8) k.b.D) ?_
       refine rvc_un (rexec_callObj hP C (fun b => bif b == 0 then 0 else bif b == 1 then 1 else b) [] rfl rfl rfl (nSend_calls n k.l k.b hl1) rfl rfl ⟨rfl, trivial⟩ (of_decide_eq_true rfl) rfl (of_decide_eq_true rfl) (of_decide_eq_true rfl) allB_nil allB_nil (allB_cons rfl allB_nil) ?_ rfl (allB_cons rfl allB_nil))
       refine rvP C (sS (some true) (eI .u8) []) ?_
       refine rvP C (.pv (.lit (.bool false))) ?_
       refine rvP C (.pv (.lit (.int .i64 ((nSend n k.l k.b).2)))) ?_
       refine rvc_nil ?_
       subst hR
       cases hne
end Go.Proofs.Ytpeeofofagfooaa
namespace Go.Proofs.Ytpeeofofagfooaa
open Go.Am
theorem nSendW_eq (n : Net) (l : Link) (b : Sl Int) (hb : b.nil = false) : nSendW n l b = nSend n l b := by
  obtain ⟨f, D⟩ := b
  dsimp only at hb
  subst hb
  rfl
theorem doesW_eq (n : Net) (k : Do) (hb : k.b.nil = false) : doesW n k = does n k := by
  unfold doesW does
  have e : Sl.mk false k.b.D = k.b := by rw [← hb]
  rw [e, nSendW_eq _ _ _ hb]
theorem doesWO_eq (n : Net) (k : Do) (hb : k.b.nil = false) : doesWO n k = does n k := by
  unfold doesWO does
  have e : Sl.mk false k.b.D = k.b := by rw [← hb]
  rw [e, nSendW_eq _ _ _ hb]
theorem cloneBytes_nilD (s : Sl Int) (h : (cloneBytes s).nil = true) : (cloneBytes s).D = [] := by
  unfold cloneBytes at h ⊢
  cases e : s.nil
  · rw [e] at h; cases h
  · rfl
theorem nTake_nilD (n : Net) (l : Link) (i : Int) (h : (nTake n l i).2.1.nil = true) : (nTake n l i).2.1.D = [] := by
  unfold nTake at h ⊢
  cases h1 : (able n l i) != 0
  · rw [h1] at h
    simp only [cond_false] at h ⊢
    cases h2 : !((mHas ((nCut n l i).1.side) l.from_) == (mHas ((nCut n l i).1.side) l.to))
    · rw [h2] at h
      exact cloneBytes_nilD _ h
    · rfl
  · rfl
theorem nPeek_nilD (n : Net) (l : Link) (i : Int) (h : (nPeek n l i).1.nil = true) : (nPeek n l i).1.D = [] := by
  unfold nPeek at h ⊢
  cases h1 : (able n l i) != 0
  · rw [h1] at h
    exact cloneBytes_nilD _ h
  · rfl
theorem cloneBytes_len (s : Sl Int) : (cloneBytes s).D.length ≤ s.D.length := by
  unfold cloneBytes
  cases s.nil
  · exact Nat.le_refl _
  · exact Nat.zero_le _
theorem nTake_len {n : Net} (h : okN n) (l : Link) (i : Int) : (nTake n l i).2.1.D.length ≤ 1000000 := by
  unfold nTake
  cases (able n l i) != 0
  · rw [cond_false]
    cases !((mHas ((nCut n l i).1.side) l.from_) == (mHas ((nCut n l i).1.side) l.to))
    · exact Nat.le_trans (cloneBytes_len _) (cut_len h l i)
    · exact Nat.zero_le _
  · exact Nat.zero_le _
theorem nPeek_len {n : Net} (h : okN n) (l : Link) (i : Int) : (nPeek n l i).1.D.length ≤ 1000000 := by
  unfold nPeek
  cases (able n l i) != 0
  · exact Nat.le_trans (cloneBytes_len _) (Nat.le_trans (h.msg l _) (by decide))
  · exact Nat.zero_le _
theorem does_len {n : Net} (h : okN n) (k : Do) : (does n k).2.1.D.length ≤ 1000000 := by
  unfold does
  generalize (IntKind.i64.wrap ((IntKind.u64.wrap k.op).tmod 9)) = o
  cases o == 3
  case true => exact nTake_len h _ _
  cases o == 4
  case true => exact nTake_len h _ _
  cases o == 5
  case true => exact Nat.zero_le _
  cases o == 6
  case true => exact Nat.zero_le _
  cases o == 7
  case true => exact Nat.zero_le _
  cases o == 8 <;> exact Nat.zero_le _
theorem does_nilD (n : Net) (k : Do) (h : (does n k).2.1.nil = true) : (does n k).2.1.D = [] := by
  unfold does at h ⊢
  generalize (IntKind.i64.wrap ((IntKind.u64.wrap k.op).tmod 9)) = o at h ⊢
  cases h3 : o == 3
  case true => rw [h3] at h; exact nTake_nilD _ _ _ h
  cases h4 : o == 4
  case true => rw [h3, h4] at h; exact nTake_nilD _ _ _ h
  cases o == 5
  case true => rfl
  cases o == 6
  case true => rfl
  cases o == 7
  case true => rfl
  cases o == 8 <;> rfl
theorem doesZ_calls (n : Net) (k : Do) (ho : okN n) (hz : (does n k).2.1.nil = true) (hl1 : k.b.D.length ≤ 1000000) : ObjCalls Try.prog 13 [.ptr 0 0, .agg [.pv (.lit (.int .i64 k.op)), .pv (.lit (.int .i64 k.i)), .pv (.lit (.int .i64 k.l.from_)), .pv (.lit (.int .i64 k.l.to)), sS (some k.b.nil) (eI .u8) k.b.D, .pv (.lit (.int .u64 k.side))]] [.mp 1, .pv (.lit (.int .u64 n.side)), .pv (.lit (.int .i64 n.lost)), .pv (.lit (.bool n.made))] [(1, mapE kLink vT77.enc n.of_)] (.tup [sS (some true) (eI .u8) [], .pv (.lit (.bool ((does n k).2.2.1))), .pv (.lit (.int .i64 ((does n k).2.2.2)))]) [.mp 1, .pv (.lit (.int .u64 ((does n k).1.side))), .pv (.lit (.int .i64 ((does n k).1.lost))), .pv (.lit (.bool ((does n k).1.made)))] [(1, mapE kLink vT77.enc ((does n k).1.of_))] := by
  have F := does_calls n k ho hl1
  rw [hz, does_nilD n k hz] at F
  exact F
theorem doesWZ_calls (n : Net) (k : Do) (n_ : Nat) (tt_ : Bool) (hn_ : n_ = k.b.D.length) (ho : okN n) (hz : (does n k).2.1.nil = true) (hb : k.b.nil = false) (hl1 : k.b.D.length ≤ 1000000) : ObjCalls Try.prog 13 [.ptr 0 0, .agg [.pv (.lit (.int .i64 k.op)), .pv (.lit (.int .i64 k.i)), .pv (.lit (.int .i64 k.l.from_)), .pv (.lit (.int .i64 k.l.to)), .sl 2 0 n_ 1 tt_, .pv (.lit (.int .u64 k.side))]] [.mp 1, .pv (.lit (.int .u64 n.side)), .pv (.lit (.int .i64 n.lost)), .pv (.lit (.bool n.made))] [(1, mapE kLink vT77.enc n.of_), (2, .cells (encC (eI .u8) k.b.D))] (.tup [sS (some true) (eI .u8) [], .pv (.lit (.bool ((does n k).2.2.1))), .pv (.lit (.int .i64 ((does n k).2.2.2)))]) [.mp 1, .pv (.lit (.int .u64 ((does n k).1.side))), .pv (.lit (.int .i64 ((does n k).1.lost))), .pv (.lit (.bool ((does n k).1.made)))] [(1, mapE kLink vT77.enc ((does n k).1.of_)), (2, .cells (encC (eI .u8) k.b.D))] := by
  have F := doesW_calls n k n_ tt_ hn_ ho hl1
  rw [doesW_eq n k hb] at F
  rw [hz, does_nilD n k hz] at F
  exact F
theorem doesWR_calls (n : Net) (k : Do) (n_ : Nat) (tt_ : Bool) (hn_ : n_ = k.b.D.length) (ho : okN n) (hne : (does n k).2.1.nil = false) (hb : k.b.nil = false) (hl1 : k.b.D.length ≤ 1000000) : ObjCallsR Try.prog 13 [.ptr 0 0, .agg [.pv (.lit (.int .i64 k.op)), .pv (.lit (.int .i64 k.i)), .pv (.lit (.int .i64 k.l.from_)), .pv (.lit (.int .i64 k.l.to)), .sl 2 0 n_ 1 tt_, .pv (.lit (.int .u64 k.side))]] [.mp 1, .pv (.lit (.int .u64 n.side)), .pv (.lit (.int .i64 n.lost)), .pv (.lit (.bool n.made))] [(1, mapE kLink vT77.enc n.of_), (2, .cells (encC (eI .u8) k.b.D))] (.tup [.sl 3 0 ((does n k).2.1.D.length) 1 false, .pv (.lit (.bool ((does n k).2.2.1))), .pv (.lit (.int .i64 ((does n k).2.2.2)))]) [.mp 1, .pv (.lit (.int .u64 ((does n k).1.side))), .pv (.lit (.int .i64 ((does n k).1.lost))), .pv (.lit (.bool ((does n k).1.made)))] [(1, mapE kLink vT77.enc ((does n k).1.of_)), (2, .cells (encC (eI .u8) k.b.D)), (3, .cells (encC (eI .u8) ((does n k).2.1.D)))] := by
  have F := doesWO_calls n k n_ tt_ hn_ ho (by rw [doesWO_eq n k hb]; exact hne) hl1
  rw [doesWO_eq n k hb] at F
  exact F
theorem doesR_calls (n : Net) (k : Do) (ho : okN n) (hne : (does n k).2.1.nil = false) (hl1 : k.b.D.length ≤ 1000000) : ObjCallsR Try.prog 13 [.ptr 0 0, .agg [.pv (.lit (.int .i64 k.op)), .pv (.lit (.int .i64 k.i)), .pv (.lit (.int .i64 k.l.from_)), .pv (.lit (.int .i64 k.l.to)), sS (some k.b.nil) (eI .u8) k.b.D, .pv (.lit (.int .u64 k.side))]] [.mp 1, .pv (.lit (.int .u64 n.side)), .pv (.lit (.int .i64 n.lost)), .pv (.lit (.bool n.made))] [(1, mapE kLink vT77.enc n.of_)] (.tup [.sl 2 0 ((does n k).2.1.D.length) 1 false, .pv (.lit (.bool ((does n k).2.2.1))), .pv (.lit (.int .i64 ((does n k).2.2.2)))]) [.mp 1, .pv (.lit (.int .u64 ((does n k).1.side))), .pv (.lit (.int .i64 ((does n k).1.lost))), .pv (.lit (.bool ((does n k).1.made)))] [(1, mapE kLink vT77.enc ((does n k).1.of_)), (2, .cells (encC (eI .u8) ((does n k).2.1.D)))] := by
  exact doesO_calls n k ho hne hl1
theorem nPeekZ_calls (n : Net) (l : Link) (i : Int) (ho : okN n) (hz : (nPeek n l i).1.nil = true) : ObjCalls Try.prog 14 [.ptr 0 0, .agg [.pv (.lit (.int .i64 l.from_)), .pv (.lit (.int .i64 l.to))], .pv (.lit (.int .i64 i))] [.mp 1, .pv (.lit (.int .u64 n.side)), .pv (.lit (.int .i64 n.lost)), .pv (.lit (.bool n.made))] [(1, mapE kLink vT77.enc n.of_)] (.tup [sS (some true) (eI .u8) [], .pv (.lit (.int .i64 ((nPeek n l i).2)))]) [.mp 1, .pv (.lit (.int .u64 n.side)), .pv (.lit (.int .i64 n.lost)), .pv (.lit (.bool n.made))] [(1, mapE kLink vT77.enc n.of_)] := by
  have F := nPeek_calls n l i ho
  rw [hz, nPeek_nilD n l i hz] at F
  exact F
end Go.Proofs.Ytpeeofofagfooaa
