/-
  No cell of these rows narrows 'for every input' (looked for: loops, veiled, ifaces, maps, wideKeys, modest, calm, conditions, laid).
  DERIVED. THE GIVEN ROWS OF THIS SEAT. 5 by the template 'for every input the law returns true; each argument reads behind the call as it read before'; 0 by the template 'total and deterministic' (their statements: YtoieegmebadfkaaTotals.lean).
  GIVEN WITH THE SEED: the statements are not yours to turn. If you find one false, say at which input.
  Laid BY PROGRAM, IN A SANDBOX (cutbox-rows.mjs): the forced cells as the released guide's own fill.sh prints them over the translation c140aeac5216a625… (all of the seat's roots in one cut). By AI agents, Wed Nov 11 2026. No macro, syntax, notation, axiom, sorry.
-/
import Derived.Test.YtoieegmebadfkaaChecked
import GoSem.Claim
import GoSem.ClaimJoined
import GoSem.ClaimMapViews
import Derived.JoinedTies
import Derived.KernelRfl
namespace Go.Proofs.Ytoieegmebadfkaa
/- THE CELL 'sum', in the pinned program and in every row, IS THE sha256 OF THE DUMP (.gsa) THAT YtoieegmebadfkaaProg.lean LOADS. Nothing in Lean hashes anything: it is a label: what it is worth is what the hold of that sum in a sandbox is worth. -/
noncomputable def Try.pinned : Pinned := { name := "ytoieegmebadfkaa", sum := "c140aeac5216a62566f4737bc2c807c586d93288e2fa8e247d12c14524f0ef17", checked := Try.checked }
namespace Rows
def none {H : Type} : Left H := { results := [], args := [] }

/-- 'towlinelaw23.JudgeRight': WHATEVER THE INPUT: true; the input reads as it did. -/
def judgeRightSpec : ChangeSpec := { name := "judgeRight", fn := fun _ => fun
  | [d] => { results := [.lit (.bool true)], args := [d] }
  | _ => none }
def judgeRightRow : OpenClaim := { program := "ytoieegmebadfkaa", sum := "c140aeac5216a62566f4737bc2c807c586d93288e2fa8e247d12c14524f0ef17", func := "towline/towlinelaw23.JudgeRight", spec := "judgeRight", unfollowed := true, recurses := true, plainKeys := false, apart := false }
def JudgeRightSaid : Prop := judgeRightRow.holds Try.pinned (OpenSpec.ofChange judgeRightSpec)

/-- ITS FALSE NEIGHBOUR: 'it returns false'. Refute it at one input. -/
def judgeRightWrong : ChangeSpec := { name := "judgeRight", fn := fun _ => fun
  | [d] => { results := [.lit (.bool false)], args := [d] }
  | _ => none }
def JudgeRightWrongFalsely : Prop := judgeRightRow.holds Try.pinned (OpenSpec.ofChange judgeRightWrong)

/-- 'towlinelaw23.JudgeTells': WHATEVER THE INPUT: true; the input reads as it did. -/
def judgeTellsSpec : ChangeSpec := { name := "judgeTells", fn := fun _ => fun
  | [d1, d2] => { results := [.lit (.bool true)], args := [d1, d2] }
  | _ => none }
def judgeTellsRow : OpenClaim := { program := "ytoieegmebadfkaa", sum := "c140aeac5216a62566f4737bc2c807c586d93288e2fa8e247d12c14524f0ef17", func := "towline/towlinelaw23.JudgeTells", spec := "judgeTells", unfollowed := true, recurses := true, plainKeys := false, apart := false }
def JudgeTellsSaid : Prop := judgeTellsRow.holds Try.pinned (OpenSpec.ofChange judgeTellsSpec)

/-- ITS FALSE NEIGHBOUR: 'it returns false'. Refute it at one input. -/
def judgeTellsWrong : ChangeSpec := { name := "judgeTells", fn := fun _ => fun
  | [d1, d2] => { results := [.lit (.bool false)], args := [d1, d2] }
  | _ => none }
def JudgeTellsWrongFalsely : Prop := judgeTellsRow.holds Try.pinned (OpenSpec.ofChange judgeTellsWrong)

/-- 'towlinelaw23.JudgeOps': WHATEVER THE INPUT: true; the input reads as it did. -/
def judgeOpsSpec : ChangeSpec := { name := "judgeOps", fn := fun _ => fun
  | [d1, d2, d3] => { results := [.lit (.bool true)], args := [d1, d2, d3] }
  | _ => none }
def judgeOpsRow : OpenClaim := { program := "ytoieegmebadfkaa", sum := "c140aeac5216a62566f4737bc2c807c586d93288e2fa8e247d12c14524f0ef17", func := "towline/towlinelaw23.JudgeOps", spec := "judgeOps", unfollowed := true, recurses := true, plainKeys := false, apart := false }
def JudgeOpsSaid : Prop := judgeOpsRow.holds Try.pinned (OpenSpec.ofChange judgeOpsSpec)

/-- ITS FALSE NEIGHBOUR: 'it returns false'. Refute it at one input. -/
def judgeOpsWrong : ChangeSpec := { name := "judgeOps", fn := fun _ => fun
  | [d1, d2, d3] => { results := [.lit (.bool false)], args := [d1, d2, d3] }
  | _ => none }
def JudgeOpsWrongFalsely : Prop := judgeOpsRow.holds Try.pinned (OpenSpec.ofChange judgeOpsWrong)

/-- 'towlinelaw23.JudgeFewer': WHATEVER THE INPUT: true; the input reads as it did. -/
def judgeFewerSpec : ChangeSpec := { name := "judgeFewer", fn := fun _ => fun
  | [d1, d2, d3] => { results := [.lit (.bool true)], args := [d1, d2, d3] }
  | _ => none }
def judgeFewerRow : OpenClaim := { program := "ytoieegmebadfkaa", sum := "c140aeac5216a62566f4737bc2c807c586d93288e2fa8e247d12c14524f0ef17", func := "towline/towlinelaw23.JudgeFewer", spec := "judgeFewer", unfollowed := true, recurses := true, plainKeys := false, apart := false }
def JudgeFewerSaid : Prop := judgeFewerRow.holds Try.pinned (OpenSpec.ofChange judgeFewerSpec)

/-- ITS FALSE NEIGHBOUR: 'it returns false'. Refute it at one input. -/
def judgeFewerWrong : ChangeSpec := { name := "judgeFewer", fn := fun _ => fun
  | [d1, d2, d3] => { results := [.lit (.bool false)], args := [d1, d2, d3] }
  | _ => none }
def JudgeFewerWrongFalsely : Prop := judgeFewerRow.holds Try.pinned (OpenSpec.ofChange judgeFewerWrong)

/-- 'towlinelaw23.JudgeProves': WHATEVER THE INPUT: true; the input reads as it did. -/
def judgeProvesSpec : ChangeSpec := { name := "judgeProves", fn := fun _ => fun
  | [d1, d2] => { results := [.lit (.bool true)], args := [d1, d2] }
  | _ => none }
def judgeProvesRow : OpenClaim := { program := "ytoieegmebadfkaa", sum := "c140aeac5216a62566f4737bc2c807c586d93288e2fa8e247d12c14524f0ef17", func := "towline/towlinelaw23.JudgeProves", spec := "judgeProves", unfollowed := true, recurses := true, plainKeys := false, apart := false }
def JudgeProvesSaid : Prop := judgeProvesRow.holds Try.pinned (OpenSpec.ofChange judgeProvesSpec)

/-- ITS FALSE NEIGHBOUR: 'it returns false'. Refute it at one input. -/
def judgeProvesWrong : ChangeSpec := { name := "judgeProves", fn := fun _ => fun
  | [d1, d2] => { results := [.lit (.bool false)], args := [d1, d2] }
  | _ => none }
def JudgeProvesWrongFalsely : Prop := judgeProvesRow.holds Try.pinned (OpenSpec.ofChange judgeProvesWrong)

/- THE SECOND FORM. 'bulk': how many values and letters a reading holds, each counted each time it is reached (what is shared counts as often as it is met; a slice's spare places count too). A statement '..UptoSaid' is the law's where the arguments, and the package variables that the reading takes, are together of bulk at most 1048576: NARROWER than '..Said'. Prove '..Said' where nothing that the law and all that it calls make is longer than what came in: it says more and counts as full. Else prove '..UptoSaid'. A law counts once. -/
mutual
def uptoBulk {H : Type} : DataW H → Nat
  | .lit (.string bytes) => bytes.length + 1
  | .lit _ => 1
  | .nil => 1
  | .ptr d => uptoBulk d + 1
  | .slice elems spare => uptoBulkAll elems + uptoBulkAll spare + 1
  | .agg parts => uptoBulkAll parts + 1
  | .iface _ d => uptoBulk d + 1
  | .map entries => uptoBulkEntries entries + 1
  | .held _ => 1
def uptoBulkAll {H : Type} : List (DataW H) → Nat
  | [] => 0
  | d :: r => uptoBulk d + uptoBulkAll r
def uptoBulkEntries {H : Type} : List (Lit × DataW H) → Nat
  | [] => 0
  | x :: r => uptoBulkEntry x + uptoBulkEntries r
def uptoBulkEntry {H : Type} : Lit × DataW H → Nat
  | (.string bytes, d) => bytes.length + uptoBulk d + 1
  | (_, d) => uptoBulk d + 1
 end
def uptoSmall : (H : Type) → List (DataW H) → Bool := fun _ ds => decide (uptoBulkAll ds ≤ 1048576)
def OpenSpec.upto (s : _root_.Go.ChangeSpec) : _root_.Go.OpenSpec := { _root_.Go.OpenSpec.ofChange s with cond := some uptoSmall }

/-- 'towlinelaw23.JudgeRight', WHERE WHAT IT READS IS OF BULK AT MOST 1048576: true; the input reads as it did. -/
def judgeRightUptoRow : OpenClaim := { program := "ytoieegmebadfkaa", sum := "c140aeac5216a62566f4737bc2c807c586d93288e2fa8e247d12c14524f0ef17", func := "towline/towlinelaw23.JudgeRight", spec := "judgeRight", unfollowed := true, recurses := true, plainKeys := false, apart := false, narrowed := true }
def JudgeRightUptoSaid : Prop := judgeRightUptoRow.holds Try.pinned (OpenSpec.upto judgeRightSpec)

/-- 'towlinelaw23.JudgeTells', WHERE WHAT IT READS IS OF BULK AT MOST 1048576: true; the input reads as it did. -/
def judgeTellsUptoRow : OpenClaim := { program := "ytoieegmebadfkaa", sum := "c140aeac5216a62566f4737bc2c807c586d93288e2fa8e247d12c14524f0ef17", func := "towline/towlinelaw23.JudgeTells", spec := "judgeTells", unfollowed := true, recurses := true, plainKeys := false, apart := false, narrowed := true }
def JudgeTellsUptoSaid : Prop := judgeTellsUptoRow.holds Try.pinned (OpenSpec.upto judgeTellsSpec)

/-- 'towlinelaw23.JudgeOps', WHERE WHAT IT READS IS OF BULK AT MOST 1048576: true; the input reads as it did. -/
def judgeOpsUptoRow : OpenClaim := { program := "ytoieegmebadfkaa", sum := "c140aeac5216a62566f4737bc2c807c586d93288e2fa8e247d12c14524f0ef17", func := "towline/towlinelaw23.JudgeOps", spec := "judgeOps", unfollowed := true, recurses := true, plainKeys := false, apart := false, narrowed := true }
def JudgeOpsUptoSaid : Prop := judgeOpsUptoRow.holds Try.pinned (OpenSpec.upto judgeOpsSpec)

/-- 'towlinelaw23.JudgeFewer', WHERE WHAT IT READS IS OF BULK AT MOST 1048576: true; the input reads as it did. -/
def judgeFewerUptoRow : OpenClaim := { program := "ytoieegmebadfkaa", sum := "c140aeac5216a62566f4737bc2c807c586d93288e2fa8e247d12c14524f0ef17", func := "towline/towlinelaw23.JudgeFewer", spec := "judgeFewer", unfollowed := true, recurses := true, plainKeys := false, apart := false, narrowed := true }
def JudgeFewerUptoSaid : Prop := judgeFewerUptoRow.holds Try.pinned (OpenSpec.upto judgeFewerSpec)

/-- 'towlinelaw23.JudgeProves', WHERE WHAT IT READS IS OF BULK AT MOST 1048576: true; the input reads as it did. -/
def judgeProvesUptoRow : OpenClaim := { program := "ytoieegmebadfkaa", sum := "c140aeac5216a62566f4737bc2c807c586d93288e2fa8e247d12c14524f0ef17", func := "towline/towlinelaw23.JudgeProves", spec := "judgeProves", unfollowed := true, recurses := true, plainKeys := false, apart := false, narrowed := true }
def JudgeProvesUptoSaid : Prop := judgeProvesUptoRow.holds Try.pinned (OpenSpec.upto judgeProvesSpec)

end Rows
end Go.Proofs.Ytoieegmebadfkaa
