/- What all rows of this seat need: no knob is turned, the types are laid out. No conditions. -/
import Derived.Test.YtjhphpoihadmkaaTabB
import Derived.Test.YtjhphpoihadmkaaAm19
namespace Go.Proofs.Ytjhphpoihadmkaa
open Go.Am
theorem own : ownKnob Try.prog.godebug = none := by kernel_rfl
theorem laidOut : laidOutB Try.prog = true := by kernel_rfl
end Go.Proofs.Ytjhphpoihadmkaa
