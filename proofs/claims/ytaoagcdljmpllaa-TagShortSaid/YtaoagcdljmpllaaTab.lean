/- The table of the types of the seat of chapters 3 and 7, and that it is so. No conditions. -/
import Derived.Test.YtaoagcdljmpllaaProg
import Derived.Test.YtaoagcdljmpllaaAm16
import Derived.KernelRfl
namespace Go.Proofs.Ytaoagcdljmpllaa
open Go.Am
def tab : Tab := [
  (3, ⟨.int .i64, 1, 8, .int .i64 0, false⟩),
  (4, ⟨.bool, 1, 1, .bool false, false⟩),
  (5, ⟨.int .u8, 1, 1, .int .u8 0, false⟩),
  (22, ⟨.array 16 5, 16, 16, .agg #[.int .u8 0, .int .u8 0, .int .u8 0, .int .u8 0, .int .u8 0, .int .u8 0, .int .u8 0, .int .u8 0, .int .u8 0, .int .u8 0, .int .u8 0, .int .u8 0, .int .u8 0, .int .u8 0, .int .u8 0, .int .u8 0], true⟩),
  (23, ⟨.int .u64, 1, 8, .int .u64 0, false⟩),
  (24, ⟨.int .u32, 1, 4, .int .u32 0, false⟩),
  (25, ⟨.array 4 24, 4, 16, .agg #[.int .u32 0, .int .u32 0, .int .u32 0, .int .u32 0], true⟩),
  (26, ⟨.int .i64, 1, 8, .int .i64 0, false⟩),
  (29, ⟨.slice 5, 1, 24, .slice none 0 0, false⟩),
  (35, ⟨.int .u64, 1, 8, .int .u64 0, false⟩),
  (59, ⟨.array 4 24, 4, 16, .agg #[.int .u32 0, .int .u32 0, .int .u32 0, .int .u32 0], true⟩)]
theorem inf3 : (Try.prog.info? 3).map (fun i => (i.size, i.bytes, i.zero)) = some (1, 8, some (.int .i64 0)) := by kernel_rfl
theorem inf4 : (Try.prog.info? 4).map (fun i => (i.size, i.bytes, i.zero)) = some (1, 1, some (.bool false)) := by kernel_rfl
theorem inf5 : (Try.prog.info? 5).map (fun i => (i.size, i.bytes, i.zero)) = some (1, 1, some (.int .u8 0)) := by kernel_rfl
theorem inf22 : (Try.prog.info? 22).map (fun i => (i.size, i.bytes, i.zero)) = some (16, 16, some (.agg #[.int .u8 0, .int .u8 0, .int .u8 0, .int .u8 0, .int .u8 0, .int .u8 0, .int .u8 0, .int .u8 0, .int .u8 0, .int .u8 0, .int .u8 0, .int .u8 0, .int .u8 0, .int .u8 0, .int .u8 0, .int .u8 0])) := by kernel_rfl
theorem inf23 : (Try.prog.info? 23).map (fun i => (i.size, i.bytes, i.zero)) = some (1, 8, some (.int .u64 0)) := by kernel_rfl
theorem inf24 : (Try.prog.info? 24).map (fun i => (i.size, i.bytes, i.zero)) = some (1, 4, some (.int .u32 0)) := by kernel_rfl
theorem inf25 : (Try.prog.info? 25).map (fun i => (i.size, i.bytes, i.zero)) = some (4, 16, some (.agg #[.int .u32 0, .int .u32 0, .int .u32 0, .int .u32 0])) := by kernel_rfl
theorem inf26 : (Try.prog.info? 26).map (fun i => (i.size, i.bytes, i.zero)) = some (1, 8, some (.int .i64 0)) := by kernel_rfl
theorem inf29 : (Try.prog.info? 29).map (fun i => (i.size, i.bytes, i.zero)) = some (1, 24, some (.slice none 0 0)) := by kernel_rfl
theorem inf35 : (Try.prog.info? 35).map (fun i => (i.size, i.bytes, i.zero)) = some (1, 8, some (.int .u64 0)) := by kernel_rfl
theorem inf59 : (Try.prog.info? 59).map (fun i => (i.size, i.bytes, i.zero)) = some (4, 16, some (.agg #[.int .u32 0, .int .u32 0, .int .u32 0, .int .u32 0])) := by kernel_rfl
theorem tabOk : TabOk Try.prog tab := TabOk.cons Try.underlying3 inf3 (fun h => by cases h) (TabOk.cons Try.underlying4 inf4 (fun h => by cases h) (TabOk.cons Try.underlying5 inf5 (fun h => by cases h) (TabOk.cons Try.underlying22 inf22 (fun _ => ⟨by kernel_rfl, by kernel_rfl⟩) (TabOk.cons Try.underlying23 inf23 (fun h => by cases h) (TabOk.cons Try.underlying24 inf24 (fun h => by cases h) (TabOk.cons Try.underlying25 inf25 (fun _ => ⟨by kernel_rfl, by kernel_rfl⟩) (TabOk.cons Try.underlying26 inf26 (fun h => by cases h) (TabOk.cons Try.underlying29 inf29 (fun h => by cases h) (TabOk.cons Try.underlying35 inf35 (fun h => by cases h) (TabOk.cons Try.underlying59 inf59 (fun _ => ⟨by kernel_rfl, by kernel_rfl⟩) (TabOk.nil _)))))))))))
theorem mixed : Try.prog.follows .mixedOrders = true := by kernel_rfl
end Go.Proofs.Ytaoagcdljmpllaa
