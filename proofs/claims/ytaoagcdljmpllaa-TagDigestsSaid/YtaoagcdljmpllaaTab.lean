/- The table of the types of the seat of chapters 3 and 7, and that it is so. No conditions. -/
import Derived.Test.YtaoagcdljmpllaaProg
import Derived.Test.YtaoagcdljmpllaaAm16
import Derived.KernelRfl
namespace Go.Proofs.Ytaoagcdljmpllaa
open Go.Am
def tab : Tab := [
  (3, ⟨.int .i64, 1, 8, .int .i64 0, false⟩),
  (4, ⟨.bool, 1, 1, .bool false, false⟩),
  (5, ⟨.int .u8, 1, 1, .int .u8 0, false⟩),
  (9, ⟨.string, 1, 16, .string ⟨#[]⟩, false⟩),
  (22, ⟨.array 16 5, 16, 16, .agg #[.int .u8 0, .int .u8 0, .int .u8 0, .int .u8 0, .int .u8 0, .int .u8 0, .int .u8 0, .int .u8 0, .int .u8 0, .int .u8 0, .int .u8 0, .int .u8 0, .int .u8 0, .int .u8 0, .int .u8 0, .int .u8 0], true⟩),
  (23, ⟨.int .u64, 1, 8, .int .u64 0, false⟩),
  (24, ⟨.int .u32, 1, 4, .int .u32 0, false⟩),
  (25, ⟨.array 4 24, 4, 16, .agg #[.int .u32 0, .int .u32 0, .int .u32 0, .int .u32 0], true⟩),
  (26, ⟨.int .i64, 1, 8, .int .i64 0, false⟩),
  (29, ⟨.slice 5, 1, 24, .slice none 0 0, false⟩),
  (35, ⟨.int .u64, 1, 8, .int .u64 0, false⟩),
  (40, ⟨.slice 47, 1, 24, .slice none 0 0, false⟩),
  (43, ⟨.slice 3, 1, 24, .slice none 0 0, false⟩),
  (46, ⟨.struct #[{ name := "Write", type := 4, offset := 0, embedded := false, tag := "", pkgPath := "", byteOffset := 0 }, { name := "Value", type := 9, offset := 1, embedded := false, tag := "", pkgPath := "", byteOffset := 8 }, { name := "Ver", type := 3, offset := 2, embedded := false, tag := "", pkgPath := "", byteOffset := 24 }, { name := "Began", type := 3, offset := 3, embedded := false, tag := "", pkgPath := "", byteOffset := 32 }, { name := "Ended", type := 3, offset := 4, embedded := false, tag := "", pkgPath := "", byteOffset := 40 }], 5, 48, .agg #[.bool false, .string ⟨#[]⟩, .int .i64 0, .int .i64 0, .int .i64 0], true⟩),
  (47, ⟨.struct #[{ name := "Write", type := 4, offset := 0, embedded := false, tag := "", pkgPath := "", byteOffset := 0 }, { name := "Value", type := 9, offset := 1, embedded := false, tag := "", pkgPath := "", byteOffset := 8 }, { name := "Ver", type := 3, offset := 2, embedded := false, tag := "", pkgPath := "", byteOffset := 24 }, { name := "Began", type := 3, offset := 3, embedded := false, tag := "", pkgPath := "", byteOffset := 32 }, { name := "Ended", type := 3, offset := 4, embedded := false, tag := "", pkgPath := "", byteOffset := 40 }], 5, 48, .agg #[.bool false, .string ⟨#[]⟩, .int .i64 0, .int .i64 0, .int .i64 0], true⟩),
  (52, ⟨.slice 4, 1, 24, .slice none 0 0, false⟩),
  (59, ⟨.array 4 24, 4, 16, .agg #[.int .u32 0, .int .u32 0, .int .u32 0, .int .u32 0], true⟩),
  (68, ⟨.pointer 71, 1, 8, .pointer none, false⟩),
  (69, ⟨.map 75 4, 1, 8, .map none, false⟩),
  (70, ⟨.struct #[{ name := "l", type := 40, offset := 0, embedded := false, tag := "", pkgPath := "towline/lin", byteOffset := 0 }, { name := "been", type := 69, offset := 1, embedded := false, tag := "", pkgPath := "towline/lin", byteOffset := 24 }, { name := "row", type := 43, offset := 2, embedded := false, tag := "", pkgPath := "towline/lin", byteOffset := 32 }], 3, 56, .agg #[.slice none 0 0, .map none, .slice none 0 0], false⟩),
  (71, ⟨.struct #[{ name := "l", type := 40, offset := 0, embedded := false, tag := "", pkgPath := "towline/lin", byteOffset := 0 }, { name := "been", type := 69, offset := 1, embedded := false, tag := "", pkgPath := "towline/lin", byteOffset := 24 }, { name := "row", type := 43, offset := 2, embedded := false, tag := "", pkgPath := "towline/lin", byteOffset := 32 }], 3, 56, .agg #[.slice none 0 0, .map none, .slice none 0 0], false⟩),
  (73, ⟨.int .u64, 1, 8, .int .u64 0, false⟩),
  (74, ⟨.struct #[{ name := "done", type := 73, offset := 0, embedded := false, tag := "", pkgPath := "towline/lin", byteOffset := 0 }, { name := "value", type := 9, offset := 1, embedded := false, tag := "", pkgPath := "towline/lin", byteOffset := 8 }], 2, 24, .agg #[.int .u64 0, .string ⟨#[]⟩], true⟩),
  (75, ⟨.struct #[{ name := "done", type := 73, offset := 0, embedded := false, tag := "", pkgPath := "towline/lin", byteOffset := 0 }, { name := "value", type := 9, offset := 1, embedded := false, tag := "", pkgPath := "towline/lin", byteOffset := 8 }], 2, 24, .agg #[.int .u64 0, .string ⟨#[]⟩], true⟩),
  (82, ⟨.map 3 84, 1, 8, .map none, false⟩),
  (83, ⟨.struct #[{ name := "value", type := 9, offset := 0, embedded := false, tag := "", pkgPath := "towline/lin", byteOffset := 0 }, { name := "began", type := 3, offset := 1, embedded := false, tag := "", pkgPath := "towline/lin", byteOffset := 16 }, { name := "there", type := 4, offset := 2, embedded := false, tag := "", pkgPath := "towline/lin", byteOffset := 24 }], 3, 32, .agg #[.string ⟨#[]⟩, .int .i64 0, .bool false], true⟩),
  (84, ⟨.struct #[{ name := "value", type := 9, offset := 0, embedded := false, tag := "", pkgPath := "towline/lin", byteOffset := 0 }, { name := "began", type := 3, offset := 1, embedded := false, tag := "", pkgPath := "towline/lin", byteOffset := 16 }, { name := "there", type := 4, offset := 2, embedded := false, tag := "", pkgPath := "towline/lin", byteOffset := 24 }], 3, 32, .agg #[.string ⟨#[]⟩, .int .i64 0, .bool false], true⟩)]
theorem inf3 : (Try.prog.info? 3).map (fun i => (i.size, i.bytes, i.zero)) = some (1, 8, some (.int .i64 0)) := by kernel_rfl
theorem inf4 : (Try.prog.info? 4).map (fun i => (i.size, i.bytes, i.zero)) = some (1, 1, some (.bool false)) := by kernel_rfl
theorem inf5 : (Try.prog.info? 5).map (fun i => (i.size, i.bytes, i.zero)) = some (1, 1, some (.int .u8 0)) := by kernel_rfl
theorem inf9 : (Try.prog.info? 9).map (fun i => (i.size, i.bytes, i.zero)) = some (1, 16, some (.string ⟨#[]⟩)) := by kernel_rfl
theorem inf22 : (Try.prog.info? 22).map (fun i => (i.size, i.bytes, i.zero)) = some (16, 16, some (.agg #[.int .u8 0, .int .u8 0, .int .u8 0, .int .u8 0, .int .u8 0, .int .u8 0, .int .u8 0, .int .u8 0, .int .u8 0, .int .u8 0, .int .u8 0, .int .u8 0, .int .u8 0, .int .u8 0, .int .u8 0, .int .u8 0])) := by kernel_rfl
theorem inf23 : (Try.prog.info? 23).map (fun i => (i.size, i.bytes, i.zero)) = some (1, 8, some (.int .u64 0)) := by kernel_rfl
theorem inf24 : (Try.prog.info? 24).map (fun i => (i.size, i.bytes, i.zero)) = some (1, 4, some (.int .u32 0)) := by kernel_rfl
theorem inf25 : (Try.prog.info? 25).map (fun i => (i.size, i.bytes, i.zero)) = some (4, 16, some (.agg #[.int .u32 0, .int .u32 0, .int .u32 0, .int .u32 0])) := by kernel_rfl
theorem inf26 : (Try.prog.info? 26).map (fun i => (i.size, i.bytes, i.zero)) = some (1, 8, some (.int .i64 0)) := by kernel_rfl
theorem inf29 : (Try.prog.info? 29).map (fun i => (i.size, i.bytes, i.zero)) = some (1, 24, some (.slice none 0 0)) := by kernel_rfl
theorem inf35 : (Try.prog.info? 35).map (fun i => (i.size, i.bytes, i.zero)) = some (1, 8, some (.int .u64 0)) := by kernel_rfl
theorem inf40 : (Try.prog.info? 40).map (fun i => (i.size, i.bytes, i.zero)) = some (1, 24, some (.slice none 0 0)) := by kernel_rfl
theorem inf43 : (Try.prog.info? 43).map (fun i => (i.size, i.bytes, i.zero)) = some (1, 24, some (.slice none 0 0)) := by kernel_rfl
theorem inf46 : (Try.prog.info? 46).map (fun i => (i.size, i.bytes, i.zero)) = some (5, 48, some (.agg #[.bool false, .string ⟨#[]⟩, .int .i64 0, .int .i64 0, .int .i64 0])) := by kernel_rfl
theorem inf47 : (Try.prog.info? 47).map (fun i => (i.size, i.bytes, i.zero)) = some (5, 48, some (.agg #[.bool false, .string ⟨#[]⟩, .int .i64 0, .int .i64 0, .int .i64 0])) := by kernel_rfl
theorem inf52 : (Try.prog.info? 52).map (fun i => (i.size, i.bytes, i.zero)) = some (1, 24, some (.slice none 0 0)) := by kernel_rfl
theorem inf59 : (Try.prog.info? 59).map (fun i => (i.size, i.bytes, i.zero)) = some (4, 16, some (.agg #[.int .u32 0, .int .u32 0, .int .u32 0, .int .u32 0])) := by kernel_rfl
theorem inf68 : (Try.prog.info? 68).map (fun i => (i.size, i.bytes, i.zero)) = some (1, 8, some (.pointer none)) := by kernel_rfl
theorem inf69 : (Try.prog.info? 69).map (fun i => (i.size, i.bytes, i.zero)) = some (1, 8, some (.map none)) := by kernel_rfl
theorem inf70 : (Try.prog.info? 70).map (fun i => (i.size, i.bytes, i.zero)) = some (3, 56, some (.agg #[.slice none 0 0, .map none, .slice none 0 0])) := by kernel_rfl
theorem inf71 : (Try.prog.info? 71).map (fun i => (i.size, i.bytes, i.zero)) = some (3, 56, some (.agg #[.slice none 0 0, .map none, .slice none 0 0])) := by kernel_rfl
theorem inf73 : (Try.prog.info? 73).map (fun i => (i.size, i.bytes, i.zero)) = some (1, 8, some (.int .u64 0)) := by kernel_rfl
theorem inf74 : (Try.prog.info? 74).map (fun i => (i.size, i.bytes, i.zero)) = some (2, 24, some (.agg #[.int .u64 0, .string ⟨#[]⟩])) := by kernel_rfl
theorem inf75 : (Try.prog.info? 75).map (fun i => (i.size, i.bytes, i.zero)) = some (2, 24, some (.agg #[.int .u64 0, .string ⟨#[]⟩])) := by kernel_rfl
theorem inf82 : (Try.prog.info? 82).map (fun i => (i.size, i.bytes, i.zero)) = some (1, 8, some (.map none)) := by kernel_rfl
theorem inf83 : (Try.prog.info? 83).map (fun i => (i.size, i.bytes, i.zero)) = some (3, 32, some (.agg #[.string ⟨#[]⟩, .int .i64 0, .bool false])) := by kernel_rfl
theorem inf84 : (Try.prog.info? 84).map (fun i => (i.size, i.bytes, i.zero)) = some (3, 32, some (.agg #[.string ⟨#[]⟩, .int .i64 0, .bool false])) := by kernel_rfl
theorem tabOk : TabOk Try.prog tab := TabOk.cons Try.underlying3 inf3 (fun h => by cases h) (TabOk.cons Try.underlying4 inf4 (fun h => by cases h) (TabOk.cons Try.underlying5 inf5 (fun h => by cases h) (TabOk.cons Try.underlying9 inf9 (fun h => by cases h) (TabOk.cons Try.underlying22 inf22 (fun _ => ⟨by kernel_rfl, by kernel_rfl⟩) (TabOk.cons Try.underlying23 inf23 (fun h => by cases h) (TabOk.cons Try.underlying24 inf24 (fun h => by cases h) (TabOk.cons Try.underlying25 inf25 (fun _ => ⟨by kernel_rfl, by kernel_rfl⟩) (TabOk.cons Try.underlying26 inf26 (fun h => by cases h) (TabOk.cons Try.underlying29 inf29 (fun h => by cases h) (TabOk.cons Try.underlying35 inf35 (fun h => by cases h) (TabOk.cons Try.underlying40 inf40 (fun h => by cases h) (TabOk.cons Try.underlying43 inf43 (fun h => by cases h) (TabOk.cons Try.underlying46 inf46 (fun _ => ⟨by kernel_rfl, by kernel_rfl⟩) (TabOk.cons Try.underlying47 inf47 (fun _ => ⟨by kernel_rfl, by kernel_rfl⟩) (TabOk.cons Try.underlying52 inf52 (fun h => by cases h) (TabOk.cons Try.underlying59 inf59 (fun _ => ⟨by kernel_rfl, by kernel_rfl⟩) (TabOk.cons Try.underlying68 inf68 (fun h => by cases h) (TabOk.cons Try.underlying69 inf69 (fun h => by cases h) (TabOk.cons Try.underlying70 inf70 (fun h => by cases h) (TabOk.cons Try.underlying71 inf71 (fun h => by cases h) (TabOk.cons Try.underlying73 inf73 (fun h => by cases h) (TabOk.cons Try.underlying74 inf74 (fun _ => ⟨by kernel_rfl, by kernel_rfl⟩) (TabOk.cons Try.underlying75 inf75 (fun _ => ⟨by kernel_rfl, by kernel_rfl⟩) (TabOk.cons Try.underlying82 inf82 (fun h => by cases h) (TabOk.cons Try.underlying83 inf83 (fun _ => ⟨by kernel_rfl, by kernel_rfl⟩) (TabOk.cons Try.underlying84 inf84 (fun _ => ⟨by kernel_rfl, by kernel_rfl⟩) (TabOk.nil _)))))))))))))))))))))))))))
theorem mixed : Try.prog.follows .mixedOrders = true := by kernel_rfl
end Go.Proofs.Ytaoagcdljmpllaa
