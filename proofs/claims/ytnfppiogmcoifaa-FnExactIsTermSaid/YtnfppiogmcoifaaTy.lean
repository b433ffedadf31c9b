/- The types of this seat's program as the walk reads them; no conditions. -/
import Derived.Test.YtnfppiogmcoifaaGx6
import Derived.Test.YtnfppiogmcoifaaChecked
namespace Go.Proofs.Ytnfppiogmcoifaa
open Go Gx
def tt : Nat → Option TI
  | 2 => some ⟨.int .i64, 1, 8, .int .i64 0⟩
  | 3 => some ⟨.int .i64, 1, 8, .int .i64 0⟩
  | 4 => some ⟨.bool, 1, 1, .bool false⟩
  | 5 => some ⟨.int .u8, 1, 1, .u8 0⟩
  | 9 => some ⟨.str, 1, 16, .raw (.string .empty) rfl⟩
  | 12 => some ⟨.int .u64, 1, 8, .int .u64 0⟩
  | 13 => some ⟨.struct [0, 1] [9, 12], 2, 24, .agg [.raw (.string .empty) rfl, .int .u64 0]⟩
  | 21 => some ⟨.int .i32, 1, 4, .int .i32 0⟩
  | 23 => some ⟨.arr 10 5, 10, 10, .arr8 10 fun _ => 0⟩
  | 25 => some ⟨.arr 10 5, 10, 10, .arr8 10 fun _ => 0⟩
  | 28 => some ⟨.slice 5, 1, 24, .raw (.slice none 0 0) rfl⟩
  | 32 => some ⟨.arr 10 23, 100, 100, .arr8 100 fun _ => 0⟩
  | 33 => some ⟨.arr 10 23, 100, 100, .arr8 100 fun _ => 0⟩
  | 34 => some ⟨.struct [0, 1] [2, 33], 101, 112, .agg [.int .i64 0, .arr8 100 fun _ => 0]⟩
  | 35 => some ⟨.struct [0, 1] [2, 33], 101, 112, .agg [.int .i64 0, .arr8 100 fun _ => 0]⟩
  | 40 => some ⟨.struct [0, 10, 20] [23, 23, 23], 30, 30, .agg [.arr8 10 fun _ => 0, .arr8 10 fun _ => 0, .arr8 10 fun _ => 0]⟩
  | 41 => some ⟨.struct [0, 10, 20] [23, 23, 23], 30, 30, .agg [.arr8 10 fun _ => 0, .arr8 10 fun _ => 0, .arr8 10 fun _ => 0]⟩
  | 43 => some ⟨.struct [0, 10, 20] [25, 25, 25], 30, 30, .agg [.arr8 10 fun _ => 0, .arr8 10 fun _ => 0, .arr8 10 fun _ => 0]⟩
  | 44 => some ⟨.struct [0, 10, 20] [25, 25, 25], 30, 30, .agg [.arr8 10 fun _ => 0, .arr8 10 fun _ => 0, .arr8 10 fun _ => 0]⟩
  | 47 => some ⟨.slice 23, 1, 24, .raw (.slice none 0 0) rfl⟩
  | 51 => some ⟨.slice 25, 1, 24, .raw (.slice none 0 0) rfl⟩
  | 56 => some ⟨.struct [0, 1] [2, 32], 101, 112, .agg [.int .i64 0, .arr8 100 fun _ => 0]⟩
  | 57 => some ⟨.struct [0, 1] [2, 32], 101, 112, .agg [.int .i64 0, .arr8 100 fun _ => 0]⟩
  | 75 => some ⟨.ptr 97, 1, 8, .raw (.pointer none) rfl⟩
  | 82 => some ⟨.arr 10 4, 10, 10, .barr 10 fun _ => false⟩
  | 83 => some ⟨.int .u64, 1, 8, .int .u64 0⟩
  | 87 => some ⟨.slice 91, 1, 24, .raw (.slice none 0 0) rfl⟩
  | 89 => some ⟨.arr 10 25, 100, 100, .arr8 100 fun _ => 0⟩
  | 90 => some ⟨.struct [0, 1, 11] [2, 82, 89], 111, 120, .agg [.int .i64 0, .barr 10 fun _ => false, .arr8 100 fun _ => 0]⟩
  | 91 => some ⟨.struct [0, 1, 11] [2, 82, 89], 111, 120, .agg [.int .i64 0, .barr 10 fun _ => false, .arr8 100 fun _ => 0]⟩
  | 92 => some ⟨.slice 2, 1, 24, .raw (.slice none 0 0) rfl⟩
  | 93 => some ⟨.arr 10 51, 10, 240, .varr 10 (fun _ => (.slice none 0 0)) (fun _ => rfl)⟩
  | 94 => some ⟨.arr 10 89, 1000, 1000, .arr8 1000 fun _ => 0⟩
  | 95 => some ⟨.arr 10 82, 100, 100, .barr 100 fun _ => false⟩
  | 96 => some ⟨.struct [0, 1, 11, 1011] [2, 93, 94, 95], 1111, 1352, .agg [.int .i64 0, .varr 10 (fun _ => (.slice none 0 0)) (fun _ => rfl), .arr8 1000 fun _ => 0, .barr 100 fun _ => false]⟩
  | 97 => some ⟨.struct [0, 1, 11, 1011] [2, 93, 94, 95], 1111, 1352, .agg [.int .i64 0, .varr 10 (fun _ => (.slice none 0 0)) (fun _ => rfl), .arr8 1000 fun _ => 0, .barr 100 fun _ => false]⟩
  | 116 => some ⟨.int .u32, 1, 4, .int .u32 0⟩
  | 120 => some ⟨.ptr 5, 1, 8, .raw (.pointer none) rfl⟩
  | _ => none
set_option maxRecDepth 100000 in
theorem tok : ∀ t i, tt t = some i → i.met Try.prog t := by
  intro t i h
  unfold tt at h
  split at h <;> first | (cases h; done) | (simp only [Option.some.injEq] at h; subst h)
  · exact ⟨⟨_, Try.underlying2, rfl⟩, by kernel_rfl, rfl, rfl, rfl⟩
  · exact ⟨⟨_, Try.underlying3, rfl⟩, by kernel_rfl, rfl, rfl, rfl⟩
  · exact ⟨⟨_, Try.underlying4, rfl⟩, by kernel_rfl, rfl, rfl, rfl⟩
  · exact ⟨⟨_, Try.underlying5, rfl⟩, by kernel_rfl, rfl, rfl, rfl⟩
  · exact ⟨⟨_, Try.underlying9, rfl⟩, by kernel_rfl, rfl, rfl, rfl⟩
  · exact ⟨⟨_, Try.underlying12, rfl⟩, by kernel_rfl, rfl, rfl, rfl⟩
  · exact ⟨⟨_, Try.underlying13, ⟨_, rfl, rfl, rfl⟩⟩, by kernel_rfl, rfl, rfl, rfl⟩
  · exact ⟨⟨_, Try.underlying21, rfl⟩, by kernel_rfl, rfl, rfl, rfl⟩
  · exact ⟨⟨_, Try.underlying23, rfl⟩, by kernel_rfl, rfl, rfl, rfl⟩
  · exact ⟨⟨_, Try.underlying25, rfl⟩, by kernel_rfl, rfl, rfl, rfl⟩
  · exact ⟨⟨_, Try.underlying28, rfl⟩, by kernel_rfl, rfl, rfl, rfl⟩
  · exact ⟨⟨_, Try.underlying32, rfl⟩, by kernel_rfl, rfl, rfl, rfl⟩
  · exact ⟨⟨_, Try.underlying33, rfl⟩, by kernel_rfl, rfl, rfl, rfl⟩
  · exact ⟨⟨_, Try.underlying34, ⟨_, rfl, rfl, rfl⟩⟩, by kernel_rfl, rfl, rfl, rfl⟩
  · exact ⟨⟨_, Try.underlying35, ⟨_, rfl, rfl, rfl⟩⟩, by kernel_rfl, rfl, rfl, rfl⟩
  · exact ⟨⟨_, Try.underlying40, ⟨_, rfl, rfl, rfl⟩⟩, by kernel_rfl, rfl, rfl, rfl⟩
  · exact ⟨⟨_, Try.underlying41, ⟨_, rfl, rfl, rfl⟩⟩, by kernel_rfl, rfl, rfl, rfl⟩
  · exact ⟨⟨_, Try.underlying43, ⟨_, rfl, rfl, rfl⟩⟩, by kernel_rfl, rfl, rfl, rfl⟩
  · exact ⟨⟨_, Try.underlying44, ⟨_, rfl, rfl, rfl⟩⟩, by kernel_rfl, rfl, rfl, rfl⟩
  · exact ⟨⟨_, Try.underlying47, rfl⟩, by kernel_rfl, rfl, rfl, rfl⟩
  · exact ⟨⟨_, Try.underlying51, rfl⟩, by kernel_rfl, rfl, rfl, rfl⟩
  · exact ⟨⟨_, Try.underlying56, ⟨_, rfl, rfl, rfl⟩⟩, by kernel_rfl, rfl, rfl, rfl⟩
  · exact ⟨⟨_, Try.underlying57, ⟨_, rfl, rfl, rfl⟩⟩, by kernel_rfl, rfl, rfl, rfl⟩
  · exact ⟨⟨_, Try.underlying75, rfl⟩, by kernel_rfl, rfl, rfl, rfl⟩
  · exact ⟨⟨_, Try.underlying82, rfl⟩, by kernel_rfl, rfl, rfl, rfl⟩
  · exact ⟨⟨_, Try.underlying83, rfl⟩, by kernel_rfl, rfl, rfl, rfl⟩
  · exact ⟨⟨_, Try.underlying87, rfl⟩, by kernel_rfl, rfl, rfl, rfl⟩
  · exact ⟨⟨_, Try.underlying89, rfl⟩, by kernel_rfl, rfl, rfl, rfl⟩
  · exact ⟨⟨_, Try.underlying90, ⟨_, rfl, rfl, rfl⟩⟩, by kernel_rfl, rfl, rfl, rfl⟩
  · exact ⟨⟨_, Try.underlying91, ⟨_, rfl, rfl, rfl⟩⟩, by kernel_rfl, rfl, rfl, rfl⟩
  · exact ⟨⟨_, Try.underlying92, rfl⟩, by kernel_rfl, rfl, rfl, rfl⟩
  · exact ⟨⟨_, Try.underlying93, rfl⟩, by kernel_rfl, rfl, rfl, rfl⟩
  · exact ⟨⟨_, Try.underlying94, rfl⟩, by kernel_rfl, rfl, rfl, rfl⟩
  · exact ⟨⟨_, Try.underlying95, rfl⟩, by kernel_rfl, rfl, rfl, rfl⟩
  · exact ⟨⟨_, Try.underlying96, ⟨_, rfl, rfl, rfl⟩⟩, by kernel_rfl, rfl, rfl, rfl⟩
  · exact ⟨⟨_, Try.underlying97, ⟨_, rfl, rfl, rfl⟩⟩, by kernel_rfl, rfl, rfl, rfl⟩
  · exact ⟨⟨_, Try.underlying116, rfl⟩, by kernel_rfl, rfl, rfl, rfl⟩
  · exact ⟨⟨_, Try.underlying120, rfl⟩, by kernel_rfl, rfl, rfl, rfl⟩
end Go.Proofs.Ytnfppiogmcoifaa
