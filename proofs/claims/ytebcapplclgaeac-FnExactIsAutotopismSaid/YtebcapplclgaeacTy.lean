/- The types of this seat's program as the walk reads them; no conditions. -/
import Derived.Test.YtebcapplclgaeacGx6
import Derived.Test.YtebcapplclgaeacChecked
namespace Go.Proofs.Ytebcapplclgaeac
open Go Gx
def tt : Nat → Option TI
  | 2 => some ⟨.int .i64, 1, 8, .int .i64 0⟩
  | 3 => some ⟨.int .i64, 1, 8, .int .i64 0⟩
  | 4 => some ⟨.bool, 1, 1, .bool false⟩
  | 5 => some ⟨.int .u8, 1, 1, .u8 0⟩
  | 9 => some ⟨.str, 1, 16, .raw (.string .empty) rfl⟩
  | 12 => some ⟨.int .u64, 1, 8, .int .u64 0⟩
  | 13 => some ⟨.struct [0, 1] [9, 12], 2, 24, .agg [.raw (.string .empty) rfl, .int .u64 0]⟩
  | 21 => some ⟨.int .i32, 1, 4, .int .i32 0⟩
  | 22 => some ⟨.arr 10 5, 10, 10, .arr8 10 fun _ => 0⟩
  | 23 => some ⟨.arr 10 22, 100, 100, .arr8 100 fun _ => 0⟩
  | 24 => some ⟨.struct [0, 1] [2, 23], 101, 112, .agg [.int .i64 0, .arr8 100 fun _ => 0]⟩
  | 25 => some ⟨.struct [0, 1] [2, 23], 101, 112, .agg [.int .i64 0, .arr8 100 fun _ => 0]⟩
  | 28 => some ⟨.arr 10 22, 100, 100, .arr8 100 fun _ => 0⟩
  | 29 => some ⟨.struct [0, 1] [2, 28], 101, 112, .agg [.int .i64 0, .arr8 100 fun _ => 0]⟩
  | 30 => some ⟨.struct [0, 1] [2, 28], 101, 112, .agg [.int .i64 0, .arr8 100 fun _ => 0]⟩
  | 43 => some ⟨.slice 2, 1, 24, .raw (.slice none 0 0) rfl⟩
  | 51 => some ⟨.slice 64, 1, 24, .raw (.slice none 0 0) rfl⟩
  | 56 => some ⟨.slice 43, 1, 24, .raw (.slice none 0 0) rfl⟩
  | 61 => some ⟨.struct [0, 10, 20] [22, 22, 22], 30, 30, .agg [.arr8 10 fun _ => 0, .arr8 10 fun _ => 0, .arr8 10 fun _ => 0]⟩
  | 62 => some ⟨.struct [0, 10, 20] [22, 22, 22], 30, 30, .agg [.arr8 10 fun _ => 0, .arr8 10 fun _ => 0, .arr8 10 fun _ => 0]⟩
  | 64 => some ⟨.arr 10 5, 10, 10, .arr8 10 fun _ => 0⟩
  | 65 => some ⟨.struct [0, 10, 20] [64, 64, 64], 30, 30, .agg [.arr8 10 fun _ => 0, .arr8 10 fun _ => 0, .arr8 10 fun _ => 0]⟩
  | 66 => some ⟨.struct [0, 10, 20] [64, 64, 64], 30, 30, .agg [.arr8 10 fun _ => 0, .arr8 10 fun _ => 0, .arr8 10 fun _ => 0]⟩
  | 72 => some ⟨.slice 5, 1, 24, .raw (.slice none 0 0) rfl⟩
  | 82 => some ⟨.arr 3 5, 3, 3, .arr8 3 fun _ => 0⟩
  | 104 => some ⟨.slice 9, 1, 24, .raw (.slice none 0 0) rfl⟩
  | 116 => some ⟨.arr 10 4, 10, 10, .barr 10 fun _ => false⟩
  | 124 => some ⟨.int .u32, 1, 4, .int .u32 0⟩
  | 128 => some ⟨.ptr 5, 1, 8, .raw (.pointer none) rfl⟩
  | _ => none
set_option maxRecDepth 100000 in
theorem tok : ∀ t i, tt t = some i → i.met Try.prog t := by
  intro t i h
  unfold tt at h
  split at h <;> first | (cases h; done) | (simp only [Option.some.injEq] at h; subst h)
  · exact ⟨⟨_, Try.underlying2, rfl⟩, by kernel_rfl, rfl, rfl, rfl⟩
  · exact ⟨⟨_, Try.underlying3, rfl⟩, by kernel_rfl, rfl, rfl, rfl⟩
  · exact ⟨⟨_, Try.underlying4, rfl⟩, by kernel_rfl, rfl, rfl, rfl⟩
  · exact ⟨⟨_, Try.underlying5, rfl⟩, by kernel_rfl, rfl, rfl, rfl⟩
  · exact ⟨⟨_, Try.underlying9, rfl⟩, by kernel_rfl, rfl, rfl, rfl⟩
  · exact ⟨⟨_, Try.underlying12, rfl⟩, by kernel_rfl, rfl, rfl, rfl⟩
  · exact ⟨⟨_, Try.underlying13, ⟨_, rfl, rfl, rfl⟩⟩, by kernel_rfl, rfl, rfl, rfl⟩
  · exact ⟨⟨_, Try.underlying21, rfl⟩, by kernel_rfl, rfl, rfl, rfl⟩
  · exact ⟨⟨_, Try.underlying22, rfl⟩, by kernel_rfl, rfl, rfl, rfl⟩
  · exact ⟨⟨_, Try.underlying23, rfl⟩, by kernel_rfl, rfl, rfl, rfl⟩
  · exact ⟨⟨_, Try.underlying24, ⟨_, rfl, rfl, rfl⟩⟩, by kernel_rfl, rfl, rfl, rfl⟩
  · exact ⟨⟨_, Try.underlying25, ⟨_, rfl, rfl, rfl⟩⟩, by kernel_rfl, rfl, rfl, rfl⟩
  · exact ⟨⟨_, Try.underlying28, rfl⟩, by kernel_rfl, rfl, rfl, rfl⟩
  · exact ⟨⟨_, Try.underlying29, ⟨_, rfl, rfl, rfl⟩⟩, by kernel_rfl, rfl, rfl, rfl⟩
  · exact ⟨⟨_, Try.underlying30, ⟨_, rfl, rfl, rfl⟩⟩, by kernel_rfl, rfl, rfl, rfl⟩
  · exact ⟨⟨_, Try.underlying43, rfl⟩, by kernel_rfl, rfl, rfl, rfl⟩
  · exact ⟨⟨_, Try.underlying51, rfl⟩, by kernel_rfl, rfl, rfl, rfl⟩
  · exact ⟨⟨_, Try.underlying56, rfl⟩, by kernel_rfl, rfl, rfl, rfl⟩
  · exact ⟨⟨_, Try.underlying61, ⟨_, rfl, rfl, rfl⟩⟩, by kernel_rfl, rfl, rfl, rfl⟩
  · exact ⟨⟨_, Try.underlying62, ⟨_, rfl, rfl, rfl⟩⟩, by kernel_rfl, rfl, rfl, rfl⟩
  · exact ⟨⟨_, Try.underlying64, rfl⟩, by kernel_rfl, rfl, rfl, rfl⟩
  · exact ⟨⟨_, Try.underlying65, ⟨_, rfl, rfl, rfl⟩⟩, by kernel_rfl, rfl, rfl, rfl⟩
  · exact ⟨⟨_, Try.underlying66, ⟨_, rfl, rfl, rfl⟩⟩, by kernel_rfl, rfl, rfl, rfl⟩
  · exact ⟨⟨_, Try.underlying72, rfl⟩, by kernel_rfl, rfl, rfl, rfl⟩
  · exact ⟨⟨_, Try.underlying82, rfl⟩, by kernel_rfl, rfl, rfl, rfl⟩
  · exact ⟨⟨_, Try.underlying104, rfl⟩, by kernel_rfl, rfl, rfl, rfl⟩
  · exact ⟨⟨_, Try.underlying116, rfl⟩, by kernel_rfl, rfl, rfl, rfl⟩
  · exact ⟨⟨_, Try.underlying124, rfl⟩, by kernel_rfl, rfl, rfl, rfl⟩
  · exact ⟨⟨_, Try.underlying128, rfl⟩, by kernel_rfl, rfl, rfl, rfl⟩
end Go.Proofs.Ytebcapplclgaeac
