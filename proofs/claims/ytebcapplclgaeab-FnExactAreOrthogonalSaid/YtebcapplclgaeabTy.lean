/- The types of this seat's program as the walk reads them; no conditions. -/
import Derived.Test.YtebcapplclgaeabGx6
import Derived.Test.YtebcapplclgaeabChecked
namespace Go.Proofs.Ytebcapplclgaeab
open Go Gx
def tt : Nat → Option TI
  | 2 => some ⟨.int .i64, 1, 8, .int .i64 0⟩
  | 3 => some ⟨.int .i64, 1, 8, .int .i64 0⟩
  | 4 => some ⟨.bool, 1, 1, .bool false⟩
  | 5 => some ⟨.int .u8, 1, 1, .u8 0⟩
  | 9 => some ⟨.str, 1, 16, .raw (.string .empty) rfl⟩
  | 12 => some ⟨.int .u64, 1, 8, .int .u64 0⟩
  | 13 => some ⟨.struct [0, 1] [9, 12], 2, 24, .agg [.raw (.string .empty) rfl, .int .u64 0]⟩
  | 21 => some ⟨.int .i32, 1, 4, .int .i32 0⟩
  | 22 => some ⟨.arr 10 5, 10, 10, .arr8 10 fun _ => 0⟩
  | 23 => some ⟨.arr 10 22, 100, 100, .arr8 100 fun _ => 0⟩
  | 24 => some ⟨.struct [0, 1] [2, 23], 101, 112, .agg [.int .i64 0, .arr8 100 fun _ => 0]⟩
  | 25 => some ⟨.struct [0, 1] [2, 23], 101, 112, .agg [.int .i64 0, .arr8 100 fun _ => 0]⟩
  | 26 => some ⟨.arr 10 5, 10, 10, .arr8 10 fun _ => 0⟩
  | 29 => some ⟨.arr 10 22, 100, 100, .arr8 100 fun _ => 0⟩
  | 30 => some ⟨.struct [0, 1] [2, 29], 101, 112, .agg [.int .i64 0, .arr8 100 fun _ => 0]⟩
  | 31 => some ⟨.struct [0, 1] [2, 29], 101, 112, .agg [.int .i64 0, .arr8 100 fun _ => 0]⟩
  | 43 => some ⟨.slice 5, 1, 24, .raw (.slice none 0 0) rfl⟩
  | 44 => some ⟨.struct [0, 1] [43, 43], 2, 48, .agg [.raw (.slice none 0 0) rfl, .raw (.slice none 0 0) rfl]⟩
  | 45 => some ⟨.struct [0, 1] [43, 43], 2, 48, .agg [.raw (.slice none 0 0) rfl, .raw (.slice none 0 0) rfl]⟩
  | 49 => some ⟨.struct [0, 1] [43, 43], 2, 48, .agg [.raw (.slice none 0 0) rfl, .raw (.slice none 0 0) rfl]⟩
  | 59 => some ⟨.slice 26, 1, 24, .raw (.slice none 0 0) rfl⟩
  | 71 => some ⟨.arr 10 4, 10, 10, .barr 10 fun _ => false⟩
  | 72 => some ⟨.arr 10 71, 100, 100, .barr 100 fun _ => false⟩
  | 74 => some ⟨.ptr 4, 1, 8, .raw (.pointer none) rfl⟩
  | 96 => some ⟨.arr 100 4, 100, 100, .barr 100 fun _ => false⟩
  | 105 => some ⟨.int .i64, 1, 8, .int .i64 0⟩
  | 107 => some ⟨.slice 9, 1, 24, .raw (.slice none 0 0) rfl⟩
  | 119 => some ⟨.int .u32, 1, 4, .int .u32 0⟩
  | 123 => some ⟨.ptr 5, 1, 8, .raw (.pointer none) rfl⟩
  | _ => none
set_option maxRecDepth 100000 in
theorem tok : ∀ t i, tt t = some i → i.met Try.prog t := by
  intro t i h
  unfold tt at h
  split at h <;> first | (cases h; done) | (simp only [Option.some.injEq] at h; subst h)
  · exact ⟨⟨_, Try.underlying2, rfl⟩, by kernel_rfl, rfl, rfl, rfl⟩
  · exact ⟨⟨_, Try.underlying3, rfl⟩, by kernel_rfl, rfl, rfl, rfl⟩
  · exact ⟨⟨_, Try.underlying4, rfl⟩, by kernel_rfl, rfl, rfl, rfl⟩
  · exact ⟨⟨_, Try.underlying5, rfl⟩, by kernel_rfl, rfl, rfl, rfl⟩
  · exact ⟨⟨_, Try.underlying9, rfl⟩, by kernel_rfl, rfl, rfl, rfl⟩
  · exact ⟨⟨_, Try.underlying12, rfl⟩, by kernel_rfl, rfl, rfl, rfl⟩
  · exact ⟨⟨_, Try.underlying13, ⟨_, rfl, rfl, rfl⟩⟩, by kernel_rfl, rfl, rfl, rfl⟩
  · exact ⟨⟨_, Try.underlying21, rfl⟩, by kernel_rfl, rfl, rfl, rfl⟩
  · exact ⟨⟨_, Try.underlying22, rfl⟩, by kernel_rfl, rfl, rfl, rfl⟩
  · exact ⟨⟨_, Try.underlying23, rfl⟩, by kernel_rfl, rfl, rfl, rfl⟩
  · exact ⟨⟨_, Try.underlying24, ⟨_, rfl, rfl, rfl⟩⟩, by kernel_rfl, rfl, rfl, rfl⟩
  · exact ⟨⟨_, Try.underlying25, ⟨_, rfl, rfl, rfl⟩⟩, by kernel_rfl, rfl, rfl, rfl⟩
  · exact ⟨⟨_, Try.underlying26, rfl⟩, by kernel_rfl, rfl, rfl, rfl⟩
  · exact ⟨⟨_, Try.underlying29, rfl⟩, by kernel_rfl, rfl, rfl, rfl⟩
  · exact ⟨⟨_, Try.underlying30, ⟨_, rfl, rfl, rfl⟩⟩, by kernel_rfl, rfl, rfl, rfl⟩
  · exact ⟨⟨_, Try.underlying31, ⟨_, rfl, rfl, rfl⟩⟩, by kernel_rfl, rfl, rfl, rfl⟩
  · exact ⟨⟨_, Try.underlying43, rfl⟩, by kernel_rfl, rfl, rfl, rfl⟩
  · exact ⟨⟨_, Try.underlying44, ⟨_, rfl, rfl, rfl⟩⟩, by kernel_rfl, rfl, rfl, rfl⟩
  · exact ⟨⟨_, Try.underlying45, ⟨_, rfl, rfl, rfl⟩⟩, by kernel_rfl, rfl, rfl, rfl⟩
  · exact ⟨⟨_, Try.underlying49, ⟨_, rfl, rfl, rfl⟩⟩, by kernel_rfl, rfl, rfl, rfl⟩
  · exact ⟨⟨_, Try.underlying59, rfl⟩, by kernel_rfl, rfl, rfl, rfl⟩
  · exact ⟨⟨_, Try.underlying71, rfl⟩, by kernel_rfl, rfl, rfl, rfl⟩
  · exact ⟨⟨_, Try.underlying72, rfl⟩, by kernel_rfl, rfl, rfl, rfl⟩
  · exact ⟨⟨_, Try.underlying74, rfl⟩, by kernel_rfl, rfl, rfl, rfl⟩
  · exact ⟨⟨_, Try.underlying96, rfl⟩, by kernel_rfl, rfl, rfl, rfl⟩
  · exact ⟨⟨_, Try.underlying105, rfl⟩, by kernel_rfl, rfl, rfl, rfl⟩
  · exact ⟨⟨_, Try.underlying107, rfl⟩, by kernel_rfl, rfl, rfl, rfl⟩
  · exact ⟨⟨_, Try.underlying119, rfl⟩, by kernel_rfl, rfl, rfl, rfl⟩
  · exact ⟨⟨_, Try.underlying123, rfl⟩, by kernel_rfl, rfl, rfl, rfl⟩
end Go.Proofs.Ytebcapplclgaeab
