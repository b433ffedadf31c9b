/- The types of this seat's program as the walk reads them; no conditions. -/
import Derived.Test.YtebcapplclgaeadGx6
import Derived.Test.YtebcapplclgaeadChecked
namespace Go.Proofs.Ytebcapplclgaead
open Go Gx
def tt : Nat → Option TI
  | 2 => some ⟨.int .i64, 1, 8, .int .i64 0⟩
  | 3 => some ⟨.int .i64, 1, 8, .int .i64 0⟩
  | 4 => some ⟨.bool, 1, 1, .bool false⟩
  | 5 => some ⟨.int .u8, 1, 1, .u8 0⟩
  | 9 => some ⟨.str, 1, 16, .raw (.string .empty) rfl⟩
  | 12 => some ⟨.int .u64, 1, 8, .int .u64 0⟩
  | 13 => some ⟨.struct [0, 1] [9, 12], 2, 24, .agg [.raw (.string .empty) rfl, .int .u64 0]⟩
  | 21 => some ⟨.int .i32, 1, 4, .int .i32 0⟩
  | 22 => some ⟨.slice 38, 1, 24, .raw (.slice none 0 0) rfl⟩
  | 27 => some ⟨.arr 10 5, 10, 10, .arr8 10 fun _ => 0⟩
  | 28 => some ⟨.arr 10 27, 100, 100, .arr8 100 fun _ => 0⟩
  | 29 => some ⟨.struct [0, 1] [2, 28], 101, 112, .agg [.int .i64 0, .arr8 100 fun _ => 0]⟩
  | 30 => some ⟨.struct [0, 1] [2, 28], 101, 112, .agg [.int .i64 0, .arr8 100 fun _ => 0]⟩
  | 33 => some ⟨.arr 10 27, 100, 100, .arr8 100 fun _ => 0⟩
  | 34 => some ⟨.struct [0, 1] [2, 33], 101, 112, .agg [.int .i64 0, .arr8 100 fun _ => 0]⟩
  | 35 => some ⟨.struct [0, 1] [2, 33], 101, 112, .agg [.int .i64 0, .arr8 100 fun _ => 0]⟩
  | 38 => some ⟨.slice 2, 1, 24, .raw (.slice none 0 0) rfl⟩
  | 51 => some ⟨.slice 5, 1, 24, .raw (.slice none 0 0) rfl⟩
  | 52 => some ⟨.struct [0, 1] [51, 51], 2, 48, .agg [.raw (.slice none 0 0) rfl, .raw (.slice none 0 0) rfl]⟩
  | 53 => some ⟨.struct [0, 1] [51, 51], 2, 48, .agg [.raw (.slice none 0 0) rfl, .raw (.slice none 0 0) rfl]⟩
  | 55 => some ⟨.struct [0, 1] [51, 51], 2, 48, .agg [.raw (.slice none 0 0) rfl, .raw (.slice none 0 0) rfl]⟩
  | 68 => some ⟨.slice 27, 1, 24, .raw (.slice none 0 0) rfl⟩
  | 71 => some ⟨.slice 130, 1, 24, .raw (.slice none 0 0) rfl⟩
  | 77 => some ⟨.arr 9 2, 9, 72, .arr .i64 9 fun _ => 0⟩
  | 78 => some ⟨.arr 9 77, 81, 648, .arr .i64 81 fun _ => 0⟩
  | 82 => some ⟨.arr 9 5, 9, 9, .arr8 9 fun _ => 0⟩
  | 83 => some ⟨.arr 9 82, 81, 81, .arr8 81 fun _ => 0⟩
  | 93 => some ⟨.int .i64, 1, 8, .int .i64 0⟩
  | 94 => some ⟨.arr 10 93, 10, 80, .arr .i64 10 fun _ => 0⟩
  | 95 => some ⟨.struct [0, 1, 101, 111] [3, 33, 94, 94], 121, 272, .agg [.int .i64 0, .arr8 100 fun _ => 0, .arr .i64 10 fun _ => 0, .arr .i64 10 fun _ => 0]⟩
  | 96 => some ⟨.struct [0, 1, 101, 111] [3, 33, 94, 94], 121, 272, .agg [.int .i64 0, .arr8 100 fun _ => 0, .arr .i64 10 fun _ => 0, .arr .i64 10 fun _ => 0]⟩
  | 123 => some ⟨.ptr 125, 1, 8, .raw (.pointer none) rfl⟩
  | 124 => some ⟨.struct [0, 1, 2, 3] [22, 2, 2, 35], 104, 152, .agg [.raw (.slice none 0 0) rfl, .int .i64 0, .int .i64 0, .agg [.int .i64 0, .arr8 100 fun _ => 0]]⟩
  | 125 => some ⟨.struct [0, 1, 2, 3] [22, 2, 2, 35], 104, 152, .agg [.raw (.slice none 0 0) rfl, .int .i64 0, .int .i64 0, .agg [.int .i64 0, .arr8 100 fun _ => 0]]⟩
  | 130 => some ⟨.arr 10 5, 10, 10, .arr8 10 fun _ => 0⟩
  | 135 => some ⟨.arr 9 4, 9, 9, .barr 9 fun _ => false⟩
  | 136 => some ⟨.arr 9 135, 81, 81, .barr 81 fun _ => false⟩
  | 143 => some ⟨.ptr 96, 1, 8, .raw (.pointer none) rfl⟩
  | 153 => some ⟨.slice 51, 1, 24, .raw (.slice none 0 0) rfl⟩
  | 161 => some ⟨.ptr 163, 1, 8, .raw (.pointer none) rfl⟩
  | 162 => some ⟨.struct [0, 1] [9, 3], 2, 24, .agg [.raw (.string .empty) rfl, .int .i64 0]⟩
  | 163 => some ⟨.struct [0, 1] [9, 3], 2, 24, .agg [.raw (.string .empty) rfl, .int .i64 0]⟩
  | 166 => some ⟨.int .u64, 1, 8, .int .u64 0⟩
  | 170 => some ⟨.arr 10 4, 10, 10, .barr 10 fun _ => false⟩
  | 171 => some ⟨.arr 10 130, 100, 100, .arr8 100 fun _ => 0⟩
  | 172 => some ⟨.struct [0, 1, 11] [2, 170, 171], 111, 120, .agg [.int .i64 0, .barr 10 fun _ => false, .arr8 100 fun _ => 0]⟩
  | 173 => some ⟨.struct [0, 1, 11] [2, 170, 171], 111, 120, .agg [.int .i64 0, .barr 10 fun _ => false, .arr8 100 fun _ => 0]⟩
  | 176 => some ⟨.slice 2, 1, 24, .raw (.slice none 0 0) rfl⟩
  | 180 => some ⟨.arr 10 2, 10, 80, .arr .i64 10 fun _ => 0⟩
  | 181 => some ⟨.arr 2 2, 2, 16, .arr .i64 2 fun _ => 0⟩
  | 182 => some ⟨.slice 181, 1, 24, .raw (.slice none 0 0) rfl⟩
  | 189 => some ⟨.int .u32, 1, 4, .int .u32 0⟩
  | 191 => some ⟨.int .u64, 1, 8, .int .u64 0⟩
  | 195 => some ⟨.slice 9, 1, 24, .raw (.slice none 0 0) rfl⟩
  | 209 => some ⟨.ptr 5, 1, 8, .raw (.pointer none) rfl⟩
  | _ => none
set_option maxRecDepth 100000 in
theorem tok : ∀ t i, tt t = some i → i.met Try.prog t := by
  intro t i h
  unfold tt at h
  split at h <;> first | (cases h; done) | (simp only [Option.some.injEq] at h; subst h)
  · exact ⟨⟨_, Try.underlying2, rfl⟩, by kernel_rfl, rfl, rfl, rfl⟩
  · exact ⟨⟨_, Try.underlying3, rfl⟩, by kernel_rfl, rfl, rfl, rfl⟩
  · exact ⟨⟨_, Try.underlying4, rfl⟩, by kernel_rfl, rfl, rfl, rfl⟩
  · exact ⟨⟨_, Try.underlying5, rfl⟩, by kernel_rfl, rfl, rfl, rfl⟩
  · exact ⟨⟨_, Try.underlying9, rfl⟩, by kernel_rfl, rfl, rfl, rfl⟩
  · exact ⟨⟨_, Try.underlying12, rfl⟩, by kernel_rfl, rfl, rfl, rfl⟩
  · exact ⟨⟨_, Try.underlying13, ⟨_, rfl, rfl, rfl⟩⟩, by kernel_rfl, rfl, rfl, rfl⟩
  · exact ⟨⟨_, Try.underlying21, rfl⟩, by kernel_rfl, rfl, rfl, rfl⟩
  · exact ⟨⟨_, Try.underlying22, rfl⟩, by kernel_rfl, rfl, rfl, rfl⟩
  · exact ⟨⟨_, Try.underlying27, rfl⟩, by kernel_rfl, rfl, rfl, rfl⟩
  · exact ⟨⟨_, Try.underlying28, rfl⟩, by kernel_rfl, rfl, rfl, rfl⟩
  · exact ⟨⟨_, Try.underlying29, ⟨_, rfl, rfl, rfl⟩⟩, by kernel_rfl, rfl, rfl, rfl⟩
  · exact ⟨⟨_, Try.underlying30, ⟨_, rfl, rfl, rfl⟩⟩, by kernel_rfl, rfl, rfl, rfl⟩
  · exact ⟨⟨_, Try.underlying33, rfl⟩, by kernel_rfl, rfl, rfl, rfl⟩
  · exact ⟨⟨_, Try.underlying34, ⟨_, rfl, rfl, rfl⟩⟩, by kernel_rfl, rfl, rfl, rfl⟩
  · exact ⟨⟨_, Try.underlying35, ⟨_, rfl, rfl, rfl⟩⟩, by kernel_rfl, rfl, rfl, rfl⟩
  · exact ⟨⟨_, Try.underlying38, rfl⟩, by kernel_rfl, rfl, rfl, rfl⟩
  · exact ⟨⟨_, Try.underlying51, rfl⟩, by kernel_rfl, rfl, rfl, rfl⟩
  · exact ⟨⟨_, Try.underlying52, ⟨_, rfl, rfl, rfl⟩⟩, by kernel_rfl, rfl, rfl, rfl⟩
  · exact ⟨⟨_, Try.underlying53, ⟨_, rfl, rfl, rfl⟩⟩, by kernel_rfl, rfl, rfl, rfl⟩
  · exact ⟨⟨_, Try.underlying55, ⟨_, rfl, rfl, rfl⟩⟩, by kernel_rfl, rfl, rfl, rfl⟩
  · exact ⟨⟨_, Try.underlying68, rfl⟩, by kernel_rfl, rfl, rfl, rfl⟩
  · exact ⟨⟨_, Try.underlying71, rfl⟩, by kernel_rfl, rfl, rfl, rfl⟩
  · exact ⟨⟨_, Try.underlying77, rfl⟩, by kernel_rfl, rfl, rfl, rfl⟩
  · exact ⟨⟨_, Try.underlying78, rfl⟩, by kernel_rfl, rfl, rfl, rfl⟩
  · exact ⟨⟨_, Try.underlying82, rfl⟩, by kernel_rfl, rfl, rfl, rfl⟩
  · exact ⟨⟨_, Try.underlying83, rfl⟩, by kernel_rfl, rfl, rfl, rfl⟩
  · exact ⟨⟨_, Try.underlying93, rfl⟩, by kernel_rfl, rfl, rfl, rfl⟩
  · exact ⟨⟨_, Try.underlying94, rfl⟩, by kernel_rfl, rfl, rfl, rfl⟩
  · exact ⟨⟨_, Try.underlying95, ⟨_, rfl, rfl, rfl⟩⟩, by kernel_rfl, rfl, rfl, rfl⟩
  · exact ⟨⟨_, Try.underlying96, ⟨_, rfl, rfl, rfl⟩⟩, by kernel_rfl, rfl, rfl, rfl⟩
  · exact ⟨⟨_, Try.underlying123, rfl⟩, by kernel_rfl, rfl, rfl, rfl⟩
  · exact ⟨⟨_, Try.underlying124, ⟨_, rfl, rfl, rfl⟩⟩, by kernel_rfl, rfl, rfl, rfl⟩
  · exact ⟨⟨_, Try.underlying125, ⟨_, rfl, rfl, rfl⟩⟩, by kernel_rfl, rfl, rfl, rfl⟩
  · exact ⟨⟨_, Try.underlying130, rfl⟩, by kernel_rfl, rfl, rfl, rfl⟩
  · exact ⟨⟨_, Try.underlying135, rfl⟩, by kernel_rfl, rfl, rfl, rfl⟩
  · exact ⟨⟨_, Try.underlying136, rfl⟩, by kernel_rfl, rfl, rfl, rfl⟩
  · exact ⟨⟨_, Try.underlying143, rfl⟩, by kernel_rfl, rfl, rfl, rfl⟩
  · exact ⟨⟨_, Try.underlying153, rfl⟩, by kernel_rfl, rfl, rfl, rfl⟩
  · exact ⟨⟨_, Try.underlying161, rfl⟩, by kernel_rfl, rfl, rfl, rfl⟩
  · exact ⟨⟨_, Try.underlying162, ⟨_, rfl, rfl, rfl⟩⟩, by kernel_rfl, rfl, rfl, rfl⟩
  · exact ⟨⟨_, Try.underlying163, ⟨_, rfl, rfl, rfl⟩⟩, by kernel_rfl, rfl, rfl, rfl⟩
  · exact ⟨⟨_, Try.underlying166, rfl⟩, by kernel_rfl, rfl, rfl, rfl⟩
  · exact ⟨⟨_, Try.underlying170, rfl⟩, by kernel_rfl, rfl, rfl, rfl⟩
  · exact ⟨⟨_, Try.underlying171, rfl⟩, by kernel_rfl, rfl, rfl, rfl⟩
  · exact ⟨⟨_, Try.underlying172, ⟨_, rfl, rfl, rfl⟩⟩, by kernel_rfl, rfl, rfl, rfl⟩
  · exact ⟨⟨_, Try.underlying173, ⟨_, rfl, rfl, rfl⟩⟩, by kernel_rfl, rfl, rfl, rfl⟩
  · exact ⟨⟨_, Try.underlying176, rfl⟩, by kernel_rfl, rfl, rfl, rfl⟩
  · exact ⟨⟨_, Try.underlying180, rfl⟩, by kernel_rfl, rfl, rfl, rfl⟩
  · exact ⟨⟨_, Try.underlying181, rfl⟩, by kernel_rfl, rfl, rfl, rfl⟩
  · exact ⟨⟨_, Try.underlying182, rfl⟩, by kernel_rfl, rfl, rfl, rfl⟩
  · exact ⟨⟨_, Try.underlying189, rfl⟩, by kernel_rfl, rfl, rfl, rfl⟩
  · exact ⟨⟨_, Try.underlying191, rfl⟩, by kernel_rfl, rfl, rfl, rfl⟩
  · exact ⟨⟨_, Try.underlying195, rfl⟩, by kernel_rfl, rfl, rfl, rfl⟩
  · exact ⟨⟨_, Try.underlying209, rfl⟩, by kernel_rfl, rfl, rfl, rfl⟩
end Go.Proofs.Ytebcapplclgaead
