/- The types of this seat's program as the walk reads them; no conditions. -/
import Derived.Test.YtebcapplclgaeaaGx6
import Derived.Test.YtebcapplclgaeaaChecked
namespace Go.Proofs.Ytebcapplclgaeaa
open Go Gx
def tt : Nat → Option TI
  | 2 => some ⟨.int .i64, 1, 8, .int .i64 0⟩
  | 3 => some ⟨.int .i64, 1, 8, .int .i64 0⟩
  | 4 => some ⟨.bool, 1, 1, .bool false⟩
  | 5 => some ⟨.int .u8, 1, 1, .u8 0⟩
  | 9 => some ⟨.str, 1, 16, .raw (.string .empty) rfl⟩
  | 12 => some ⟨.int .u64, 1, 8, .int .u64 0⟩
  | 13 => some ⟨.struct [0, 1] [9, 12], 2, 24, .agg [.raw (.string .empty) rfl, .int .u64 0]⟩
  | 21 => some ⟨.int .i32, 1, 4, .int .i32 0⟩
  | 22 => some ⟨.arr 10 5, 10, 10, .arr8 10 fun _ => 0⟩
  | 23 => some ⟨.arr 10 22, 100, 100, .arr8 100 fun _ => 0⟩
  | 24 => some ⟨.arr 10 22, 100, 100, .arr8 100 fun _ => 0⟩
  | 25 => some ⟨.struct [0, 1] [2, 24], 101, 112, .agg [.int .i64 0, .arr8 100 fun _ => 0]⟩
  | 26 => some ⟨.struct [0, 1] [2, 24], 101, 112, .agg [.int .i64 0, .arr8 100 fun _ => 0]⟩
  | 31 => some ⟨.slice 5, 1, 24, .raw (.slice none 0 0) rfl⟩
  | 37 => some ⟨.struct [0, 1] [2, 23], 101, 112, .agg [.int .i64 0, .arr8 100 fun _ => 0]⟩
  | 38 => some ⟨.struct [0, 1] [2, 23], 101, 112, .agg [.int .i64 0, .arr8 100 fun _ => 0]⟩
  | 42 => some ⟨.slice 22, 1, 24, .raw (.slice none 0 0) rfl⟩
  | 44 => some ⟨.slice 2, 1, 24, .raw (.slice none 0 0) rfl⟩
  | 47 => some ⟨.slice 63, 1, 24, .raw (.slice none 0 0) rfl⟩
  | 54 => some ⟨.slice 44, 1, 24, .raw (.slice none 0 0) rfl⟩
  | 61 => some ⟨.struct [0, 10, 20] [22, 22, 22], 30, 30, .agg [.arr8 10 fun _ => 0, .arr8 10 fun _ => 0, .arr8 10 fun _ => 0]⟩
  | 62 => some ⟨.struct [0, 10, 20] [22, 22, 22], 30, 30, .agg [.arr8 10 fun _ => 0, .arr8 10 fun _ => 0, .arr8 10 fun _ => 0]⟩
  | 63 => some ⟨.arr 10 5, 10, 10, .arr8 10 fun _ => 0⟩
  | 64 => some ⟨.struct [0, 10, 20] [63, 63, 63], 30, 30, .agg [.arr8 10 fun _ => 0, .arr8 10 fun _ => 0, .arr8 10 fun _ => 0]⟩
  | 65 => some ⟨.struct [0, 10, 20] [63, 63, 63], 30, 30, .agg [.arr8 10 fun _ => 0, .arr8 10 fun _ => 0, .arr8 10 fun _ => 0]⟩
  | 90 => some ⟨.arr 2 2, 2, 16, .arr .i64 2 fun _ => 0⟩
  | 104 => some ⟨.int .i64, 1, 8, .int .i64 0⟩
  | 105 => some ⟨.arr 10 104, 10, 80, .arr .i64 10 fun _ => 0⟩
  | 106 => some ⟨.struct [0, 1, 101, 111] [3, 24, 105, 105], 121, 272, .agg [.int .i64 0, .arr8 100 fun _ => 0, .arr .i64 10 fun _ => 0, .arr .i64 10 fun _ => 0]⟩
  | 107 => some ⟨.struct [0, 1, 101, 111] [3, 24, 105, 105], 121, 272, .agg [.int .i64 0, .arr8 100 fun _ => 0, .arr .i64 10 fun _ => 0, .arr .i64 10 fun _ => 0]⟩
  | 118 => some ⟨.ptr 164, 1, 8, .raw (.pointer none) rfl⟩
  | 120 => some ⟨.ptr 169, 1, 8, .raw (.pointer none) rfl⟩
  | 129 => some ⟨.slice 147, 1, 24, .raw (.slice none 0 0) rfl⟩
  | 137 => some ⟨.slice 9, 1, 24, .raw (.slice none 0 0) rfl⟩
  | 144 => some ⟨.arr 10 4, 10, 10, .barr 10 fun _ => false⟩
  | 145 => some ⟨.arr 10 63, 100, 100, .arr8 100 fun _ => 0⟩
  | 146 => some ⟨.struct [0, 1, 11] [2, 144, 145], 111, 120, .agg [.int .i64 0, .barr 10 fun _ => false, .arr8 100 fun _ => 0]⟩
  | 147 => some ⟨.struct [0, 1, 11] [2, 144, 145], 111, 120, .agg [.int .i64 0, .barr 10 fun _ => false, .arr8 100 fun _ => 0]⟩
  | 149 => some ⟨.arr 10 2, 10, 80, .arr .i64 10 fun _ => 0⟩
  | 150 => some ⟨.slice 90, 1, 24, .raw (.slice none 0 0) rfl⟩
  | 152 => some ⟨.slice 2, 1, 24, .raw (.slice none 0 0) rfl⟩
  | 162 => some ⟨.int .u64, 1, 8, .int .u64 0⟩
  | 163 => some ⟨.struct [0, 1, 2] [31, 3, 162], 3, 40, .agg [.raw (.slice none 0 0) rfl, .int .i64 0, .int .u64 0]⟩
  | 164 => some ⟨.struct [0, 1, 2] [31, 3, 162], 3, 40, .agg [.raw (.slice none 0 0) rfl, .int .i64 0, .int .u64 0]⟩
  | 165 => some ⟨.arr 10 47, 10, 240, .varr 10 (fun _ => (.slice none 0 0)) (fun _ => rfl)⟩
  | 166 => some ⟨.arr 10 145, 1000, 1000, .arr8 1000 fun _ => 0⟩
  | 167 => some ⟨.arr 10 144, 100, 100, .barr 100 fun _ => false⟩
  | 168 => some ⟨.struct [0, 1, 11, 1011] [2, 165, 166, 167], 1111, 1352, .agg [.int .i64 0, .varr 10 (fun _ => (.slice none 0 0)) (fun _ => rfl), .arr8 1000 fun _ => 0, .barr 100 fun _ => false]⟩
  | 169 => some ⟨.struct [0, 1, 11, 1011] [2, 165, 166, 167], 1111, 1352, .agg [.int .i64 0, .varr 10 (fun _ => (.slice none 0 0)) (fun _ => rfl), .arr8 1000 fun _ => 0, .barr 100 fun _ => false]⟩
  | 171 => some ⟨.int .u64, 1, 8, .int .u64 0⟩
  | 177 => some ⟨.ptr 107, 1, 8, .raw (.pointer none) rfl⟩
  | 193 => some ⟨.int .u32, 1, 4, .int .u32 0⟩
  | 197 => some ⟨.ptr 5, 1, 8, .raw (.pointer none) rfl⟩
  | _ => none
set_option maxRecDepth 100000 in
theorem tok : ∀ t i, tt t = some i → i.met Try.prog t := by
  intro t i h
  unfold tt at h
  split at h <;> first | (cases h; done) | (simp only [Option.some.injEq] at h; subst h)
  · exact ⟨⟨_, Try.underlying2, rfl⟩, by kernel_rfl, rfl, rfl, rfl⟩
  · exact ⟨⟨_, Try.underlying3, rfl⟩, by kernel_rfl, rfl, rfl, rfl⟩
  · exact ⟨⟨_, Try.underlying4, rfl⟩, by kernel_rfl, rfl, rfl, rfl⟩
  · exact ⟨⟨_, Try.underlying5, rfl⟩, by kernel_rfl, rfl, rfl, rfl⟩
  · exact ⟨⟨_, Try.underlying9, rfl⟩, by kernel_rfl, rfl, rfl, rfl⟩
  · exact ⟨⟨_, Try.underlying12, rfl⟩, by kernel_rfl, rfl, rfl, rfl⟩
  · exact ⟨⟨_, Try.underlying13, ⟨_, rfl, rfl, rfl⟩⟩, by kernel_rfl, rfl, rfl, rfl⟩
  · exact ⟨⟨_, Try.underlying21, rfl⟩, by kernel_rfl, rfl, rfl, rfl⟩
  · exact ⟨⟨_, Try.underlying22, rfl⟩, by kernel_rfl, rfl, rfl, rfl⟩
  · exact ⟨⟨_, Try.underlying23, rfl⟩, by kernel_rfl, rfl, rfl, rfl⟩
  · exact ⟨⟨_, Try.underlying24, rfl⟩, by kernel_rfl, rfl, rfl, rfl⟩
  · exact ⟨⟨_, Try.underlying25, ⟨_, rfl, rfl, rfl⟩⟩, by kernel_rfl, rfl, rfl, rfl⟩
  · exact ⟨⟨_, Try.underlying26, ⟨_, rfl, rfl, rfl⟩⟩, by kernel_rfl, rfl, rfl, rfl⟩
  · exact ⟨⟨_, Try.underlying31, rfl⟩, by kernel_rfl, rfl, rfl, rfl⟩
  · exact ⟨⟨_, Try.underlying37, ⟨_, rfl, rfl, rfl⟩⟩, by kernel_rfl, rfl, rfl, rfl⟩
  · exact ⟨⟨_, Try.underlying38, ⟨_, rfl, rfl, rfl⟩⟩, by kernel_rfl, rfl, rfl, rfl⟩
  · exact ⟨⟨_, Try.underlying42, rfl⟩, by kernel_rfl, rfl, rfl, rfl⟩
  · exact ⟨⟨_, Try.underlying44, rfl⟩, by kernel_rfl, rfl, rfl, rfl⟩
  · exact ⟨⟨_, Try.underlying47, rfl⟩, by kernel_rfl, rfl, rfl, rfl⟩
  · exact ⟨⟨_, Try.underlying54, rfl⟩, by kernel_rfl, rfl, rfl, rfl⟩
  · exact ⟨⟨_, Try.underlying61, ⟨_, rfl, rfl, rfl⟩⟩, by kernel_rfl, rfl, rfl, rfl⟩
  · exact ⟨⟨_, Try.underlying62, ⟨_, rfl, rfl, rfl⟩⟩, by kernel_rfl, rfl, rfl, rfl⟩
  · exact ⟨⟨_, Try.underlying63, rfl⟩, by kernel_rfl, rfl, rfl, rfl⟩
  · exact ⟨⟨_, Try.underlying64, ⟨_, rfl, rfl, rfl⟩⟩, by kernel_rfl, rfl, rfl, rfl⟩
  · exact ⟨⟨_, Try.underlying65, ⟨_, rfl, rfl, rfl⟩⟩, by kernel_rfl, rfl, rfl, rfl⟩
  · exact ⟨⟨_, Try.underlying90, rfl⟩, by kernel_rfl, rfl, rfl, rfl⟩
  · exact ⟨⟨_, Try.underlying104, rfl⟩, by kernel_rfl, rfl, rfl, rfl⟩
  · exact ⟨⟨_, Try.underlying105, rfl⟩, by kernel_rfl, rfl, rfl, rfl⟩
  · exact ⟨⟨_, Try.underlying106, ⟨_, rfl, rfl, rfl⟩⟩, by kernel_rfl, rfl, rfl, rfl⟩
  · exact ⟨⟨_, Try.underlying107, ⟨_, rfl, rfl, rfl⟩⟩, by kernel_rfl, rfl, rfl, rfl⟩
  · exact ⟨⟨_, Try.underlying118, rfl⟩, by kernel_rfl, rfl, rfl, rfl⟩
  · exact ⟨⟨_, Try.underlying120, rfl⟩, by kernel_rfl, rfl, rfl, rfl⟩
  · exact ⟨⟨_, Try.underlying129, rfl⟩, by kernel_rfl, rfl, rfl, rfl⟩
  · exact ⟨⟨_, Try.underlying137, rfl⟩, by kernel_rfl, rfl, rfl, rfl⟩
  · exact ⟨⟨_, Try.underlying144, rfl⟩, by kernel_rfl, rfl, rfl, rfl⟩
  · exact ⟨⟨_, Try.underlying145, rfl⟩, by kernel_rfl, rfl, rfl, rfl⟩
  · exact ⟨⟨_, Try.underlying146, ⟨_, rfl, rfl, rfl⟩⟩, by kernel_rfl, rfl, rfl, rfl⟩
  · exact ⟨⟨_, Try.underlying147, ⟨_, rfl, rfl, rfl⟩⟩, by kernel_rfl, rfl, rfl, rfl⟩
  · exact ⟨⟨_, Try.underlying149, rfl⟩, by kernel_rfl, rfl, rfl, rfl⟩
  · exact ⟨⟨_, Try.underlying150, rfl⟩, by kernel_rfl, rfl, rfl, rfl⟩
  · exact ⟨⟨_, Try.underlying152, rfl⟩, by kernel_rfl, rfl, rfl, rfl⟩
  · exact ⟨⟨_, Try.underlying162, rfl⟩, by kernel_rfl, rfl, rfl, rfl⟩
  · exact ⟨⟨_, Try.underlying163, ⟨_, rfl, rfl, rfl⟩⟩, by kernel_rfl, rfl, rfl, rfl⟩
  · exact ⟨⟨_, Try.underlying164, ⟨_, rfl, rfl, rfl⟩⟩, by kernel_rfl, rfl, rfl, rfl⟩
  · exact ⟨⟨_, Try.underlying165, rfl⟩, by kernel_rfl, rfl, rfl, rfl⟩
  · exact ⟨⟨_, Try.underlying166, rfl⟩, by kernel_rfl, rfl, rfl, rfl⟩
  · exact ⟨⟨_, Try.underlying167, rfl⟩, by kernel_rfl, rfl, rfl, rfl⟩
  · exact ⟨⟨_, Try.underlying168, ⟨_, rfl, rfl, rfl⟩⟩, by kernel_rfl, rfl, rfl, rfl⟩
  · exact ⟨⟨_, Try.underlying169, ⟨_, rfl, rfl, rfl⟩⟩, by kernel_rfl, rfl, rfl, rfl⟩
  · exact ⟨⟨_, Try.underlying171, rfl⟩, by kernel_rfl, rfl, rfl, rfl⟩
  · exact ⟨⟨_, Try.underlying177, rfl⟩, by kernel_rfl, rfl, rfl, rfl⟩
  · exact ⟨⟨_, Try.underlying193, rfl⟩, by kernel_rfl, rfl, rfl, rfl⟩
  · exact ⟨⟨_, Try.underlying197, rfl⟩, by kernel_rfl, rfl, rfl, rfl⟩
end Go.Proofs.Ytebcapplclgaeaa
