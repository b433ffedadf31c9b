/- The types of this seat's program as the walk reads them; no conditions. -/
import Derived.Test.YtdcpggdbjllmpabGx6
import Derived.Test.YtdcpggdbjllmpabChecked
namespace Go.Proofs.Ytdcpggdbjllmpab
open Go Gx
def tt : Nat → Option TI
  | 2 => some ⟨.int .i64, 1, 8, .int .i64 0⟩
  | 3 => some ⟨.int .i64, 1, 8, .int .i64 0⟩
  | 4 => some ⟨.bool, 1, 1, .bool false⟩
  | 5 => some ⟨.int .u8, 1, 1, .u8 0⟩
  | 9 => some ⟨.str, 1, 16, .raw (.string .empty) rfl⟩
  | 12 => some ⟨.int .u64, 1, 8, .int .u64 0⟩
  | 13 => some ⟨.struct [0, 1] [9, 12], 2, 24, .agg [.raw (.string .empty) rfl, .int .u64 0]⟩
  | 21 => some ⟨.int .i32, 1, 4, .int .i32 0⟩
  | 22 => some ⟨.slice 41, 1, 24, .raw (.slice none 0 0) rfl⟩
  | 24 => some ⟨.slice 2, 1, 24, .raw (.slice none 0 0) rfl⟩
  | 27 => some ⟨.slice 54, 1, 24, .raw (.slice none 0 0) rfl⟩
  | 34 => some ⟨.slice 24, 1, 24, .raw (.slice none 0 0) rfl⟩
  | 41 => some ⟨.arr 10 5, 10, 10, .arr8 10 fun _ => 0⟩
  | 42 => some ⟨.arr 10 41, 100, 100, .arr8 100 fun _ => 0⟩
  | 43 => some ⟨.arr 10 41, 100, 100, .arr8 100 fun _ => 0⟩
  | 44 => some ⟨.struct [0, 1] [2, 43], 101, 112, .agg [.int .i64 0, .arr8 100 fun _ => 0]⟩
  | 45 => some ⟨.struct [0, 1] [2, 43], 101, 112, .agg [.int .i64 0, .arr8 100 fun _ => 0]⟩
  | 54 => some ⟨.arr 10 5, 10, 10, .arr8 10 fun _ => 0⟩
  | 57 => some ⟨.slice 5, 1, 24, .raw (.slice none 0 0) rfl⟩
  | 74 => some ⟨.ptr 76, 1, 8, .raw (.pointer none) rfl⟩
  | 75 => some ⟨.struct [0, 1, 2, 3] [34, 2, 2, 45], 104, 152, .agg [.raw (.slice none 0 0) rfl, .int .i64 0, .int .i64 0, .agg [.int .i64 0, .arr8 100 fun _ => 0]]⟩
  | 76 => some ⟨.struct [0, 1, 2, 3] [34, 2, 2, 45], 104, 152, .agg [.raw (.slice none 0 0) rfl, .int .i64 0, .int .i64 0, .agg [.int .i64 0, .arr8 100 fun _ => 0]]⟩
  | 79 => some ⟨.int .i64, 1, 8, .int .i64 0⟩
  | 80 => some ⟨.arr 10 79, 10, 80, .arr .i64 10 fun _ => 0⟩
  | 81 => some ⟨.struct [0, 1, 101, 111] [3, 43, 80, 80], 121, 272, .agg [.int .i64 0, .arr8 100 fun _ => 0, .arr .i64 10 fun _ => 0, .arr .i64 10 fun _ => 0]⟩
  | 82 => some ⟨.struct [0, 1, 101, 111] [3, 43, 80, 80], 121, 272, .agg [.int .i64 0, .arr8 100 fun _ => 0, .arr .i64 10 fun _ => 0, .arr .i64 10 fun _ => 0]⟩
  | 89 => some ⟨.arr 9 2, 9, 72, .arr .i64 9 fun _ => 0⟩
  | 90 => some ⟨.arr 9 89, 81, 648, .arr .i64 81 fun _ => 0⟩
  | 93 => some ⟨.arr 9 5, 9, 9, .arr8 9 fun _ => 0⟩
  | 94 => some ⟨.arr 9 93, 81, 81, .arr8 81 fun _ => 0⟩
  | 97 => some ⟨.ptr 145, 1, 8, .raw (.pointer none) rfl⟩
  | 103 => some ⟨.slice 118, 1, 24, .raw (.slice none 0 0) rfl⟩
  | 107 => some ⟨.ptr 153, 1, 8, .raw (.pointer none) rfl⟩
  | 115 => some ⟨.arr 10 4, 10, 10, .barr 10 fun _ => false⟩
  | 116 => some ⟨.arr 10 54, 100, 100, .arr8 100 fun _ => 0⟩
  | 117 => some ⟨.struct [0, 1, 11] [2, 115, 116], 111, 120, .agg [.int .i64 0, .barr 10 fun _ => false, .arr8 100 fun _ => 0]⟩
  | 118 => some ⟨.struct [0, 1, 11] [2, 115, 116], 111, 120, .agg [.int .i64 0, .barr 10 fun _ => false, .arr8 100 fun _ => 0]⟩
  | 120 => some ⟨.arr 10 2, 10, 80, .arr .i64 10 fun _ => 0⟩
  | 121 => some ⟨.arr 2 2, 2, 16, .arr .i64 2 fun _ => 0⟩
  | 122 => some ⟨.slice 121, 1, 24, .raw (.slice none 0 0) rfl⟩
  | 124 => some ⟨.slice 2, 1, 24, .raw (.slice none 0 0) rfl⟩
  | 138 => some ⟨.arr 9 4, 9, 9, .barr 9 fun _ => false⟩
  | 139 => some ⟨.arr 9 138, 81, 81, .barr 81 fun _ => false⟩
  | 141 => some ⟨.arr 10 27, 10, 240, .varr 10 (fun _ => (.slice none 0 0)) (fun _ => rfl)⟩
  | 142 => some ⟨.arr 10 116, 1000, 1000, .arr8 1000 fun _ => 0⟩
  | 143 => some ⟨.arr 10 115, 100, 100, .barr 100 fun _ => false⟩
  | 144 => some ⟨.struct [0, 1, 11, 1011] [2, 141, 142, 143], 1111, 1352, .agg [.int .i64 0, .varr 10 (fun _ => (.slice none 0 0)) (fun _ => rfl), .arr8 1000 fun _ => 0, .barr 100 fun _ => false]⟩
  | 145 => some ⟨.struct [0, 1, 11, 1011] [2, 141, 142, 143], 1111, 1352, .agg [.int .i64 0, .varr 10 (fun _ => (.slice none 0 0)) (fun _ => rfl), .arr8 1000 fun _ => 0, .barr 100 fun _ => false]⟩
  | 151 => some ⟨.int .u64, 1, 8, .int .u64 0⟩
  | 152 => some ⟨.struct [0, 1, 2] [57, 3, 151], 3, 40, .agg [.raw (.slice none 0 0) rfl, .int .i64 0, .int .u64 0]⟩
  | 153 => some ⟨.struct [0, 1, 2] [57, 3, 151], 3, 40, .agg [.raw (.slice none 0 0) rfl, .int .i64 0, .int .u64 0]⟩
  | 154 => some ⟨.int .u64, 1, 8, .int .u64 0⟩
  | 158 => some ⟨.ptr 82, 1, 8, .raw (.pointer none) rfl⟩
  | 166 => some ⟨.slice 9, 1, 24, .raw (.slice none 0 0) rfl⟩
  | 179 => some ⟨.int .u32, 1, 4, .int .u32 0⟩
  | 183 => some ⟨.ptr 5, 1, 8, .raw (.pointer none) rfl⟩
  | _ => none
set_option maxRecDepth 100000 in
theorem tok : ∀ t i, tt t = some i → i.met Try.prog t := by
  intro t i h
  unfold tt at h
  split at h <;> first | (cases h; done) | (simp only [Option.some.injEq] at h; subst h)
  · exact ⟨⟨_, Try.underlying2, rfl⟩, by kernel_rfl, rfl, rfl, rfl⟩
  · exact ⟨⟨_, Try.underlying3, rfl⟩, by kernel_rfl, rfl, rfl, rfl⟩
  · exact ⟨⟨_, Try.underlying4, rfl⟩, by kernel_rfl, rfl, rfl, rfl⟩
  · exact ⟨⟨_, Try.underlying5, rfl⟩, by kernel_rfl, rfl, rfl, rfl⟩
  · exact ⟨⟨_, Try.underlying9, rfl⟩, by kernel_rfl, rfl, rfl, rfl⟩
  · exact ⟨⟨_, Try.underlying12, rfl⟩, by kernel_rfl, rfl, rfl, rfl⟩
  · exact ⟨⟨_, Try.underlying13, ⟨_, rfl, rfl, rfl⟩⟩, by kernel_rfl, rfl, rfl, rfl⟩
  · exact ⟨⟨_, Try.underlying21, rfl⟩, by kernel_rfl, rfl, rfl, rfl⟩
  · exact ⟨⟨_, Try.underlying22, rfl⟩, by kernel_rfl, rfl, rfl, rfl⟩
  · exact ⟨⟨_, Try.underlying24, rfl⟩, by kernel_rfl, rfl, rfl, rfl⟩
  · exact ⟨⟨_, Try.underlying27, rfl⟩, by kernel_rfl, rfl, rfl, rfl⟩
  · exact ⟨⟨_, Try.underlying34, rfl⟩, by kernel_rfl, rfl, rfl, rfl⟩
  · exact ⟨⟨_, Try.underlying41, rfl⟩, by kernel_rfl, rfl, rfl, rfl⟩
  · exact ⟨⟨_, Try.underlying42, rfl⟩, by kernel_rfl, rfl, rfl, rfl⟩
  · exact ⟨⟨_, Try.underlying43, rfl⟩, by kernel_rfl, rfl, rfl, rfl⟩
  · exact ⟨⟨_, Try.underlying44, ⟨_, rfl, rfl, rfl⟩⟩, by kernel_rfl, rfl, rfl, rfl⟩
  · exact ⟨⟨_, Try.underlying45, ⟨_, rfl, rfl, rfl⟩⟩, by kernel_rfl, rfl, rfl, rfl⟩
  · exact ⟨⟨_, Try.underlying54, rfl⟩, by kernel_rfl, rfl, rfl, rfl⟩
  · exact ⟨⟨_, Try.underlying57, rfl⟩, by kernel_rfl, rfl, rfl, rfl⟩
  · exact ⟨⟨_, Try.underlying74, rfl⟩, by kernel_rfl, rfl, rfl, rfl⟩
  · exact ⟨⟨_, Try.underlying75, ⟨_, rfl, rfl, rfl⟩⟩, by kernel_rfl, rfl, rfl, rfl⟩
  · exact ⟨⟨_, Try.underlying76, ⟨_, rfl, rfl, rfl⟩⟩, by kernel_rfl, rfl, rfl, rfl⟩
  · exact ⟨⟨_, Try.underlying79, rfl⟩, by kernel_rfl, rfl, rfl, rfl⟩
  · exact ⟨⟨_, Try.underlying80, rfl⟩, by kernel_rfl, rfl, rfl, rfl⟩
  · exact ⟨⟨_, Try.underlying81, ⟨_, rfl, rfl, rfl⟩⟩, by kernel_rfl, rfl, rfl, rfl⟩
  · exact ⟨⟨_, Try.underlying82, ⟨_, rfl, rfl, rfl⟩⟩, by kernel_rfl, rfl, rfl, rfl⟩
  · exact ⟨⟨_, Try.underlying89, rfl⟩, by kernel_rfl, rfl, rfl, rfl⟩
  · exact ⟨⟨_, Try.underlying90, rfl⟩, by kernel_rfl, rfl, rfl, rfl⟩
  · exact ⟨⟨_, Try.underlying93, rfl⟩, by kernel_rfl, rfl, rfl, rfl⟩
  · exact ⟨⟨_, Try.underlying94, rfl⟩, by kernel_rfl, rfl, rfl, rfl⟩
  · exact ⟨⟨_, Try.underlying97, rfl⟩, by kernel_rfl, rfl, rfl, rfl⟩
  · exact ⟨⟨_, Try.underlying103, rfl⟩, by kernel_rfl, rfl, rfl, rfl⟩
  · exact ⟨⟨_, Try.underlying107, rfl⟩, by kernel_rfl, rfl, rfl, rfl⟩
  · exact ⟨⟨_, Try.underlying115, rfl⟩, by kernel_rfl, rfl, rfl, rfl⟩
  · exact ⟨⟨_, Try.underlying116, rfl⟩, by kernel_rfl, rfl, rfl, rfl⟩
  · exact ⟨⟨_, Try.underlying117, ⟨_, rfl, rfl, rfl⟩⟩, by kernel_rfl, rfl, rfl, rfl⟩
  · exact ⟨⟨_, Try.underlying118, ⟨_, rfl, rfl, rfl⟩⟩, by kernel_rfl, rfl, rfl, rfl⟩
  · exact ⟨⟨_, Try.underlying120, rfl⟩, by kernel_rfl, rfl, rfl, rfl⟩
  · exact ⟨⟨_, Try.underlying121, rfl⟩, by kernel_rfl, rfl, rfl, rfl⟩
  · exact ⟨⟨_, Try.underlying122, rfl⟩, by kernel_rfl, rfl, rfl, rfl⟩
  · exact ⟨⟨_, Try.underlying124, rfl⟩, by kernel_rfl, rfl, rfl, rfl⟩
  · exact ⟨⟨_, Try.underlying138, rfl⟩, by kernel_rfl, rfl, rfl, rfl⟩
  · exact ⟨⟨_, Try.underlying139, rfl⟩, by kernel_rfl, rfl, rfl, rfl⟩
  · exact ⟨⟨_, Try.underlying141, rfl⟩, by kernel_rfl, rfl, rfl, rfl⟩
  · exact ⟨⟨_, Try.underlying142, rfl⟩, by kernel_rfl, rfl, rfl, rfl⟩
  · exact ⟨⟨_, Try.underlying143, rfl⟩, by kernel_rfl, rfl, rfl, rfl⟩
  · exact ⟨⟨_, Try.underlying144, ⟨_, rfl, rfl, rfl⟩⟩, by kernel_rfl, rfl, rfl, rfl⟩
  · exact ⟨⟨_, Try.underlying145, ⟨_, rfl, rfl, rfl⟩⟩, by kernel_rfl, rfl, rfl, rfl⟩
  · exact ⟨⟨_, Try.underlying151, rfl⟩, by kernel_rfl, rfl, rfl, rfl⟩
  · exact ⟨⟨_, Try.underlying152, ⟨_, rfl, rfl, rfl⟩⟩, by kernel_rfl, rfl, rfl, rfl⟩
  · exact ⟨⟨_, Try.underlying153, ⟨_, rfl, rfl, rfl⟩⟩, by kernel_rfl, rfl, rfl, rfl⟩
  · exact ⟨⟨_, Try.underlying154, rfl⟩, by kernel_rfl, rfl, rfl, rfl⟩
  · exact ⟨⟨_, Try.underlying158, rfl⟩, by kernel_rfl, rfl, rfl, rfl⟩
  · exact ⟨⟨_, Try.underlying166, rfl⟩, by kernel_rfl, rfl, rfl, rfl⟩
  · exact ⟨⟨_, Try.underlying179, rfl⟩, by kernel_rfl, rfl, rfl, rfl⟩
  · exact ⟨⟨_, Try.underlying183, rfl⟩, by kernel_rfl, rfl, rfl, rfl⟩
end Go.Proofs.Ytdcpggdbjllmpab
