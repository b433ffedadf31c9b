/- The types of this seat's program as the walk reads them; no conditions. -/
import Derived.Test.YtdcpggdbjllmpaaGx6
import Derived.Test.YtdcpggdbjllmpaaChecked
namespace Go.Proofs.Ytdcpggdbjllmpaa
open Go Gx
def tt : Nat → Option TI
  | 1 => some ⟨.other, 1, 8, .raw .nilFunc rfl⟩
  | 2 => some ⟨.int .i64, 1, 8, .int .i64 0⟩
  | 3 => some ⟨.int .i64, 1, 8, .int .i64 0⟩
  | 4 => some ⟨.bool, 1, 1, .bool false⟩
  | 5 => some ⟨.int .u8, 1, 1, .u8 0⟩
  | 9 => some ⟨.str, 1, 16, .raw (.string .empty) rfl⟩
  | 12 => some ⟨.int .u64, 1, 8, .int .u64 0⟩
  | 13 => some ⟨.struct [0, 1] [9, 12], 2, 24, .agg [.raw (.string .empty) rfl, .int .u64 0]⟩
  | 21 => some ⟨.int .i32, 1, 4, .int .i32 0⟩
  | 22 => some ⟨.slice 5, 1, 24, .raw (.slice none 0 0) rfl⟩
  | 24 => some ⟨.other, 1, 8, .raw .nilFunc rfl⟩
  | 25 => some ⟨.other, 1, 8, .raw .nilFunc rfl⟩
  | 26 => some ⟨.other, 1, 8, .raw .nilFunc rfl⟩
  | 27 => some ⟨.other, 1, 8, .raw .nilFunc rfl⟩
  | 28 => some ⟨.struct [0, 1] [22, 22], 2, 48, .agg [.raw (.slice none 0 0) rfl, .raw (.slice none 0 0) rfl]⟩
  | 29 => some ⟨.struct [0, 1] [22, 22], 2, 48, .agg [.raw (.slice none 0 0) rfl, .raw (.slice none 0 0) rfl]⟩
  | 30 => some ⟨.other, 1, 8, .raw .nilFunc rfl⟩
  | 31 => some ⟨.other, 1, 8, .raw .nilFunc rfl⟩
  | 32 => some ⟨.struct [0, 1] [22, 22], 2, 48, .agg [.raw (.slice none 0 0) rfl, .raw (.slice none 0 0) rfl]⟩
  | 33 => some ⟨.other, 1, 8, .raw .nilFunc rfl⟩
  | 34 => some ⟨.other, 1, 8, .raw .nilFunc rfl⟩
  | 35 => some ⟨.other, 1, 8, .raw .nilFunc rfl⟩
  | 37 => some ⟨.other, 1, 8, .raw .nilFunc rfl⟩
  | 38 => some ⟨.other, 1, 8, .raw .nilFunc rfl⟩
  | 39 => some ⟨.other, 1, 8, .raw .nilFunc rfl⟩
  | 40 => some ⟨.other, 1, 8, .raw .nilFunc rfl⟩
  | 41 => some ⟨.arr 10 5, 10, 10, .arr8 10 fun _ => 0⟩
  | 42 => some ⟨.arr 10 41, 100, 100, .arr8 100 fun _ => 0⟩
  | 43 => some ⟨.arr 10 41, 100, 100, .arr8 100 fun _ => 0⟩
  | 44 => some ⟨.struct [0, 1] [2, 43], 101, 112, .agg [.int .i64 0, .arr8 100 fun _ => 0]⟩
  | 45 => some ⟨.struct [0, 1] [2, 43], 101, 112, .agg [.int .i64 0, .arr8 100 fun _ => 0]⟩
  | 47 => some ⟨.other, 1, 8, .raw .nilFunc rfl⟩
  | 48 => some ⟨.other, 1, 8, .raw .nilFunc rfl⟩
  | 49 => some ⟨.struct [0, 1] [2, 42], 101, 112, .agg [.int .i64 0, .arr8 100 fun _ => 0]⟩
  | 50 => some ⟨.struct [0, 1] [2, 42], 101, 112, .agg [.int .i64 0, .arr8 100 fun _ => 0]⟩
  | 51 => some ⟨.slice 74, 1, 24, .raw (.slice none 0 0) rfl⟩
  | 53 => some ⟨.other, 1, 8, .raw .nilFunc rfl⟩
  | 54 => some ⟨.other, 1, 8, .raw .nilFunc rfl⟩
  | 55 => some ⟨.other, 1, 8, .raw .nilFunc rfl⟩
  | 56 => some ⟨.other, 1, 8, .raw .nilFunc rfl⟩
  | 57 => some ⟨.other, 1, 8, .raw .nilFunc rfl⟩
  | 59 => some ⟨.other, 1, 8, .raw .nilFunc rfl⟩
  | 60 => some ⟨.other, 1, 8, .raw .nilFunc rfl⟩
  | 61 => some ⟨.other, 1, 8, .raw .nilFunc rfl⟩
  | 62 => some ⟨.other, 1, 8, .raw .nilFunc rfl⟩
  | 63 => some ⟨.other, 1, 8, .raw .nilFunc rfl⟩
  | 65 => some ⟨.other, 1, 8, .raw .nilFunc rfl⟩
  | 67 => some ⟨.other, 1, 8, .raw .nilFunc rfl⟩
  | 68 => some ⟨.other, 1, 8, .raw .nilFunc rfl⟩
  | 69 => some ⟨.other, 1, 8, .raw .nilFunc rfl⟩
  | 70 => some ⟨.other, 1, 8, .raw .nilFunc rfl⟩
  | 71 => some ⟨.other, 1, 8, .raw .nilFunc rfl⟩
  | 72 => some ⟨.other, 1, 8, .raw .nilFunc rfl⟩
  | 73 => some ⟨.other, 1, 8, .raw .nilFunc rfl⟩
  | 74 => some ⟨.slice 2, 1, 24, .raw (.slice none 0 0) rfl⟩
  | 75 => some ⟨.other, 1, 8, .raw .nilFunc rfl⟩
  | 76 => some ⟨.other, 1, 8, .raw .nilFunc rfl⟩
  | 77 => some ⟨.other, 1, 8, .raw .nilFunc rfl⟩
  | 78 => some ⟨.other, 1, 8, .raw .nilFunc rfl⟩
  | 79 => some ⟨.other, 1, 8, .raw .nilFunc rfl⟩
  | 80 => some ⟨.other, 1, 8, .raw .nilFunc rfl⟩
  | 81 => some ⟨.slice 84, 1, 24, .raw (.slice none 0 0) rfl⟩
  | 82 => some ⟨.other, 1, 8, .raw .nilFunc rfl⟩
  | 83 => some ⟨.other, 1, 8, .raw .nilFunc rfl⟩
  | 84 => some ⟨.arr 10 5, 10, 10, .arr8 10 fun _ => 0⟩
  | 85 => some ⟨.other, 1, 8, .raw .nilFunc rfl⟩
  | 86 => some ⟨.other, 1, 8, .raw .nilFunc rfl⟩
  | 87 => some ⟨.slice 9, 1, 24, .raw (.slice none 0 0) rfl⟩
  | 88 => some ⟨.other, 1, 8, .raw .nilFunc rfl⟩
  | 89 => some ⟨.other, 1, 8, .raw .nilFunc rfl⟩
  | 90 => some ⟨.other, 1, 8, .raw .nilFunc rfl⟩
  | 91 => some ⟨.other, 1, 8, .raw .nilFunc rfl⟩
  | 92 => some ⟨.slice 22, 1, 24, .raw (.slice none 0 0) rfl⟩
  | 93 => some ⟨.other, 1, 8, .raw .nilFunc rfl⟩
  | 94 => some ⟨.other, 1, 8, .raw .nilFunc rfl⟩
  | 95 => some ⟨.other, 1, 8, .raw .nilFunc rfl⟩
  | 96 => some ⟨.other, 1, 8, .raw .nilFunc rfl⟩
  | 98 => some ⟨.other, 1, 8, .raw .nilFunc rfl⟩
  | 99 => some ⟨.ptr 101, 1, 8, .raw (.pointer none) rfl⟩
  | 100 => some ⟨.struct [0, 1] [9, 3], 2, 24, .agg [.raw (.string .empty) rfl, .int .i64 0]⟩
  | 101 => some ⟨.struct [0, 1] [9, 3], 2, 24, .agg [.raw (.string .empty) rfl, .int .i64 0]⟩
  | 102 => some ⟨.other, 1, 8, .raw .nilFunc rfl⟩
  | 103 => some ⟨.other, 1, 8, .raw .nilFunc rfl⟩
  | 104 => some ⟨.other, 1, 8, .raw .nilFunc rfl⟩
  | 105 => some ⟨.other, 1, 8, .raw .nilFunc rfl⟩
  | 106 => some ⟨.other, 1, 8, .raw .nilFunc rfl⟩
  | 107 => some ⟨.other, 1, 8, .raw .nilFunc rfl⟩
  | 108 => some ⟨.other, 1, 8, .raw .nilFunc rfl⟩
  | 109 => some ⟨.other, 1, 8, .raw .nilFunc rfl⟩
  | 110 => some ⟨.other, 1, 8, .raw .nilFunc rfl⟩
  | 111 => some ⟨.arr 10 4, 10, 10, .barr 10 fun _ => false⟩
  | 112 => some ⟨.other, 1, 8, .raw .nilFunc rfl⟩
  | 113 => some ⟨.int .i64, 1, 8, .int .i64 0⟩
  | 114 => some ⟨.other, 1, 8, .raw .nilFunc rfl⟩
  | 115 => some ⟨.other, 1, 8, .raw .nilFunc rfl⟩
  | 116 => some ⟨.other, 1, 8, .raw .nilFunc rfl⟩
  | 122 => some ⟨.other, 1, 8, .raw .nilFunc rfl⟩
  | 123 => some ⟨.int .u32, 1, 4, .int .u32 0⟩
  | 127 => some ⟨.ptr 5, 1, 8, .raw (.pointer none) rfl⟩
  | 132 => some ⟨.other, 1, 8, .raw .nilFunc rfl⟩
  | _ => none
set_option maxRecDepth 100000 in
theorem tok : ∀ t i, tt t = some i → i.met Try.prog t := by
  intro t i h
  unfold tt at h
  split at h <;> first | (cases h; done) | (simp only [Option.some.injEq] at h; subst h)
  · exact ⟨⟨_, Try.underlying1, rfl⟩, by kernel_rfl, rfl, rfl, rfl⟩
  · exact ⟨⟨_, Try.underlying2, rfl⟩, by kernel_rfl, rfl, rfl, rfl⟩
  · exact ⟨⟨_, Try.underlying3, rfl⟩, by kernel_rfl, rfl, rfl, rfl⟩
  · exact ⟨⟨_, Try.underlying4, rfl⟩, by kernel_rfl, rfl, rfl, rfl⟩
  · exact ⟨⟨_, Try.underlying5, rfl⟩, by kernel_rfl, rfl, rfl, rfl⟩
  · exact ⟨⟨_, Try.underlying9, rfl⟩, by kernel_rfl, rfl, rfl, rfl⟩
  · exact ⟨⟨_, Try.underlying12, rfl⟩, by kernel_rfl, rfl, rfl, rfl⟩
  · exact ⟨⟨_, Try.underlying13, ⟨_, rfl, rfl, rfl⟩⟩, by kernel_rfl, rfl, rfl, rfl⟩
  · exact ⟨⟨_, Try.underlying21, rfl⟩, by kernel_rfl, rfl, rfl, rfl⟩
  · exact ⟨⟨_, Try.underlying22, rfl⟩, by kernel_rfl, rfl, rfl, rfl⟩
  · exact ⟨⟨_, Try.underlying24, rfl⟩, by kernel_rfl, rfl, rfl, rfl⟩
  · exact ⟨⟨_, Try.underlying25, rfl⟩, by kernel_rfl, rfl, rfl, rfl⟩
  · exact ⟨⟨_, Try.underlying26, rfl⟩, by kernel_rfl, rfl, rfl, rfl⟩
  · exact ⟨⟨_, Try.underlying27, rfl⟩, by kernel_rfl, rfl, rfl, rfl⟩
  · exact ⟨⟨_, Try.underlying28, ⟨_, rfl, rfl, rfl⟩⟩, by kernel_rfl, rfl, rfl, rfl⟩
  · exact ⟨⟨_, Try.underlying29, ⟨_, rfl, rfl, rfl⟩⟩, by kernel_rfl, rfl, rfl, rfl⟩
  · exact ⟨⟨_, Try.underlying30, rfl⟩, by kernel_rfl, rfl, rfl, rfl⟩
  · exact ⟨⟨_, Try.underlying31, rfl⟩, by kernel_rfl, rfl, rfl, rfl⟩
  · exact ⟨⟨_, Try.underlying32, ⟨_, rfl, rfl, rfl⟩⟩, by kernel_rfl, rfl, rfl, rfl⟩
  · exact ⟨⟨_, Try.underlying33, rfl⟩, by kernel_rfl, rfl, rfl, rfl⟩
  · exact ⟨⟨_, Try.underlying34, rfl⟩, by kernel_rfl, rfl, rfl, rfl⟩
  · exact ⟨⟨_, Try.underlying35, rfl⟩, by kernel_rfl, rfl, rfl, rfl⟩
  · exact ⟨⟨_, Try.underlying37, rfl⟩, by kernel_rfl, rfl, rfl, rfl⟩
  · exact ⟨⟨_, Try.underlying38, rfl⟩, by kernel_rfl, rfl, rfl, rfl⟩
  · exact ⟨⟨_, Try.underlying39, rfl⟩, by kernel_rfl, rfl, rfl, rfl⟩
  · exact ⟨⟨_, Try.underlying40, rfl⟩, by kernel_rfl, rfl, rfl, rfl⟩
  · exact ⟨⟨_, Try.underlying41, rfl⟩, by kernel_rfl, rfl, rfl, rfl⟩
  · exact ⟨⟨_, Try.underlying42, rfl⟩, by kernel_rfl, rfl, rfl, rfl⟩
  · exact ⟨⟨_, Try.underlying43, rfl⟩, by kernel_rfl, rfl, rfl, rfl⟩
  · exact ⟨⟨_, Try.underlying44, ⟨_, rfl, rfl, rfl⟩⟩, by kernel_rfl, rfl, rfl, rfl⟩
  · exact ⟨⟨_, Try.underlying45, ⟨_, rfl, rfl, rfl⟩⟩, by kernel_rfl, rfl, rfl, rfl⟩
  · exact ⟨⟨_, Try.underlying47, rfl⟩, by kernel_rfl, rfl, rfl, rfl⟩
  · exact ⟨⟨_, Try.underlying48, rfl⟩, by kernel_rfl, rfl, rfl, rfl⟩
  · exact ⟨⟨_, Try.underlying49, ⟨_, rfl, rfl, rfl⟩⟩, by kernel_rfl, rfl, rfl, rfl⟩
  · exact ⟨⟨_, Try.underlying50, ⟨_, rfl, rfl, rfl⟩⟩, by kernel_rfl, rfl, rfl, rfl⟩
  · exact ⟨⟨_, Try.underlying51, rfl⟩, by kernel_rfl, rfl, rfl, rfl⟩
  · exact ⟨⟨_, Try.underlying53, rfl⟩, by kernel_rfl, rfl, rfl, rfl⟩
  · exact ⟨⟨_, Try.underlying54, rfl⟩, by kernel_rfl, rfl, rfl, rfl⟩
  · exact ⟨⟨_, Try.underlying55, rfl⟩, by kernel_rfl, rfl, rfl, rfl⟩
  · exact ⟨⟨_, Try.underlying56, rfl⟩, by kernel_rfl, rfl, rfl, rfl⟩
  · exact ⟨⟨_, Try.underlying57, rfl⟩, by kernel_rfl, rfl, rfl, rfl⟩
  · exact ⟨⟨_, Try.underlying59, rfl⟩, by kernel_rfl, rfl, rfl, rfl⟩
  · exact ⟨⟨_, Try.underlying60, rfl⟩, by kernel_rfl, rfl, rfl, rfl⟩
  · exact ⟨⟨_, Try.underlying61, rfl⟩, by kernel_rfl, rfl, rfl, rfl⟩
  · exact ⟨⟨_, Try.underlying62, rfl⟩, by kernel_rfl, rfl, rfl, rfl⟩
  · exact ⟨⟨_, Try.underlying63, rfl⟩, by kernel_rfl, rfl, rfl, rfl⟩
  · exact ⟨⟨_, Try.underlying65, rfl⟩, by kernel_rfl, rfl, rfl, rfl⟩
  · exact ⟨⟨_, Try.underlying67, rfl⟩, by kernel_rfl, rfl, rfl, rfl⟩
  · exact ⟨⟨_, Try.underlying68, rfl⟩, by kernel_rfl, rfl, rfl, rfl⟩
  · exact ⟨⟨_, Try.underlying69, rfl⟩, by kernel_rfl, rfl, rfl, rfl⟩
  · exact ⟨⟨_, Try.underlying70, rfl⟩, by kernel_rfl, rfl, rfl, rfl⟩
  · exact ⟨⟨_, Try.underlying71, rfl⟩, by kernel_rfl, rfl, rfl, rfl⟩
  · exact ⟨⟨_, Try.underlying72, rfl⟩, by kernel_rfl, rfl, rfl, rfl⟩
  · exact ⟨⟨_, Try.underlying73, rfl⟩, by kernel_rfl, rfl, rfl, rfl⟩
  · exact ⟨⟨_, Try.underlying74, rfl⟩, by kernel_rfl, rfl, rfl, rfl⟩
  · exact ⟨⟨_, Try.underlying75, rfl⟩, by kernel_rfl, rfl, rfl, rfl⟩
  · exact ⟨⟨_, Try.underlying76, rfl⟩, by kernel_rfl, rfl, rfl, rfl⟩
  · exact ⟨⟨_, Try.underlying77, rfl⟩, by kernel_rfl, rfl, rfl, rfl⟩
  · exact ⟨⟨_, Try.underlying78, rfl⟩, by kernel_rfl, rfl, rfl, rfl⟩
  · exact ⟨⟨_, Try.underlying79, rfl⟩, by kernel_rfl, rfl, rfl, rfl⟩
  · exact ⟨⟨_, Try.underlying80, rfl⟩, by kernel_rfl, rfl, rfl, rfl⟩
  · exact ⟨⟨_, Try.underlying81, rfl⟩, by kernel_rfl, rfl, rfl, rfl⟩
  · exact ⟨⟨_, Try.underlying82, rfl⟩, by kernel_rfl, rfl, rfl, rfl⟩
  · exact ⟨⟨_, Try.underlying83, rfl⟩, by kernel_rfl, rfl, rfl, rfl⟩
  · exact ⟨⟨_, Try.underlying84, rfl⟩, by kernel_rfl, rfl, rfl, rfl⟩
  · exact ⟨⟨_, Try.underlying85, rfl⟩, by kernel_rfl, rfl, rfl, rfl⟩
  · exact ⟨⟨_, Try.underlying86, rfl⟩, by kernel_rfl, rfl, rfl, rfl⟩
  · exact ⟨⟨_, Try.underlying87, rfl⟩, by kernel_rfl, rfl, rfl, rfl⟩
  · exact ⟨⟨_, Try.underlying88, rfl⟩, by kernel_rfl, rfl, rfl, rfl⟩
  · exact ⟨⟨_, Try.underlying89, rfl⟩, by kernel_rfl, rfl, rfl, rfl⟩
  · exact ⟨⟨_, Try.underlying90, rfl⟩, by kernel_rfl, rfl, rfl, rfl⟩
  · exact ⟨⟨_, Try.underlying91, rfl⟩, by kernel_rfl, rfl, rfl, rfl⟩
  · exact ⟨⟨_, Try.underlying92, rfl⟩, by kernel_rfl, rfl, rfl, rfl⟩
  · exact ⟨⟨_, Try.underlying93, rfl⟩, by kernel_rfl, rfl, rfl, rfl⟩
  · exact ⟨⟨_, Try.underlying94, rfl⟩, by kernel_rfl, rfl, rfl, rfl⟩
  · exact ⟨⟨_, Try.underlying95, rfl⟩, by kernel_rfl, rfl, rfl, rfl⟩
  · exact ⟨⟨_, Try.underlying96, rfl⟩, by kernel_rfl, rfl, rfl, rfl⟩
  · exact ⟨⟨_, Try.underlying98, rfl⟩, by kernel_rfl, rfl, rfl, rfl⟩
  · exact ⟨⟨_, Try.underlying99, rfl⟩, by kernel_rfl, rfl, rfl, rfl⟩
  · exact ⟨⟨_, Try.underlying100, ⟨_, rfl, rfl, rfl⟩⟩, by kernel_rfl, rfl, rfl, rfl⟩
  · exact ⟨⟨_, Try.underlying101, ⟨_, rfl, rfl, rfl⟩⟩, by kernel_rfl, rfl, rfl, rfl⟩
  · exact ⟨⟨_, Try.underlying102, rfl⟩, by kernel_rfl, rfl, rfl, rfl⟩
  · exact ⟨⟨_, Try.underlying103, rfl⟩, by kernel_rfl, rfl, rfl, rfl⟩
  · exact ⟨⟨_, Try.underlying104, rfl⟩, by kernel_rfl, rfl, rfl, rfl⟩
  · exact ⟨⟨_, Try.underlying105, rfl⟩, by kernel_rfl, rfl, rfl, rfl⟩
  · exact ⟨⟨_, Try.underlying106, rfl⟩, by kernel_rfl, rfl, rfl, rfl⟩
  · exact ⟨⟨_, Try.underlying107, rfl⟩, by kernel_rfl, rfl, rfl, rfl⟩
  · exact ⟨⟨_, Try.underlying108, rfl⟩, by kernel_rfl, rfl, rfl, rfl⟩
  · exact ⟨⟨_, Try.underlying109, rfl⟩, by kernel_rfl, rfl, rfl, rfl⟩
  · exact ⟨⟨_, Try.underlying110, rfl⟩, by kernel_rfl, rfl, rfl, rfl⟩
  · exact ⟨⟨_, Try.underlying111, rfl⟩, by kernel_rfl, rfl, rfl, rfl⟩
  · exact ⟨⟨_, Try.underlying112, rfl⟩, by kernel_rfl, rfl, rfl, rfl⟩
  · exact ⟨⟨_, Try.underlying113, rfl⟩, by kernel_rfl, rfl, rfl, rfl⟩
  · exact ⟨⟨_, Try.underlying114, rfl⟩, by kernel_rfl, rfl, rfl, rfl⟩
  · exact ⟨⟨_, Try.underlying115, rfl⟩, by kernel_rfl, rfl, rfl, rfl⟩
  · exact ⟨⟨_, Try.underlying116, rfl⟩, by kernel_rfl, rfl, rfl, rfl⟩
  · exact ⟨⟨_, Try.underlying122, rfl⟩, by kernel_rfl, rfl, rfl, rfl⟩
  · exact ⟨⟨_, Try.underlying123, rfl⟩, by kernel_rfl, rfl, rfl, rfl⟩
  · exact ⟨⟨_, Try.underlying127, rfl⟩, by kernel_rfl, rfl, rfl, rfl⟩
  · exact ⟨⟨_, Try.underlying132, rfl⟩, by kernel_rfl, rfl, rfl, rfl⟩
end Go.Proofs.Ytdcpggdbjllmpaa
