/- The types of this seat's program as the walk reads them; no conditions. -/
import Derived.Test.YtjihhcjpbcmjaaaFGGx6
import Derived.Test.YtjihhcjpbcmjaaaChecked
namespace Go.Proofs.Ytjihhcjpbcmjaaa
open Go Gx
def tt : Nat → Option TI
  | 1 => some ⟨.other, 1, 8, .raw .nilFunc rfl⟩
  | 2 => some ⟨.int .i64, 1, 8, .int .i64 0⟩
  | 3 => some ⟨.int .i64, 1, 8, .int .i64 0⟩
  | 4 => some ⟨.bool, 1, 1, .bool false⟩
  | 5 => some ⟨.int .u8, 1, 1, .u8 0⟩
  | 9 => some ⟨.str, 1, 16, .raw (.string .empty) rfl⟩
  | 12 => some ⟨.int .u64, 1, 8, .int .u64 0⟩
  | 13 => some ⟨.struct [0, 1] [9, 12], 2, 24, .agg [.raw (.string .empty) rfl, .int .u64 0]⟩
  | 21 => some ⟨.int .i32, 1, 4, .int .i32 0⟩
  | 22 => some ⟨.slice 30, 1, 24, .raw (.slice none 0 0) rfl⟩
  | 23 => some ⟨.other, 1, 8, .raw .nilFunc rfl⟩
  | 25 => some ⟨.other, 1, 8, .raw .nilFunc rfl⟩
  | 26 => some ⟨.slice 33, 1, 24, .raw (.slice none 0 0) rfl⟩
  | 27 => some ⟨.other, 1, 8, .raw .nilFunc rfl⟩
  | 28 => some ⟨.other, 1, 8, .raw .nilFunc rfl⟩
  | 29 => some ⟨.other, 1, 8, .raw .nilFunc rfl⟩
  | 30 => some ⟨.arr 10 5, 10, 10, .arr8 10 fun _ => 0⟩
  | 32 => some ⟨.other, 1, 8, .raw .nilFunc rfl⟩
  | 33 => some ⟨.arr 10 5, 10, 10, .arr8 10 fun _ => 0⟩
  | 34 => some ⟨.other, 1, 8, .raw .nilFunc rfl⟩
  | 35 => some ⟨.other, 1, 8, .raw .nilFunc rfl⟩
  | 36 => some ⟨.slice 5, 1, 24, .raw (.slice none 0 0) rfl⟩
  | 37 => some ⟨.other, 1, 8, .raw .nilFunc rfl⟩
  | 39 => some ⟨.other, 1, 8, .raw .nilFunc rfl⟩
  | 41 => some ⟨.other, 1, 8, .raw .nilFunc rfl⟩
  | 42 => some ⟨.slice 48, 1, 24, .raw (.slice none 0 0) rfl⟩
  | 44 => some ⟨.other, 1, 8, .raw .nilFunc rfl⟩
  | 45 => some ⟨.other, 1, 8, .raw .nilFunc rfl⟩
  | 47 => some ⟨.other, 1, 8, .raw .nilFunc rfl⟩
  | 48 => some ⟨.slice 2, 1, 24, .raw (.slice none 0 0) rfl⟩
  | 50 => some ⟨.other, 1, 8, .raw .nilFunc rfl⟩
  | 51 => some ⟨.other, 1, 8, .raw .nilFunc rfl⟩
  | 52 => some ⟨.other, 1, 8, .raw .nilFunc rfl⟩
  | 53 => some ⟨.other, 1, 8, .raw .nilFunc rfl⟩
  | 54 => some ⟨.other, 1, 8, .raw .nilFunc rfl⟩
  | 55 => some ⟨.ptr 90, 1, 8, .raw (.pointer none) rfl⟩
  | 56 => some ⟨.other, 1, 8, .raw .nilFunc rfl⟩
  | 57 => some ⟨.other, 1, 8, .raw .nilFunc rfl⟩
  | 58 => some ⟨.other, 1, 8, .raw .nilFunc rfl⟩
  | 59 => some ⟨.other, 1, 8, .raw .nilFunc rfl⟩
  | 60 => some ⟨.other, 1, 8, .raw .nilFunc rfl⟩
  | 62 => some ⟨.other, 1, 8, .raw .nilFunc rfl⟩
  | 63 => some ⟨.slice 84, 1, 24, .raw (.slice none 0 0) rfl⟩
  | 64 => some ⟨.other, 1, 8, .raw .nilFunc rfl⟩
  | 65 => some ⟨.other, 1, 8, .raw .nilFunc rfl⟩
  | 66 => some ⟨.other, 1, 8, .raw .nilFunc rfl⟩
  | 67 => some ⟨.ptr 98, 1, 8, .raw (.pointer none) rfl⟩
  | 68 => some ⟨.other, 1, 8, .raw .nilFunc rfl⟩
  | 69 => some ⟨.other, 1, 8, .raw .nilFunc rfl⟩
  | 70 => some ⟨.other, 1, 8, .raw .nilFunc rfl⟩
  | 71 => some ⟨.other, 1, 8, .raw .nilFunc rfl⟩
  | 72 => some ⟨.other, 1, 8, .raw .nilFunc rfl⟩
  | 73 => some ⟨.arr 10 30, 100, 100, .arr8 100 fun _ => 0⟩
  | 74 => some ⟨.arr 10 30, 100, 100, .arr8 100 fun _ => 0⟩
  | 75 => some ⟨.struct [0, 1] [2, 74], 101, 112, .agg [.int .i64 0, .arr8 100 fun _ => 0]⟩
  | 76 => some ⟨.struct [0, 1] [2, 74], 101, 112, .agg [.int .i64 0, .arr8 100 fun _ => 0]⟩
  | 77 => some ⟨.other, 1, 8, .raw .nilFunc rfl⟩
  | 78 => some ⟨.other, 1, 8, .raw .nilFunc rfl⟩
  | 79 => some ⟨.other, 1, 8, .raw .nilFunc rfl⟩
  | 80 => some ⟨.other, 1, 8, .raw .nilFunc rfl⟩
  | 81 => some ⟨.arr 10 4, 10, 10, .barr 10 fun _ => false⟩
  | 82 => some ⟨.arr 10 33, 100, 100, .arr8 100 fun _ => 0⟩
  | 83 => some ⟨.struct [0, 1, 11] [2, 81, 82], 111, 120, .agg [.int .i64 0, .barr 10 fun _ => false, .arr8 100 fun _ => 0]⟩
  | 84 => some ⟨.struct [0, 1, 11] [2, 81, 82], 111, 120, .agg [.int .i64 0, .barr 10 fun _ => false, .arr8 100 fun _ => 0]⟩
  | 85 => some ⟨.other, 1, 8, .raw .nilFunc rfl⟩
  | 86 => some ⟨.arr 10 26, 10, 240, .varr 10 (fun _ => (.slice none 0 0)) (fun _ => rfl)⟩
  | 87 => some ⟨.arr 10 82, 1000, 1000, .arr8 1000 fun _ => 0⟩
  | 88 => some ⟨.arr 10 81, 100, 100, .barr 100 fun _ => false⟩
  | 89 => some ⟨.struct [0, 1, 11, 1011] [2, 86, 87, 88], 1111, 1352, .agg [.int .i64 0, .varr 10 (fun _ => (.slice none 0 0)) (fun _ => rfl), .arr8 1000 fun _ => 0, .barr 100 fun _ => false]⟩
  | 90 => some ⟨.struct [0, 1, 11, 1011] [2, 86, 87, 88], 1111, 1352, .agg [.int .i64 0, .varr 10 (fun _ => (.slice none 0 0)) (fun _ => rfl), .arr8 1000 fun _ => 0, .barr 100 fun _ => false]⟩
  | 91 => some ⟨.other, 1, 8, .raw .nilFunc rfl⟩
  | 92 => some ⟨.other, 1, 8, .raw .nilFunc rfl⟩
  | 94 => some ⟨.other, 1, 8, .raw .nilFunc rfl⟩
  | 95 => some ⟨.other, 1, 8, .raw .nilFunc rfl⟩
  | 96 => some ⟨.int .u64, 1, 8, .int .u64 0⟩
  | 97 => some ⟨.struct [0, 1, 2] [36, 3, 96], 3, 40, .agg [.raw (.slice none 0 0) rfl, .int .i64 0, .int .u64 0]⟩
  | 98 => some ⟨.struct [0, 1, 2] [36, 3, 96], 3, 40, .agg [.raw (.slice none 0 0) rfl, .int .i64 0, .int .u64 0]⟩
  | 99 => some ⟨.int .u64, 1, 8, .int .u64 0⟩
  | 100 => some ⟨.slice 2, 1, 24, .raw (.slice none 0 0) rfl⟩
  | 101 => some ⟨.other, 1, 8, .raw .nilFunc rfl⟩
  | 102 => some ⟨.other, 1, 8, .raw .nilFunc rfl⟩
  | 103 => some ⟨.other, 1, 8, .raw .nilFunc rfl⟩
  | 104 => some ⟨.other, 1, 8, .raw .nilFunc rfl⟩
  | 105 => some ⟨.other, 1, 8, .raw .nilFunc rfl⟩
  | 106 => some ⟨.other, 1, 8, .raw .nilFunc rfl⟩
  | 107 => some ⟨.other, 1, 8, .raw .nilFunc rfl⟩
  | 108 => some ⟨.arr 10 2, 10, 80, .arr .i64 10 fun _ => 0⟩
  | 109 => some ⟨.arr 2 2, 2, 16, .arr .i64 2 fun _ => 0⟩
  | 110 => some ⟨.slice 109, 1, 24, .raw (.slice none 0 0) rfl⟩
  | 111 => some ⟨.other, 1, 8, .raw .nilFunc rfl⟩
  | 112 => some ⟨.other, 1, 8, .raw .nilFunc rfl⟩
  | 113 => some ⟨.other, 1, 8, .raw .nilFunc rfl⟩
  | 114 => some ⟨.other, 1, 8, .raw .nilFunc rfl⟩
  | 115 => some ⟨.slice 9, 1, 24, .raw (.slice none 0 0) rfl⟩
  | 117 => some ⟨.other, 1, 8, .raw .nilFunc rfl⟩
  | 118 => some ⟨.other, 1, 8, .raw .nilFunc rfl⟩
  | 119 => some ⟨.other, 1, 8, .raw .nilFunc rfl⟩
  | 120 => some ⟨.other, 1, 8, .raw .nilFunc rfl⟩
  | 121 => some ⟨.other, 1, 8, .raw .nilFunc rfl⟩
  | 122 => some ⟨.other, 1, 8, .raw .nilFunc rfl⟩
  | 123 => some ⟨.other, 1, 8, .raw .nilFunc rfl⟩
  | 124 => some ⟨.other, 1, 8, .raw .nilFunc rfl⟩
  | 130 => some ⟨.other, 1, 8, .raw .nilFunc rfl⟩
  | 131 => some ⟨.int .u32, 1, 4, .int .u32 0⟩
  | 135 => some ⟨.ptr 5, 1, 8, .raw (.pointer none) rfl⟩
  | 140 => some ⟨.other, 1, 8, .raw .nilFunc rfl⟩
  | _ => none
set_option maxRecDepth 100000 in
theorem tok : ∀ t i, tt t = some i → i.met Try.prog t := by
  intro t i h
  unfold tt at h
  split at h <;> first | (cases h; done) | (simp only [Option.some.injEq] at h; subst h)
  · exact ⟨⟨_, Try.underlying1, rfl⟩, by kernel_rfl, rfl, rfl, rfl⟩
  · exact ⟨⟨_, Try.underlying2, rfl⟩, by kernel_rfl, rfl, rfl, rfl⟩
  · exact ⟨⟨_, Try.underlying3, rfl⟩, by kernel_rfl, rfl, rfl, rfl⟩
  · exact ⟨⟨_, Try.underlying4, rfl⟩, by kernel_rfl, rfl, rfl, rfl⟩
  · exact ⟨⟨_, Try.underlying5, rfl⟩, by kernel_rfl, rfl, rfl, rfl⟩
  · exact ⟨⟨_, Try.underlying9, rfl⟩, by kernel_rfl, rfl, rfl, rfl⟩
  · exact ⟨⟨_, Try.underlying12, rfl⟩, by kernel_rfl, rfl, rfl, rfl⟩
  · exact ⟨⟨_, Try.underlying13, ⟨_, rfl, rfl, rfl⟩⟩, by kernel_rfl, rfl, rfl, rfl⟩
  · exact ⟨⟨_, Try.underlying21, rfl⟩, by kernel_rfl, rfl, rfl, rfl⟩
  · exact ⟨⟨_, Try.underlying22, rfl⟩, by kernel_rfl, rfl, rfl, rfl⟩
  · exact ⟨⟨_, Try.underlying23, rfl⟩, by kernel_rfl, rfl, rfl, rfl⟩
  · exact ⟨⟨_, Try.underlying25, rfl⟩, by kernel_rfl, rfl, rfl, rfl⟩
  · exact ⟨⟨_, Try.underlying26, rfl⟩, by kernel_rfl, rfl, rfl, rfl⟩
  · exact ⟨⟨_, Try.underlying27, rfl⟩, by kernel_rfl, rfl, rfl, rfl⟩
  · exact ⟨⟨_, Try.underlying28, rfl⟩, by kernel_rfl, rfl, rfl, rfl⟩
  · exact ⟨⟨_, Try.underlying29, rfl⟩, by kernel_rfl, rfl, rfl, rfl⟩
  · exact ⟨⟨_, Try.underlying30, rfl⟩, by kernel_rfl, rfl, rfl, rfl⟩
  · exact ⟨⟨_, Try.underlying32, rfl⟩, by kernel_rfl, rfl, rfl, rfl⟩
  · exact ⟨⟨_, Try.underlying33, rfl⟩, by kernel_rfl, rfl, rfl, rfl⟩
  · exact ⟨⟨_, Try.underlying34, rfl⟩, by kernel_rfl, rfl, rfl, rfl⟩
  · exact ⟨⟨_, Try.underlying35, rfl⟩, by kernel_rfl, rfl, rfl, rfl⟩
  · exact ⟨⟨_, Try.underlying36, rfl⟩, by kernel_rfl, rfl, rfl, rfl⟩
  · exact ⟨⟨_, Try.underlying37, rfl⟩, by kernel_rfl, rfl, rfl, rfl⟩
  · exact ⟨⟨_, Try.underlying39, rfl⟩, by kernel_rfl, rfl, rfl, rfl⟩
  · exact ⟨⟨_, Try.underlying41, rfl⟩, by kernel_rfl, rfl, rfl, rfl⟩
  · exact ⟨⟨_, Try.underlying42, rfl⟩, by kernel_rfl, rfl, rfl, rfl⟩
  · exact ⟨⟨_, Try.underlying44, rfl⟩, by kernel_rfl, rfl, rfl, rfl⟩
  · exact ⟨⟨_, Try.underlying45, rfl⟩, by kernel_rfl, rfl, rfl, rfl⟩
  · exact ⟨⟨_, Try.underlying47, rfl⟩, by kernel_rfl, rfl, rfl, rfl⟩
  · exact ⟨⟨_, Try.underlying48, rfl⟩, by kernel_rfl, rfl, rfl, rfl⟩
  · exact ⟨⟨_, Try.underlying50, rfl⟩, by kernel_rfl, rfl, rfl, rfl⟩
  · exact ⟨⟨_, Try.underlying51, rfl⟩, by kernel_rfl, rfl, rfl, rfl⟩
  · exact ⟨⟨_, Try.underlying52, rfl⟩, by kernel_rfl, rfl, rfl, rfl⟩
  · exact ⟨⟨_, Try.underlying53, rfl⟩, by kernel_rfl, rfl, rfl, rfl⟩
  · exact ⟨⟨_, Try.underlying54, rfl⟩, by kernel_rfl, rfl, rfl, rfl⟩
  · exact ⟨⟨_, Try.underlying55, rfl⟩, by kernel_rfl, rfl, rfl, rfl⟩
  · exact ⟨⟨_, Try.underlying56, rfl⟩, by kernel_rfl, rfl, rfl, rfl⟩
  · exact ⟨⟨_, Try.underlying57, rfl⟩, by kernel_rfl, rfl, rfl, rfl⟩
  · exact ⟨⟨_, Try.underlying58, rfl⟩, by kernel_rfl, rfl, rfl, rfl⟩
  · exact ⟨⟨_, Try.underlying59, rfl⟩, by kernel_rfl, rfl, rfl, rfl⟩
  · exact ⟨⟨_, Try.underlying60, rfl⟩, by kernel_rfl, rfl, rfl, rfl⟩
  · exact ⟨⟨_, Try.underlying62, rfl⟩, by kernel_rfl, rfl, rfl, rfl⟩
  · exact ⟨⟨_, Try.underlying63, rfl⟩, by kernel_rfl, rfl, rfl, rfl⟩
  · exact ⟨⟨_, Try.underlying64, rfl⟩, by kernel_rfl, rfl, rfl, rfl⟩
  · exact ⟨⟨_, Try.underlying65, rfl⟩, by kernel_rfl, rfl, rfl, rfl⟩
  · exact ⟨⟨_, Try.underlying66, rfl⟩, by kernel_rfl, rfl, rfl, rfl⟩
  · exact ⟨⟨_, Try.underlying67, rfl⟩, by kernel_rfl, rfl, rfl, rfl⟩
  · exact ⟨⟨_, Try.underlying68, rfl⟩, by kernel_rfl, rfl, rfl, rfl⟩
  · exact ⟨⟨_, Try.underlying69, rfl⟩, by kernel_rfl, rfl, rfl, rfl⟩
  · exact ⟨⟨_, Try.underlying70, rfl⟩, by kernel_rfl, rfl, rfl, rfl⟩
  · exact ⟨⟨_, Try.underlying71, rfl⟩, by kernel_rfl, rfl, rfl, rfl⟩
  · exact ⟨⟨_, Try.underlying72, rfl⟩, by kernel_rfl, rfl, rfl, rfl⟩
  · exact ⟨⟨_, Try.underlying73, rfl⟩, by kernel_rfl, rfl, rfl, rfl⟩
  · exact ⟨⟨_, Try.underlying74, rfl⟩, by kernel_rfl, rfl, rfl, rfl⟩
  · exact ⟨⟨_, Try.underlying75, ⟨_, rfl, rfl, rfl⟩⟩, by kernel_rfl, rfl, rfl, rfl⟩
  · exact ⟨⟨_, Try.underlying76, ⟨_, rfl, rfl, rfl⟩⟩, by kernel_rfl, rfl, rfl, rfl⟩
  · exact ⟨⟨_, Try.underlying77, rfl⟩, by kernel_rfl, rfl, rfl, rfl⟩
  · exact ⟨⟨_, Try.underlying78, rfl⟩, by kernel_rfl, rfl, rfl, rfl⟩
  · exact ⟨⟨_, Try.underlying79, rfl⟩, by kernel_rfl, rfl, rfl, rfl⟩
  · exact ⟨⟨_, Try.underlying80, rfl⟩, by kernel_rfl, rfl, rfl, rfl⟩
  · exact ⟨⟨_, Try.underlying81, rfl⟩, by kernel_rfl, rfl, rfl, rfl⟩
  · exact ⟨⟨_, Try.underlying82, rfl⟩, by kernel_rfl, rfl, rfl, rfl⟩
  · exact ⟨⟨_, Try.underlying83, ⟨_, rfl, rfl, rfl⟩⟩, by kernel_rfl, rfl, rfl, rfl⟩
  · exact ⟨⟨_, Try.underlying84, ⟨_, rfl, rfl, rfl⟩⟩, by kernel_rfl, rfl, rfl, rfl⟩
  · exact ⟨⟨_, Try.underlying85, rfl⟩, by kernel_rfl, rfl, rfl, rfl⟩
  · exact ⟨⟨_, Try.underlying86, rfl⟩, by kernel_rfl, rfl, rfl, rfl⟩
  · exact ⟨⟨_, Try.underlying87, rfl⟩, by kernel_rfl, rfl, rfl, rfl⟩
  · exact ⟨⟨_, Try.underlying88, rfl⟩, by kernel_rfl, rfl, rfl, rfl⟩
  · exact ⟨⟨_, Try.underlying89, ⟨_, rfl, rfl, rfl⟩⟩, by kernel_rfl, rfl, rfl, rfl⟩
  · exact ⟨⟨_, Try.underlying90, ⟨_, rfl, rfl, rfl⟩⟩, by kernel_rfl, rfl, rfl, rfl⟩
  · exact ⟨⟨_, Try.underlying91, rfl⟩, by kernel_rfl, rfl, rfl, rfl⟩
  · exact ⟨⟨_, Try.underlying92, rfl⟩, by kernel_rfl, rfl, rfl, rfl⟩
  · exact ⟨⟨_, Try.underlying94, rfl⟩, by kernel_rfl, rfl, rfl, rfl⟩
  · exact ⟨⟨_, Try.underlying95, rfl⟩, by kernel_rfl, rfl, rfl, rfl⟩
  · exact ⟨⟨_, Try.underlying96, rfl⟩, by kernel_rfl, rfl, rfl, rfl⟩
  · exact ⟨⟨_, Try.underlying97, ⟨_, rfl, rfl, rfl⟩⟩, by kernel_rfl, rfl, rfl, rfl⟩
  · exact ⟨⟨_, Try.underlying98, ⟨_, rfl, rfl, rfl⟩⟩, by kernel_rfl, rfl, rfl, rfl⟩
  · exact ⟨⟨_, Try.underlying99, rfl⟩, by kernel_rfl, rfl, rfl, rfl⟩
  · exact ⟨⟨_, Try.underlying100, rfl⟩, by kernel_rfl, rfl, rfl, rfl⟩
  · exact ⟨⟨_, Try.underlying101, rfl⟩, by kernel_rfl, rfl, rfl, rfl⟩
  · exact ⟨⟨_, Try.underlying102, rfl⟩, by kernel_rfl, rfl, rfl, rfl⟩
  · exact ⟨⟨_, Try.underlying103, rfl⟩, by kernel_rfl, rfl, rfl, rfl⟩
  · exact ⟨⟨_, Try.underlying104, rfl⟩, by kernel_rfl, rfl, rfl, rfl⟩
  · exact ⟨⟨_, Try.underlying105, rfl⟩, by kernel_rfl, rfl, rfl, rfl⟩
  · exact ⟨⟨_, Try.underlying106, rfl⟩, by kernel_rfl, rfl, rfl, rfl⟩
  · exact ⟨⟨_, Try.underlying107, rfl⟩, by kernel_rfl, rfl, rfl, rfl⟩
  · exact ⟨⟨_, Try.underlying108, rfl⟩, by kernel_rfl, rfl, rfl, rfl⟩
  · exact ⟨⟨_, Try.underlying109, rfl⟩, by kernel_rfl, rfl, rfl, rfl⟩
  · exact ⟨⟨_, Try.underlying110, rfl⟩, by kernel_rfl, rfl, rfl, rfl⟩
  · exact ⟨⟨_, Try.underlying111, rfl⟩, by kernel_rfl, rfl, rfl, rfl⟩
  · exact ⟨⟨_, Try.underlying112, rfl⟩, by kernel_rfl, rfl, rfl, rfl⟩
  · exact ⟨⟨_, Try.underlying113, rfl⟩, by kernel_rfl, rfl, rfl, rfl⟩
  · exact ⟨⟨_, Try.underlying114, rfl⟩, by kernel_rfl, rfl, rfl, rfl⟩
  · exact ⟨⟨_, Try.underlying115, rfl⟩, by kernel_rfl, rfl, rfl, rfl⟩
  · exact ⟨⟨_, Try.underlying117, rfl⟩, by kernel_rfl, rfl, rfl, rfl⟩
  · exact ⟨⟨_, Try.underlying118, rfl⟩, by kernel_rfl, rfl, rfl, rfl⟩
  · exact ⟨⟨_, Try.underlying119, rfl⟩, by kernel_rfl, rfl, rfl, rfl⟩
  · exact ⟨⟨_, Try.underlying120, rfl⟩, by kernel_rfl, rfl, rfl, rfl⟩
  · exact ⟨⟨_, Try.underlying121, rfl⟩, by kernel_rfl, rfl, rfl, rfl⟩
  · exact ⟨⟨_, Try.underlying122, rfl⟩, by kernel_rfl, rfl, rfl, rfl⟩
  · exact ⟨⟨_, Try.underlying123, rfl⟩, by kernel_rfl, rfl, rfl, rfl⟩
  · exact ⟨⟨_, Try.underlying124, rfl⟩, by kernel_rfl, rfl, rfl, rfl⟩
  · exact ⟨⟨_, Try.underlying130, rfl⟩, by kernel_rfl, rfl, rfl, rfl⟩
  · exact ⟨⟨_, Try.underlying131, rfl⟩, by kernel_rfl, rfl, rfl, rfl⟩
  · exact ⟨⟨_, Try.underlying135, rfl⟩, by kernel_rfl, rfl, rfl, rfl⟩
  · exact ⟨⟨_, Try.underlying140, rfl⟩, by kernel_rfl, rfl, rfl, rfl⟩
end Go.Proofs.Ytjihhcjpbcmjaaa
