/- The types of this seat's program as the walk reads them; no conditions. -/
import Derived.Test.YtdcpggdbjllmpaaGx6
import Derived.Test.YtdcpggdbjllmpaaChecked
namespace Go.Proofs.Ytdcpggdbjllmpaa
open Go Gx
def tt : Nat → Option TI
  | 2 => some ⟨.int .i64, 1, 8, .int .i64 0⟩
  | 3 => some ⟨.int .i64, 1, 8, .int .i64 0⟩
  | 4 => some ⟨.bool, 1, 1, .bool false⟩
  | 5 => some ⟨.int .u8, 1, 1, .u8 0⟩
  | 9 => some ⟨.str, 1, 16, .raw (.string .empty) rfl⟩
  | 12 => some ⟨.int .u64, 1, 8, .int .u64 0⟩
  | 13 => some ⟨.struct [0, 1] [9, 12], 2, 24, .agg [.raw (.string .empty) rfl, .int .u64 0]⟩
  | 21 => some ⟨.int .i32, 1, 4, .int .i32 0⟩
  | 22 => some ⟨.slice 5, 1, 24, .raw (.slice none 0 0) rfl⟩
  | 28 => some ⟨.struct [0, 1] [22, 22], 2, 48, .agg [.raw (.slice none 0 0) rfl, .raw (.slice none 0 0) rfl]⟩
  | 29 => some ⟨.struct [0, 1] [22, 22], 2, 48, .agg [.raw (.slice none 0 0) rfl, .raw (.slice none 0 0) rfl]⟩
  | 32 => some ⟨.struct [0, 1] [22, 22], 2, 48, .agg [.raw (.slice none 0 0) rfl, .raw (.slice none 0 0) rfl]⟩
  | 41 => some ⟨.arr 10 5, 10, 10, .arr8 10 fun _ => 0⟩
  | 42 => some ⟨.arr 10 41, 100, 100, .arr8 100 fun _ => 0⟩
  | 43 => some ⟨.arr 10 41, 100, 100, .arr8 100 fun _ => 0⟩
  | 44 => some ⟨.struct [0, 1] [2, 43], 101, 112, .agg [.int .i64 0, .arr8 100 fun _ => 0]⟩
  | 45 => some ⟨.struct [0, 1] [2, 43], 101, 112, .agg [.int .i64 0, .arr8 100 fun _ => 0]⟩
  | 49 => some ⟨.struct [0, 1] [2, 42], 101, 112, .agg [.int .i64 0, .arr8 100 fun _ => 0]⟩
  | 50 => some ⟨.struct [0, 1] [2, 42], 101, 112, .agg [.int .i64 0, .arr8 100 fun _ => 0]⟩
  | 51 => some ⟨.slice 74, 1, 24, .raw (.slice none 0 0) rfl⟩
  | 74 => some ⟨.slice 2, 1, 24, .raw (.slice none 0 0) rfl⟩
  | 81 => some ⟨.slice 84, 1, 24, .raw (.slice none 0 0) rfl⟩
  | 84 => some ⟨.arr 10 5, 10, 10, .arr8 10 fun _ => 0⟩
  | 87 => some ⟨.slice 9, 1, 24, .raw (.slice none 0 0) rfl⟩
  | 92 => some ⟨.slice 22, 1, 24, .raw (.slice none 0 0) rfl⟩
  | 99 => some ⟨.ptr 101, 1, 8, .raw (.pointer none) rfl⟩
  | 100 => some ⟨.struct [0, 1] [9, 3], 2, 24, .agg [.raw (.string .empty) rfl, .int .i64 0]⟩
  | 101 => some ⟨.struct [0, 1] [9, 3], 2, 24, .agg [.raw (.string .empty) rfl, .int .i64 0]⟩
  | 111 => some ⟨.arr 10 4, 10, 10, .barr 10 fun _ => false⟩
  | 113 => some ⟨.int .i64, 1, 8, .int .i64 0⟩
  | 123 => some ⟨.int .u32, 1, 4, .int .u32 0⟩
  | 127 => some ⟨.ptr 5, 1, 8, .raw (.pointer none) rfl⟩
  | _ => none
set_option maxRecDepth 100000 in
theorem tok : ∀ t i, tt t = some i → i.met Try.prog t := by
  intro t i h
  unfold tt at h
  split at h <;> first | (cases h; done) | (simp only [Option.some.injEq] at h; subst h)
  · exact ⟨⟨_, Try.underlying2, rfl⟩, by kernel_rfl, rfl, rfl, rfl⟩
  · exact ⟨⟨_, Try.underlying3, rfl⟩, by kernel_rfl, rfl, rfl, rfl⟩
  · exact ⟨⟨_, Try.underlying4, rfl⟩, by kernel_rfl, rfl, rfl, rfl⟩
  · exact ⟨⟨_, Try.underlying5, rfl⟩, by kernel_rfl, rfl, rfl, rfl⟩
  · exact ⟨⟨_, Try.underlying9, rfl⟩, by kernel_rfl, rfl, rfl, rfl⟩
  · exact ⟨⟨_, Try.underlying12, rfl⟩, by kernel_rfl, rfl, rfl, rfl⟩
  · exact ⟨⟨_, Try.underlying13, ⟨_, rfl, rfl, rfl⟩⟩, by kernel_rfl, rfl, rfl, rfl⟩
  · exact ⟨⟨_, Try.underlying21, rfl⟩, by kernel_rfl, rfl, rfl, rfl⟩
  · exact ⟨⟨_, Try.underlying22, rfl⟩, by kernel_rfl, rfl, rfl, rfl⟩
  · exact ⟨⟨_, Try.underlying28, ⟨_, rfl, rfl, rfl⟩⟩, by kernel_rfl, rfl, rfl, rfl⟩
  · exact ⟨⟨_, Try.underlying29, ⟨_, rfl, rfl, rfl⟩⟩, by kernel_rfl, rfl, rfl, rfl⟩
  · exact ⟨⟨_, Try.underlying32, ⟨_, rfl, rfl, rfl⟩⟩, by kernel_rfl, rfl, rfl, rfl⟩
  · exact ⟨⟨_, Try.underlying41, rfl⟩, by kernel_rfl, rfl, rfl, rfl⟩
  · exact ⟨⟨_, Try.underlying42, rfl⟩, by kernel_rfl, rfl, rfl, rfl⟩
  · exact ⟨⟨_, Try.underlying43, rfl⟩, by kernel_rfl, rfl, rfl, rfl⟩
  · exact ⟨⟨_, Try.underlying44, ⟨_, rfl, rfl, rfl⟩⟩, by kernel_rfl, rfl, rfl, rfl⟩
  · exact ⟨⟨_, Try.underlying45, ⟨_, rfl, rfl, rfl⟩⟩, by kernel_rfl, rfl, rfl, rfl⟩
  · exact ⟨⟨_, Try.underlying49, ⟨_, rfl, rfl, rfl⟩⟩, by kernel_rfl, rfl, rfl, rfl⟩
  · exact ⟨⟨_, Try.underlying50, ⟨_, rfl, rfl, rfl⟩⟩, by kernel_rfl, rfl, rfl, rfl⟩
  · exact ⟨⟨_, Try.underlying51, rfl⟩, by kernel_rfl, rfl, rfl, rfl⟩
  · exact ⟨⟨_, Try.underlying74, rfl⟩, by kernel_rfl, rfl, rfl, rfl⟩
  · exact ⟨⟨_, Try.underlying81, rfl⟩, by kernel_rfl, rfl, rfl, rfl⟩
  · exact ⟨⟨_, Try.underlying84, rfl⟩, by kernel_rfl, rfl, rfl, rfl⟩
  · exact ⟨⟨_, Try.underlying87, rfl⟩, by kernel_rfl, rfl, rfl, rfl⟩
  · exact ⟨⟨_, Try.underlying92, rfl⟩, by kernel_rfl, rfl, rfl, rfl⟩
  · exact ⟨⟨_, Try.underlying99, rfl⟩, by kernel_rfl, rfl, rfl, rfl⟩
  · exact ⟨⟨_, Try.underlying100, ⟨_, rfl, rfl, rfl⟩⟩, by kernel_rfl, rfl, rfl, rfl⟩
  · exact ⟨⟨_, Try.underlying101, ⟨_, rfl, rfl, rfl⟩⟩, by kernel_rfl, rfl, rfl, rfl⟩
  · exact ⟨⟨_, Try.underlying111, rfl⟩, by kernel_rfl, rfl, rfl, rfl⟩
  · exact ⟨⟨_, Try.underlying113, rfl⟩, by kernel_rfl, rfl, rfl, rfl⟩
  · exact ⟨⟨_, Try.underlying123, rfl⟩, by kernel_rfl, rfl, rfl, rfl⟩
  · exact ⟨⟨_, Try.underlying127, rfl⟩, by kernel_rfl, rfl, rfl, rfl⟩
end Go.Proofs.Ytdcpggdbjllmpaa
