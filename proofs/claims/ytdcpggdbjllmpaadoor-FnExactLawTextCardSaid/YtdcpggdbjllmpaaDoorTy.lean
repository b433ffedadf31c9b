/- The types of this seat's program as the walk reads them; no conditions. -/
import Derived.Test.YtdcpggdbjllmpaaDoorGx6
import Derived.Test.YtdcpggdbjllmpaaDoorChecked
namespace Go.Proofs.YtdcpggdbjllmpaaDoor
open Go Gx
def tt : Nat → Option TI
  | 1 => some ⟨.other, 1, 8, .raw .nilFunc rfl⟩
  | 2 => some ⟨.int .i64, 1, 8, .int .i64 0⟩
  | 3 => some ⟨.int .i64, 1, 8, .int .i64 0⟩
  | 4 => some ⟨.bool, 1, 1, .bool false⟩
  | 5 => some ⟨.int .u8, 1, 1, .u8 0⟩
  | 9 => some ⟨.str, 1, 16, .raw (.string .empty) rfl⟩
  | 12 => some ⟨.int .u64, 1, 8, .int .u64 0⟩
  | 13 => some ⟨.struct [0, 1] [9, 12], 2, 24, .agg [.raw (.string .empty) rfl, .int .u64 0]⟩
  | 21 => some ⟨.int .i32, 1, 4, .int .i32 0⟩
  | 23 => some ⟨.other, 1, 8, .raw .nilFunc rfl⟩
  | 24 => some ⟨.other, 1, 8, .raw .nilFunc rfl⟩
  | 25 => some ⟨.slice 9, 1, 24, .raw (.slice none 0 0) rfl⟩
  | 26 => some ⟨.other, 1, 8, .raw .nilFunc rfl⟩
  | 27 => some ⟨.arr 20 9, 20, 320, .varr 20 (fun _ => (.string .empty)) (fun _ => rfl)⟩
  | 28 => some ⟨.other, 1, 8, .raw .nilFunc rfl⟩
  | 29 => some ⟨.other, 1, 8, .raw .nilFunc rfl⟩
  | 35 => some ⟨.other, 1, 8, .raw .nilFunc rfl⟩
  | 36 => some ⟨.int .u32, 1, 4, .int .u32 0⟩
  | 40 => some ⟨.ptr 5, 1, 8, .raw (.pointer none) rfl⟩
  | _ => none
set_option maxRecDepth 100000 in
theorem tok : ∀ t i, tt t = some i → i.met Tryd.prog t := by
  intro t i h
  unfold tt at h
  split at h <;> first | (cases h; done) | (simp only [Option.some.injEq] at h; subst h)
  · exact ⟨⟨_, Tryd.underlying1, rfl⟩, by kernel_rfl, rfl, rfl, rfl⟩
  · exact ⟨⟨_, Tryd.underlying2, rfl⟩, by kernel_rfl, rfl, rfl, rfl⟩
  · exact ⟨⟨_, Tryd.underlying3, rfl⟩, by kernel_rfl, rfl, rfl, rfl⟩
  · exact ⟨⟨_, Tryd.underlying4, rfl⟩, by kernel_rfl, rfl, rfl, rfl⟩
  · exact ⟨⟨_, Tryd.underlying5, rfl⟩, by kernel_rfl, rfl, rfl, rfl⟩
  · exact ⟨⟨_, Tryd.underlying9, rfl⟩, by kernel_rfl, rfl, rfl, rfl⟩
  · exact ⟨⟨_, Tryd.underlying12, rfl⟩, by kernel_rfl, rfl, rfl, rfl⟩
  · exact ⟨⟨_, Tryd.underlying13, ⟨_, rfl, rfl, rfl⟩⟩, by kernel_rfl, rfl, rfl, rfl⟩
  · exact ⟨⟨_, Tryd.underlying21, rfl⟩, by kernel_rfl, rfl, rfl, rfl⟩
  · exact ⟨⟨_, Tryd.underlying23, rfl⟩, by kernel_rfl, rfl, rfl, rfl⟩
  · exact ⟨⟨_, Tryd.underlying24, rfl⟩, by kernel_rfl, rfl, rfl, rfl⟩
  · exact ⟨⟨_, Tryd.underlying25, rfl⟩, by kernel_rfl, rfl, rfl, rfl⟩
  · exact ⟨⟨_, Tryd.underlying26, rfl⟩, by kernel_rfl, rfl, rfl, rfl⟩
  · exact ⟨⟨_, Tryd.underlying27, rfl⟩, by kernel_rfl, rfl, rfl, rfl⟩
  · exact ⟨⟨_, Tryd.underlying28, rfl⟩, by kernel_rfl, rfl, rfl, rfl⟩
  · exact ⟨⟨_, Tryd.underlying29, rfl⟩, by kernel_rfl, rfl, rfl, rfl⟩
  · exact ⟨⟨_, Tryd.underlying35, rfl⟩, by kernel_rfl, rfl, rfl, rfl⟩
  · exact ⟨⟨_, Tryd.underlying36, rfl⟩, by kernel_rfl, rfl, rfl, rfl⟩
  · exact ⟨⟨_, Tryd.underlying40, rfl⟩, by kernel_rfl, rfl, rfl, rfl⟩
end Go.Proofs.YtdcpggdbjllmpaaDoor
