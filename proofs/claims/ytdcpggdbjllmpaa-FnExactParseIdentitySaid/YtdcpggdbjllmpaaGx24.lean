/- Rows of bytes read as strings. No conditions but those in the statements. -/
import Derived.Test.YtdcpggdbjllmpaaGx14
import Derived.Test.YtdcpggdbjllmpaaGx20
namespace Go.Proofs.Ytdcpggdbjllmpaa
open Go
namespace Gx
set_option linter.unusedVariables false
section
variable {E : Env} {s : St} {dst : Option Nat} {ty : TypeId} {ps : String} {af : Array Edge} {gd : Option (Nat × Bool)}
/-- A row of the call's own, read as a string. -/
theorem q_strOfW {x : Operand} {b cap EE n : Nat} {l : List (Fin 256)} {S T el sz by_ sz2 by2 sz3 by3 : Nat} {z z2 z3 : D} (hs : E.tt S = some ⟨.slice el, sz, by_, z⟩) (he : E.tt el = some ⟨.int .u8, sz2, by2, z2⟩) (ht : E.tt T = some ⟨.str, sz3, by3, z3⟩) (hx : ev s x = some (.sl b 0 n cap)) (m : Ent.row b cap EE (.u8s l) ∈ s.hp) (hn : n = l.length) :
    Qt E ⟨dst, .convert S T x, ty, ps, af, gd⟩ s (.raw (.string (strB l)) rfl) := qt_of fun c w ho => by
  subst hn
  obtain ⟨d, hd, hm⟩ := tt_underlying hs
  simp only [TD.met] at hm; subst hm
  obtain ⟨d2, hd2, hm⟩ := tt_underlying he
  simp only [TD.met] at hm; subst hm
  obtain ⟨d3, hd3, hm⟩ := tt_underlying ht
  simp only [TD.met] at hm; subst hm
  have hr := RdP_of_row (ho.hp.all _ m)
  have hb := run_convert_bytes_back (P := E.P) w S T el ⟨b, 0, none⟩ cap (l.map b8) hd hd2 hd3 (fun j hj => by
    have hj' : j < l.length := by simpa using hj
    rcases hr with ⟨h0, _⟩ | ⟨a, cp, h0, hsp, hrow⟩
    · cases h0
    · have := hrow j (.int .u8 ((l[j]).val : Int)) (by simp [Rw.cells, hj'])
      injection h0 with h1 h2 h3
      injection h1 with h1
      subst h1
      rw [Addr.add_at, this]
      simp [b8_toNat])
  simp only [execOp, ho.ev hx, D.val, Sem.run_bind]
  have e0 : l.length = (l.map b8).length := by simp
  rw [e0, hb]
  rfl
theorem veq_add48 {v : Fin 256} (h : 48 + v.val < 256) : (D.int .u8 (48 + (v.val : Int))).val = (D.u8 (Fin.ofNat 256 (48 + v.val))).val := veq_byte (n := 48 + v.val) h
end
end Gx
end Go.Proofs.Ytdcpggdbjllmpaa
