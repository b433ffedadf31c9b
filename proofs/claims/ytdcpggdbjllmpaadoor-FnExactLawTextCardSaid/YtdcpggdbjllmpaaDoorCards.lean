/-
  DERIVED. GIVEN WITH THE SEED: THE CARDS: each row of YtdcpggdbjllmpaaDoorRows.lean that lists a variable, with what it lists TIED to the program's text (the seventh form; the later family's looks); each row that meets fmt, with fmt's text TOLD by the authors' own Lean function (tested against real Go, not proved from fmt's source: count such statements apart). THE CARD IS WHAT COUNTS. Prove the row's statement (the work); the ties are given (YtdcpggdbjllmpaaDoorTie.lean); close each card by the builder's one call (the guide's Derived/Test/ToyasCard.lean, 'card_holds'). Laid BY PROGRAM, IN A SANDBOX (cutbox-door.mjs). By AI agents, Wed Nov 11 2026. No macro, syntax, notation, axiom, sorry.
-/
import Derived.Test.YtdcpggdbjllmpaaDoorRows
import GoSem.ClaimSeven
namespace Go.Proofs.YtdcpggdbjllmpaaDoor
namespace Rows

/-- THE TIED CARD OF 'laws.FnExactLawText'. -/
def fnExactLawTextCard : Claim7 := { stood := { row := fnExactLawTextRow, standIns := [], harness := (true, "a4741dcd3406658b3d5fe5d9f3d238471c2e1f4391fd48317db9223d7bb9a29a"), looks := false }, kinds := [], alts := [], laidByText := true, laidKinds := [.data], laidTests := true, laidLooks := .later }
def FnExactLawTextCardSaid : Prop := Claim7.holds Tryd.pinned (.plain (OpenSpec.ofChange fnExactLawTextSpec)) fnExactLawTextCard

/-- THE SECOND FORM's CARD OF 'laws.FnExactLawText'. -/
def fnExactLawTextUptoCard : Claim7 := { stood := { row := fnExactLawTextUptoRow, standIns := [], harness := (true, "a4741dcd3406658b3d5fe5d9f3d238471c2e1f4391fd48317db9223d7bb9a29a"), looks := false }, kinds := [], alts := [], laidByText := true, laidKinds := [.data], laidTests := true, laidLooks := .later }
def FnExactLawTextUptoCardSaid : Prop := Claim7.holds Tryd.pinned (.plain (OpenSpec.upto fnExactLawTextSpec)) fnExactLawTextUptoCard
end Rows
end Go.Proofs.YtdcpggdbjllmpaaDoor
