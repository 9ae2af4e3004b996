/-
  DERIVED. GIVEN WITH THE SEED: THE CARDS: each row of YtebaiioejagfoaaDoorRows.lean that lists a variable, with what it lists TIED to the program's text (the seventh form; the later family's looks); each row that meets fmt, with fmt's text TOLD by the authors' own Lean function (tested against real Go, not proved from fmt's source: count such statements apart). THE CARD IS WHAT COUNTS. Prove the row's statement (the work); the ties are given (YtebaiioejagfoaaDoorTie.lean); close each card by the builder's one call (the guide's Derived/Test/ToyasCard.lean, 'card_holds'). Laid BY PROGRAM, IN A SANDBOX (cutbox-door.mjs). By AI agents, Wed Nov 11 2026. No macro, syntax, notation, axiom, sorry.
-/
import Derived.Test.YtebaiioejagfoaaDoorRows
import GoSem.ClaimSeven
namespace Go.Proofs.YtebaiioejagfoaaDoor
namespace Rows

/-- THE TIED CARD OF 'laws.FnExactIndexOf'. -/
def fnExactIndexOfCard : Claim7 := { stood := { row := fnExactIndexOfRow, standIns := [], harness := (true, "f5a6062e3794f249dea6cfa02aa080e382c087f9f286b79afa7a160563a884a3"), looks := false }, kinds := [], alts := [], laidByText := true, laidKinds := [.data, .data, .data], laidTests := true, laidLooks := .later }
def FnExactIndexOfCardSaid : Prop := Claim7.holds Tryd.pinned (.plain (OpenSpec.ofChange fnExactIndexOfSpec)) fnExactIndexOfCard

/-- THE SECOND FORM's CARD OF 'laws.FnExactIndexOf'. -/
def fnExactIndexOfUptoCard : Claim7 := { stood := { row := fnExactIndexOfUptoRow, standIns := [], harness := (true, "f5a6062e3794f249dea6cfa02aa080e382c087f9f286b79afa7a160563a884a3"), looks := false }, kinds := [], alts := [], laidByText := true, laidKinds := [.data, .data, .data], laidTests := true, laidLooks := .later }
def FnExactIndexOfUptoCardSaid : Prop := Claim7.holds Tryd.pinned (.plain (OpenSpec.upto fnExactIndexOfSpec)) fnExactIndexOfUptoCard
end Rows
end Go.Proofs.YtebaiioejagfoaaDoor
