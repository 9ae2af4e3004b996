/-
  DERIVED. GIVEN WITH THE SEED: THE CARDS: each row of YtebaiioejagfoaaGreatDoorRows.lean that lists a variable, with what it lists TIED to the program's text (the seventh form; the later family's looks); each row that meets fmt, with fmt's text TOLD by the authors' own Lean function (tested against real Go, not proved from fmt's source: count such statements apart). THE CARD IS WHAT COUNTS. Prove the row's statement (the work); the ties are given (YtebaiioejagfoaaGreatDoorTie.lean); close each card by the builder's one call (the guide's Derived/Test/ToyasCard.lean, 'card_holds'). Laid BY PROGRAM, IN A SANDBOX (cutbox-door.mjs). By AI agents, Wed Nov 11 2026. No macro, syntax, notation, axiom, sorry.
-/
import Derived.Test.YtebaiioejagfoaaGreatDoorRows
import GoSem.ClaimSeven
namespace Go.Proofs.YtebaiioejagfoaaGreatDoor
namespace Rows

/-- THE TIED CARD OF 'laws.FnIndexOther'. -/
def fnIndexOtherCard : Claim7 := { stood := { row := fnIndexOtherRow, standIns := [], harness := (true, "6927fa7b197f134423c9ef47dbd5c6f4dbcf3554537b136f6cf9057440750938"), looks := true }, kinds := [], alts := [], laidByText := true, laidKinds := [.data, .data, .data, .data, .sentinel, .sentinel, .pinned], laidTests := true, laidLooks := .later }
def FnIndexOtherCardSaid : Prop := Claim7.holds Tryz.pinned (.plain (OpenSpec.ofChange fnIndexOtherSpec)) fnIndexOtherCard

/-- THE TIED CARD OF 'laws.FnIndexAll'. -/
def fnIndexAllCard : Claim7 := { stood := { row := fnIndexAllRow, standIns := [], harness := (true, "6927fa7b197f134423c9ef47dbd5c6f4dbcf3554537b136f6cf9057440750938"), looks := true }, kinds := [], alts := [], laidByText := true, laidKinds := [.data, .data, .data, .data, .sentinel, .sentinel, .pinned], laidTests := true, laidLooks := .later }
def FnIndexAllCardSaid : Prop := Claim7.holds Tryz.pinned (.plain (OpenSpec.ofChange fnIndexAllSpec)) fnIndexAllCard

/-- THE TIED CARD OF 'laws.FnExactStoreLacks'. -/
def fnExactStoreLacksCard : Claim7 := { stood := { row := fnExactStoreLacksRow, standIns := [], harness := (true, "6927fa7b197f134423c9ef47dbd5c6f4dbcf3554537b136f6cf9057440750938"), looks := true }, kinds := [], alts := [], laidByText := true, laidKinds := [.data, .data, .data], laidTests := true, laidLooks := .later }
def FnExactStoreLacksCardSaid : Prop := Claim7.holds Tryz.pinned (.plain (OpenSpec.ofChange fnExactStoreLacksSpec)) fnExactStoreLacksCard

/-- THE SECOND FORM's CARD OF 'laws.FnIndexOther'. -/
def fnIndexOtherUptoCard : Claim7 := { stood := { row := fnIndexOtherUptoRow, standIns := [], harness := (true, "6927fa7b197f134423c9ef47dbd5c6f4dbcf3554537b136f6cf9057440750938"), looks := true }, kinds := [], alts := [], laidByText := true, laidKinds := [.data, .data, .data, .data, .sentinel, .sentinel, .pinned], laidTests := true, laidLooks := .later }
def FnIndexOtherUptoCardSaid : Prop := Claim7.holds Tryz.pinned (.plain (OpenSpec.upto fnIndexOtherSpec)) fnIndexOtherUptoCard

/-- THE SECOND FORM's CARD OF 'laws.FnIndexAll'. -/
def fnIndexAllUptoCard : Claim7 := { stood := { row := fnIndexAllUptoRow, standIns := [], harness := (true, "6927fa7b197f134423c9ef47dbd5c6f4dbcf3554537b136f6cf9057440750938"), looks := true }, kinds := [], alts := [], laidByText := true, laidKinds := [.data, .data, .data, .data, .sentinel, .sentinel, .pinned], laidTests := true, laidLooks := .later }
def FnIndexAllUptoCardSaid : Prop := Claim7.holds Tryz.pinned (.plain (OpenSpec.upto fnIndexAllSpec)) fnIndexAllUptoCard

/-- THE SECOND FORM's CARD OF 'laws.FnExactStoreLacks'. -/
def fnExactStoreLacksUptoCard : Claim7 := { stood := { row := fnExactStoreLacksUptoRow, standIns := [], harness := (true, "6927fa7b197f134423c9ef47dbd5c6f4dbcf3554537b136f6cf9057440750938"), looks := true }, kinds := [], alts := [], laidByText := true, laidKinds := [.data, .data, .data], laidTests := true, laidLooks := .later }
def FnExactStoreLacksUptoCardSaid : Prop := Claim7.holds Tryz.pinned (.plain (OpenSpec.upto fnExactStoreLacksSpec)) fnExactStoreLacksUptoCard
end Rows
end Go.Proofs.YtebaiioejagfoaaGreatDoor
