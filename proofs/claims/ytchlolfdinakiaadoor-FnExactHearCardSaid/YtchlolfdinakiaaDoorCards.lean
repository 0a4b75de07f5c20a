/-
  DERIVED. GIVEN WITH THE SEED: THE CARDS: each row of YtchlolfdinakiaaDoorRows.lean that lists a variable, with what it lists TIED to the program's text (the seventh form; the later family's looks); each row that meets fmt, with fmt's text TOLD by the authors' own Lean function (tested against real Go, not proved from fmt's source: count such statements apart). THE CARD IS WHAT COUNTS. Prove the row's statement (the work); the ties are given (YtchlolfdinakiaaDoorTie.lean); close each card by the builder's one call (the guide's Derived/Test/ToyasCard.lean, 'card_holds'). Laid BY PROGRAM, IN A SANDBOX (cutbox-door.mjs). By AI agents, Wed Nov 11 2026. No macro, syntax, notation, axiom, sorry.
-/
import Derived.Test.YtchlolfdinakiaaDoorRows
import GoSem.ClaimSeven
namespace Go.Proofs.YtchlolfdinakiaaDoor
namespace Rows

/-- THE TIED CARD OF 'laws.FnExactText'. -/
def fnExactTextCard : Claim7 := { stood := { row := fnExactTextRow, standIns := [], harness := (true, "a4959b4e0caf4080973d5c2e1508c987d614deb6bcce13cd70bb13a63a7d7bad"), looks := true }, kinds := [], alts := [], laidByText := true, laidKinds := [.data, .data, .data], laidTests := true, laidLooks := .later }
def FnExactTextCardSaid : Prop := Claim7.holds Tryd.pinned (.plain (OpenSpec.ofChange fnExactTextSpec)) fnExactTextCard

/-- THE TIED CARD OF 'laws.FnExactTell'. -/
def fnExactTellCard : Claim7 := { stood := { row := fnExactTellRow, standIns := [], harness := (true, "a4959b4e0caf4080973d5c2e1508c987d614deb6bcce13cd70bb13a63a7d7bad"), looks := true }, kinds := [], alts := [], laidByText := true, laidKinds := [.data, .data, .data], laidTests := true, laidLooks := .later }
def FnExactTellCardSaid : Prop := Claim7.holds Tryd.pinned (.plain (OpenSpec.ofChange fnExactTellSpec)) fnExactTellCard

/-- THE TIED CARD OF 'laws.FnExactHear'. -/
def fnExactHearCard : Claim7 := { stood := { row := fnExactHearRow, standIns := [], harness := (true, "a4959b4e0caf4080973d5c2e1508c987d614deb6bcce13cd70bb13a63a7d7bad"), looks := true }, kinds := [], alts := [], laidByText := true, laidKinds := [.data, .data, .data, .sentinel, .sentinel], laidTests := true, laidLooks := .later }
def FnExactHearCardSaid : Prop := Claim7.holds Tryd.pinned (.plain (OpenSpec.ofChange fnExactHearSpec)) fnExactHearCard

/-- THE SECOND FORM's CARD OF 'laws.FnExactText'. -/
def fnExactTextUptoCard : Claim7 := { stood := { row := fnExactTextUptoRow, standIns := [], harness := (true, "a4959b4e0caf4080973d5c2e1508c987d614deb6bcce13cd70bb13a63a7d7bad"), looks := true }, kinds := [], alts := [], laidByText := true, laidKinds := [.data, .data, .data], laidTests := true, laidLooks := .later }
def FnExactTextUptoCardSaid : Prop := Claim7.holds Tryd.pinned (.plain (OpenSpec.upto fnExactTextSpec)) fnExactTextUptoCard

/-- THE SECOND FORM's CARD OF 'laws.FnExactTell'. -/
def fnExactTellUptoCard : Claim7 := { stood := { row := fnExactTellUptoRow, standIns := [], harness := (true, "a4959b4e0caf4080973d5c2e1508c987d614deb6bcce13cd70bb13a63a7d7bad"), looks := true }, kinds := [], alts := [], laidByText := true, laidKinds := [.data, .data, .data], laidTests := true, laidLooks := .later }
def FnExactTellUptoCardSaid : Prop := Claim7.holds Tryd.pinned (.plain (OpenSpec.upto fnExactTellSpec)) fnExactTellUptoCard

/-- THE SECOND FORM's CARD OF 'laws.FnExactHear'. -/
def fnExactHearUptoCard : Claim7 := { stood := { row := fnExactHearUptoRow, standIns := [], harness := (true, "a4959b4e0caf4080973d5c2e1508c987d614deb6bcce13cd70bb13a63a7d7bad"), looks := true }, kinds := [], alts := [], laidByText := true, laidKinds := [.data, .data, .data, .sentinel, .sentinel], laidTests := true, laidLooks := .later }
def FnExactHearUptoCardSaid : Prop := Claim7.holds Tryd.pinned (.plain (OpenSpec.upto fnExactHearSpec)) fnExactHearUptoCard
end Rows
end Go.Proofs.YtchlolfdinakiaaDoor
