/-
  DERIVED. GIVEN WITH THE SEED: THE CARDS: each row of YteojpbflpgnloaaDoorRows.lean that lists a variable, with what it lists TIED to the program's text (the seventh form; the later family's looks); each row that meets fmt, with fmt's text TOLD by the authors' own Lean function (tested against real Go, not proved from fmt's source: count such statements apart). THE CARD IS WHAT COUNTS. Prove the row's statement (the work); the ties are given (YteojpbflpgnloaaDoorTie.lean); close each card by the builder's one call (the guide's Derived/Test/ToyasCard.lean, 'card_holds'). Laid BY PROGRAM, IN A SANDBOX (cutbox-door.mjs). By AI agents, Wed Nov 11 2026. No macro, syntax, notation, axiom, sorry.
-/
import Derived.Test.YteojpbflpgnloaaDoorRows
import GoSem.ClaimSeven
namespace Go.Proofs.YteojpbflpgnloaaDoor
namespace Rows

/-- THE TIED CARD OF 'novaculitelaw01.SeamKnown'. -/
def seamKnownCard : Claim7 := { stood := { row := seamKnownRow, standIns := [], harness := (true, "8b0d43197a97e3c4cc342bd0d9d45c5bc63f54af526d10c5315337a95fe41e60"), looks := false }, kinds := [], alts := [], laidByText := true, laidKinds := [.data, .data], laidTests := true, laidLooks := .later }
def SeamKnownCardSaid : Prop := Claim7.holds Tryd.pinned (.plain (OpenSpec.ofChange seamKnownSpec)) seamKnownCard

/-- THE SECOND FORM's CARD OF 'novaculitelaw01.SeamKnown'. -/
def seamKnownUptoCard : Claim7 := { stood := { row := seamKnownUptoRow, standIns := [], harness := (true, "8b0d43197a97e3c4cc342bd0d9d45c5bc63f54af526d10c5315337a95fe41e60"), looks := false }, kinds := [], alts := [], laidByText := true, laidKinds := [.data, .data], laidTests := true, laidLooks := .later }
def SeamKnownUptoCardSaid : Prop := Claim7.holds Tryd.pinned (.plain (OpenSpec.upto seamKnownSpec)) seamKnownUptoCard
end Rows
end Go.Proofs.YteojpbflpgnloaaDoor
