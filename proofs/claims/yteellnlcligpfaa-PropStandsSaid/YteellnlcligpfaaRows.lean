/-
  No cell of these rows narrows 'for every input' (looked for: loops, veiled, ifaces, maps, wideKeys, modest, calm, conditions, laid).
  DERIVED. THE GIVEN ROWS OF THIS SEAT. 3 by the template 'for every input the law returns true; each argument reads behind the call as it read before'; 0 by the template 'total and deterministic' (their statements: YteellnlcligpfaaTotals.lean).
  GIVEN WITH THE SEED: the statements are not yours to turn. If you find one false, say at which input.
  Laid BY PROGRAM, IN A SANDBOX (cutbox-rows.mjs): the forced cells as the released guide's own fill.sh prints them over the translation aecd0c356000b419… (all of the seat's roots in one cut). By AI agents, Wed Nov 11 2026. No macro, syntax, notation, axiom, sorry.
-/
import Derived.Test.YteellnlcligpfaaChecked
import GoSem.Claim
import GoSem.ClaimJoined
import GoSem.ClaimMapViews
import Derived.JoinedTies
import Derived.KernelRfl
namespace Go.Proofs.Yteellnlcligpfaa
/- THE CELL 'sum', in the pinned program and in every row, IS THE sha256 OF THE DUMP (.gsa) THAT YteellnlcligpfaaProg.lean LOADS. Nothing in Lean hashes anything: it is a label: what it is worth is what the hold of that sum in a sandbox is worth. -/
noncomputable def Try.pinned : Pinned := { name := "yteellnlcligpfaa", sum := "aecd0c356000b4198836597baed84feb6317c90204b1ba1dafef698f1c3beffe", checked := Try.checked }
namespace Rows
def none {H : Type} : Left H := { results := [], args := [] }

/-- 'novaculitelaw07.PropStands': WHATEVER THE INPUT: true; the input reads as it did. -/
def propStandsSpec : ChangeSpec := { name := "propStands", fn := fun _ => fun
  | [d1, d2, d3, d4] => { results := [.lit (.bool true)], args := [d1, d2, d3, d4] }
  | _ => none }
def propStandsRow : OpenClaim := { program := "yteellnlcligpfaa", sum := "aecd0c356000b4198836597baed84feb6317c90204b1ba1dafef698f1c3beffe", func := "novaculite/novaculitelaw07.PropStands", spec := "propStands", unfollowed := true, recurses := true, apart := false }
def PropStandsSaid : Prop := propStandsRow.holds Try.pinned (OpenSpec.ofChange propStandsSpec)

/-- ITS FALSE NEIGHBOUR: 'it returns false'. Refute it at one input. -/
def propStandsWrong : ChangeSpec := { name := "propStands", fn := fun _ => fun
  | [d1, d2, d3, d4] => { results := [.lit (.bool false)], args := [d1, d2, d3, d4] }
  | _ => none }
def PropStandsWrongFalsely : Prop := propStandsRow.holds Try.pinned (OpenSpec.ofChange propStandsWrong)

/-- 'novaculitelaw07.PropSure': WHATEVER THE INPUT: true; the input reads as it did. -/
def propSureSpec : ChangeSpec := { name := "propSure", fn := fun _ => fun
  | [d1, d2] => { results := [.lit (.bool true)], args := [d1, d2] }
  | _ => none }
def propSureRow : OpenClaim := { program := "yteellnlcligpfaa", sum := "aecd0c356000b4198836597baed84feb6317c90204b1ba1dafef698f1c3beffe", func := "novaculite/novaculitelaw07.PropSure", spec := "propSure", unfollowed := true, recurses := true, apart := false }
def PropSureSaid : Prop := propSureRow.holds Try.pinned (OpenSpec.ofChange propSureSpec)

/-- ITS FALSE NEIGHBOUR: 'it returns false'. Refute it at one input. -/
def propSureWrong : ChangeSpec := { name := "propSure", fn := fun _ => fun
  | [d1, d2] => { results := [.lit (.bool false)], args := [d1, d2] }
  | _ => none }
def PropSureWrongFalsely : Prop := propSureRow.holds Try.pinned (OpenSpec.ofChange propSureWrong)

/-- 'novaculitelaw07.PropShown': WHATEVER THE INPUT: true; the input reads as it did. -/
def propShownSpec : ChangeSpec := { name := "propShown", fn := fun _ => fun
  | [d1, d2, d3, d4, d5] => { results := [.lit (.bool true)], args := [d1, d2, d3, d4, d5] }
  | _ => none }
def propShownRow : OpenClaim := { program := "yteellnlcligpfaa", sum := "aecd0c356000b4198836597baed84feb6317c90204b1ba1dafef698f1c3beffe", func := "novaculite/novaculitelaw07.PropShown", spec := "propShown", unfollowed := true, recurses := true, apart := false }
def PropShownSaid : Prop := propShownRow.holds Try.pinned (OpenSpec.ofChange propShownSpec)

/-- ITS FALSE NEIGHBOUR: 'it returns false'. Refute it at one input. -/
def propShownWrong : ChangeSpec := { name := "propShown", fn := fun _ => fun
  | [d1, d2, d3, d4, d5] => { results := [.lit (.bool false)], args := [d1, d2, d3, d4, d5] }
  | _ => none }
def PropShownWrongFalsely : Prop := propShownRow.holds Try.pinned (OpenSpec.ofChange propShownWrong)

/- THE SECOND FORM. 'bulk': how many values and letters a reading holds, each counted each time it is reached (what is shared counts as often as it is met; a slice's spare places count too). A statement '..UptoSaid' is the law's where the arguments, and the package variables that the reading takes, are together of bulk at most 1048576: NARROWER than '..Said'. Prove '..Said' where nothing that the law and all that it calls make is longer than what came in: it says more and counts as full. Else prove '..UptoSaid'. A law counts once. -/
mutual
def uptoBulk {H : Type} : DataW H → Nat
  | .lit (.string bytes) => bytes.length + 1
  | .lit _ => 1
  | .nil => 1
  | .ptr d => uptoBulk d + 1
  | .slice elems spare => uptoBulkAll elems + uptoBulkAll spare + 1
  | .agg parts => uptoBulkAll parts + 1
  | .iface _ d => uptoBulk d + 1
  | .map entries => uptoBulkEntries entries + 1
  | .held _ => 1
def uptoBulkAll {H : Type} : List (DataW H) → Nat
  | [] => 0
  | d :: r => uptoBulk d + uptoBulkAll r
def uptoBulkEntries {H : Type} : List (Lit × DataW H) → Nat
  | [] => 0
  | x :: r => uptoBulkEntry x + uptoBulkEntries r
def uptoBulkEntry {H : Type} : Lit × DataW H → Nat
  | (.string bytes, d) => bytes.length + uptoBulk d + 1
  | (_, d) => uptoBulk d + 1
 end
def uptoSmall : (H : Type) → List (DataW H) → Bool := fun _ ds => decide (uptoBulkAll ds ≤ 1048576)
def OpenSpec.upto (s : _root_.Go.ChangeSpec) : _root_.Go.OpenSpec := { _root_.Go.OpenSpec.ofChange s with cond := some uptoSmall }

/-- 'novaculitelaw07.PropStands', WHERE WHAT IT READS IS OF BULK AT MOST 1048576: true; the input reads as it did. -/
def propStandsUptoRow : OpenClaim := { program := "yteellnlcligpfaa", sum := "aecd0c356000b4198836597baed84feb6317c90204b1ba1dafef698f1c3beffe", func := "novaculite/novaculitelaw07.PropStands", spec := "propStands", unfollowed := true, recurses := true, apart := false, narrowed := true }
def PropStandsUptoSaid : Prop := propStandsUptoRow.holds Try.pinned (OpenSpec.upto propStandsSpec)

/-- 'novaculitelaw07.PropSure', WHERE WHAT IT READS IS OF BULK AT MOST 1048576: true; the input reads as it did. -/
def propSureUptoRow : OpenClaim := { program := "yteellnlcligpfaa", sum := "aecd0c356000b4198836597baed84feb6317c90204b1ba1dafef698f1c3beffe", func := "novaculite/novaculitelaw07.PropSure", spec := "propSure", unfollowed := true, recurses := true, apart := false, narrowed := true }
def PropSureUptoSaid : Prop := propSureUptoRow.holds Try.pinned (OpenSpec.upto propSureSpec)

/-- 'novaculitelaw07.PropShown', WHERE WHAT IT READS IS OF BULK AT MOST 1048576: true; the input reads as it did. -/
def propShownUptoRow : OpenClaim := { program := "yteellnlcligpfaa", sum := "aecd0c356000b4198836597baed84feb6317c90204b1ba1dafef698f1c3beffe", func := "novaculite/novaculitelaw07.PropShown", spec := "propShown", unfollowed := true, recurses := true, apart := false, narrowed := true }
def PropShownUptoSaid : Prop := propShownUptoRow.holds Try.pinned (OpenSpec.upto propShownSpec)

end Rows
end Go.Proofs.Yteellnlcligpfaa
