/-
  No cell of these rows narrows 'for every input' (looked for: loops, veiled, ifaces, maps, wideKeys, modest, calm, conditions, laid).
  DERIVED. THE GIVEN ROWS OF THIS SEAT. 4 by the template 'for every input the law returns true; each argument reads behind the call as it read before'; 0 by the template 'total and deterministic' (their statements: YtikchlfbjdfioaaTotals.lean).
  GIVEN WITH THE SEED: the statements are not yours to turn. If you find one false, say at which input.
  Laid BY PROGRAM, IN A SANDBOX (cutbox-rows.mjs): the forced cells as the released guide's own fill.sh prints them over the translation b88165bca5ee7555… (all of the seat's roots in one cut). By AI agents, Wed Nov 11 2026. No macro, syntax, notation, axiom, sorry.
-/
import Derived.Test.YtikchlfbjdfioaaChecked
import GoSem.Claim
import GoSem.ClaimJoined
import GoSem.ClaimMapViews
import Derived.JoinedTies
import Derived.KernelRfl
namespace Go.Proofs.Ytikchlfbjdfioaa
/- THE CELL 'sum', in the pinned program and in every row, IS THE sha256 OF THE DUMP (.gsa) THAT YtikchlfbjdfioaaProg.lean LOADS. Nothing in Lean hashes anything: it is a label: what it is worth is what the hold of that sum in a sandbox is worth. -/
noncomputable def Try.pinned : Pinned := { name := "ytikchlfbjdfioaa", sum := "b88165bca5ee7555019bee1b4e88b84c3e5c2ee11a01b80a5d7d07690133606b", checked := Try.checked }
namespace Rows
def none {H : Type} : Left H := { results := [], args := [] }

/-- 'novaculitelaw07.PropSure': WHATEVER THE INPUT: true; the input reads as it did. -/
def propSureSpec : ChangeSpec := { name := "propSure", fn := fun _ => fun
  | [d1, d2] => { results := [.lit (.bool true)], args := [d1, d2] }
  | _ => none }
def propSureRow : OpenClaim := { program := "ytikchlfbjdfioaa", sum := "b88165bca5ee7555019bee1b4e88b84c3e5c2ee11a01b80a5d7d07690133606b", func := "novaculite/novaculitelaw07.PropSure", spec := "propSure", unfollowed := true, recurses := true, apart := false }
def PropSureSaid : Prop := propSureRow.holds Try.pinned (OpenSpec.ofChange propSureSpec)

/-- ITS FALSE NEIGHBOUR: 'it returns false'. Refute it at one input. -/
def propSureWrong : ChangeSpec := { name := "propSure", fn := fun _ => fun
  | [d1, d2] => { results := [.lit (.bool false)], args := [d1, d2] }
  | _ => none }
def PropSureWrongFalsely : Prop := propSureRow.holds Try.pinned (OpenSpec.ofChange propSureWrong)

/-- 'novaculitelaw07.PropMoved': WHATEVER THE INPUT: true; the input reads as it did. -/
def propMovedSpec : ChangeSpec := { name := "propMoved", fn := fun _ => fun
  | [d1, d2] => { results := [.lit (.bool true)], args := [d1, d2] }
  | _ => none }
def propMovedRow : OpenClaim := { program := "ytikchlfbjdfioaa", sum := "b88165bca5ee7555019bee1b4e88b84c3e5c2ee11a01b80a5d7d07690133606b", func := "novaculite/novaculitelaw07.PropMoved", spec := "propMoved", unfollowed := true, recurses := true, apart := false }
def PropMovedSaid : Prop := propMovedRow.holds Try.pinned (OpenSpec.ofChange propMovedSpec)

/-- ITS FALSE NEIGHBOUR: 'it returns false'. Refute it at one input. -/
def propMovedWrong : ChangeSpec := { name := "propMoved", fn := fun _ => fun
  | [d1, d2] => { results := [.lit (.bool false)], args := [d1, d2] }
  | _ => none }
def PropMovedWrongFalsely : Prop := propMovedRow.holds Try.pinned (OpenSpec.ofChange propMovedWrong)

/-- 'novaculitelaw07.PropShown': WHATEVER THE INPUT: true; the input reads as it did. -/
def propShownSpec : ChangeSpec := { name := "propShown", fn := fun _ => fun
  | [d1, d2, d3, d4, d5] => { results := [.lit (.bool true)], args := [d1, d2, d3, d4, d5] }
  | _ => none }
def propShownRow : OpenClaim := { program := "ytikchlfbjdfioaa", sum := "b88165bca5ee7555019bee1b4e88b84c3e5c2ee11a01b80a5d7d07690133606b", func := "novaculite/novaculitelaw07.PropShown", spec := "propShown", unfollowed := true, recurses := true, apart := false }
def PropShownSaid : Prop := propShownRow.holds Try.pinned (OpenSpec.ofChange propShownSpec)

/-- ITS FALSE NEIGHBOUR: 'it returns false'. Refute it at one input. -/
def propShownWrong : ChangeSpec := { name := "propShown", fn := fun _ => fun
  | [d1, d2, d3, d4, d5] => { results := [.lit (.bool false)], args := [d1, d2, d3, d4, d5] }
  | _ => none }
def PropShownWrongFalsely : Prop := propShownRow.holds Try.pinned (OpenSpec.ofChange propShownWrong)

/-- 'novaculitelaw07.PropSeries': WHATEVER THE INPUT: true; the input reads as it did. -/
def propSeriesSpec : ChangeSpec := { name := "propSeries", fn := fun _ => fun
  | [d1, d2, d3] => { results := [.lit (.bool true)], args := [d1, d2, d3] }
  | _ => none }
def propSeriesRow : OpenClaim := { program := "ytikchlfbjdfioaa", sum := "b88165bca5ee7555019bee1b4e88b84c3e5c2ee11a01b80a5d7d07690133606b", func := "novaculite/novaculitelaw07.PropSeries", spec := "propSeries", unfollowed := true, recurses := true, apart := false }
def PropSeriesSaid : Prop := propSeriesRow.holds Try.pinned (OpenSpec.ofChange propSeriesSpec)

/-- ITS FALSE NEIGHBOUR: 'it returns false'. Refute it at one input. -/
def propSeriesWrong : ChangeSpec := { name := "propSeries", fn := fun _ => fun
  | [d1, d2, d3] => { results := [.lit (.bool false)], args := [d1, d2, d3] }
  | _ => none }
def PropSeriesWrongFalsely : Prop := propSeriesRow.holds Try.pinned (OpenSpec.ofChange propSeriesWrong)

/- THE SECOND FORM. 'bulk': how many values and letters a reading holds, each counted each time it is reached (what is shared counts as often as it is met; a slice's spare places count too). A statement '..UptoSaid' is the law's where the arguments, and the package variables that the reading takes, are together of bulk at most 1048576: NARROWER than '..Said'. Prove '..Said' where nothing that the law and all that it calls make is longer than what came in: it says more and counts as full. Else prove '..UptoSaid'. A law counts once. -/
mutual
def uptoBulk {H : Type} : DataW H → Nat
  | .lit (.string bytes) => bytes.length + 1
  | .lit _ => 1
  | .nil => 1
  | .ptr d => uptoBulk d + 1
  | .slice elems spare => uptoBulkAll elems + uptoBulkAll spare + 1
  | .agg parts => uptoBulkAll parts + 1
  | .iface _ d => uptoBulk d + 1
  | .map entries => uptoBulkEntries entries + 1
  | .held _ => 1
def uptoBulkAll {H : Type} : List (DataW H) → Nat
  | [] => 0
  | d :: r => uptoBulk d + uptoBulkAll r
def uptoBulkEntries {H : Type} : List (Lit × DataW H) → Nat
  | [] => 0
  | x :: r => uptoBulkEntry x + uptoBulkEntries r
def uptoBulkEntry {H : Type} : Lit × DataW H → Nat
  | (.string bytes, d) => bytes.length + uptoBulk d + 1
  | (_, d) => uptoBulk d + 1
 end
def uptoSmall : (H : Type) → List (DataW H) → Bool := fun _ ds => decide (uptoBulkAll ds ≤ 1048576)
def OpenSpec.upto (s : _root_.Go.ChangeSpec) : _root_.Go.OpenSpec := { _root_.Go.OpenSpec.ofChange s with cond := some uptoSmall }

/-- 'novaculitelaw07.PropSure', WHERE WHAT IT READS IS OF BULK AT MOST 1048576: true; the input reads as it did. -/
def propSureUptoRow : OpenClaim := { program := "ytikchlfbjdfioaa", sum := "b88165bca5ee7555019bee1b4e88b84c3e5c2ee11a01b80a5d7d07690133606b", func := "novaculite/novaculitelaw07.PropSure", spec := "propSure", unfollowed := true, recurses := true, apart := false, narrowed := true }
def PropSureUptoSaid : Prop := propSureUptoRow.holds Try.pinned (OpenSpec.upto propSureSpec)

/-- 'novaculitelaw07.PropMoved', WHERE WHAT IT READS IS OF BULK AT MOST 1048576: true; the input reads as it did. -/
def propMovedUptoRow : OpenClaim := { program := "ytikchlfbjdfioaa", sum := "b88165bca5ee7555019bee1b4e88b84c3e5c2ee11a01b80a5d7d07690133606b", func := "novaculite/novaculitelaw07.PropMoved", spec := "propMoved", unfollowed := true, recurses := true, apart := false, narrowed := true }
def PropMovedUptoSaid : Prop := propMovedUptoRow.holds Try.pinned (OpenSpec.upto propMovedSpec)

/-- 'novaculitelaw07.PropShown', WHERE WHAT IT READS IS OF BULK AT MOST 1048576: true; the input reads as it did. -/
def propShownUptoRow : OpenClaim := { program := "ytikchlfbjdfioaa", sum := "b88165bca5ee7555019bee1b4e88b84c3e5c2ee11a01b80a5d7d07690133606b", func := "novaculite/novaculitelaw07.PropShown", spec := "propShown", unfollowed := true, recurses := true, apart := false, narrowed := true }
def PropShownUptoSaid : Prop := propShownUptoRow.holds Try.pinned (OpenSpec.upto propShownSpec)

/-- 'novaculitelaw07.PropSeries', WHERE WHAT IT READS IS OF BULK AT MOST 1048576: true; the input reads as it did. -/
def propSeriesUptoRow : OpenClaim := { program := "ytikchlfbjdfioaa", sum := "b88165bca5ee7555019bee1b4e88b84c3e5c2ee11a01b80a5d7d07690133606b", func := "novaculite/novaculitelaw07.PropSeries", spec := "propSeries", unfollowed := true, recurses := true, apart := false, narrowed := true }
def PropSeriesUptoSaid : Prop := propSeriesUptoRow.holds Try.pinned (OpenSpec.upto propSeriesSpec)

end Rows
end Go.Proofs.Ytikchlfbjdfioaa
