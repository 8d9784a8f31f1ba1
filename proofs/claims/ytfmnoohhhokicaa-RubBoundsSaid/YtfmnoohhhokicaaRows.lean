/-
  No cell of these rows narrows 'for every input' (looked for: loops, veiled, ifaces, maps, wideKeys, modest, calm, conditions, laid).
  DERIVED. THE GIVEN ROWS OF THIS SEAT. 14 by the template 'for every input the law returns true; each argument reads behind the call as it read before'; 0 by the template 'total and deterministic' (their statements: YtfmnoohhhokicaaTotals.lean).
  GIVEN WITH THE SEED: the statements are not yours to turn. If you find one false, say at which input.
  Laid BY PROGRAM, IN A SANDBOX (cutbox-rows.mjs): the forced cells as the released guide's own fill.sh prints them over the translation bad160a01fc2ab56… (all of the seat's roots in one cut). By AI agents, Wed Nov 11 2026. No macro, syntax, notation, axiom, sorry.
-/
import Derived.Test.YtfmnoohhhokicaaChecked
import GoSem.Claim
import GoSem.ClaimJoined
import GoSem.ClaimMapViews
import Derived.JoinedTies
import Derived.KernelRfl
namespace Go.Proofs.Ytfmnoohhhokicaa
/- THE CELL 'sum', in the pinned program and in every row, IS THE sha256 OF THE DUMP (.gsa) THAT YtfmnoohhhokicaaProg.lean LOADS. Nothing in Lean hashes anything: it is a label: what it is worth is what the hold of that sum in a sandbox is worth. -/
noncomputable def Try.pinned : Pinned := { name := "ytfmnoohhhokicaa", sum := "bad160a01fc2ab56baf980d11d0f1f8abd4cde851f2a8725bb73399367c0190e", checked := Try.checked }
namespace Rows
def none {H : Type} : Left H := { results := [], args := [] }

/-- 'novaculitelaw05.RubRows': WHATEVER THE INPUT: true; the input reads as it did. -/
def rubRowsSpec : ChangeSpec := { name := "rubRows", fn := fun _ => fun
  | [d1, d2, d3, d4] => { results := [.lit (.bool true)], args := [d1, d2, d3, d4] }
  | _ => none }
def rubRowsRow : OpenClaim := { program := "ytfmnoohhhokicaa", sum := "bad160a01fc2ab56baf980d11d0f1f8abd4cde851f2a8725bb73399367c0190e", func := "novaculite/novaculitelaw05.RubRows", spec := "rubRows", unfollowed := true, recurses := true, plainKeys := false, apart := false }
def RubRowsSaid : Prop := rubRowsRow.holds Try.pinned (OpenSpec.ofChange rubRowsSpec)

/-- ITS FALSE NEIGHBOUR: 'it returns false'. Refute it at one input. -/
def rubRowsWrong : ChangeSpec := { name := "rubRows", fn := fun _ => fun
  | [d1, d2, d3, d4] => { results := [.lit (.bool false)], args := [d1, d2, d3, d4] }
  | _ => none }
def RubRowsWrongFalsely : Prop := rubRowsRow.holds Try.pinned (OpenSpec.ofChange rubRowsWrong)

/-- 'novaculitelaw05.RubReach': WHATEVER THE INPUT: true; the input reads as it did. -/
def rubReachSpec : ChangeSpec := { name := "rubReach", fn := fun _ => fun
  | [d1, d2, d3] => { results := [.lit (.bool true)], args := [d1, d2, d3] }
  | _ => none }
def rubReachRow : OpenClaim := { program := "ytfmnoohhhokicaa", sum := "bad160a01fc2ab56baf980d11d0f1f8abd4cde851f2a8725bb73399367c0190e", func := "novaculite/novaculitelaw05.RubReach", spec := "rubReach", unfollowed := true, recurses := true, plainKeys := false, apart := false }
def RubReachSaid : Prop := rubReachRow.holds Try.pinned (OpenSpec.ofChange rubReachSpec)

/-- ITS FALSE NEIGHBOUR: 'it returns false'. Refute it at one input. -/
def rubReachWrong : ChangeSpec := { name := "rubReach", fn := fun _ => fun
  | [d1, d2, d3] => { results := [.lit (.bool false)], args := [d1, d2, d3] }
  | _ => none }
def RubReachWrongFalsely : Prop := rubReachRow.holds Try.pinned (OpenSpec.ofChange rubReachWrong)

/-- 'novaculitelaw05.RubBelow': WHATEVER THE INPUT: true; the input reads as it did. -/
def rubBelowSpec : ChangeSpec := { name := "rubBelow", fn := fun _ => fun
  | [d1, d2] => { results := [.lit (.bool true)], args := [d1, d2] }
  | _ => none }
def rubBelowRow : OpenClaim := { program := "ytfmnoohhhokicaa", sum := "bad160a01fc2ab56baf980d11d0f1f8abd4cde851f2a8725bb73399367c0190e", func := "novaculite/novaculitelaw05.RubBelow", spec := "rubBelow", unfollowed := true, recurses := true, plainKeys := false, apart := false }
def RubBelowSaid : Prop := rubBelowRow.holds Try.pinned (OpenSpec.ofChange rubBelowSpec)

/-- ITS FALSE NEIGHBOUR: 'it returns false'. Refute it at one input. -/
def rubBelowWrong : ChangeSpec := { name := "rubBelow", fn := fun _ => fun
  | [d1, d2] => { results := [.lit (.bool false)], args := [d1, d2] }
  | _ => none }
def RubBelowWrongFalsely : Prop := rubBelowRow.holds Try.pinned (OpenSpec.ofChange rubBelowWrong)

/-- 'novaculitelaw05.RubBounds': WHATEVER THE INPUT: true; the input reads as it did. -/
def rubBoundsSpec : ChangeSpec := { name := "rubBounds", fn := fun _ => fun
  | [d1, d2, d3, d4, d5] => { results := [.lit (.bool true)], args := [d1, d2, d3, d4, d5] }
  | _ => none }
def rubBoundsRow : OpenClaim := { program := "ytfmnoohhhokicaa", sum := "bad160a01fc2ab56baf980d11d0f1f8abd4cde851f2a8725bb73399367c0190e", func := "novaculite/novaculitelaw05.RubBounds", spec := "rubBounds", unfollowed := true, recurses := true, plainKeys := false, apart := false }
def RubBoundsSaid : Prop := rubBoundsRow.holds Try.pinned (OpenSpec.ofChange rubBoundsSpec)

/-- ITS FALSE NEIGHBOUR: 'it returns false'. Refute it at one input. -/
def rubBoundsWrong : ChangeSpec := { name := "rubBounds", fn := fun _ => fun
  | [d1, d2, d3, d4, d5] => { results := [.lit (.bool false)], args := [d1, d2, d3, d4, d5] }
  | _ => none }
def RubBoundsWrongFalsely : Prop := rubBoundsRow.holds Try.pinned (OpenSpec.ofChange rubBoundsWrong)

/-- 'novaculitelaw05.RubBack': WHATEVER THE INPUT: true; the input reads as it did. -/
def rubBackSpec : ChangeSpec := { name := "rubBack", fn := fun _ => fun
  | [d1, d2, d3] => { results := [.lit (.bool true)], args := [d1, d2, d3] }
  | _ => none }
def rubBackRow : OpenClaim := { program := "ytfmnoohhhokicaa", sum := "bad160a01fc2ab56baf980d11d0f1f8abd4cde851f2a8725bb73399367c0190e", func := "novaculite/novaculitelaw05.RubBack", spec := "rubBack", unfollowed := true, recurses := true, plainKeys := false, apart := false }
def RubBackSaid : Prop := rubBackRow.holds Try.pinned (OpenSpec.ofChange rubBackSpec)

/-- ITS FALSE NEIGHBOUR: 'it returns false'. Refute it at one input. -/
def rubBackWrong : ChangeSpec := { name := "rubBack", fn := fun _ => fun
  | [d1, d2, d3] => { results := [.lit (.bool false)], args := [d1, d2, d3] }
  | _ => none }
def RubBackWrongFalsely : Prop := rubBackRow.holds Try.pinned (OpenSpec.ofChange rubBackWrong)

/-- 'novaculitelaw05.RubShown': WHATEVER THE INPUT: true; the input reads as it did. -/
def rubShownSpec : ChangeSpec := { name := "rubShown", fn := fun _ => fun
  | [d1, d2, d3] => { results := [.lit (.bool true)], args := [d1, d2, d3] }
  | _ => none }
def rubShownRow : OpenClaim := { program := "ytfmnoohhhokicaa", sum := "bad160a01fc2ab56baf980d11d0f1f8abd4cde851f2a8725bb73399367c0190e", func := "novaculite/novaculitelaw05.RubShown", spec := "rubShown", unfollowed := true, recurses := true, plainKeys := false, apart := false }
def RubShownSaid : Prop := rubShownRow.holds Try.pinned (OpenSpec.ofChange rubShownSpec)

/-- ITS FALSE NEIGHBOUR: 'it returns false'. Refute it at one input. -/
def rubShownWrong : ChangeSpec := { name := "rubShown", fn := fun _ => fun
  | [d1, d2, d3] => { results := [.lit (.bool false)], args := [d1, d2, d3] }
  | _ => none }
def RubShownWrongFalsely : Prop := rubShownRow.holds Try.pinned (OpenSpec.ofChange rubShownWrong)

/-- 'novaculitelaw05.RubFlat': WHATEVER THE INPUT: true; the input reads as it did. -/
def rubFlatSpec : ChangeSpec := { name := "rubFlat", fn := fun _ => fun
  | [d1, d2] => { results := [.lit (.bool true)], args := [d1, d2] }
  | _ => none }
def rubFlatRow : OpenClaim := { program := "ytfmnoohhhokicaa", sum := "bad160a01fc2ab56baf980d11d0f1f8abd4cde851f2a8725bb73399367c0190e", func := "novaculite/novaculitelaw05.RubFlat", spec := "rubFlat", unfollowed := true, recurses := true, plainKeys := false, apart := false }
def RubFlatSaid : Prop := rubFlatRow.holds Try.pinned (OpenSpec.ofChange rubFlatSpec)

/-- ITS FALSE NEIGHBOUR: 'it returns false'. Refute it at one input. -/
def rubFlatWrong : ChangeSpec := { name := "rubFlat", fn := fun _ => fun
  | [d1, d2] => { results := [.lit (.bool false)], args := [d1, d2] }
  | _ => none }
def RubFlatWrongFalsely : Prop := rubFlatRow.holds Try.pinned (OpenSpec.ofChange rubFlatWrong)

/-- 'novaculitelaw05.RubMuirhead': WHATEVER THE INPUT: true; the input reads as it did. -/
def rubMuirheadSpec : ChangeSpec := { name := "rubMuirhead", fn := fun _ => fun
  | [d] => { results := [.lit (.bool true)], args := [d] }
  | _ => none }
def rubMuirheadRow : OpenClaim := { program := "ytfmnoohhhokicaa", sum := "bad160a01fc2ab56baf980d11d0f1f8abd4cde851f2a8725bb73399367c0190e", func := "novaculite/novaculitelaw05.RubMuirhead", spec := "rubMuirhead", unfollowed := true, recurses := true, plainKeys := false, apart := false }
def RubMuirheadSaid : Prop := rubMuirheadRow.holds Try.pinned (OpenSpec.ofChange rubMuirheadSpec)

/-- ITS FALSE NEIGHBOUR: 'it returns false'. Refute it at one input. -/
def rubMuirheadWrong : ChangeSpec := { name := "rubMuirhead", fn := fun _ => fun
  | [d] => { results := [.lit (.bool false)], args := [d] }
  | _ => none }
def RubMuirheadWrongFalsely : Prop := rubMuirheadRow.holds Try.pinned (OpenSpec.ofChange rubMuirheadWrong)

/-- 'novaculitelaw05.RubFirst': WHATEVER THE INPUT: true; the input reads as it did. -/
def rubFirstSpec : ChangeSpec := { name := "rubFirst", fn := fun _ => fun
  | [d1, d2] => { results := [.lit (.bool true)], args := [d1, d2] }
  | _ => none }
def rubFirstRow : OpenClaim := { program := "ytfmnoohhhokicaa", sum := "bad160a01fc2ab56baf980d11d0f1f8abd4cde851f2a8725bb73399367c0190e", func := "novaculite/novaculitelaw05.RubFirst", spec := "rubFirst", unfollowed := true, recurses := true, plainKeys := false, apart := false }
def RubFirstSaid : Prop := rubFirstRow.holds Try.pinned (OpenSpec.ofChange rubFirstSpec)

/-- ITS FALSE NEIGHBOUR: 'it returns false'. Refute it at one input. -/
def rubFirstWrong : ChangeSpec := { name := "rubFirst", fn := fun _ => fun
  | [d1, d2] => { results := [.lit (.bool false)], args := [d1, d2] }
  | _ => none }
def RubFirstWrongFalsely : Prop := rubFirstRow.holds Try.pinned (OpenSpec.ofChange rubFirstWrong)

/-- 'novaculitelaw05.RubSteps': WHATEVER THE INPUT: true; the input reads as it did. -/
def rubStepsSpec : ChangeSpec := { name := "rubSteps", fn := fun _ => fun
  | [d1, d2] => { results := [.lit (.bool true)], args := [d1, d2] }
  | _ => none }
def rubStepsRow : OpenClaim := { program := "ytfmnoohhhokicaa", sum := "bad160a01fc2ab56baf980d11d0f1f8abd4cde851f2a8725bb73399367c0190e", func := "novaculite/novaculitelaw05.RubSteps", spec := "rubSteps", unfollowed := true, recurses := true, plainKeys := false, apart := false }
def RubStepsSaid : Prop := rubStepsRow.holds Try.pinned (OpenSpec.ofChange rubStepsSpec)

/-- ITS FALSE NEIGHBOUR: 'it returns false'. Refute it at one input. -/
def rubStepsWrong : ChangeSpec := { name := "rubSteps", fn := fun _ => fun
  | [d1, d2] => { results := [.lit (.bool false)], args := [d1, d2] }
  | _ => none }
def RubStepsWrongFalsely : Prop := rubStepsRow.holds Try.pinned (OpenSpec.ofChange rubStepsWrong)

/-- 'novaculitelaw05.RubLattice': WHATEVER THE INPUT: true; the input reads as it did. -/
def rubLatticeSpec : ChangeSpec := { name := "rubLattice", fn := fun _ => fun
  | [d1, d2] => { results := [.lit (.bool true)], args := [d1, d2] }
  | _ => none }
def rubLatticeRow : OpenClaim := { program := "ytfmnoohhhokicaa", sum := "bad160a01fc2ab56baf980d11d0f1f8abd4cde851f2a8725bb73399367c0190e", func := "novaculite/novaculitelaw05.RubLattice", spec := "rubLattice", unfollowed := true, recurses := true, plainKeys := false, apart := false }
def RubLatticeSaid : Prop := rubLatticeRow.holds Try.pinned (OpenSpec.ofChange rubLatticeSpec)

/-- ITS FALSE NEIGHBOUR: 'it returns false'. Refute it at one input. -/
def rubLatticeWrong : ChangeSpec := { name := "rubLattice", fn := fun _ => fun
  | [d1, d2] => { results := [.lit (.bool false)], args := [d1, d2] }
  | _ => none }
def RubLatticeWrongFalsely : Prop := rubLatticeRow.holds Try.pinned (OpenSpec.ofChange rubLatticeWrong)

/-- 'novaculitelaw05.RubPowers': WHATEVER THE INPUT: true; the input reads as it did. -/
def rubPowersSpec : ChangeSpec := { name := "rubPowers", fn := fun _ => fun
  | [d1, d2] => { results := [.lit (.bool true)], args := [d1, d2] }
  | _ => none }
def rubPowersRow : OpenClaim := { program := "ytfmnoohhhokicaa", sum := "bad160a01fc2ab56baf980d11d0f1f8abd4cde851f2a8725bb73399367c0190e", func := "novaculite/novaculitelaw05.RubPowers", spec := "rubPowers", unfollowed := true, recurses := true, plainKeys := false, apart := false }
def RubPowersSaid : Prop := rubPowersRow.holds Try.pinned (OpenSpec.ofChange rubPowersSpec)

/-- ITS FALSE NEIGHBOUR: 'it returns false'. Refute it at one input. -/
def rubPowersWrong : ChangeSpec := { name := "rubPowers", fn := fun _ => fun
  | [d1, d2] => { results := [.lit (.bool false)], args := [d1, d2] }
  | _ => none }
def RubPowersWrongFalsely : Prop := rubPowersRow.holds Try.pinned (OpenSpec.ofChange rubPowersWrong)

/-- 'novaculitelaw05.RubMore': WHATEVER THE INPUT: true; the input reads as it did. -/
def rubMoreSpec : ChangeSpec := { name := "rubMore", fn := fun _ => fun
  | [d1, d2] => { results := [.lit (.bool true)], args := [d1, d2] }
  | _ => none }
def rubMoreRow : OpenClaim := { program := "ytfmnoohhhokicaa", sum := "bad160a01fc2ab56baf980d11d0f1f8abd4cde851f2a8725bb73399367c0190e", func := "novaculite/novaculitelaw05.RubMore", spec := "rubMore", unfollowed := true, recurses := true, plainKeys := false, apart := false }
def RubMoreSaid : Prop := rubMoreRow.holds Try.pinned (OpenSpec.ofChange rubMoreSpec)

/-- ITS FALSE NEIGHBOUR: 'it returns false'. Refute it at one input. -/
def rubMoreWrong : ChangeSpec := { name := "rubMore", fn := fun _ => fun
  | [d1, d2] => { results := [.lit (.bool false)], args := [d1, d2] }
  | _ => none }
def RubMoreWrongFalsely : Prop := rubMoreRow.holds Try.pinned (OpenSpec.ofChange rubMoreWrong)

/-- 'novaculitelaw05.RubTurned': WHATEVER THE INPUT: true; the input reads as it did. -/
def rubTurnedSpec : ChangeSpec := { name := "rubTurned", fn := fun _ => fun
  | [d1, d2] => { results := [.lit (.bool true)], args := [d1, d2] }
  | _ => none }
def rubTurnedRow : OpenClaim := { program := "ytfmnoohhhokicaa", sum := "bad160a01fc2ab56baf980d11d0f1f8abd4cde851f2a8725bb73399367c0190e", func := "novaculite/novaculitelaw05.RubTurned", spec := "rubTurned", unfollowed := true, recurses := true, plainKeys := false, apart := false }
def RubTurnedSaid : Prop := rubTurnedRow.holds Try.pinned (OpenSpec.ofChange rubTurnedSpec)

/-- ITS FALSE NEIGHBOUR: 'it returns false'. Refute it at one input. -/
def rubTurnedWrong : ChangeSpec := { name := "rubTurned", fn := fun _ => fun
  | [d1, d2] => { results := [.lit (.bool false)], args := [d1, d2] }
  | _ => none }
def RubTurnedWrongFalsely : Prop := rubTurnedRow.holds Try.pinned (OpenSpec.ofChange rubTurnedWrong)

/- THE SECOND FORM. 'bulk': how many values and letters a reading holds, each counted each time it is reached (what is shared counts as often as it is met; a slice's spare places count too). A statement '..UptoSaid' is the law's where the arguments, and the package variables that the reading takes, are together of bulk at most 1048576: NARROWER than '..Said'. Prove '..Said' where nothing that the law and all that it calls make is longer than what came in: it says more and counts as full. Else prove '..UptoSaid'. A law counts once. -/
mutual
def uptoBulk {H : Type} : DataW H → Nat
  | .lit (.string bytes) => bytes.length + 1
  | .lit _ => 1
  | .nil => 1
  | .ptr d => uptoBulk d + 1
  | .slice elems spare => uptoBulkAll elems + uptoBulkAll spare + 1
  | .agg parts => uptoBulkAll parts + 1
  | .iface _ d => uptoBulk d + 1
  | .map entries => uptoBulkEntries entries + 1
  | .held _ => 1
def uptoBulkAll {H : Type} : List (DataW H) → Nat
  | [] => 0
  | d :: r => uptoBulk d + uptoBulkAll r
def uptoBulkEntries {H : Type} : List (Lit × DataW H) → Nat
  | [] => 0
  | x :: r => uptoBulkEntry x + uptoBulkEntries r
def uptoBulkEntry {H : Type} : Lit × DataW H → Nat
  | (.string bytes, d) => bytes.length + uptoBulk d + 1
  | (_, d) => uptoBulk d + 1
 end
def uptoSmall : (H : Type) → List (DataW H) → Bool := fun _ ds => decide (uptoBulkAll ds ≤ 1048576)
def OpenSpec.upto (s : _root_.Go.ChangeSpec) : _root_.Go.OpenSpec := { _root_.Go.OpenSpec.ofChange s with cond := some uptoSmall }

/-- 'novaculitelaw05.RubRows', WHERE WHAT IT READS IS OF BULK AT MOST 1048576: true; the input reads as it did. -/
def rubRowsUptoRow : OpenClaim := { program := "ytfmnoohhhokicaa", sum := "bad160a01fc2ab56baf980d11d0f1f8abd4cde851f2a8725bb73399367c0190e", func := "novaculite/novaculitelaw05.RubRows", spec := "rubRows", unfollowed := true, recurses := true, plainKeys := false, apart := false, narrowed := true }
def RubRowsUptoSaid : Prop := rubRowsUptoRow.holds Try.pinned (OpenSpec.upto rubRowsSpec)

/-- 'novaculitelaw05.RubReach', WHERE WHAT IT READS IS OF BULK AT MOST 1048576: true; the input reads as it did. -/
def rubReachUptoRow : OpenClaim := { program := "ytfmnoohhhokicaa", sum := "bad160a01fc2ab56baf980d11d0f1f8abd4cde851f2a8725bb73399367c0190e", func := "novaculite/novaculitelaw05.RubReach", spec := "rubReach", unfollowed := true, recurses := true, plainKeys := false, apart := false, narrowed := true }
def RubReachUptoSaid : Prop := rubReachUptoRow.holds Try.pinned (OpenSpec.upto rubReachSpec)

/-- 'novaculitelaw05.RubBelow', WHERE WHAT IT READS IS OF BULK AT MOST 1048576: true; the input reads as it did. -/
def rubBelowUptoRow : OpenClaim := { program := "ytfmnoohhhokicaa", sum := "bad160a01fc2ab56baf980d11d0f1f8abd4cde851f2a8725bb73399367c0190e", func := "novaculite/novaculitelaw05.RubBelow", spec := "rubBelow", unfollowed := true, recurses := true, plainKeys := false, apart := false, narrowed := true }
def RubBelowUptoSaid : Prop := rubBelowUptoRow.holds Try.pinned (OpenSpec.upto rubBelowSpec)

/-- 'novaculitelaw05.RubBounds', WHERE WHAT IT READS IS OF BULK AT MOST 1048576: true; the input reads as it did. -/
def rubBoundsUptoRow : OpenClaim := { program := "ytfmnoohhhokicaa", sum := "bad160a01fc2ab56baf980d11d0f1f8abd4cde851f2a8725bb73399367c0190e", func := "novaculite/novaculitelaw05.RubBounds", spec := "rubBounds", unfollowed := true, recurses := true, plainKeys := false, apart := false, narrowed := true }
def RubBoundsUptoSaid : Prop := rubBoundsUptoRow.holds Try.pinned (OpenSpec.upto rubBoundsSpec)

/-- 'novaculitelaw05.RubBack', WHERE WHAT IT READS IS OF BULK AT MOST 1048576: true; the input reads as it did. -/
def rubBackUptoRow : OpenClaim := { program := "ytfmnoohhhokicaa", sum := "bad160a01fc2ab56baf980d11d0f1f8abd4cde851f2a8725bb73399367c0190e", func := "novaculite/novaculitelaw05.RubBack", spec := "rubBack", unfollowed := true, recurses := true, plainKeys := false, apart := false, narrowed := true }
def RubBackUptoSaid : Prop := rubBackUptoRow.holds Try.pinned (OpenSpec.upto rubBackSpec)

/-- 'novaculitelaw05.RubShown', WHERE WHAT IT READS IS OF BULK AT MOST 1048576: true; the input reads as it did. -/
def rubShownUptoRow : OpenClaim := { program := "ytfmnoohhhokicaa", sum := "bad160a01fc2ab56baf980d11d0f1f8abd4cde851f2a8725bb73399367c0190e", func := "novaculite/novaculitelaw05.RubShown", spec := "rubShown", unfollowed := true, recurses := true, plainKeys := false, apart := false, narrowed := true }
def RubShownUptoSaid : Prop := rubShownUptoRow.holds Try.pinned (OpenSpec.upto rubShownSpec)

/-- 'novaculitelaw05.RubFlat', WHERE WHAT IT READS IS OF BULK AT MOST 1048576: true; the input reads as it did. -/
def rubFlatUptoRow : OpenClaim := { program := "ytfmnoohhhokicaa", sum := "bad160a01fc2ab56baf980d11d0f1f8abd4cde851f2a8725bb73399367c0190e", func := "novaculite/novaculitelaw05.RubFlat", spec := "rubFlat", unfollowed := true, recurses := true, plainKeys := false, apart := false, narrowed := true }
def RubFlatUptoSaid : Prop := rubFlatUptoRow.holds Try.pinned (OpenSpec.upto rubFlatSpec)

/-- 'novaculitelaw05.RubMuirhead', WHERE WHAT IT READS IS OF BULK AT MOST 1048576: true; the input reads as it did. -/
def rubMuirheadUptoRow : OpenClaim := { program := "ytfmnoohhhokicaa", sum := "bad160a01fc2ab56baf980d11d0f1f8abd4cde851f2a8725bb73399367c0190e", func := "novaculite/novaculitelaw05.RubMuirhead", spec := "rubMuirhead", unfollowed := true, recurses := true, plainKeys := false, apart := false, narrowed := true }
def RubMuirheadUptoSaid : Prop := rubMuirheadUptoRow.holds Try.pinned (OpenSpec.upto rubMuirheadSpec)

/-- 'novaculitelaw05.RubFirst', WHERE WHAT IT READS IS OF BULK AT MOST 1048576: true; the input reads as it did. -/
def rubFirstUptoRow : OpenClaim := { program := "ytfmnoohhhokicaa", sum := "bad160a01fc2ab56baf980d11d0f1f8abd4cde851f2a8725bb73399367c0190e", func := "novaculite/novaculitelaw05.RubFirst", spec := "rubFirst", unfollowed := true, recurses := true, plainKeys := false, apart := false, narrowed := true }
def RubFirstUptoSaid : Prop := rubFirstUptoRow.holds Try.pinned (OpenSpec.upto rubFirstSpec)

/-- 'novaculitelaw05.RubSteps', WHERE WHAT IT READS IS OF BULK AT MOST 1048576: true; the input reads as it did. -/
def rubStepsUptoRow : OpenClaim := { program := "ytfmnoohhhokicaa", sum := "bad160a01fc2ab56baf980d11d0f1f8abd4cde851f2a8725bb73399367c0190e", func := "novaculite/novaculitelaw05.RubSteps", spec := "rubSteps", unfollowed := true, recurses := true, plainKeys := false, apart := false, narrowed := true }
def RubStepsUptoSaid : Prop := rubStepsUptoRow.holds Try.pinned (OpenSpec.upto rubStepsSpec)

/-- 'novaculitelaw05.RubLattice', WHERE WHAT IT READS IS OF BULK AT MOST 1048576: true; the input reads as it did. -/
def rubLatticeUptoRow : OpenClaim := { program := "ytfmnoohhhokicaa", sum := "bad160a01fc2ab56baf980d11d0f1f8abd4cde851f2a8725bb73399367c0190e", func := "novaculite/novaculitelaw05.RubLattice", spec := "rubLattice", unfollowed := true, recurses := true, plainKeys := false, apart := false, narrowed := true }
def RubLatticeUptoSaid : Prop := rubLatticeUptoRow.holds Try.pinned (OpenSpec.upto rubLatticeSpec)

/-- 'novaculitelaw05.RubPowers', WHERE WHAT IT READS IS OF BULK AT MOST 1048576: true; the input reads as it did. -/
def rubPowersUptoRow : OpenClaim := { program := "ytfmnoohhhokicaa", sum := "bad160a01fc2ab56baf980d11d0f1f8abd4cde851f2a8725bb73399367c0190e", func := "novaculite/novaculitelaw05.RubPowers", spec := "rubPowers", unfollowed := true, recurses := true, plainKeys := false, apart := false, narrowed := true }
def RubPowersUptoSaid : Prop := rubPowersUptoRow.holds Try.pinned (OpenSpec.upto rubPowersSpec)

/-- 'novaculitelaw05.RubMore', WHERE WHAT IT READS IS OF BULK AT MOST 1048576: true; the input reads as it did. -/
def rubMoreUptoRow : OpenClaim := { program := "ytfmnoohhhokicaa", sum := "bad160a01fc2ab56baf980d11d0f1f8abd4cde851f2a8725bb73399367c0190e", func := "novaculite/novaculitelaw05.RubMore", spec := "rubMore", unfollowed := true, recurses := true, plainKeys := false, apart := false, narrowed := true }
def RubMoreUptoSaid : Prop := rubMoreUptoRow.holds Try.pinned (OpenSpec.upto rubMoreSpec)

/-- 'novaculitelaw05.RubTurned', WHERE WHAT IT READS IS OF BULK AT MOST 1048576: true; the input reads as it did. -/
def rubTurnedUptoRow : OpenClaim := { program := "ytfmnoohhhokicaa", sum := "bad160a01fc2ab56baf980d11d0f1f8abd4cde851f2a8725bb73399367c0190e", func := "novaculite/novaculitelaw05.RubTurned", spec := "rubTurned", unfollowed := true, recurses := true, plainKeys := false, apart := false, narrowed := true }
def RubTurnedUptoSaid : Prop := rubTurnedUptoRow.holds Try.pinned (OpenSpec.upto rubTurnedSpec)

end Rows
end Go.Proofs.Ytfmnoohhhokicaa
