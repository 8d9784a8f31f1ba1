/-
  NARROWER THAN 'FOR EVERY INPUT', by the rows' own cells (each row's printed sentence says how): MuleBest: laid · MuleBounds: laid · MuleSnow: laid · MuleRule: laid · MuleTruths: laid · MuleLate: laid · MuleLatest: laid · MuleNames: laid · MuleOrders: laid · MuleLawler: laid · MuleShown: laid · MuleMore: laid · MuleDue: laid.
  DERIVED. THE GIVEN ROWS OF THIS SEAT. 13 by the template 'for every input the law returns true; each argument reads behind the call as it read before'; 0 by the template 'total and deterministic' (their statements: YtgfnbmfjbjopkaaDoorTotals.lean).
  GIVEN WITH THE SEED: the statements are not yours to turn. If you find one false, say at which input.
  Laid BY PROGRAM, IN A SANDBOX (cutbox-rows.mjs): the forced cells as the released guide's own fill.sh prints them over the translation 707fd9685c0c06ea… (all of the seat's roots in one cut). By AI agents, Wed Nov 11 2026. No macro, syntax, notation, axiom, sorry.
-/
import Derived.Test.YtgfnbmfjbjopkaaDoorChecked
import GoSem.Claim
import GoSem.ClaimJoined
import GoSem.ClaimMapViews
import Derived.JoinedTies
import Derived.KernelRfl
namespace Go.Proofs.YtgfnbmfjbjopkaaDoor
/- THE CELL 'sum', in the pinned program and in every row, IS THE sha256 OF THE DUMP (.gsa) THAT YtgfnbmfjbjopkaaDoorProg.lean LOADS. Nothing in Lean hashes anything: it is a label: what it is worth is what the hold of that sum in a sandbox is worth. -/
noncomputable def Tryd.pinned : Pinned := { name := "ytgfnbmfjbjopkaadoor", sum := "707fd9685c0c06eaf014f902680a820c5671b5c6144170f573c62026c04cea1e", checked := Tryd.checked }
namespace Rows
def none {H : Type} : Left H := { results := [], args := [] }

/- WHAT THE LISTED PACKAGE-LEVEL VARIABLES READ AS WHEN THE CALL BEGINS. Each datum BY PROGRAM (the guide's laid-datum.mjs) off the statement by which the dump's own 'gosem.cut.vars' lays the variable. In a bare row this is a premise. The card (YtgfnbmfjbjopkaaDoorCards.lean) ties it to the program's text. -/
def laid_math_bits_deBruijn32tab {H : Type} : DataW H := .agg [.lit (.int .u8 0), .lit (.int .u8 1), .lit (.int .u8 28), .lit (.int .u8 2), .lit (.int .u8 29), .lit (.int .u8 14), .lit (.int .u8 24), .lit (.int .u8 3), .lit (.int .u8 30), .lit (.int .u8 22), .lit (.int .u8 20), .lit (.int .u8 15), .lit (.int .u8 25), .lit (.int .u8 17), .lit (.int .u8 4), .lit (.int .u8 8), .lit (.int .u8 31), .lit (.int .u8 27), .lit (.int .u8 13), .lit (.int .u8 23), .lit (.int .u8 21), .lit (.int .u8 19), .lit (.int .u8 16), .lit (.int .u8 7), .lit (.int .u8 26), .lit (.int .u8 12), .lit (.int .u8 18), .lit (.int .u8 6), .lit (.int .u8 11), .lit (.int .u8 5), .lit (.int .u8 10), .lit (.int .u8 9)]
def laid_math_bits_deBruijn64tab {H : Type} : DataW H := .agg [.lit (.int .u8 0), .lit (.int .u8 1), .lit (.int .u8 56), .lit (.int .u8 2), .lit (.int .u8 57), .lit (.int .u8 49), .lit (.int .u8 28), .lit (.int .u8 3), .lit (.int .u8 61), .lit (.int .u8 58), .lit (.int .u8 42), .lit (.int .u8 50), .lit (.int .u8 38), .lit (.int .u8 29), .lit (.int .u8 17), .lit (.int .u8 4), .lit (.int .u8 62), .lit (.int .u8 47), .lit (.int .u8 59), .lit (.int .u8 36), .lit (.int .u8 45), .lit (.int .u8 43), .lit (.int .u8 51), .lit (.int .u8 22), .lit (.int .u8 53), .lit (.int .u8 39), .lit (.int .u8 33), .lit (.int .u8 30), .lit (.int .u8 24), .lit (.int .u8 18), .lit (.int .u8 12), .lit (.int .u8 5), .lit (.int .u8 63), .lit (.int .u8 55), .lit (.int .u8 48), .lit (.int .u8 27), .lit (.int .u8 60), .lit (.int .u8 41), .lit (.int .u8 37), .lit (.int .u8 16), .lit (.int .u8 46), .lit (.int .u8 35), .lit (.int .u8 44), .lit (.int .u8 21), .lit (.int .u8 52), .lit (.int .u8 32), .lit (.int .u8 23), .lit (.int .u8 11), .lit (.int .u8 54), .lit (.int .u8 26), .lit (.int .u8 40), .lit (.int .u8 15), .lit (.int .u8 34), .lit (.int .u8 20), .lit (.int .u8 31), .lit (.int .u8 10), .lit (.int .u8 25), .lit (.int .u8 14), .lit (.int .u8 19), .lit (.int .u8 9), .lit (.int .u8 13), .lit (.int .u8 8), .lit (.int .u8 7), .lit (.int .u8 6)]

/-- 'novaculitelaw11.MuleBest': WHATEVER THE INPUT: true; the input reads as it did. -/
def muleBestSpec : ChangeSpec := { name := "muleBest", fn := fun _ => fun
  | [d] => { results := [.lit (.bool true)], args := [d] }
  | _ => none }
def muleBestRow : OpenClaim := { program := "ytgfnbmfjbjopkaadoor", sum := "707fd9685c0c06eaf014f902680a820c5671b5c6144170f573c62026c04cea1e", func := "novaculite/novaculitelaw11.MuleBest", spec := "muleBest", unfollowed := true, recurses := true, named := ["math/bits.deBruijn32tab", "math/bits.deBruijn64tab"], apart := false, laid := [("math/bits.deBruijn32tab", laid_math_bits_deBruijn32tab), ("math/bits.deBruijn64tab", laid_math_bits_deBruijn64tab)] }
def MuleBestSaid : Prop := muleBestRow.holds Tryd.pinned (OpenSpec.ofChange muleBestSpec)

/-- ITS FALSE NEIGHBOUR: 'it returns false'. Refute it at one input. -/
def muleBestWrong : ChangeSpec := { name := "muleBest", fn := fun _ => fun
  | [d] => { results := [.lit (.bool false)], args := [d] }
  | _ => none }
def MuleBestWrongFalsely : Prop := muleBestRow.holds Tryd.pinned (OpenSpec.ofChange muleBestWrong)

/-- 'novaculitelaw11.MuleBounds': WHATEVER THE INPUT: true; the input reads as it did. -/
def muleBoundsSpec : ChangeSpec := { name := "muleBounds", fn := fun _ => fun
  | [d1, d2, d3] => { results := [.lit (.bool true)], args := [d1, d2, d3] }
  | _ => none }
def muleBoundsRow : OpenClaim := { program := "ytgfnbmfjbjopkaadoor", sum := "707fd9685c0c06eaf014f902680a820c5671b5c6144170f573c62026c04cea1e", func := "novaculite/novaculitelaw11.MuleBounds", spec := "muleBounds", unfollowed := true, recurses := true, named := ["math/bits.deBruijn32tab", "math/bits.deBruijn64tab"], apart := false, laid := [("math/bits.deBruijn32tab", laid_math_bits_deBruijn32tab), ("math/bits.deBruijn64tab", laid_math_bits_deBruijn64tab)] }
def MuleBoundsSaid : Prop := muleBoundsRow.holds Tryd.pinned (OpenSpec.ofChange muleBoundsSpec)

/-- ITS FALSE NEIGHBOUR: 'it returns false'. Refute it at one input. -/
def muleBoundsWrong : ChangeSpec := { name := "muleBounds", fn := fun _ => fun
  | [d1, d2, d3] => { results := [.lit (.bool false)], args := [d1, d2, d3] }
  | _ => none }
def MuleBoundsWrongFalsely : Prop := muleBoundsRow.holds Tryd.pinned (OpenSpec.ofChange muleBoundsWrong)

/-- 'novaculitelaw11.MuleSnow': WHATEVER THE INPUT: true; the input reads as it did. -/
def muleSnowSpec : ChangeSpec := { name := "muleSnow", fn := fun _ => fun
  | [d1, d2, d3, d4] => { results := [.lit (.bool true)], args := [d1, d2, d3, d4] }
  | _ => none }
def muleSnowRow : OpenClaim := { program := "ytgfnbmfjbjopkaadoor", sum := "707fd9685c0c06eaf014f902680a820c5671b5c6144170f573c62026c04cea1e", func := "novaculite/novaculitelaw11.MuleSnow", spec := "muleSnow", unfollowed := true, recurses := true, named := ["math/bits.deBruijn32tab", "math/bits.deBruijn64tab"], apart := false, laid := [("math/bits.deBruijn32tab", laid_math_bits_deBruijn32tab), ("math/bits.deBruijn64tab", laid_math_bits_deBruijn64tab)] }
def MuleSnowSaid : Prop := muleSnowRow.holds Tryd.pinned (OpenSpec.ofChange muleSnowSpec)

/-- ITS FALSE NEIGHBOUR: 'it returns false'. Refute it at one input. -/
def muleSnowWrong : ChangeSpec := { name := "muleSnow", fn := fun _ => fun
  | [d1, d2, d3, d4] => { results := [.lit (.bool false)], args := [d1, d2, d3, d4] }
  | _ => none }
def MuleSnowWrongFalsely : Prop := muleSnowRow.holds Tryd.pinned (OpenSpec.ofChange muleSnowWrong)

/-- 'novaculitelaw11.MuleRule': WHATEVER THE INPUT: true; the input reads as it did. -/
def muleRuleSpec : ChangeSpec := { name := "muleRule", fn := fun _ => fun
  | [d] => { results := [.lit (.bool true)], args := [d] }
  | _ => none }
def muleRuleRow : OpenClaim := { program := "ytgfnbmfjbjopkaadoor", sum := "707fd9685c0c06eaf014f902680a820c5671b5c6144170f573c62026c04cea1e", func := "novaculite/novaculitelaw11.MuleRule", spec := "muleRule", unfollowed := true, recurses := true, named := ["math/bits.deBruijn32tab", "math/bits.deBruijn64tab"], apart := false, laid := [("math/bits.deBruijn32tab", laid_math_bits_deBruijn32tab), ("math/bits.deBruijn64tab", laid_math_bits_deBruijn64tab)] }
def MuleRuleSaid : Prop := muleRuleRow.holds Tryd.pinned (OpenSpec.ofChange muleRuleSpec)

/-- ITS FALSE NEIGHBOUR: 'it returns false'. Refute it at one input. -/
def muleRuleWrong : ChangeSpec := { name := "muleRule", fn := fun _ => fun
  | [d] => { results := [.lit (.bool false)], args := [d] }
  | _ => none }
def MuleRuleWrongFalsely : Prop := muleRuleRow.holds Tryd.pinned (OpenSpec.ofChange muleRuleWrong)

/-- 'novaculitelaw11.MuleTruths': WHATEVER THE INPUT: true; the input reads as it did. -/
def muleTruthsSpec : ChangeSpec := { name := "muleTruths", fn := fun _ => fun
  | [d1, d2, d3] => { results := [.lit (.bool true)], args := [d1, d2, d3] }
  | _ => none }
def muleTruthsRow : OpenClaim := { program := "ytgfnbmfjbjopkaadoor", sum := "707fd9685c0c06eaf014f902680a820c5671b5c6144170f573c62026c04cea1e", func := "novaculite/novaculitelaw11.MuleTruths", spec := "muleTruths", unfollowed := true, recurses := true, named := ["math/bits.deBruijn32tab", "math/bits.deBruijn64tab"], apart := false, laid := [("math/bits.deBruijn32tab", laid_math_bits_deBruijn32tab), ("math/bits.deBruijn64tab", laid_math_bits_deBruijn64tab)] }
def MuleTruthsSaid : Prop := muleTruthsRow.holds Tryd.pinned (OpenSpec.ofChange muleTruthsSpec)

/-- ITS FALSE NEIGHBOUR: 'it returns false'. Refute it at one input. -/
def muleTruthsWrong : ChangeSpec := { name := "muleTruths", fn := fun _ => fun
  | [d1, d2, d3] => { results := [.lit (.bool false)], args := [d1, d2, d3] }
  | _ => none }
def MuleTruthsWrongFalsely : Prop := muleTruthsRow.holds Tryd.pinned (OpenSpec.ofChange muleTruthsWrong)

/-- 'novaculitelaw11.MuleLate': WHATEVER THE INPUT: true; the input reads as it did. -/
def muleLateSpec : ChangeSpec := { name := "muleLate", fn := fun _ => fun
  | [d1, d2, d3, d4] => { results := [.lit (.bool true)], args := [d1, d2, d3, d4] }
  | _ => none }
def muleLateRow : OpenClaim := { program := "ytgfnbmfjbjopkaadoor", sum := "707fd9685c0c06eaf014f902680a820c5671b5c6144170f573c62026c04cea1e", func := "novaculite/novaculitelaw11.MuleLate", spec := "muleLate", unfollowed := true, recurses := true, named := ["math/bits.deBruijn32tab", "math/bits.deBruijn64tab"], apart := false, laid := [("math/bits.deBruijn32tab", laid_math_bits_deBruijn32tab), ("math/bits.deBruijn64tab", laid_math_bits_deBruijn64tab)] }
def MuleLateSaid : Prop := muleLateRow.holds Tryd.pinned (OpenSpec.ofChange muleLateSpec)

/-- ITS FALSE NEIGHBOUR: 'it returns false'. Refute it at one input. -/
def muleLateWrong : ChangeSpec := { name := "muleLate", fn := fun _ => fun
  | [d1, d2, d3, d4] => { results := [.lit (.bool false)], args := [d1, d2, d3, d4] }
  | _ => none }
def MuleLateWrongFalsely : Prop := muleLateRow.holds Tryd.pinned (OpenSpec.ofChange muleLateWrong)

/-- 'novaculitelaw11.MuleLatest': WHATEVER THE INPUT: true; the input reads as it did. -/
def muleLatestSpec : ChangeSpec := { name := "muleLatest", fn := fun _ => fun
  | [d1, d2, d3, d4] => { results := [.lit (.bool true)], args := [d1, d2, d3, d4] }
  | _ => none }
def muleLatestRow : OpenClaim := { program := "ytgfnbmfjbjopkaadoor", sum := "707fd9685c0c06eaf014f902680a820c5671b5c6144170f573c62026c04cea1e", func := "novaculite/novaculitelaw11.MuleLatest", spec := "muleLatest", unfollowed := true, recurses := true, named := ["math/bits.deBruijn32tab", "math/bits.deBruijn64tab"], apart := false, laid := [("math/bits.deBruijn32tab", laid_math_bits_deBruijn32tab), ("math/bits.deBruijn64tab", laid_math_bits_deBruijn64tab)] }
def MuleLatestSaid : Prop := muleLatestRow.holds Tryd.pinned (OpenSpec.ofChange muleLatestSpec)

/-- ITS FALSE NEIGHBOUR: 'it returns false'. Refute it at one input. -/
def muleLatestWrong : ChangeSpec := { name := "muleLatest", fn := fun _ => fun
  | [d1, d2, d3, d4] => { results := [.lit (.bool false)], args := [d1, d2, d3, d4] }
  | _ => none }
def MuleLatestWrongFalsely : Prop := muleLatestRow.holds Tryd.pinned (OpenSpec.ofChange muleLatestWrong)

/-- 'novaculitelaw11.MuleNames': WHATEVER THE INPUT: true; the input reads as it did. -/
def muleNamesSpec : ChangeSpec := { name := "muleNames", fn := fun _ => fun
  | [d1, d2, d3] => { results := [.lit (.bool true)], args := [d1, d2, d3] }
  | _ => none }
def muleNamesRow : OpenClaim := { program := "ytgfnbmfjbjopkaadoor", sum := "707fd9685c0c06eaf014f902680a820c5671b5c6144170f573c62026c04cea1e", func := "novaculite/novaculitelaw11.MuleNames", spec := "muleNames", unfollowed := true, recurses := true, named := ["math/bits.deBruijn32tab", "math/bits.deBruijn64tab"], apart := false, laid := [("math/bits.deBruijn32tab", laid_math_bits_deBruijn32tab), ("math/bits.deBruijn64tab", laid_math_bits_deBruijn64tab)] }
def MuleNamesSaid : Prop := muleNamesRow.holds Tryd.pinned (OpenSpec.ofChange muleNamesSpec)

/-- ITS FALSE NEIGHBOUR: 'it returns false'. Refute it at one input. -/
def muleNamesWrong : ChangeSpec := { name := "muleNames", fn := fun _ => fun
  | [d1, d2, d3] => { results := [.lit (.bool false)], args := [d1, d2, d3] }
  | _ => none }
def MuleNamesWrongFalsely : Prop := muleNamesRow.holds Tryd.pinned (OpenSpec.ofChange muleNamesWrong)

/-- 'novaculitelaw11.MuleOrders': WHATEVER THE INPUT: true; the input reads as it did. -/
def muleOrdersSpec : ChangeSpec := { name := "muleOrders", fn := fun _ => fun
  | [d1, d2, d3] => { results := [.lit (.bool true)], args := [d1, d2, d3] }
  | _ => none }
def muleOrdersRow : OpenClaim := { program := "ytgfnbmfjbjopkaadoor", sum := "707fd9685c0c06eaf014f902680a820c5671b5c6144170f573c62026c04cea1e", func := "novaculite/novaculitelaw11.MuleOrders", spec := "muleOrders", unfollowed := true, recurses := true, named := ["math/bits.deBruijn32tab", "math/bits.deBruijn64tab"], apart := false, laid := [("math/bits.deBruijn32tab", laid_math_bits_deBruijn32tab), ("math/bits.deBruijn64tab", laid_math_bits_deBruijn64tab)] }
def MuleOrdersSaid : Prop := muleOrdersRow.holds Tryd.pinned (OpenSpec.ofChange muleOrdersSpec)

/-- ITS FALSE NEIGHBOUR: 'it returns false'. Refute it at one input. -/
def muleOrdersWrong : ChangeSpec := { name := "muleOrders", fn := fun _ => fun
  | [d1, d2, d3] => { results := [.lit (.bool false)], args := [d1, d2, d3] }
  | _ => none }
def MuleOrdersWrongFalsely : Prop := muleOrdersRow.holds Tryd.pinned (OpenSpec.ofChange muleOrdersWrong)

/-- 'novaculitelaw11.MuleLawler': WHATEVER THE INPUT: true; the input reads as it did. -/
def muleLawlerSpec : ChangeSpec := { name := "muleLawler", fn := fun _ => fun
  | [d] => { results := [.lit (.bool true)], args := [d] }
  | _ => none }
def muleLawlerRow : OpenClaim := { program := "ytgfnbmfjbjopkaadoor", sum := "707fd9685c0c06eaf014f902680a820c5671b5c6144170f573c62026c04cea1e", func := "novaculite/novaculitelaw11.MuleLawler", spec := "muleLawler", unfollowed := true, recurses := true, named := ["math/bits.deBruijn32tab", "math/bits.deBruijn64tab"], apart := false, laid := [("math/bits.deBruijn32tab", laid_math_bits_deBruijn32tab), ("math/bits.deBruijn64tab", laid_math_bits_deBruijn64tab)] }
def MuleLawlerSaid : Prop := muleLawlerRow.holds Tryd.pinned (OpenSpec.ofChange muleLawlerSpec)

/-- ITS FALSE NEIGHBOUR: 'it returns false'. Refute it at one input. -/
def muleLawlerWrong : ChangeSpec := { name := "muleLawler", fn := fun _ => fun
  | [d] => { results := [.lit (.bool false)], args := [d] }
  | _ => none }
def MuleLawlerWrongFalsely : Prop := muleLawlerRow.holds Tryd.pinned (OpenSpec.ofChange muleLawlerWrong)

/-- 'novaculitelaw11.MuleShown': WHATEVER THE INPUT: true; the input reads as it did. -/
def muleShownSpec : ChangeSpec := { name := "muleShown", fn := fun _ => fun
  | [d1, d2, d3, d4, d5] => { results := [.lit (.bool true)], args := [d1, d2, d3, d4, d5] }
  | _ => none }
def muleShownRow : OpenClaim := { program := "ytgfnbmfjbjopkaadoor", sum := "707fd9685c0c06eaf014f902680a820c5671b5c6144170f573c62026c04cea1e", func := "novaculite/novaculitelaw11.MuleShown", spec := "muleShown", unfollowed := true, recurses := true, named := ["math/bits.deBruijn32tab", "math/bits.deBruijn64tab"], apart := false, laid := [("math/bits.deBruijn32tab", laid_math_bits_deBruijn32tab), ("math/bits.deBruijn64tab", laid_math_bits_deBruijn64tab)] }
def MuleShownSaid : Prop := muleShownRow.holds Tryd.pinned (OpenSpec.ofChange muleShownSpec)

/-- ITS FALSE NEIGHBOUR: 'it returns false'. Refute it at one input. -/
def muleShownWrong : ChangeSpec := { name := "muleShown", fn := fun _ => fun
  | [d1, d2, d3, d4, d5] => { results := [.lit (.bool false)], args := [d1, d2, d3, d4, d5] }
  | _ => none }
def MuleShownWrongFalsely : Prop := muleShownRow.holds Tryd.pinned (OpenSpec.ofChange muleShownWrong)

/-- 'novaculitelaw11.MuleMore': WHATEVER THE INPUT: true; the input reads as it did. -/
def muleMoreSpec : ChangeSpec := { name := "muleMore", fn := fun _ => fun
  | [d1, d2, d3, d4] => { results := [.lit (.bool true)], args := [d1, d2, d3, d4] }
  | _ => none }
def muleMoreRow : OpenClaim := { program := "ytgfnbmfjbjopkaadoor", sum := "707fd9685c0c06eaf014f902680a820c5671b5c6144170f573c62026c04cea1e", func := "novaculite/novaculitelaw11.MuleMore", spec := "muleMore", unfollowed := true, recurses := true, named := ["math/bits.deBruijn32tab", "math/bits.deBruijn64tab"], apart := false, laid := [("math/bits.deBruijn32tab", laid_math_bits_deBruijn32tab), ("math/bits.deBruijn64tab", laid_math_bits_deBruijn64tab)] }
def MuleMoreSaid : Prop := muleMoreRow.holds Tryd.pinned (OpenSpec.ofChange muleMoreSpec)

/-- ITS FALSE NEIGHBOUR: 'it returns false'. Refute it at one input. -/
def muleMoreWrong : ChangeSpec := { name := "muleMore", fn := fun _ => fun
  | [d1, d2, d3, d4] => { results := [.lit (.bool false)], args := [d1, d2, d3, d4] }
  | _ => none }
def MuleMoreWrongFalsely : Prop := muleMoreRow.holds Tryd.pinned (OpenSpec.ofChange muleMoreWrong)

/-- 'novaculitelaw11.MuleDue': WHATEVER THE INPUT: true; the input reads as it did. -/
def muleDueSpec : ChangeSpec := { name := "muleDue", fn := fun _ => fun
  | [d] => { results := [.lit (.bool true)], args := [d] }
  | _ => none }
def muleDueRow : OpenClaim := { program := "ytgfnbmfjbjopkaadoor", sum := "707fd9685c0c06eaf014f902680a820c5671b5c6144170f573c62026c04cea1e", func := "novaculite/novaculitelaw11.MuleDue", spec := "muleDue", unfollowed := true, recurses := true, named := ["math/bits.deBruijn32tab", "math/bits.deBruijn64tab"], apart := false, laid := [("math/bits.deBruijn32tab", laid_math_bits_deBruijn32tab), ("math/bits.deBruijn64tab", laid_math_bits_deBruijn64tab)] }
def MuleDueSaid : Prop := muleDueRow.holds Tryd.pinned (OpenSpec.ofChange muleDueSpec)

/-- ITS FALSE NEIGHBOUR: 'it returns false'. Refute it at one input. -/
def muleDueWrong : ChangeSpec := { name := "muleDue", fn := fun _ => fun
  | [d] => { results := [.lit (.bool false)], args := [d] }
  | _ => none }
def MuleDueWrongFalsely : Prop := muleDueRow.holds Tryd.pinned (OpenSpec.ofChange muleDueWrong)

/- THE SECOND FORM. 'bulk': how many values and letters a reading holds, each counted each time it is reached (what is shared counts as often as it is met; a slice's spare places count too). A statement '..UptoSaid' is the law's where the arguments, and the package variables that the reading takes, are together of bulk at most 1048576: NARROWER than '..Said'. Prove '..Said' where nothing that the law and all that it calls make is longer than what came in: it says more and counts as full. Else prove '..UptoSaid'. A law counts once. -/
mutual
def uptoBulk {H : Type} : DataW H → Nat
  | .lit (.string bytes) => bytes.length + 1
  | .lit _ => 1
  | .nil => 1
  | .ptr d => uptoBulk d + 1
  | .slice elems spare => uptoBulkAll elems + uptoBulkAll spare + 1
  | .agg parts => uptoBulkAll parts + 1
  | .iface _ d => uptoBulk d + 1
  | .map entries => uptoBulkEntries entries + 1
  | .held _ => 1
def uptoBulkAll {H : Type} : List (DataW H) → Nat
  | [] => 0
  | d :: r => uptoBulk d + uptoBulkAll r
def uptoBulkEntries {H : Type} : List (Lit × DataW H) → Nat
  | [] => 0
  | x :: r => uptoBulkEntry x + uptoBulkEntries r
def uptoBulkEntry {H : Type} : Lit × DataW H → Nat
  | (.string bytes, d) => bytes.length + uptoBulk d + 1
  | (_, d) => uptoBulk d + 1
 end
def uptoSmall : (H : Type) → List (DataW H) → Bool := fun _ ds => decide (uptoBulkAll ds ≤ 1048576)
def OpenSpec.upto (s : _root_.Go.ChangeSpec) : _root_.Go.OpenSpec := { _root_.Go.OpenSpec.ofChange s with cond := some uptoSmall }

/-- 'novaculitelaw11.MuleBest', WHERE WHAT IT READS IS OF BULK AT MOST 1048576: true; the input reads as it did. -/
def muleBestUptoRow : OpenClaim := { program := "ytgfnbmfjbjopkaadoor", sum := "707fd9685c0c06eaf014f902680a820c5671b5c6144170f573c62026c04cea1e", func := "novaculite/novaculitelaw11.MuleBest", spec := "muleBest", unfollowed := true, recurses := true, named := ["math/bits.deBruijn32tab", "math/bits.deBruijn64tab"], apart := false, laid := [("math/bits.deBruijn32tab", laid_math_bits_deBruijn32tab), ("math/bits.deBruijn64tab", laid_math_bits_deBruijn64tab)], narrowed := true }
def MuleBestUptoSaid : Prop := muleBestUptoRow.holds Tryd.pinned (OpenSpec.upto muleBestSpec)

/-- 'novaculitelaw11.MuleBounds', WHERE WHAT IT READS IS OF BULK AT MOST 1048576: true; the input reads as it did. -/
def muleBoundsUptoRow : OpenClaim := { program := "ytgfnbmfjbjopkaadoor", sum := "707fd9685c0c06eaf014f902680a820c5671b5c6144170f573c62026c04cea1e", func := "novaculite/novaculitelaw11.MuleBounds", spec := "muleBounds", unfollowed := true, recurses := true, named := ["math/bits.deBruijn32tab", "math/bits.deBruijn64tab"], apart := false, laid := [("math/bits.deBruijn32tab", laid_math_bits_deBruijn32tab), ("math/bits.deBruijn64tab", laid_math_bits_deBruijn64tab)], narrowed := true }
def MuleBoundsUptoSaid : Prop := muleBoundsUptoRow.holds Tryd.pinned (OpenSpec.upto muleBoundsSpec)

/-- 'novaculitelaw11.MuleSnow', WHERE WHAT IT READS IS OF BULK AT MOST 1048576: true; the input reads as it did. -/
def muleSnowUptoRow : OpenClaim := { program := "ytgfnbmfjbjopkaadoor", sum := "707fd9685c0c06eaf014f902680a820c5671b5c6144170f573c62026c04cea1e", func := "novaculite/novaculitelaw11.MuleSnow", spec := "muleSnow", unfollowed := true, recurses := true, named := ["math/bits.deBruijn32tab", "math/bits.deBruijn64tab"], apart := false, laid := [("math/bits.deBruijn32tab", laid_math_bits_deBruijn32tab), ("math/bits.deBruijn64tab", laid_math_bits_deBruijn64tab)], narrowed := true }
def MuleSnowUptoSaid : Prop := muleSnowUptoRow.holds Tryd.pinned (OpenSpec.upto muleSnowSpec)

/-- 'novaculitelaw11.MuleRule', WHERE WHAT IT READS IS OF BULK AT MOST 1048576: true; the input reads as it did. -/
def muleRuleUptoRow : OpenClaim := { program := "ytgfnbmfjbjopkaadoor", sum := "707fd9685c0c06eaf014f902680a820c5671b5c6144170f573c62026c04cea1e", func := "novaculite/novaculitelaw11.MuleRule", spec := "muleRule", unfollowed := true, recurses := true, named := ["math/bits.deBruijn32tab", "math/bits.deBruijn64tab"], apart := false, laid := [("math/bits.deBruijn32tab", laid_math_bits_deBruijn32tab), ("math/bits.deBruijn64tab", laid_math_bits_deBruijn64tab)], narrowed := true }
def MuleRuleUptoSaid : Prop := muleRuleUptoRow.holds Tryd.pinned (OpenSpec.upto muleRuleSpec)

/-- 'novaculitelaw11.MuleTruths', WHERE WHAT IT READS IS OF BULK AT MOST 1048576: true; the input reads as it did. -/
def muleTruthsUptoRow : OpenClaim := { program := "ytgfnbmfjbjopkaadoor", sum := "707fd9685c0c06eaf014f902680a820c5671b5c6144170f573c62026c04cea1e", func := "novaculite/novaculitelaw11.MuleTruths", spec := "muleTruths", unfollowed := true, recurses := true, named := ["math/bits.deBruijn32tab", "math/bits.deBruijn64tab"], apart := false, laid := [("math/bits.deBruijn32tab", laid_math_bits_deBruijn32tab), ("math/bits.deBruijn64tab", laid_math_bits_deBruijn64tab)], narrowed := true }
def MuleTruthsUptoSaid : Prop := muleTruthsUptoRow.holds Tryd.pinned (OpenSpec.upto muleTruthsSpec)

/-- 'novaculitelaw11.MuleLate', WHERE WHAT IT READS IS OF BULK AT MOST 1048576: true; the input reads as it did. -/
def muleLateUptoRow : OpenClaim := { program := "ytgfnbmfjbjopkaadoor", sum := "707fd9685c0c06eaf014f902680a820c5671b5c6144170f573c62026c04cea1e", func := "novaculite/novaculitelaw11.MuleLate", spec := "muleLate", unfollowed := true, recurses := true, named := ["math/bits.deBruijn32tab", "math/bits.deBruijn64tab"], apart := false, laid := [("math/bits.deBruijn32tab", laid_math_bits_deBruijn32tab), ("math/bits.deBruijn64tab", laid_math_bits_deBruijn64tab)], narrowed := true }
def MuleLateUptoSaid : Prop := muleLateUptoRow.holds Tryd.pinned (OpenSpec.upto muleLateSpec)

/-- 'novaculitelaw11.MuleLatest', WHERE WHAT IT READS IS OF BULK AT MOST 1048576: true; the input reads as it did. -/
def muleLatestUptoRow : OpenClaim := { program := "ytgfnbmfjbjopkaadoor", sum := "707fd9685c0c06eaf014f902680a820c5671b5c6144170f573c62026c04cea1e", func := "novaculite/novaculitelaw11.MuleLatest", spec := "muleLatest", unfollowed := true, recurses := true, named := ["math/bits.deBruijn32tab", "math/bits.deBruijn64tab"], apart := false, laid := [("math/bits.deBruijn32tab", laid_math_bits_deBruijn32tab), ("math/bits.deBruijn64tab", laid_math_bits_deBruijn64tab)], narrowed := true }
def MuleLatestUptoSaid : Prop := muleLatestUptoRow.holds Tryd.pinned (OpenSpec.upto muleLatestSpec)

/-- 'novaculitelaw11.MuleNames', WHERE WHAT IT READS IS OF BULK AT MOST 1048576: true; the input reads as it did. -/
def muleNamesUptoRow : OpenClaim := { program := "ytgfnbmfjbjopkaadoor", sum := "707fd9685c0c06eaf014f902680a820c5671b5c6144170f573c62026c04cea1e", func := "novaculite/novaculitelaw11.MuleNames", spec := "muleNames", unfollowed := true, recurses := true, named := ["math/bits.deBruijn32tab", "math/bits.deBruijn64tab"], apart := false, laid := [("math/bits.deBruijn32tab", laid_math_bits_deBruijn32tab), ("math/bits.deBruijn64tab", laid_math_bits_deBruijn64tab)], narrowed := true }
def MuleNamesUptoSaid : Prop := muleNamesUptoRow.holds Tryd.pinned (OpenSpec.upto muleNamesSpec)

/-- 'novaculitelaw11.MuleOrders', WHERE WHAT IT READS IS OF BULK AT MOST 1048576: true; the input reads as it did. -/
def muleOrdersUptoRow : OpenClaim := { program := "ytgfnbmfjbjopkaadoor", sum := "707fd9685c0c06eaf014f902680a820c5671b5c6144170f573c62026c04cea1e", func := "novaculite/novaculitelaw11.MuleOrders", spec := "muleOrders", unfollowed := true, recurses := true, named := ["math/bits.deBruijn32tab", "math/bits.deBruijn64tab"], apart := false, laid := [("math/bits.deBruijn32tab", laid_math_bits_deBruijn32tab), ("math/bits.deBruijn64tab", laid_math_bits_deBruijn64tab)], narrowed := true }
def MuleOrdersUptoSaid : Prop := muleOrdersUptoRow.holds Tryd.pinned (OpenSpec.upto muleOrdersSpec)

/-- 'novaculitelaw11.MuleLawler', WHERE WHAT IT READS IS OF BULK AT MOST 1048576: true; the input reads as it did. -/
def muleLawlerUptoRow : OpenClaim := { program := "ytgfnbmfjbjopkaadoor", sum := "707fd9685c0c06eaf014f902680a820c5671b5c6144170f573c62026c04cea1e", func := "novaculite/novaculitelaw11.MuleLawler", spec := "muleLawler", unfollowed := true, recurses := true, named := ["math/bits.deBruijn32tab", "math/bits.deBruijn64tab"], apart := false, laid := [("math/bits.deBruijn32tab", laid_math_bits_deBruijn32tab), ("math/bits.deBruijn64tab", laid_math_bits_deBruijn64tab)], narrowed := true }
def MuleLawlerUptoSaid : Prop := muleLawlerUptoRow.holds Tryd.pinned (OpenSpec.upto muleLawlerSpec)

/-- 'novaculitelaw11.MuleShown', WHERE WHAT IT READS IS OF BULK AT MOST 1048576: true; the input reads as it did. -/
def muleShownUptoRow : OpenClaim := { program := "ytgfnbmfjbjopkaadoor", sum := "707fd9685c0c06eaf014f902680a820c5671b5c6144170f573c62026c04cea1e", func := "novaculite/novaculitelaw11.MuleShown", spec := "muleShown", unfollowed := true, recurses := true, named := ["math/bits.deBruijn32tab", "math/bits.deBruijn64tab"], apart := false, laid := [("math/bits.deBruijn32tab", laid_math_bits_deBruijn32tab), ("math/bits.deBruijn64tab", laid_math_bits_deBruijn64tab)], narrowed := true }
def MuleShownUptoSaid : Prop := muleShownUptoRow.holds Tryd.pinned (OpenSpec.upto muleShownSpec)

/-- 'novaculitelaw11.MuleMore', WHERE WHAT IT READS IS OF BULK AT MOST 1048576: true; the input reads as it did. -/
def muleMoreUptoRow : OpenClaim := { program := "ytgfnbmfjbjopkaadoor", sum := "707fd9685c0c06eaf014f902680a820c5671b5c6144170f573c62026c04cea1e", func := "novaculite/novaculitelaw11.MuleMore", spec := "muleMore", unfollowed := true, recurses := true, named := ["math/bits.deBruijn32tab", "math/bits.deBruijn64tab"], apart := false, laid := [("math/bits.deBruijn32tab", laid_math_bits_deBruijn32tab), ("math/bits.deBruijn64tab", laid_math_bits_deBruijn64tab)], narrowed := true }
def MuleMoreUptoSaid : Prop := muleMoreUptoRow.holds Tryd.pinned (OpenSpec.upto muleMoreSpec)

/-- 'novaculitelaw11.MuleDue', WHERE WHAT IT READS IS OF BULK AT MOST 1048576: true; the input reads as it did. -/
def muleDueUptoRow : OpenClaim := { program := "ytgfnbmfjbjopkaadoor", sum := "707fd9685c0c06eaf014f902680a820c5671b5c6144170f573c62026c04cea1e", func := "novaculite/novaculitelaw11.MuleDue", spec := "muleDue", unfollowed := true, recurses := true, named := ["math/bits.deBruijn32tab", "math/bits.deBruijn64tab"], apart := false, laid := [("math/bits.deBruijn32tab", laid_math_bits_deBruijn32tab), ("math/bits.deBruijn64tab", laid_math_bits_deBruijn64tab)], narrowed := true }
def MuleDueUptoSaid : Prop := muleDueUptoRow.holds Tryd.pinned (OpenSpec.upto muleDueSpec)

end Rows
end Go.Proofs.YtgfnbmfjbjopkaaDoor
