/- Steps by equations, snapshots by equations, small numbers. Own work of this project. -/
import Derived.Test.YtikchlfbjdfioaaAmBk
import Derived.Test.YtikchlfbjdfioaaAmD
namespace Go.AM
/-! Steps that the kernel is not to find again by itself: it would run the program. -/
theorem seqN (s : St) (k) : seqX (some (.normal, s)) k = k s := nrfl rfl
theorem bindN (s : St) (k) : bindR (some s) k = k s := nrfl rfl
theorem regN (s : St) (k) : regX (some s) k = some (.normal, k s) := nrfl rfl
theorem snap_int (d : Nat) (k : IntKind) (z : Int) : snap (d + 1) (.int k z) = .pure (.int k z, []) := rfl
theorem snap_nilsl (d : Nat) : snap (d + 1) .nilsl = .pure (.nilsl, []) := rfl
theorem snap_imm (d : Nat) (c : List AV) (n : Nat) (ex : Bool) : snap (d + 1) (.imm c n ex) = .pure (.imm c n ex, []) := rfl
theorem snap_ref (d id off len cap gl sz : Nat) (ex : Bool) : snap (d + 1) (.ref id off len cap gl sz ex) = (Rd.liveBlk id gl).bind fun b =>
      if off + len * sz ≤ b.cells.length then
        match b.st with
        | .box => (snaps d ((b.cells.drop off).take (len * sz))).bind fun x =>
          .pure (.imm x.1 len (ex && decide (cap = len)), id :: x.2)
        | _ => .pure (.imm ((b.cells.drop off).take (len * sz)) len (ex && decide (cap = len)), [id])
      else .fail := rfl
end Go.AM
namespace Go.AM.Ytikchlfbjdfioaa
open Go Go.AM
theorem cl0 : ((0 : Nat) : Int) = 0 := rfl
theorem cl1 : ((1 : Nat) : Int) = 1 := rfl
theorem cl2 : ((2 : Nat) : Int) = 2 := rfl
theorem cl3 : ((3 : Nat) : Int) = 3 := rfl
theorem cl4 : ((4 : Nat) : Int) = 4 := rfl
theorem cl5 : ((5 : Nat) : Int) = 5 := rfl
end Go.AM.Ytikchlfbjdfioaa
