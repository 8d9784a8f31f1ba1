/- A part of the proof of rubBounds_holds: RsG. Own work of this project; texts printed by own programs among it. -/
import Derived.Test.YtfmnoohhhokicaaRows
import Derived.Test.YtfmnoohhhokicaaChecked
import Derived.ProofKit
import Derived.OpenShut
import Derived.Handed
import Derived.Test.YtfmnoohhhokicaaYvF
set_option maxRecDepth 1000000
set_option maxHeartbeats 16000000
noncomputable section
noncomputable section
namespace Go.AM.Ytfmnoohhhokicaa
open Go Go.AM Go.RowKit Go.Proofs Go.Proofs.Ytfmnoohhhokicaa Go.ChangeShapes Go.WideShapes
theorem own : ownKnob Try.prog.godebug = none := by kernel_rfl
def start (fz : Nat → Prop) (W : World) : Gh := ⟨fun _ => (0, 0), fz, [], W⟩
theorem globN (k : Nat) : E.glob k = none := rfl
theorem ZId {fz : Nat → Prop} {W : World} (hfz : ∀ k, fz k → k < W.heap.size) : Inv E (start fz W) := by
 refine ⟨fun _ _ h => by simp [start, ZS] at h, fun _ _ _ _ h => by simp [start, ZS] at h, fun _ _ h => by simp [start, ZS] at h, fun _ _ h => by simp [start, ZS] at h, hfz, ?_⟩
 intro k cells hk
 rw [globN] at hk
 exact absurd hk (by simp)
theorem ZXh {C : Callee} (hC : CS Try.prog E C) {f : FuncId} {args : List AV} {H' : AHeap} (h : C f args [] 0 = some (.bool true, H')) {fz : Nat → Prop} {W : World} (hfz : ∀ k, fz k → k < W.heap.size) {vs : List Value}
   (hs : (start fz W).Rs args vs) : Calls Try.prog f vs.toArray W fun e w' => e = .returned (.bool true) ∧ Below W.heap.size W w' := by
 refine (hC f args [] 0 _ _ h (start fz W) vs rfl (ZId hfz) hs).mono ?_
 intro e w' he
 cases e with
 | returned v =>
   obtain ⟨g', rfl, _, _, hA, hv⟩ := he
   simp only [Gh.R, VR] at hv
   subst hv
   exact ⟨rfl, hA.os, hA.tape, hA.out, hA.size, fun k hk => hA.old k hk Z3E⟩
 | panicked => exact he.elim
 | outgrown => exact he.elim
end Go.AM.Ytfmnoohhhokicaa
end
end
