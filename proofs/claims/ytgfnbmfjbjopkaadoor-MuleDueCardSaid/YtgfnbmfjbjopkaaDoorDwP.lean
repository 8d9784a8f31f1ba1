/- A part of the proof of muleDue_card: DuR. Own work of this project; texts printed by own programs among it. -/
import Derived.Test.YtgfnbmfjbjopkaaDoorCards
import Derived.Test.YtgfnbmfjbjopkaaDoorTie
import Derived.SevenTiedAt
import Derived.Test.YtgfnbmfjbjopkaaDoorDwO
set_option maxRecDepth 1000000
set_option maxHeartbeats 16000000
noncomputable section
noncomputable section
namespace Go.AM.YtgfnbmfjbjopkaaDoor
open Go Go.AM Go.RowKit Go.Proofs Go.Proofs.YtgfnbmfjbjopkaaDoor Go.ChangeShapes Go.WideShapes Go.ChangeAt
theorem Z0eN : Tryd.prog.readableRec 58 = true := by kernel_rfl
theorem Z0eP : 58 < Tryd.prog.types.size := of_decide_eq_true (by kernel_rfl)
theorem ZMR {W : World} (hl : laidMet Tryd.prog laid W) {D0 : Dro} {v0 : Value} (h0 : DOk D0) (r0 : (start (fun k => k < W.heap.size) W).R (.agg (dcs D0)) v0) :
   Calls Tryd.prog 15 #[v0] W fun e w' => e = .returned (.bool true) ∧ Below W.heap.size W w' := by
 obtain ⟨H0, hw⟩ := Z0hI Z0kl
 obtain ⟨H1, hr⟩ := Z0O (ZXG h0 ⟨H0, hw⟩)
 have hC : CS Tryd.prog E (bodyA E (callA E fg 1000 40) fg 1000) := Z02p envOk mixed fg 1000 (sound 40)
 refine Z0uE hC hr hl (fun k h => h) (vs := [v0]) ?_
 simp only [Gh.Rs, VRs]
 exact ⟨v0, _, rfl, r0, rfl⟩
theorem ZvD (os : Os) (started : os.Started) (H : Type) (enc : TypeId × Value → H) :
   ReturnsInHanded {} Tryd.checked os 15 .any (fun w args => (Rows.muleDueSpec.pre enc Tryd.prog Tryd.f15 Rows.muleDueRow.domain false w args ∧ laidMet Tryd.prog Rows.muleDueRow.laid w) ∧ sizedMet enc Tryd.prog Tryd.f15 (OpenSpec.ofChange Rows.muleDueSpec) false w args)
     (Rows.muleDueSpec.post enc Tryd.prog Tryd.f15 false true false false) := by
 refine returnsInHanded_of_change_and (C := Tryd.checked) (X := fun w _ => laidMet Tryd.prog Rows.muleDueRow.laid w) (fun _ _ _ hh h => h.of_heap hh) own started (by kernel_rfl) Tryd.func15
   (ChangeSpec.witness_at (enc := enc) (C := Tryd.checked) (os := os) (X := fun w _ => laidMet Tryd.prog Rows.muleDueRow.laid w) false (ZAb os) #[.agg ((Array.replicate 31 (.int .u8 0)).push (.int .u16 0) ++ Array.replicate 6 (.int .u8 0))] 8 rfl (by kernel_rfl) (by kernel_rfl) (by kernel_rfl) (by kernel_rfl) (by kernel_rfl) (Z0mh os _)) ?_
 intro W base args ds gs before hval0 hW _ _ hL _
 have hW' := hW
 obtain ⟨p, q, hA0, hV, rfl, hfz, hnd⟩ := hW
 have hA : DataW.TrodAll enc Tryd.prog W 0 (fun _ => true) true Tryd.f15.params.toList args.toList ds p := hA0
 rw [Tryd.params15] at hA
 obtain ⟨w0, vs0, d0, ds0, p0, q0, ha, rfl, rfl, t0, hr0⟩ := trodAll_cons hA
 obtain ⟨rfl, rfl, rfl⟩ := trodAll_nil hr0
 obtain rfl : args = #[w0] := by cases args; simp_all
 obtain ⟨rfl, rfl⟩ := trodVars_none hV
 have hval : ∀ (j : Nat) t v, (#[58] : Array TypeId)[j]? = some t → (#[w0] : Array Value)[j]? = some v → Value.okWide Tryd.prog W .any base t v := by
   intro j t v; have := hval0 j t v; rw [Tryd.params15] at this; exact this
 obtain ⟨D0, h0, y0⟩ := Z0dE (hval 0 58 w0 rfl rfl)
 have r0 : (start (fun k => k < W.heap.size) W).R (.agg (dcs D0)) w0 := y0 _ _
 refine (ZMR hL h0 r0).mono fun e W' ⟨he, bel⟩ => ?_
 subst he
 exact ⟨_, rfl, _, _, _, [], _, [], hW', trodAll_mk1 (shut_bool Tryd.underlying4 _),
   trodAll_mk1 (bel.trod' laidOut Z0eN Z0eP t0), rfl, bel.frame _, fun h => by cases h⟩
theorem muleDue_holds : Rows.MuleDueSaid :=
 OpenClaim.holds_of_wide 15 Tryd.f15 rfl rfl rfl rfl rfl rfl rfl ⟨rfl, rfl, rfl, rfl, rfl⟩ rfl rfl rfl rfl rfl (by kernel_rfl) Tryd.func15 (by kernel_rfl)
   (of_decide_eq_true (by kernel_rfl)) (by unfold Func.isWrapper; first | (rw [if_pos (by decide +kernel)]; kernel_rfl) | (rw [if_neg (by decide +kernel)]; exact ⟨rfl, rfl⟩))
   (fun os started H enc _ => ZvD os started H enc)
theorem muleDue_card : Rows.MuleDueCardSaid :=
 Claim7.holds_tied_plain_at .later [] [.data, .data] true (true, "5b9fadd3ce3401de9bf6af4b2af329063e209b211b9ea2d43da427ffdf60aac1") false
   muleDue_holds (fun _ h => by cases h) (by kernel_rfl) (fun _ h => by cases h) muleDue_row_tie rfl ⟨rfl, rfl⟩ (by kernel_rfl) rfl
   (fun f fn hf hfn => by
     obtain rfl : f = 15 := Option.some.inj ((show Tryd.prog.funcNamed "novaculite/novaculitelaw11.MuleDue" = some 15 by kernel_rfl).symm.trans hf) |>.symm
     obtain rfl : fn = Tryd.f15 := (Option.some.inj (Tryd.func15.symm.trans hfn)).symm
     have key : (Tryd.f15.params.toList.all fun t => Tryd.prog.wantsStandIn t == false) = true := by kernel_rfl
     exact ⟨by kernel_rfl, fun j t ht => by
       have := List.all_eq_true.1 key t (List.mem_of_getElem? (by rw [Array.getElem?_toList]; exact ht))
       exact (by simpa using this : Tryd.prog.wantsStandIn t = false)⟩)
   (by kernel_rfl)
end Go.AM.YtgfnbmfjbjopkaaDoor
namespace Go.Proofs.YtgfnbmfjbjopkaaDoor
theorem muleDue_card : Rows.MuleDueCardSaid := Go.AM.YtgfnbmfjbjopkaaDoor.muleDue_card
end Go.Proofs.YtgfnbmfjbjopkaaDoor
end
end
#print axioms Go.Proofs.YtgfnbmfjbjopkaaDoor.muleDue_card
