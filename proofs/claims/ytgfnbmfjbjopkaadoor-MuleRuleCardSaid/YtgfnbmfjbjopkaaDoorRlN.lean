/- A part of the proof of muleRule_card: MrG. Own work of this project; texts printed by own programs among it. -/
import Derived.Test.YtgfnbmfjbjopkaaDoorCards
import Derived.Test.YtgfnbmfjbjopkaaDoorTie
import Derived.SevenTiedAt
import Derived.Test.YtgfnbmfjbjopkaaDoorRlM
section
namespace Go.AM.YtgfnbmfjbjopkaaDoor
open Go Go.AM Go.RowKit Go.Proofs Go.Proofs.YtgfnbmfjbjopkaaDoor Go.ChangeShapes Go.WideShapes Go.ChangeAt
set_option maxRecDepth 1000000
theorem readable_0 : Tryd.prog.readableRec 58 = true := by kernel_rfl
theorem types_lt_0 : 58 < Tryd.prog.types.size := of_decide_eq_true (by kernel_rfl)
theorem muleRule_walk {W : World} (hl : laidMet Tryd.prog laid W) {D0 : Dro} {v0 : Value} (h0 : DOk D0) (r0 : (start (fun k => k < W.heap.size) W).R (.agg (dcs D0)) v0) :
    Calls Tryd.prog 6 #[v0] W fun e w' => e = .returned (.bool true) ∧ Below W.heap.size W w' := by
  obtain ⟨H0, hw⟩ := isTrue_ok works_run
  obtain ⟨H1, hr⟩ := rs_ex (muleRule_law h0 ⟨H0, hw⟩)
  have hC : CS Tryd.prog E (bodyA E (callA E fg 1000 40) fg 1000) := body_ok envOk mixed fg 1000 (sound 40)
  refine law_run hC hr hl (fun k h => h) (vs := [v0]) ?_
  simp only [Gh.Rs, VRs]
  exact ⟨v0, _, rfl, r0, rfl⟩
theorem muleRule_lifted (os : Os) (started : os.Started) (H : Type) (enc : TypeId × Value → H) :
    ReturnsInHanded {} Tryd.checked os 6 .any (fun w args => (Rows.muleRuleSpec.pre enc Tryd.prog Tryd.f6 Rows.muleRuleRow.domain false w args ∧ laidMet Tryd.prog Rows.muleRuleRow.laid w) ∧ sizedMet enc Tryd.prog Tryd.f6 (OpenSpec.ofChange Rows.muleRuleSpec) false w args)
      (Rows.muleRuleSpec.post enc Tryd.prog Tryd.f6 false true false false) := by
  refine returnsInHanded_of_change_and (C := Tryd.checked) (X := fun w _ => laidMet Tryd.prog Rows.muleRuleRow.laid w) (fun _ _ _ hh h => h.of_heap hh) own started (by kernel_rfl) Tryd.func6
    (ChangeSpec.witness_at (enc := enc) (C := Tryd.checked) (os := os) (X := fun w _ => laidMet Tryd.prog Rows.muleRuleRow.laid w) false (laidWorld os) #[.agg ((Array.replicate 31 (.int .u8 0)).push (.int .u16 0) ++ Array.replicate 6 (.int .u8 0))] 8 rfl (by kernel_rfl) (by kernel_rfl) (by kernel_rfl) (by kernel_rfl) (by kernel_rfl) (laid_met os _)) ?_
  intro W base args ds gs before hval0 hW _ _ hL _
  have hW' := hW
  obtain ⟨p, q, hA0, hV, rfl, hfz, hnd⟩ := hW
  have hA : DataW.TrodAll enc Tryd.prog W 0 (fun _ => true) true Tryd.f6.params.toList args.toList ds p := hA0
  rw [Tryd.params6] at hA
  obtain ⟨w0, vs0, d0, ds0, p0, q0, ha, rfl, rfl, t0, hr0⟩ := trodAll_cons hA
  obtain ⟨rfl, rfl, rfl⟩ := trodAll_nil hr0
  obtain rfl : args = #[w0] := by cases args; simp_all
  obtain ⟨rfl, rfl⟩ := trodVars_none hV
  have hval : ∀ (j : Nat) t v, (#[58] : Array TypeId)[j]? = some t → (#[w0] : Array Value)[j]? = some v → Value.okWide Tryd.prog W .any base t v := by
    intro j t v; have := hval0 j t v; rw [Tryd.params6] at this; exact this
  obtain ⟨D0, h0, y0⟩ := hand_drove (hval 0 58 w0 rfl rfl)
  have r0 : (start (fun k => k < W.heap.size) W).R (.agg (dcs D0)) w0 := y0 _ _
  refine (muleRule_walk hL h0 r0).mono fun e W' ⟨he, bel⟩ => ?_
  subst he
  exact ⟨_, rfl, _, _, _, [], _, [], hW', trodAll_mk1 (shut_bool Tryd.underlying4 _),
    trodAll_mk1 (bel.trod' laidOut readable_0 types_lt_0 t0), rfl, bel.frame _, fun h => by cases h⟩
theorem muleRule_holds : Rows.MuleRuleSaid :=
  OpenClaim.holds_of_wide 6 Tryd.f6 rfl rfl rfl rfl rfl rfl rfl ⟨rfl, rfl, rfl, rfl, rfl⟩ rfl rfl rfl rfl rfl (by kernel_rfl) Tryd.func6 (by kernel_rfl)
    (of_decide_eq_true (by kernel_rfl)) (by unfold Func.isWrapper; first | (rw [if_pos (by decide +kernel)]; kernel_rfl) | (rw [if_neg (by decide +kernel)]; exact ⟨rfl, rfl⟩))
    (fun os started H enc _ => muleRule_lifted os started H enc)
theorem muleRule_card : Rows.MuleRuleCardSaid :=
  Claim7.holds_tied_plain_at .later [] [.data, .data] true (true, "5b9fadd3ce3401de9bf6af4b2af329063e209b211b9ea2d43da427ffdf60aac1") false
    muleRule_holds (fun _ h => by cases h) (by kernel_rfl) (fun _ h => by cases h) muleRule_row_tie rfl ⟨rfl, rfl⟩ (by kernel_rfl) rfl
    (fun f fn hf hfn => by
      obtain rfl : f = 6 := Option.some.inj ((show Tryd.prog.funcNamed "novaculite/novaculitelaw11.MuleRule" = some 6 by kernel_rfl).symm.trans hf) |>.symm
      obtain rfl : fn = Tryd.f6 := (Option.some.inj (Tryd.func6.symm.trans hfn)).symm
      have key : (Tryd.f6.params.toList.all fun t => Tryd.prog.wantsStandIn t == false) = true := by kernel_rfl
      exact ⟨by kernel_rfl, fun j t ht => by
        have := List.all_eq_true.1 key t (List.mem_of_getElem? (by rw [Array.getElem?_toList]; exact ht))
        exact (by simpa using this : Tryd.prog.wantsStandIn t = false)⟩)
    (by kernel_rfl)
end Go.AM.YtgfnbmfjbjopkaaDoor
namespace Go.Proofs.YtgfnbmfjbjopkaaDoor
/-- MuleRule: the law answers true, whatever the input, and the input reads as it did; the two tables of math/bits are as the program's text lays them. -/
theorem muleRule_card : Rows.MuleRuleCardSaid := Go.AM.YtgfnbmfjbjopkaaDoor.muleRule_card
end Go.Proofs.YtgfnbmfjbjopkaaDoor
end
#print axioms Go.Proofs.YtgfnbmfjbjopkaaDoor.muleRule_card
