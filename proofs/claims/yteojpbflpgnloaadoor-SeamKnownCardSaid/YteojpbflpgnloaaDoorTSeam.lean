/- SeamKnown: the row and the card. Own work of this project. -/
import Derived.Test.YteojpbflpgnloaaDoorTBase
import Derived.Test.YteojpbflpgnloaaDoorSK
import Derived.Test.YteojpbflpgnloaaDoorCards
import Derived.Test.YteojpbflpgnloaaDoorTie
import Derived.SevenTiedAt
namespace Go.AM.YteojpbflpgnloaaDoor
open Go Go.AM Go.RowKit Go.Proofs Go.Proofs.YteojpbflpgnloaaDoor Go.ChangeShapes Go.WideShapes Go.ChangeAt
set_option maxRecDepth 1000000

theorem seamKnown_walk {W : World} (hl : laidMet Tryd.prog laid W) : Calls Tryd.prog 3 #[] W fun e w' => e = .returned (.bool true) ∧ Below W.heap.size W w' := by
  obtain ⟨H1, h1⟩ := givesA_ok known_run
  exact law_run (fz := fun _ => False) (vs := []) cL_ok h1 hl (fun _ h => h.elim) (by simp only [Gh.Rs, VRs])

theorem seamKnown_lifted (os : Os) (started : os.Started) (H : Type) (enc : TypeId × Value → H) :
    ReturnsInHanded {} Tryd.checked os 3 .any (fun w args => (Rows.seamKnownSpec.pre enc Tryd.prog Tryd.f3 Rows.seamKnownRow.domain false w args ∧ laidMet Tryd.prog Rows.seamKnownRow.laid w) ∧ sizedMet enc Tryd.prog Tryd.f3 (OpenSpec.ofChange Rows.seamKnownSpec) false w args)
      (Rows.seamKnownSpec.post enc Tryd.prog Tryd.f3 false true false false) := by
  refine returnsInHanded_of_change_and (C := Tryd.checked) (X := fun w _ => laidMet Tryd.prog Rows.seamKnownRow.laid w) (fun _ _ _ hh h => h.of_heap hh) own started (by kernel_rfl) Tryd.func3
    (ChangeSpec.witness_at (enc := enc) (C := Tryd.checked) (os := os) (X := fun w _ => laidMet Tryd.prog Rows.seamKnownRow.laid w) false (laidWorld os) #[] 8 rfl (by kernel_rfl) (by kernel_rfl) (by kernel_rfl) (by kernel_rfl) (by kernel_rfl) (laid_met os _)) ?_
  intro W base args ds gs before hval0 hW _ _ hL _
  have hW' := hW
  obtain ⟨p, q, hA0, hV, rfl, hfz, hnd⟩ := hW
  have hA : DataW.TrodAll enc Tryd.prog W 0 (fun _ => true) true Tryd.f3.params.toList args.toList ds p := hA0
  rw [Tryd.params3] at hA
  obtain ⟨rfl, rfl, rfl⟩ := trodAll_none hA
  obtain ⟨rfl, rfl⟩ := trodVars_none hV
  refine (seamKnown_walk hL).mono fun e W' ⟨he, bel⟩ => ?_
  subst he
  exact ⟨_, rfl, _, _, _, [], [], [], hW', trodAll_mk1 (shut_bool Tryd.underlying4 _), trodAll_mk0, rfl, bel.frame _, fun h => by cases h⟩

theorem seamKnown_holds : Rows.SeamKnownSaid :=
  OpenClaim.holds_of_wide 3 Tryd.f3 rfl rfl rfl rfl rfl rfl rfl ⟨rfl, rfl, rfl, rfl, rfl⟩ rfl rfl rfl rfl rfl (by kernel_rfl) Tryd.func3 (by kernel_rfl)
    (of_decide_eq_true (by kernel_rfl)) (by unfold Func.isWrapper; first | (rw [if_pos (by decide +kernel)]; kernel_rfl) | (rw [if_neg (by decide +kernel)]; exact ⟨rfl, rfl⟩))
    (fun os started H enc _ => seamKnown_lifted os started H enc)

theorem seamKnown_card : Rows.SeamKnownCardSaid :=
  Claim7.holds_tied_plain_at .later [] [.data, .data] true (true, "8b0d43197a97e3c4cc342bd0d9d45c5bc63f54af526d10c5315337a95fe41e60") false
    seamKnown_holds (fun _ h => by cases h) (by kernel_rfl) (fun _ h => by cases h) seamKnown_row_tie rfl ⟨rfl, rfl⟩ (by kernel_rfl) rfl
    (fun f fn hf hfn => by
      obtain rfl : f = 3 := Option.some.inj ((show Tryd.prog.funcNamed "novaculite/novaculitelaw01.SeamKnown" = some 3 by kernel_rfl).symm.trans hf) |>.symm
      obtain rfl : fn = Tryd.f3 := (Option.some.inj (Tryd.func3.symm.trans hfn)).symm
      exact ⟨by kernel_rfl, fun j t ht => by
        rw [Tryd.params3] at ht
        simp at ht⟩)
    (by kernel_rfl)

end Go.AM.YteojpbflpgnloaaDoor
namespace Go.Proofs.YteojpbflpgnloaaDoor
/-- SeamKnown: true, whatever the input; there is none; the two tables of math/bits are as the program's text lays them. -/
theorem seamKnown_card : Rows.SeamKnownCardSaid := Go.AM.YteojpbflpgnloaaDoor.seamKnown_card
#print axioms seamKnown_card
end Go.Proofs.YteojpbflpgnloaaDoor
