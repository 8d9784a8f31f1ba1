/- MuleKnown: the row and the card. Own work of this project. -/
import Derived.Test.YtkcindoimbenhaaDoorMBase
import Derived.Test.YtkcindoimbenhaaDoorMWorks
import Derived.Test.YtkcindoimbenhaaDoorMKnownRun
import Derived.Test.YtkcindoimbenhaaDoorCards
import Derived.Test.YtkcindoimbenhaaDoorTie
import Derived.SevenTiedAt
namespace Go.AM.YtkcindoimbenhaaDoor
open Go Go.AM Go.RowKit Go.Proofs Go.Proofs.YtkcindoimbenhaaDoor Go.ChangeShapes Go.WideShapes Go.ChangeAt
set_option maxRecDepth 1000000

theorem muleKnown_walk {W : World} (hl : laidMet Tryd.prog laid W) : Calls Tryd.prog 13 #[] W fun e w' => e = .returned (.bool true) ∧ Below W.heap.size W w' := by
  obtain ⟨H0, h0⟩ := isTrue_ok works_run
  obtain ⟨H1, h1⟩ := isTrue_ok (known_run H0)
  have hC := known1_ok (sound 39) (sound 40) h0
  exact law_run (fz := fun _ => False) (vs := []) (body_ok envOk mixed fg 1000 hC) h1 hl (fun _ h => h.elim) (by simp only [Gh.Rs, VRs])

theorem muleKnown_lifted (os : Os) (started : os.Started) (H : Type) (enc : TypeId × Value → H) :
    ReturnsInHanded {} Tryd.checked os 13 .any (fun w args => (Rows.muleKnownSpec.pre enc Tryd.prog Tryd.f13 Rows.muleKnownRow.domain false w args ∧ laidMet Tryd.prog Rows.muleKnownRow.laid w) ∧ sizedMet enc Tryd.prog Tryd.f13 (OpenSpec.ofChange Rows.muleKnownSpec) false w args)
      (Rows.muleKnownSpec.post enc Tryd.prog Tryd.f13 false true false false) := by
  refine returnsInHanded_of_change_and (C := Tryd.checked) (X := fun w _ => laidMet Tryd.prog Rows.muleKnownRow.laid w) (fun _ _ _ hh h => h.of_heap hh) own started (by kernel_rfl) Tryd.func13
    (ChangeSpec.witness_at (enc := enc) (C := Tryd.checked) (os := os) (X := fun w _ => laidMet Tryd.prog Rows.muleKnownRow.laid w) false (laidWorld os) #[] 8 rfl (by kernel_rfl) (by kernel_rfl) (by kernel_rfl) (by kernel_rfl) (by kernel_rfl) (laid_met os _)) ?_
  intro W base args ds gs before hval0 hW _ _ hL _
  have hW' := hW
  obtain ⟨p, q, hA0, hV, rfl, hfz, hnd⟩ := hW
  have hA : DataW.TrodAll enc Tryd.prog W 0 (fun _ => true) true Tryd.f13.params.toList args.toList ds p := hA0
  rw [Tryd.params13] at hA
  obtain ⟨rfl, rfl, rfl⟩ := trodAll_none hA
  obtain ⟨rfl, rfl⟩ := trodVars_none hV
  refine (muleKnown_walk hL).mono fun e W' ⟨he, bel⟩ => ?_
  subst he
  exact ⟨_, rfl, _, _, _, [], [], [], hW', trodAll_mk1 (shut_bool Tryd.underlying4 _), trodAll_mk0, rfl, bel.frame _, fun h => by cases h⟩

theorem muleKnown_holds : Rows.MuleKnownSaid :=
  OpenClaim.holds_of_wide 13 Tryd.f13 rfl rfl rfl rfl rfl rfl rfl ⟨rfl, rfl, rfl, rfl, rfl⟩ rfl rfl rfl rfl rfl (by kernel_rfl) Tryd.func13 (by kernel_rfl)
    (of_decide_eq_true (by kernel_rfl)) (by unfold Func.isWrapper; first | (rw [if_pos (by decide +kernel)]; kernel_rfl) | (rw [if_neg (by decide +kernel)]; exact ⟨rfl, rfl⟩))
    (fun os started H enc _ => muleKnown_lifted os started H enc)

theorem muleKnown_card : Rows.MuleKnownCardSaid :=
  Claim7.holds_tied_plain_at .later [] [.data, .data] true (true, "29156f9a0e3892512f74f46938ab1856d66a882d9aae0c2bb768196a3b8620c2") false
    muleKnown_holds (fun _ h => by cases h) (by kernel_rfl) (fun _ h => by cases h) muleKnown_row_tie rfl ⟨rfl, rfl⟩ (by kernel_rfl) rfl
    (fun f fn hf hfn => by
      obtain rfl : f = 13 := Option.some.inj ((show Tryd.prog.funcNamed "novaculite/novaculitelaw11.MuleKnown" = some 13 by kernel_rfl).symm.trans hf) |>.symm
      obtain rfl : fn = Tryd.f13 := (Option.some.inj (Tryd.func13.symm.trans hfn)).symm
      exact ⟨by kernel_rfl, fun j t ht => by
        rw [Tryd.params13] at ht
        simp at ht⟩)
    (by kernel_rfl)

end Go.AM.YtkcindoimbenhaaDoor
namespace Go.Proofs.YtkcindoimbenhaaDoor
/-- MuleKnown: true, whatever the input; there is none; the two tables of math/bits are as the program's text lays them. -/
theorem muleKnown_card : Rows.MuleKnownCardSaid := Go.AM.YtkcindoimbenhaaDoor.muleKnown_card
#print axioms muleKnown_card
end Go.Proofs.YtkcindoimbenhaaDoor
