/- The closed law's row. Own work of this project. -/
import Derived.Test.YteojpbflpgnloaaPBase
import Derived.Test.YteojpbflpgnloaaPWorks
import Derived.Test.YteojpbflpgnloaaPRun
namespace Go.AM.Yteojpbflpgnloaa
open Go Go.AM Go.RowKit Go.Proofs Go.Proofs.Yteojpbflpgnloaa Go.ChangeShapes Go.WideShapes Go.ChangeAt
set_option maxRecDepth 1000000

theorem rubKnown_walk (W : World) : Calls Try.prog 4 #[] W fun e w' => e = .returned (.bool true) ∧ Below W.heap.size W w' := by
  obtain ⟨H0, h0⟩ := isTrue_ok works_run
  obtain ⟨H1, h1⟩ := isTrue_ok (known_run H0)
  have hC := known1_ok (sound 39) (sound 40) h0
  exact law_run (fz := fun _ => False) (vs := []) (body_ok envOk mixed fg 1000 hC) h1 (fun _ h => h.elim) (by simp only [Gh.Rs, VRs])

theorem rubKnown_lifted (os : Os) (started : os.Started) (H : Type) (enc : TypeId × Value → H) :
    ReturnsInHanded {} Try.checked os 4 .any (Rows.rubKnownSpec.pre6 enc Try.prog Try.f4 Rows.rubKnownRow.domain false)
      (Rows.rubKnownSpec.post enc Try.prog Try.f4 false true false false) := by
  refine returnsInHanded_of_change own started (by kernel_rfl) Try.func4 (ChangeSpec.witness6 (enc := enc) (C := Try.checked) false ⟨#[], #[], []⟩ 8 (by kernel_rfl) (by kernel_rfl) (by kernel_rfl) (by kernel_rfl)) ?_
  intro W base args ds gs before hval0 hW _ _
  have hW' := hW
  obtain ⟨p, q, hA0, hV, rfl, hfz, hnd⟩ := hW
  have hA : DataW.TrodAll enc Try.prog W 0 (fun _ => true) true Try.f4.params.toList args.toList ds p := hA0
  rw [Try.params4] at hA
  obtain ⟨rfl, rfl, rfl⟩ := trodAll_none hA
  obtain ⟨rfl, rfl⟩ := trodVars_none hV
  refine (rubKnown_walk W).mono fun e W' ⟨he, bel⟩ => ?_
  subst he
  exact ⟨_, rfl, _, _, _, [], [], [], hW', trodAll_mk1 (shut_bool Try.underlying4 _), trodAll_mk0, rfl, bel.frame _, fun h => by cases h⟩

theorem rubKnown_holds : Rows.RubKnownSaid :=
  OpenClaim.holds_of_wide 4 Try.f4 rfl rfl rfl rfl rfl rfl rfl ⟨rfl, rfl, rfl, rfl, rfl⟩ rfl rfl rfl rfl rfl (by kernel_rfl) Try.func4 (by kernel_rfl)
    (of_decide_eq_true (by kernel_rfl)) (by unfold Func.isWrapper; first | (rw [if_pos (by decide +kernel)]; kernel_rfl) | (rw [if_neg (by decide +kernel)]; exact ⟨rfl, rfl⟩))
    (fun os started H enc _ => rubKnown_lifted os started H enc)

end Go.AM.Yteojpbflpgnloaa
namespace Go.Proofs.Yteojpbflpgnloaa
/-- The closed law: true; there is no input. -/
theorem rubKnown_holds : Rows.RubKnownSaid := Go.AM.Yteojpbflpgnloaa.rubKnown_holds
#print axioms rubKnown_holds
end Go.Proofs.Yteojpbflpgnloaa
