/- PropSeries: the row. Own work of this project. -/
import Derived.Test.YtikchlfbjdfioaaHandU
import Derived.Test.YtikchlfbjdfioaaSerF
import Derived.Test.YtikchlfbjdfioaaPWorks
namespace Go.AM.Ytikchlfbjdfioaa
open Go Go.AM Go.RowKit Go.Proofs Go.Proofs.Ytikchlfbjdfioaa Go.ChangeShapes Go.WideShapes Go.ChangeAt
set_option maxRecDepth 1000000

theorem laidOut : laidOutB Try.prog = true := by kernel_rfl
theorem readable5 : Try.prog.readableRec 5 = true := by kernel_rfl
theorem types_lt : 5 < Try.prog.types.size := of_decide_eq_true (by kernel_rfl)

theorem propSeries_walk {W : World} {m hf wt : Int} (hb : 0 ≤ m ∧ m ≤ 255) (hbh : 0 ≤ hf ∧ hf ≤ 255) (hbw : 0 ≤ wt ∧ wt ≤ 255) :
    Calls Try.prog 6 #[.int .u8 m, .int .u8 hf, .int .u8 wt] W fun e w' => e = .returned (.bool true) ∧ Below W.heap.size W w' := by
  obtain ⟨H0, hw⟩ := isTrue_ok works_run
  obtain ⟨H1, hr⟩ := rs_ex (series_true hb hbh hbw ⟨H0, hw⟩)
  have hC : CS Try.prog E (bodyA E (callA E fg 1000 40) fg 1000) := body_ok envOk mixed fg 1000 (sound 40)
  refine law_run hC hr (fun k h => h) (vs := [.int .u8 m, .int .u8 hf, .int .u8 wt]) ?_
  simp only [Gh.Rs, VRs]
  exact ⟨_, _, rfl, by simp only [VR], _, _, rfl, by simp only [VR], _, _, rfl, by simp only [VR], rfl⟩

theorem propSeries_lifted (os : Os) (started : os.Started) (H : Type) (enc : TypeId × Value → H) :
    ReturnsInHanded {} Try.checked os 6 .any (Rows.propSeriesSpec.pre6 enc Try.prog Try.f6 Rows.propSeriesRow.domain false)
      (Rows.propSeriesSpec.post enc Try.prog Try.f6 false true false false) := by
  refine returnsInHanded_of_change own started (by kernel_rfl) Try.func6 (ChangeSpec.witness6 (enc := enc) (C := Try.checked) false ⟨#[], #[.int .u8 0, .int .u8 0, .int .u8 0], []⟩ 8 (by kernel_rfl) (by kernel_rfl) (by kernel_rfl) (by kernel_rfl)) ?_
  intro W base args ds gs before hval0 hW _ _
  have hW' := hW
  obtain ⟨p, q, hA0, hV, rfl, hfz, hnd⟩ := hW
  have hA : DataW.TrodAll enc Try.prog W 0 (fun _ => true) true Try.f6.params.toList args.toList ds p := hA0
  rw [Try.params6] at hA
  obtain ⟨v0, vs, d0, ds0, p0, q0, ha, rfl, rfl, h0, hr0⟩ := trodAll_cons hA
  obtain ⟨v1, vs1, d1, ds1, p1, q1, rfl, rfl, rfl, h1, hr1⟩ := trodAll_cons hr0
  obtain ⟨v2, vs2, d2, ds2, p2, q2, rfl, rfl, rfl, h2, hr2⟩ := trodAll_cons hr1
  obtain ⟨rfl, rfl, rfl⟩ := trodAll_nil hr2
  obtain rfl : args = #[v0, v1, v2] := by cases args; simp_all
  obtain ⟨rfl, rfl⟩ := trodVars_none hV
  have hval : ∀ (j : Nat) t v, (#[5, 5, 5] : Array TypeId)[j]? = some t → (#[v0, v1, v2] : Array Value)[j]? = some v → Value.okWide Try.prog W .any base t v := by
    intro j t v; have := hval0 j t v; rw [Try.params6] at this; exact this
  obtain ⟨a, rfl, b0⟩ := hand_u8 Try.underlying5 (hval 0 5 v0 rfl rfl)
  obtain ⟨b, rfl, b1⟩ := hand_u8 Try.underlying5 (hval 1 5 v1 rfl rfl)
  obtain ⟨c, rfl, b2⟩ := hand_u8 Try.underlying5 (hval 2 5 v2 rfl rfl)
  refine (propSeries_walk b0 b1 b2).mono fun e W' ⟨he, bel⟩ => ?_
  subst he
  exact ⟨_, rfl, _, _, _, [], _, [], hW', trodAll_mk1 (shut_bool Try.underlying4 _),
    trodAll_mk3 (bel.trod' laidOut readable5 types_lt h0) (bel.trod' laidOut readable5 types_lt h1) (bel.trod' laidOut readable5 types_lt h2), rfl, bel.frame _, fun h => by cases h⟩

theorem propSeries_holds : Rows.PropSeriesSaid :=
  OpenClaim.holds_of_wide 6 Try.f6 rfl rfl rfl rfl rfl rfl rfl ⟨rfl, rfl, rfl, rfl, rfl⟩ rfl rfl rfl rfl rfl (by kernel_rfl) Try.func6 (by kernel_rfl)
    (of_decide_eq_true (by kernel_rfl)) (by unfold Func.isWrapper; first | (rw [if_pos (by decide +kernel)]; kernel_rfl) | (rw [if_neg (by decide +kernel)]; exact ⟨rfl, rfl⟩))
    (fun os started H enc _ => propSeries_lifted os started H enc)

end Go.AM.Ytikchlfbjdfioaa
namespace Go.Proofs.Ytikchlfbjdfioaa
/-- PropSeries: the law answers true for every input, and the input reads as it did. No condition. -/
theorem propSeries_holds : Rows.PropSeriesSaid := Go.AM.Ytikchlfbjdfioaa.propSeries_holds
#print axioms propSeries_holds
end Go.Proofs.Ytikchlfbjdfioaa
