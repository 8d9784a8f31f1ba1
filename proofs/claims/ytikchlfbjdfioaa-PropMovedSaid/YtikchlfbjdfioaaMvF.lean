/- PropMoved: the row. Own work of this project. -/
import Derived.Test.YtikchlfbjdfioaaHandU
import Derived.Test.YtikchlfbjdfioaaMvE
import Derived.Test.YtikchlfbjdfioaaPWorks
namespace Go.AM.Ytikchlfbjdfioaa
open Go Go.AM Go.RowKit Go.Proofs Go.Proofs.Ytikchlfbjdfioaa Go.ChangeShapes Go.WideShapes Go.ChangeAt
set_option maxRecDepth 1000000

theorem laidOut : laidOutB Try.prog = true := by kernel_rfl
theorem readable25 : Try.prog.readableRec 25 = true := by kernel_rfl
theorem readable5 : Try.prog.readableRec 5 = true := by kernel_rfl
theorem types_lt : 25 < Try.prog.types.size ∧ 5 < Try.prog.types.size := ⟨of_decide_eq_true (by kernel_rfl), of_decide_eq_true (by kernel_rfl)⟩
theorem cellsOf25 : Try.prog.cellsOf 25 = 21 := by kernel_rfl
theorem cellTypes25 : Try.prog.cellTypes Try.prog.depth 25 = some (List.replicate 21 5) := by kernel_rfl

theorem quads_of : ∀ (n : Nat) (zs : List Int), zs.length = n * 4 → (∀ (i : Nat) (z : Int), zs[i]? = some z → 0 ≤ z ∧ z ≤ 255) → ∃ l : List Q, l.length = n ∧ qcells l = zs.map (AV.int .u8) ∧ ∀ (i : Nat) (q : Q), l[i]? = some q → QOk q
  | 0, zs, h, _ => by
    have : zs = [] := List.length_eq_zero_iff.1 (by omega)
    subst this
    exact ⟨[], rfl, rfl, fun i q hi => by simp at hi⟩
  | n + 1, a :: b :: c :: d :: zs, h, hb => by
    simp only [List.length_cons] at h
    obtain ⟨l, h1, h2, h3⟩ := quads_of n zs (by omega) (fun i z hi => hb (i + 4) z (by simpa using hi))
    refine ⟨⟨a, b, c, d⟩ :: l, by simp [h1], by simp [qcells, qc, h2], fun i q hi => ?_⟩
    cases i with
    | zero => simp at hi; subst hi; exact ⟨hb 0 a rfl, hb 1 b rfl, hb 2 c rfl, hb 3 d rfl⟩
    | succ i => exact h3 i q (by simpa using hi)
  | n + 1, [], h, _ => by simp at h
  | n + 1, [_], h, _ => by simp at h; omega
  | n + 1, [_, _], h, _ => by simp at h; omega
  | n + 1, [_, _, _], h, _ => by simp at h; omega
section
variable {W : World}
theorem hand_heap {v : Value} {b0 : Nat} {r : Reach} (hv : Value.okWide Try.prog W r b0 25 v) : ∃ m qs, HOk m qs ∧ (start (fun k => k < W.heap.size) W).R (.agg (hcells m qs)) v := by
  obtain ⟨zs, cs, rfl, h1, h2, h3⟩ := hand_struct Try.underlying25 Try.underlying5 cellTypes25 cellsOf25 (by omega) hv
  match zs, h2 with
  | z :: zs, h2 =>
    obtain ⟨qs, a, b, c⟩ := quads_of 5 zs (by simpa using h2) (fun i y hi => h3 (i + 1) y (by simpa using hi))
    refine ⟨z, qs, ⟨h3 0 z rfl, a, c⟩, ?_⟩
    rw [show hcells z qs = (z :: zs).map (AV.int .u8) by simp [hcells, b]]
    exact vr_u8 _ h1
end

theorem propMoved_walk {W : World} {m o : Int} {qs : List Q} {v0 : Value} (h : HOk m qs) (ho : 0 ≤ o ∧ o ≤ 255)
    (h0 : (start (fun k => k < W.heap.size) W).R (.agg (hcells m qs)) v0) :
    Calls Try.prog 4 #[v0, .int .u8 o] W fun e w' => e = .returned (.bool true) ∧ Below W.heap.size W w' := by
  obtain ⟨H0, hw⟩ := isTrue_ok works_run
  obtain ⟨H1, hr⟩ := rs_ex (moved_true h ho ⟨H0, hw⟩)
  have hC : CS Try.prog E (bodyA E (callA E fg 1000 40) fg 1000) := body_ok envOk mixed fg 1000 (sound 40)
  refine law_run hC hr (fun k h => h) (vs := [v0, .int .u8 o]) ?_
  simp only [Gh.Rs, VRs]
  exact ⟨v0, _, rfl, h0, _, _, rfl, by simp only [VR], rfl⟩

theorem propMoved_lifted (os : Os) (started : os.Started) (H : Type) (enc : TypeId × Value → H) :
    ReturnsInHanded {} Try.checked os 4 .any (Rows.propMovedSpec.pre6 enc Try.prog Try.f4 Rows.propMovedRow.domain false)
      (Rows.propMovedSpec.post enc Try.prog Try.f4 false true false false) := by
  refine returnsInHanded_of_change own started (by kernel_rfl) Try.func4 (ChangeSpec.witness6 (enc := enc) (C := Try.checked) false ⟨#[], #[.agg (Array.replicate 21 (.int .u8 0)), .int .u8 0], []⟩ 8 (by kernel_rfl) (by kernel_rfl) (by kernel_rfl) (by kernel_rfl)) ?_
  intro W base args ds gs before hval0 hW _ _
  have hW' := hW
  obtain ⟨p, q, hA0, hV, rfl, hfz, hnd⟩ := hW
  have hA : DataW.TrodAll enc Try.prog W 0 (fun _ => true) true Try.f4.params.toList args.toList ds p := hA0
  rw [Try.params4] at hA
  obtain ⟨v0, vs, d0, ds0, p0, q0, ha, rfl, rfl, h0, hr0⟩ := trodAll_cons hA
  obtain ⟨v1, vs1, d1, ds1, p1, q1, rfl, rfl, rfl, h1, hr1⟩ := trodAll_cons hr0
  obtain ⟨rfl, rfl, rfl⟩ := trodAll_nil hr1
  obtain rfl : args = #[v0, v1] := by cases args; simp_all
  obtain ⟨rfl, rfl⟩ := trodVars_none hV
  have hval : ∀ (j : Nat) t v, (#[25, 5] : Array TypeId)[j]? = some t → (#[v0, v1] : Array Value)[j]? = some v → Value.okWide Try.prog W .any base t v := by
    intro j t v; have := hval0 j t v; rw [Try.params4] at this; exact this
  obtain ⟨m, qs, hm, r0⟩ := hand_heap (hval 0 25 v0 rfl rfl)
  obtain ⟨o, rfl, b1⟩ := hand_u8 Try.underlying5 (hval 1 5 v1 rfl rfl)
  refine (propMoved_walk hm b1 r0).mono fun e W' ⟨he, bel⟩ => ?_
  subst he
  obtain ⟨t0, t1⟩ := types_lt
  exact ⟨_, rfl, _, _, _, [], _, [], hW', trodAll_mk1 (shut_bool Try.underlying4 _),
    trodAll_mk2 (bel.trod' laidOut readable25 t0 h0) (bel.trod' laidOut readable5 t1 h1), rfl, bel.frame _, fun h => by cases h⟩

theorem propMoved_holds : Rows.PropMovedSaid :=
  OpenClaim.holds_of_wide 4 Try.f4 rfl rfl rfl rfl rfl rfl rfl ⟨rfl, rfl, rfl, rfl, rfl⟩ rfl rfl rfl rfl rfl (by kernel_rfl) Try.func4 (by kernel_rfl)
    (of_decide_eq_true (by kernel_rfl)) (by unfold Func.isWrapper; first | (rw [if_pos (by decide +kernel)]; kernel_rfl) | (rw [if_neg (by decide +kernel)]; exact ⟨rfl, rfl⟩))
    (fun os started H enc _ => propMoved_lifted os started H enc)

end Go.AM.Ytikchlfbjdfioaa
namespace Go.Proofs.Ytikchlfbjdfioaa
/-- PropMoved: the law answers true for every input, and the input reads as it did. No condition. -/
theorem propMoved_holds : Rows.PropMovedSaid := Go.AM.Ytikchlfbjdfioaa.propMoved_holds
#print axioms propMoved_holds
end Go.Proofs.Ytikchlfbjdfioaa
