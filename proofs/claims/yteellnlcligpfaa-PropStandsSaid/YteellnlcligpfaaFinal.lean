/- PropStands: the row. Own work of this project. -/
import Derived.Test.YteellnlcligpfaaHand
import Derived.Test.YteellnlcligpfaaLawD
import Derived.Test.YteellnlcligpfaaPWorks
namespace Go.AM.Yteellnlcligpfaa
open Go Go.AM Go.RowKit Go.Proofs Go.Proofs.Yteellnlcligpfaa Go.ChangeShapes Go.WideShapes Go.ChangeAt
set_option maxRecDepth 1000000

theorem stones_of : ∀ (n : Nat) (zs : List Int), zs.length = n * 4 → ∃ l : List Stone, l.length = n ∧ pcells l = zs.map (AV.int .i64)
  | 0, zs, h => by
    have : zs = [] := List.length_eq_zero_iff.1 (by omega)
    subst this
    exact ⟨[], rfl, rfl⟩
  | n + 1, a :: b :: c :: d :: zs, h => by
    simp only [List.length_cons] at h
    obtain ⟨l, h1, h2⟩ := stones_of n zs (by omega)
    exact ⟨⟨a, b, c, d⟩ :: l, by simp [h1], by simp [pcells, sc, h2]⟩
  | n + 1, [], h => by simp at h
  | n + 1, [_], h => by simp at h; omega
  | n + 1, [_, _], h => by simp at h; omega
  | n + 1, [_, _, _], h => by simp at h; omega

theorem cells3 : Try.prog.cellsOf 3 = 1 := by kernel_rfl
theorem cells56 : Try.prog.cellsOf 56 = 4 := by kernel_rfl
theorem laidOut : laidOutB Try.prog = true := by kernel_rfl
theorem readable22 : Try.prog.readableRec 22 = true := by kernel_rfl
theorem readable23 : Try.prog.readableRec 23 = true := by kernel_rfl
theorem readable3 : Try.prog.readableRec 3 = true := by kernel_rfl
theorem types_lt : 22 < Try.prog.types.size ∧ 23 < Try.prog.types.size ∧ 3 < Try.prog.types.size := ⟨of_decide_eq_true (by kernel_rfl), of_decide_eq_true (by kernel_rfl), of_decide_eq_true (by kernel_rfl)⟩

section
variable {H : Type} {enc : TypeId × Value → H} {W : World}
theorem hand_pile {v : Value} {d : DataW H} {ps : List MemPlace} {b0 : Nat} {r : Reach} (hv : Value.okWide Try.prog W r b0 22 v) (h : DataW.Trod enc Try.prog W 0 (fun _ => true) true 22 v d ps) :
    ∃ a l, IsP a l ∧ (start (fun k => k < W.heap.size) W).R a v := by
  rcases hand_slice (sz := 4) Try.underlying22 cells56 (fun n cs x hl hx => trod_struct_el Try.underlying56 rfl hl (fun i hi => by
    match i, hi with
    | 0, _ => exact ⟨_, rfl, rfl, cells3, Try.underlying3⟩
    | 1, _ => exact ⟨_, rfl, rfl, cells3, Try.underlying3⟩
    | 2, _ => exact ⟨_, rfl, rfl, cells3, Try.underlying3⟩
    | 3, _ => exact ⟨_, rfl, rfl, cells3, Try.underlying3⟩) hx) hv h with rfl | ⟨b, o, len, cap, zs, rfl, h1, h2, h3, h4⟩
  · exact ⟨.nilsl, [], .inl ⟨rfl, rfl⟩, by simp only [Gh.R, VR]⟩
  · obtain ⟨l, hl1, hl2⟩ := stones_of len zs h3
    refine ⟨.imm (pcells l) l.length false, l, .inr ⟨false, rfl⟩, ?_⟩
    rw [hl1, hl2]
    exact vr_slice h1 h2 h4
theorem hand_ints {v : Value} {d : DataW H} {ps : List MemPlace} {b0 : Nat} {r : Reach} (hv : Value.okWide Try.prog W r b0 23 v) (h : DataW.Trod enc Try.prog W 0 (fun _ => true) true 23 v d ps) :
    ∃ a l, IsI a l ∧ (start (fun k => k < W.heap.size) W).R a v := by
  rcases hand_slice (sz := 1) Try.underlying23 cells3 (fun n cs x hl hx => trod_int_el Try.underlying3 hx) hv h with rfl | ⟨b, o, len, cap, zs, rfl, h1, h2, h3, h4⟩
  · exact ⟨.nilsl, [], .inl ⟨rfl, rfl⟩, by simp only [Gh.R, VR]⟩
  · have hl : zs.length = len := by omega
    refine ⟨.imm (icells zs) zs.length false, zs, .inr ⟨false, rfl⟩, ?_⟩
    rw [hl]
    exact vr_slice h1 h2 h4
end

theorem propStands_walk {W : World} {a b : AV} {l : List Stone} {ws : List Int} {z side : Int} {v0 v1 : Value} (ha : IsP a l) (hb : IsI b ws) (h0 : (start (fun k => k < W.heap.size) W).R a v0) (h1 : (start (fun k => k < W.heap.size) W).R b v1) :
    Calls Try.prog 3 #[v0, v1, .int .i64 z, .int .i64 side] W fun e w' => e = .returned (.bool true) ∧ Below W.heap.size W w' := by
  obtain ⟨H0, hw⟩ := isTrue_ok works_run
  obtain ⟨H1, hr⟩ := rs_ex (law_true (z := z) (side := side) ⟨H0, hw⟩ ha hb)
  have hC : CS Try.prog E (bodyA E (callA E fg 1000 40) fg 1000) := body_ok envOk mixed fg 1000 (sound 40)
  refine law_run hC hr (fun k h => h) (vs := [v0, v1, .int .i64 z, .int .i64 side]) ?_
  simp only [Gh.Rs, VRs, VR]
  exact ⟨v0, _, rfl, h0, v1, _, rfl, h1, _, _, rfl, rfl, _, _, rfl, rfl, rfl⟩

theorem propStands_lifted (os : Os) (started : os.Started) (H : Type) (enc : TypeId × Value → H) :
    ReturnsInHanded {} Try.checked os 3 .any (Rows.propStandsSpec.pre6 enc Try.prog Try.f3 Rows.propStandsRow.domain false)
      (Rows.propStandsSpec.post enc Try.prog Try.f3 false true false false) := by
  refine returnsInHanded_of_change own started (by kernel_rfl) Try.func3 (ChangeSpec.witness6 (enc := enc) (C := Try.checked) false ⟨#[], #[.slice none 0 0, .slice none 0 0, .int .i64 0, .int .i64 0], []⟩ 8 (by kernel_rfl) (by kernel_rfl) (by kernel_rfl) (by kernel_rfl)) ?_
  intro W base args ds gs before hval0 hW _ _
  have hW' := hW
  obtain ⟨p, q, hA0, hV, rfl, hfz, hnd⟩ := hW
  have hA : DataW.TrodAll enc Try.prog W 0 (fun _ => true) true Try.f3.params.toList args.toList ds p := hA0
  rw [Try.params3] at hA
  obtain ⟨v0, v1, v2, v3, d0, d1, d2, d3, p0, p1, p2, p3, rfl, rfl, rfl, h0, h1, h2, h3⟩ := trodAll_four hA
  obtain ⟨rfl, rfl⟩ := trodVars_none hV
  have hval : ∀ (j : Nat) t v, (#[22, 23, 3, 3] : Array TypeId)[j]? = some t → (#[v0, v1, v2, v3] : Array Value)[j]? = some v → Value.okWide Try.prog W .any base t v := by
    intro j t v; have := hval0 j t v; rw [Try.params3] at this; exact this
  have k0 := hval 0 22 v0 rfl rfl
  have k1 := hval 1 23 v1 rfl rfl
  obtain ⟨z, rfl⟩ := hand_int Try.underlying3 (hval 2 3 v2 rfl rfl)
  obtain ⟨side, rfl⟩ := hand_int Try.underlying3 (hval 3 3 v3 rfl rfl)
  obtain ⟨a, l, ha, r0⟩ := hand_pile k0 h0
  obtain ⟨b, ws, hb, r1⟩ := hand_ints k1 h1
  refine (propStands_walk (z := z) (side := side) ha hb r0 r1).mono fun e W' ⟨he, bel⟩ => ?_
  subst he
  obtain ⟨t0, t1, t2⟩ := types_lt
  exact ⟨_, rfl, _, _, _, [], _, [], hW', trodAll_mk1 (shut_bool Try.underlying4 _),
    trodAll_mk4 (bel.trod' laidOut readable22 t0 h0) (bel.trod' laidOut readable23 t1 h1) (bel.trod' laidOut readable3 t2 h2) (bel.trod' laidOut readable3 t2 h3), rfl, bel.frame _, fun h => by cases h⟩

theorem propStands_holds : Rows.PropStandsSaid :=
  OpenClaim.holds_of_wide 3 Try.f3 rfl rfl rfl rfl rfl rfl rfl ⟨rfl, rfl, rfl, rfl, rfl⟩ rfl rfl rfl rfl rfl (by kernel_rfl) Try.func3 (by kernel_rfl)
    (of_decide_eq_true (by kernel_rfl)) (by unfold Func.isWrapper; first | (rw [if_pos (by decide +kernel)]; kernel_rfl) | (rw [if_neg (by decide +kernel)]; exact ⟨rfl, rfl⟩))
    (fun os started H enc _ => propStands_lifted os started H enc)

end Go.AM.Yteellnlcligpfaa
namespace Go.Proofs.Yteellnlcligpfaa
/-- PropStands: the law answers true for every input, and the input reads as it did. No condition. -/
theorem propStands_holds : Rows.PropStandsSaid := Go.AM.Yteellnlcligpfaa.propStands_holds
#print axioms propStands_holds
end Go.Proofs.Yteellnlcligpfaa
