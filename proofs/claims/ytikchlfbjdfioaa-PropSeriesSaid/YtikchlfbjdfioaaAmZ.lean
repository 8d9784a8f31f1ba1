/- Calls: the machine does what the abstract one told. Own work of this project. -/
import Derived.Test.YtikchlfbjdfioaaAmY
namespace Go.AM
section
variable {P : Program} {E : Env} {n : Nat}

def resStep (tmps : Array Value) : ResultVar → Sem Value
  | .tmp t => pure (tmps.getD t undef)
  | .cell a t => do loadVar t (← asAddr (tmps.getD a undef))

theorem loadAt_var {t : TypeId} {xv v' : Value} {w : World} (h : (Instr.loadAt t xv).run P w = .ok v' w) : (do loadVar t (← asAddr xv) : Sem Value).run P w = .ok v' w := by
  cases xv with
  | pointer p =>
    cases p with
    | none => simp [Instr.loadAt, Instr.sureAddr] at h
    | some ad => simpa [Instr.loadAt, Instr.sureAddr, asAddr] using h
  | _ => simp [Instr.loadAt, Instr.sureAddr] at h

theorem resL_ok (hE : EnvOK P E) {g : Gh} (hI : Inv E g) {s : St} {a : Act} (hH : g.H = s.2) (hst : ST n g s.1 a) : ∀ (rs : List ResultVar) (vs : List AV), resL E s rs = some vs →
    ∃ us : List Value, (rs.mapM (resStep a.tmps)).run P g.w = .ok us g.w ∧ g.Rs vs us
  | [], vs, h => by
    simp only [resL, Option.some.injEq] at h; subst h
    exact ⟨[], by simp, by simp only [Gh.Rs, VRs]⟩
  | .tmp t :: r, vs, h => by
    simp only [resL] at h
    split at h
    · rename_i vs2 h2
      obtain rfl := Option.some.inj h
      obtain ⟨us, k1, k2⟩ := resL_ok hE hI hH hst r vs2 h2
      refine ⟨a.tmps.getD t undef :: us, ?_, ?_⟩
      · simp only [List.mapM_cons, resStep, Sem.run_bind, Sem.run_pure, Result.andThen_ok, k1]
      · simp only [Gh.Rs, VRs]; exact ⟨_, _, rfl, hst.fr t, k2⟩
    · exact absurd h (by simp)
  | .cell ad t :: r, vs, h => by
    simp only [resL] at h
    split at h
    · rename_i v vs2 h1 h2
      obtain rfl := Option.some.inj h
      obtain ⟨us, k1, k2⟩ := resL_ok hE hI hH hst r vs2 h2
      rw [← hH] at h1
      obtain ⟨v', q1, q2⟩ := load_ok hE hI h1 (hst.fr ad)
      refine ⟨v' :: us, ?_, ?_⟩
      · have := loadAt_var q1
        simp only [Sem.run_bind] at this
        simp only [List.mapM_cons, resStep, Sem.run_bind, this, Sem.run_pure, Result.andThen_ok, k1]
      · simp only [Gh.Rs, VRs]; exact ⟨_, _, rfl, q2, k2⟩
    · exact absurd h (by simp)

theorem results_eq (fn : Func) (tmps : Array Value) : results fn tmps = (do
    let us ← fn.results.toList.mapM (resStep tmps)
    pure (if h : us.toArray.size = 1 then us.toArray[0] else .tuple us.toArray)) := by
  have e : ∀ (f f' : ResultVar → Sem Value), (∀ x, f x = f' x) → fn.results.mapM f = fn.results.mapM f' := fun f f' h => by rw [funext h]
  unfold results
  rw [e _ (resStep tmps)]
  · rw [Array.mapM_eq_mapM_toList]
    simp
  · intro x
    cases x <;> rfl

theorem res_ok (hE : EnvOK P E) {g : Gh} (hI : Inv E g) {s : St} {a : Act} (hH : g.H = s.2) (hst : ST n g s.1 a) {fn : Func} {r : AV} (h : resA E s fn.results.toList = some r) : ∃ v, (results fn a.tmps).run P g.w = .ok v g.w ∧ g.R r v := by
  unfold resA at h
  split at h
  · rename_i v hv
    obtain rfl := Option.some.inj h
    obtain ⟨us, k1, k2⟩ := resL_ok hE hI hH hst _ _ hv
    simp only [Gh.Rs, VRs] at k2
    obtain ⟨u, _, rfl, k3, rfl⟩ := k2
    refine ⟨u, ?_, k3⟩
    rw [results_eq]
    simp only [Sem.run_bind, k1, Result.andThen_ok, Sem.run_pure]
    rfl
  · rename_i vs hne hv
    obtain rfl := Option.some.inj h
    obtain ⟨us, k1, k2⟩ := resL_ok hE hI hH hst _ _ hv
    refine ⟨.tuple us.toArray, ?_, by simp only [Gh.R, VR]; exact ⟨_, rfl, k2⟩⟩
    rw [results_eq]
    simp only [Sem.run_bind, k1, Result.andThen_ok, Sem.run_pure]
    rw [dif_neg]
    intro h1
    have hl := VRs_length k2
    have : us.length = 1 := by simpa using h1
    rw [this] at hl
    obtain ⟨x, rfl⟩ := List.length_eq_one_iff.1 hl
    exact hne x rfl
  · exact absurd h (by simp)

theorem fget_frame0 : ∀ (as : List AV) (i : Nat) (acc : AFr) (j : Nat), fget (frame0 as i acc) j = if i ≤ j ∧ j < i + as.length then (as[j - i]?).getD .any else fget acc j
  | [], i, acc, j => by simp only [frame0]; rw [if_neg (by simp only [List.length_nil]; omega)]
  | a :: as, i, acc, j => by
    simp only [frame0, List.length_cons]
    rw [fget_frame0 as (i + 1) ((i, a) :: acc) j]
    by_cases h1 : i + 1 ≤ j ∧ j < i + 1 + as.length
    · rw [if_pos h1, if_pos (by omega), show j - i = (j - (i + 1)) + 1 from by omega, List.getElem?_cons_succ]
    · rw [if_neg h1, fget_cons]
      by_cases h2 : j = i
      · subst h2
        rw [if_pos rfl, if_pos (by omega), Nat.sub_self]
        rfl
      · rw [if_neg h2, if_neg (by omega)]

theorem body_ok (hE : EnvOK P E) (hm : P.follows .mixedOrders = true) (fg : FuncId → Nat → List Nat) (N : Nat) {C : Callee} (hC : CS P E C) : CS P E (bodyA E C fg N) := by
  intro f args H B r H' h g vs hH hI hs
  unfold bodyA at h
  split at h
  · exact absurd h (by simp)
  · rename_i fi hf
    obtain ⟨fn, c, h1, h2, h3, rfl⟩ := fInfo_ok hE hf
    simp only at h
    have hlen := VRs_length hs
    refine calls_of_wp h1 h3 ?_
    have hst : ST fn.ntmps g (frame0 args 0 []) { tmps := vs.toArray ++ Array.replicate (fn.ntmps - vs.toArray.size) undef, defers := [] } := by
      refine ⟨fun j => ?_, rfl, by simp; omega⟩
      rw [fget_frame0]
      simp only [Nat.zero_le, true_and, Nat.zero_add, Nat.sub_zero]
      by_cases hj : j < args.length
      · rw [if_pos hj, List.getElem?_eq_getElem hj]
        have hjv : j < vs.length := by rw [← hlen]; exact hj
        have := ((VRs_iff args vs).1 hs).2 j _ _ (List.getElem?_eq_getElem hj) (List.getElem?_eq_getElem hjv)
        simp only [Array.getD_eq_getD_getElem?]
        rw [Array.getElem?_append_left (by simpa using hjv)]
        simpa [hjv] using this
      · rw [if_neg hj]
        simp only [fget_n, Gh.R, VR]
    subst hH
    have hgood := exec_ok (n := fn.ntmps) hE hC hm (fg f) B N g c
    have fin : ∀ (rx : Ex) (s : St), (rx = .normal ∨ rx = .ret) → execA E C (fg f) B fn.ntmps g.H N c (frame0 args 0 [], g.H) = some (rx, s) → resA E s fn.results.toList = some r → s.2 = H' →
        c.wp P (bodyPost P fn fun
          | .returned v, w' => ∃ g', g'.w = w' ∧ g'.H = H' ∧ Inv E g' ∧ Adv g g' ∧ g'.R r v
          | _, _ => False) { tmps := vs.toArray ++ Array.replicate (fn.ntmps - vs.toArray.size) undef, defers := [] } g.w := by
      intro rx s hrx he hr hs2
      refine wp_mono (hgood _ rx s he g _ rfl hI (Adv.refl g) hst) ?_
      rintro e a' w' ⟨q1, g2, rfl, q3, q4, q5, q6⟩
      obtain ⟨v, r1, r2⟩ := res_ok hE q4 q3 q6 hr
      rcases hrx with rfl | rfl
      · cases e <;> simp only [exM] at q1
        exact ⟨q6.def_, v, r1, g2, rfl, q3.trans hs2, q4, q5, r2⟩
      · cases e <;> simp only [exM] at q1
        exact ⟨q6.def_, v, r1, g2, rfl, q3.trans hs2, q4, q5, r2⟩
    split at h
    · rename_i s he
      split at h
      · rename_i r' hr
        simp only [Option.some.injEq, Prod.mk.injEq] at h
        obtain ⟨rfl, rfl⟩ := h
        exact fin .normal s (.inl rfl) he hr rfl
      · exact absurd h (by simp)
    · rename_i s he
      split at h
      · rename_i r' hr
        simp only [Option.some.injEq, Prod.mk.injEq] at h
        obtain ⟨rfl, rfl⟩ := h
        exact fin .ret s (.inr rfl) he hr rfl
      · exact absurd h (by simp)
    · exact absurd h (by simp)

theorem call_sound (hE : EnvOK P E) (hm : P.follows .mixedOrders = true) (fg : FuncId → Nat → List Nat) (N : Nat) : ∀ d, CS P E (callA E fg N d)
  | 0 => fun f args H B r H' h => by simp [callA] at h
  | d + 1 => body_ok hE hm fg N (call_sound hE hm fg N d)

end
end Go.AM
