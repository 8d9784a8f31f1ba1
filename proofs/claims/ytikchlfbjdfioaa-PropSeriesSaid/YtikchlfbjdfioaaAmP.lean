/- copy, clear, and the built-in functions as one. Own work of this project. -/
import Derived.Test.YtikchlfbjdfioaaAmO
namespace Go.AM
section
variable {P : Program} {E : Env} {g : Gh}

theorem VRo_noRef {fz : Nat → Prop} {w : World} {rf : RFt} {as : List AV} {vs : List Value} (h : VRo fz w as noRef vs) : VRo fz w as rf vs := by
  rw [VRo_iff] at h ⊢
  exact ⟨h.1, fun i a v h1 h2 => ⟨(h.2 i a v h1 h2).1, VR.mono (K := fun _ => True) (fun _ hk => ⟨hk, rfl⟩) (fun _ _ _ h => h.elim) a v (fun _ _ => trivial) (h.2 i a v h1 h2).2⟩⟩

theorem src_take (hI : Inv E g) {sz n : Nat} {x : AV} {xv : Value} {cells : List AV} (h : (srcOf sz x).run g.H = some (n, cells)) (hx : g.R x xv) {m : Nat} (hm : m ≤ n) :
    ∃ (ao : Option Addr) (c : Nat) (vs : List Value), xv = .slice ao n c ∧ cells.length = n * sz ∧ VRo g.fz g.w (cells.take (m * sz)) noRef vs ∧ (Builtin.firstCells sz m xv).run P g.w = .ok vs.toArray g.w := by
  have hms := Nat.mul_le_mul_right sz hm
  cases x <;> simp only [srcOf] at h <;> try (simp [Rd.run] at h; done)
  · simp only [Rd.run, Option.some.injEq, Prod.mk.injEq] at h
    obtain ⟨rfl, rfl⟩ := h
    simp only [Gh.R, VR] at hx
    subst hx
    exact ⟨none, 0, [], rfl, by simp, by simp [VRo], by simp [Builtin.firstCells]⟩
  · rename_i cs len ex
    split at h
    · rename_i hl
      simp only [Rd.run, Option.some.injEq, Prod.mk.injEq] at h
      obtain ⟨rfl, rfl⟩ := h
      simp only [Gh.R, VR] at hx
      obtain ⟨b, o, cap, rfl, h1, h2, h3⟩ := hx
      by_cases h0 : m * sz = 0
      · refine ⟨_, _, [], rfl, hl, by rw [h0]; simp [VRo], ?_⟩
        simp only [Builtin.firstCells]
        rw [h0]
        rfl
      · have hc : VRc g.fz g.w cs noRef b o := by
          rcases h3 with h3 | h3
          · exfalso
            have : m = 0 := by omega
            subst this
            simp at h0
          · exact h3.2
        have hw := VRc_window hc 0 (m * sz)
        obtain ⟨vs, e1, e2⟩ := run_loadCells (P := P) hw
        rw [window_length _ _ _ (by omega)] at e1
        exact ⟨_, _, vs, rfl, hl, by simpa [window] using e2, by simp only [Builtin.firstCells]; exact e1⟩
    · simp [Rd.run] at h
  · rename_i id off len cap gl s ex
    split at h
    · rename_i hs; subst hs
      obtain ⟨bl, k1, k2⟩ := Rd.run_bind_some h
      obtain ⟨q1, q2, o, cap', rfl, c0, c1, c2, c3⟩ := live_ref hx k1
      have hnm := liveBlk_st k1
      have hcells := blk_cells hI q1 hnm
      have main : ∀ (hst : rfOf g bl.st = noRef), (if off + len * s ≤ bl.cells.length then (Rd.pure (len, window bl.cells off (len * s)) : Rd (Nat × List AV)) else .fail).run g.H = some (n, cells) →
          ∃ (ao : Option Addr) (c : Nat) (vs : List Value), Value.slice (some ⟨(g.mu id).1, o, none⟩) len cap' = .slice ao n c ∧ cells.length = n * s ∧ VRo g.fz g.w (cells.take (m * s)) noRef vs ∧ (Builtin.firstCells s m (.slice (some ⟨(g.mu id).1, o, none⟩) len cap')).run P g.w = .ok vs.toArray g.w := by
        intro hst k2
        split at k2
        · rename_i hle
          simp only [Rd.run, Option.some.injEq, Prod.mk.injEq] at k2
          obtain ⟨rfl, rfl⟩ := k2
          have hwl := window_length bl.cells off (len * s) hle
          by_cases h0 : m * s = 0
          · refine ⟨_, _, [], rfl, hwl, by rw [h0]; simp [VRo], ?_⟩
            simp only [Builtin.firstCells]
            rw [h0]
            rfl
          · have hcap : cap' ≠ 0 := by
              intro h
              have : m = 0 := by omega
              subst this
              simp at h0
            have hw := VRc_window (VRc_window hcells off (len * s)) 0 (m * s)
            rw [← (c3.resolve_left hcap).1, hst] at hw
            obtain ⟨vs, e1, e2⟩ := run_loadCells (P := P) hw
            rw [window_length _ _ _ (by omega)] at e1
            exact ⟨_, _, vs, rfl, hwl, by simpa [window] using e2, e1⟩
        · simp [Rd.run] at k2
      cases hst : bl.st <;> rw [hst] at k2 <;> simp only at k2
      · split at k2
        · rename_i hle
          simp only [Rd.run, Option.some.injEq, Prod.mk.injEq] at k2
          obtain ⟨rfl, rfl⟩ := k2
          have hwl := window_length bl.cells off (len * s) hle.1
          by_cases h0 : m * s = 0
          · refine ⟨_, _, [], rfl, hwl, by rw [h0]; simp [VRo], ?_⟩
            simp only [Builtin.firstCells]
            rw [h0]
            rfl
          · have hcap : cap' ≠ 0 := by
              intro h
              have : m = 0 := by omega
              subst this
              simp at h0
            have hw := VRc_window (flat_cells hle.2 (rf' := noRef) (VRc_window hcells off (len * s))) 0 (m * s)
            rw [← (c3.resolve_left hcap).1] at hw
            obtain ⟨vs, e1, e2⟩ := run_loadCells (P := P) hw
            rw [window_length _ _ _ (by omega)] at e1
            exact ⟨_, _, vs, rfl, hwl, by simpa [window] using e2, e1⟩
        · simp [Rd.run] at k2
      · exact main (by rw [hst]; rfl) k2
      · exact main (by rw [hst]; rfl) k2
      · exact absurd hst hnm
    · simp [Rd.run] at h

theorem copy_ok (hI : Inv E g) {ts : Array TypeId} {t e : TypeId} {i : TypeInfo} (h0 : ts[0]? = some t) (ht : P.underlying t = some (.slice e)) (hi : P.info? e = some i)
    {d s : AV} {dv sv : Value} (hd : g.R d dv) (hs : g.R s sv) {r : AV × Ups} (h : (aCopy i.size d s).run g.H = some r) (ty : TypeId) :
    Done E g r ((Builtin.copy_ ts ty #[dv, sv]).run P g.w) := by
  unfold aCopy at h
  obtain ⟨⟨n, cells⟩, k1, k2⟩ := Rd.run_bind_some h
  simp only at k2
  cases d <;> simp only at k2 <;> try (simp [Rd.run] at k2; done)
  · simp only [Rd.run, Option.some.injEq] at k2; subst k2
    simp only [Gh.R, VR] at hd
    subst hd
    obtain ⟨ao, c, vs, rfl, hl, hv, hf⟩ := src_take (P := P) (m := 0) hI k1 hs (Nat.zero_le _)
    refine Done.same (v := .int .i64 0) hI ?_ (by simp only [Gh.R, VR])
    simp [Builtin.copy_, h0, run_under ht, run_size hi, Builtin.lenOf, hf, goInt]
  · rename_i id off len cap gl z ex
    split at k2
    · rename_i hz; subst hz
      obtain ⟨bl, j1, j2⟩ := Rd.run_bind_some k2
      obtain ⟨q1, q2, o, cap', rfl, c0, c1, c2, c3⟩ := live_ref hd j1
      cases hst : bl.st <;> rw [hst] at j2 <;> simp only at j2 <;> try (simp [Rd.run] at j2; done)
      · split at j2
        · rename_i hle
          simp only [Rd.run, Option.some.injEq] at j2; subst j2
          obtain ⟨ao, c, vs, rfl, hl, hv, hf⟩ := src_take (P := P) (m := min n len) hI k1 hs (Nat.min_le_left _ _)
          have hm1 := Nat.mul_le_mul_right i.size (Nat.min_le_left n len)
          have hm2 := Nat.mul_le_mul_right i.size (Nat.min_le_right n len)
          have htl : (cells.take (min n len * i.size)).length = min n len * i.size := by rw [List.length_take, hl]; omega
          obtain ⟨w', e1, e2, e3⟩ := write_block (P := P) (vs := cells.take (min n len * i.size)) (us := vs) (off := off) hI q1 (by rw [hst]; rfl) (by rw [hst]; simp) (by rw [htl]; omega) (by rw [hst]; exact VRo_noRef hv)
          rw [hst] at e2 e3
          have hstore : (storeCells ⟨(g.mu id).1, o, none⟩ vs).run P g.w = .ok () w' := by
            by_cases hc0 : cap' = 0
            · have : vs = [] := by
                apply List.length_eq_zero_iff.1
                rw [← VRo_length hv, htl, show len = 0 from by omega]
                simp
              subst this
              exact e1
            · rw [(c3.resolve_left hc0).1]; exact e1
          refine ⟨.int .i64 (min n len : Nat), _, ?_, rfl, e2, e3, by simp only [Gh.R, VR]⟩
          have hmin : Nat.min n len = min n len := rfl
          simp [Builtin.copy_, h0, run_under ht, run_size hi, Builtin.lenOf, hf, goInt, hstore, hmin, Gh.put]
        · simp [Rd.run] at j2
      · split at j2
        · rename_i hle
          simp only [Rd.run, Option.some.injEq] at j2; subst j2
          obtain ⟨ao, c, vs, rfl, hl, hv, hf⟩ := src_take (P := P) (m := min n len) hI k1 hs (Nat.min_le_left _ _)
          have hm1 := Nat.mul_le_mul_right i.size (Nat.min_le_left n len)
          have hm2 := Nat.mul_le_mul_right i.size (Nat.min_le_right n len)
          have htl : (cells.take (min n len * i.size)).length = min n len * i.size := by rw [List.length_take, hl]; omega
          obtain ⟨w', e1, e2, e3⟩ := write_block (P := P) (vs := cells.take (min n len * i.size)) (us := vs) (off := off) hI q1 (by rw [hst]; rfl) (by rw [hst]; simp) (by rw [htl]; omega) (by rw [hst]; exact hv)
          rw [hst] at e2 e3
          have hstore : (storeCells ⟨(g.mu id).1, o, none⟩ vs).run P g.w = .ok () w' := by
            by_cases hc0 : cap' = 0
            · have : vs = [] := by
                apply List.length_eq_zero_iff.1
                rw [← VRo_length hv, htl, show len = 0 from by omega]
                simp
              subst this
              exact e1
            · rw [(c3.resolve_left hc0).1]; exact e1
          refine ⟨.int .i64 (min n len : Nat), _, ?_, rfl, e2, e3, by simp only [Gh.R, VR]⟩
          have hmin : Nat.min n len = min n len := rfl
          simp [Builtin.copy_, h0, run_under ht, run_size hi, Builtin.lenOf, hf, goInt, hstore, hmin, Gh.put]
        · simp [Rd.run] at j2
    · simp [Rd.run] at k2

theorem clear_ok (hE : EnvOK P E) (hI : Inv E g) {ts : Array TypeId} {t e : TypeId} {sz : Nat} (h0 : ts[0]? = some t) (ht : P.underlying t = some (.slice e)) 
    {s : AV} {sv : Value} (hs : g.R s sv) {r : AV × Ups} (h : (aClear E.T e sz s).run g.H = some r) (ty : TypeId) :
    Done E g r ((Builtin.clear_ ts ty #[sv]).run P g.w) := by
  unfold aClear at h
  split at h
  · simp only [Rd.run, Option.some.injEq] at h; subst h
    simp only [Gh.R, VR] at hs
    subst hs
    refine Done.same (v := .tuple #[]) hI ?_ (by simp only [Gh.R, VR, VRs]; exact ⟨#[], rfl, rfl⟩)
    simp [Builtin.clear_, h0, run_under ht]
  · rename_i id off len cap gl z ex zs hz
    split at h
    · rename_i hb
      obtain ⟨rfl, b2, b3, b4⟩ := hb
      obtain ⟨i, inf, zv, hTe, h1, h2, h3, h4, h5, h6⟩ := zeroCells_ok g hE hz
      obtain ⟨bl, j1, j2⟩ := Rd.run_bind_some h
      obtain ⟨q1, q2, o, cap', rfl, c0, c1, c2, c3⟩ := live_ref hs j1
      cases hst : bl.st <;> rw [hst] at j2 <;> simp only at j2 <;> try (simp [Rd.run] at j2; done)
      split at j2
      · rename_i hle
        simp only [Rd.run, Option.some.injEq] at j2; subst j2
        have hZ := zeros_ok (h6 g.fz g.w noRef) (by omega) len
        obtain ⟨w', e1, e2, e3⟩ := write_block (P := P) (vs := repC zs len) (us := (Builtin.zeroCells zv.cells len).toList) (off := off) hI q1 (by rw [hst]; rfl) (by rw [hst]; simp) (by rw [repC_length, b2]; omega) (by rw [hst]; exact hZ)
        rw [hst] at e2 e3
        refine ⟨.tuple #[], _, ?_, rfl, e2, e3, by simp only [Gh.R, VR, VRs]; exact ⟨#[], rfl, rfl⟩⟩
        by_cases hl0 : len = 0
        · subst hl0
          have hw : g.w = w' := by
            have : (Builtin.zeroCells zv.cells 0).toList = [] := by simp [Builtin.zeroCells, show Array.range 0 = #[] from rfl]
            rw [this] at e1
            injection e1
          simp [Builtin.clear_, h0, run_under ht, Gh.put, hw]
        · have hcap : cap' ≠ 0 := by omega
          rw [← (c3.resolve_left hcap).1] at e1
          simp [Builtin.clear_, h0, run_under ht, zeroValue, run_info h1, h2, e1, hl0, Gh.put]
      · simp [Rd.run] at j2
    · simp [Rd.run] at h
  · simp [Rd.run] at h

theorem just_run {r : Rd AV} {H : AHeap} {x : AV × Ups} (h : (just r).run H = some x) : r.run H = some x.1 ∧ x.2 = [] := by
  obtain ⟨a, h1, h2⟩ := Rd.run_bind_some h
  simp only [Rd.run, Option.some.injEq] at h2; subst h2
  exact ⟨h1, rfl⟩
theorem justO_run {r : Option AV} {H : AHeap} {x : AV × Ups} (h : (justO r).run H = some x) : r = some x.1 ∧ x.2 = [] := by
  cases r with
  | none => simp [justO, Rd.run] at h
  | some a => simp only [justO, Rd.run, Option.some.injEq] at h; subst h; exact ⟨rfl, rfl⟩

theorem Done.of {x : AV × Ups} {r : Result Value} (hI : Inv E g) (he : x.2 = []) (h : ∃ v', r = .ok v' g.w ∧ g.R x.1 v') : Done E g x r := by
  obtain ⟨v', h1, h2⟩ := h
  obtain ⟨a, us⟩ := x
  simp only at he; subst he
  exact Done.same hI h1 h2

theorem slice_of (hE : EnvOK P E) {t : TypeId} (h : isSliceT E.T t = true) : ∃ e, P.underlying t = some (.slice e) := by
  unfold isSliceT at h
  split at h
  · rename_i hT
    exact ⟨_, kind_slice hE hT⟩
  · exact absurd h (by simp)

/-- A built-in function's run. -/
def builtinV (b : Builtin) (ts : Array TypeId) (ty : TypeId) (args : Array Value) : Option (Sem Value) :=
  match b with
  | .append => some (Builtin.append_ ts ty args)
  | .copy => some (Builtin.copy_ ts ty args)
  | .clear => some (Builtin.clear_ ts ty args)
  | .len => some (Builtin.len_ ts ty args)
  | .max => some (Builtin.max_ ts ty args)
  | .min => some (Builtin.min_ ts ty args)
  | _ => none

theorem builtin_ok (hE : EnvOK P E) (hI : Inv E g) {b : Builtin} {ts : Array TypeId} {site : Nat} {as : List AV} {vs : List Value} (hs : g.Rs as vs) {r : AV × Ups} (h : (aBuiltin E.T site b ts as).run g.H = some r) (ty : TypeId) (consts : Array Bool) :
    ∃ s : Sem Value, builtin b ts ty consts vs.toArray = (do pure (.value (← s))) ∧ Done E g r (s.run P g.w) := by
  unfold aBuiltin at h
  split at h
  · -- len
    rename_i x
    simp only [Gh.Rs, VRs] at hs
    obtain ⟨v, _, rfl, hv, rfl⟩ := hs
    split at h
    · rename_i t ht
      obtain ⟨h1, h2⟩ := just_run h
      exact ⟨_, rfl, Done.of hI h2 (len_ok hE ht h1 hv)⟩
    · simp [Rd.run] at h
  · -- append
    rename_i s x
    simp only [Gh.Rs, VRs] at hs
    obtain ⟨v, _, rfl, hv, u, _, rfl, hu, rfl⟩ := hs
    split at h
    · rename_i t u' ht0 ht1
      split at h
      · rename_i e he hsl
        split at h
        · rename_i sz hsz
          obtain ⟨e', hu'⟩ := slice_of hE hsl
          exact ⟨_, rfl, append_ok hE hI ht0 ht1 (elem_ok hE he) hu' hsz (Nat.succ_pos _) hv hu h ty⟩
        · simp [Rd.run] at h
      · simp [Rd.run] at h
    · simp [Rd.run] at h
  · -- copy
    rename_i d s
    simp only [Gh.Rs, VRs] at hs
    obtain ⟨v, _, rfl, hv, u, _, rfl, hu, rfl⟩ := hs
    split at h
    · rename_i t ht0
      split at h
      · rename_i e he
        split at h
        · rename_i sz hsz
          obtain ⟨inf, hi, hsize⟩ := tsz_ok hE hsz
          have hsize' : inf.size = sz + 1 := hsize
          rw [← hsize'] at h
          exact ⟨_, rfl, copy_ok hI ht0 (elem_ok hE he) hi hv hu h ty⟩
        · simp [Rd.run] at h
      · simp [Rd.run] at h
    · simp [Rd.run] at h
  · -- clear
    rename_i s
    simp only [Gh.Rs, VRs] at hs
    obtain ⟨v, _, rfl, hv, rfl⟩ := hs
    split at h
    · rename_i t ht0
      split at h
      · rename_i e he
        split at h
        · rename_i sz hsz
          exact ⟨_, rfl, clear_ok hE hI ht0 (elem_ok hE he) hv h ty⟩
        · simp [Rd.run] at h
      · simp [Rd.run] at h
    · simp [Rd.run] at h
  · -- min
    rename_i x rest
    simp only [Gh.Rs, VRs] at hs
    obtain ⟨v, t, rfl, hv, ht⟩ := hs
    obtain ⟨h1, h2⟩ := justO_run h
    exact ⟨_, rfl, Done.of hI h2 (min_ok rest x _ v t h1 hv ht)⟩
  · rename_i x rest
    simp only [Gh.Rs, VRs] at hs
    obtain ⟨v, t, rfl, hv, ht⟩ := hs
    obtain ⟨h1, h2⟩ := justO_run h
    exact ⟨_, rfl, Done.of hI h2 (max_ok rest x _ v t h1 hv ht)⟩
  · simp [Rd.run] at h

end
end Go.AM
