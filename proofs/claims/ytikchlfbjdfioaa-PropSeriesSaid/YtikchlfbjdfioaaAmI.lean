/- Addresses, slices and the small built-in functions: the machine does what the abstract machine does. Own work of this project. -/
import Derived.Test.YtikchlfbjdfioaaAmH
namespace Go.AM
section
variable {P : Program} {E : Env} {g : Gh}

theorem aNum_ok {fz : Nat → Prop} {w : World} {rf : RFt} {a : AV} {v : Value} {n : Int} (h : aNum a = some n) (hv : VR fz w a rf v) : ∃ k, v = .int k n := by
  cases a <;> simp only [aNum, Option.some.injEq] at h <;> try (simp at h; done)
  subst h
  simp only [VR] at hv
  exact ⟨_, hv⟩

def OR (g : Gh) : Option AV → Option Value → Prop
  | none, none => True
  | some a, some v => g.R a v
  | _, _ => False

theorem sliceBound_ok {v : Value} {k : IntKind} {n : Int} (hv : v = .int k n) {y : Nat} (h : 0 ≤ n ∧ n ≤ y) (c : BoundsCode) (w : World) :
    (Instr.sliceBound v y c).run P w = .ok n.toNat w := by
  subst hv
  simp only [Instr.sliceBound, asIntOf, Sem.run_bind, Sem.run_pure, Result.andThen_ok, Sem.run_ite]
  rw [if_pos h]

theorem bMax_ok {mx : Option AV} {mxv : Option Value} (hmx : OR g mx mxv) {cap : Nat} {m : Option Nat} (h : bMax cap mx = some m) :
    (mx = none ∧ mxv = none ∧ m = none) ∨ ∃ a v k n, mx = some a ∧ mxv = some v ∧ v = .int k n ∧ 0 ≤ n ∧ n ≤ cap ∧ m = some n.toNat := by
  cases mx with
  | none => cases mxv with
    | none => simp only [bMax, Option.some.injEq] at h; exact .inl ⟨rfl, rfl, h.symm⟩
    | some v => exact hmx.elim
  | some a => cases mxv with
    | none => exact hmx.elim
    | some v =>
      simp only [bMax] at h
      cases hn : aNum a with
      | none => simp only [hn] at h; exact absurd h (by simp)
      | some n =>
        simp only [hn] at h
        split at h
        · rename_i hr
          obtain ⟨k, hk⟩ := aNum_ok hn hmx
          exact .inr ⟨a, v, k, n, rfl, rfl, hk, hr.1, hr.2, (Option.some.inj h).symm⟩
        · exact absurd h (by simp)

theorem bHigh_ok {hi : Option AV} {hiv : Option Value} (hhi : OR g hi hiv) {len cap r : Nat} {m : Option Nat} (h : bHigh len cap m hi = some r) :
    (hi = none ∧ hiv = none ∧ m = none ∧ r = len) ∨ ∃ v k n, hiv = some v ∧ v = .int k n ∧ 0 ≤ n ∧ n ≤ ((m.getD cap : Nat) : Int) ∧ r = n.toNat := by
  cases hi with
  | none => cases hiv with
    | some v => exact hhi.elim
    | none => cases m with
      | none => simp only [bHigh, Option.some.injEq] at h; exact .inl ⟨rfl, rfl, rfl, h.symm⟩
      | some k => simp [bHigh] at h
  | some a => cases hiv with
    | none => exact hhi.elim
    | some v =>
      right
      cases hn : aNum a with
      | none => cases m <;> (simp only [bHigh, hn] at h; exact absurd h (by simp))
      | some n =>
        obtain ⟨k, hk⟩ := aNum_ok hn hhi
        cases m with
        | none =>
          simp only [bHigh, hn] at h
          split at h
          · rename_i hr; exact ⟨v, k, n, rfl, hk, hr.1, by simpa using hr.2, (Option.some.inj h).symm⟩
          · exact absurd h (by simp)
        | some q =>
          simp only [bHigh, hn] at h
          split at h
          · rename_i hr; exact ⟨v, k, n, rfl, hk, hr.1, by simpa using hr.2, (Option.some.inj h).symm⟩
          · exact absurd h (by simp)

theorem bLow_ok {lo : Option AV} {lov : Option Value} (hlo : OR g lo lov) {hh r : Nat} (h : bLow hh lo = some r) :
    (lov = none ∧ r = 0) ∨ ∃ v k n, lov = some v ∧ v = .int k n ∧ 0 ≤ n ∧ n ≤ hh ∧ r = n.toNat := by
  cases lo with
  | none => cases lov with
    | none => simp only [bLow, Option.some.injEq] at h; exact .inl ⟨rfl, h.symm⟩
    | some v => exact hlo.elim
  | some a => cases lov with
    | none => exact hlo.elim
    | some v =>
      simp only [bLow] at h
      cases hn : aNum a with
      | none => simp only [hn] at h; exact absurd h (by simp)
      | some n =>
        simp only [hn] at h
        split at h
        · rename_i hr
          obtain ⟨k, hk⟩ := aNum_ok hn hlo
          exact .inr ⟨v, k, n, rfl, hk, hr.1, hr.2, (Option.some.inj h).symm⟩
        · exact absurd h (by simp)

theorem bounds_ok {lo hi mx : Option AV} {lov hiv mxv : Option Value} (hlo : OR g lo lov) (hhi : OR g hi hiv) (hmx : OR g mx mxv)
    {len cap cap' l h : Nat} {m : Option Nat} (hb : aBounds len cap lo hi mx = some (l, h, m)) (hc : cap ≤ cap') (b : Bool) (w : World) :
    (Instr.sliceBounds b len cap' lov hiv mxv).run P w = .ok (l, h, m.getD cap') w ∧ l ≤ h ∧ (∀ k, m = some k → h ≤ k ∧ k ≤ cap) ∧ (m = none → h = len ∨ h ≤ cap) := by
  unfold aBounds at hb
  split at hb
  · exact absurd hb (by simp)
  · rename_i m' hm
    split at hb
    · exact absurd hb (by simp)
    · rename_i h' hh
      split at hb
      · exact absurd hb (by simp)
      · rename_i l' hl
        simp only [Option.some.injEq, Prod.mk.injEq] at hb
        obtain ⟨rfl, rfl, rfl⟩ := hb
        have hq : (∀ k, m' = some k → h' ≤ k ∧ k ≤ cap) ∧ (m' = none → h' = len ∨ h' ≤ cap) := by
          rcases bHigh_ok hhi hh with ⟨_, _, rfl, rfl⟩ | ⟨v, k, n, _, _, q1, q2, rfl⟩
          · exact ⟨(fun k hk => by cases hk), fun _ => .inl rfl⟩
          · rcases bMax_ok hmx hm with ⟨_, _, rfl⟩ | ⟨_, _, _, n2, _, _, _, q3, q4, rfl⟩
            · exact ⟨(fun k hk => by cases hk), fun _ => .inr (by simp at q2; omega)⟩
            · exact ⟨(fun k hk => by cases hk; simp at q2; omega), (fun hk => by cases hk)⟩
        have hle : l' ≤ h' := by
          rcases bLow_ok hlo hl with ⟨_, rfl⟩ | ⟨_, _, n, _, _, q1, q2, rfl⟩
          · exact Nat.zero_le _
          · omega
        refine ⟨?_, hle, hq.1, hq.2⟩
        unfold Instr.sliceBounds
        rcases bMax_ok hmx hm with ⟨rfl, rfl, rfl⟩ | ⟨a2, v2, k2, n2, rfl, rfl, e2, p1, p2, rfl⟩ <;>
          rcases bHigh_ok hhi hh with ⟨rfl, rfl, r1, rfl⟩ | ⟨v3, k3, n3, rfl, e3, p3, p4, rfl⟩ <;>
          rcases bLow_ok hlo hl with ⟨rfl, rfl⟩ | ⟨v4, k4, n4, rfl, e4, p5, p6, rfl⟩ <;>
          first
          | (cases r1; done)
          | (simp only [Sem.run_bind, Sem.run_pure, Result.andThen_ok, Option.getD_some, Option.isSome_some, if_true,
              sliceBound_ok e2 (⟨p1, by omega⟩ : 0 ≤ n2 ∧ n2 ≤ (cap' : Nat)), sliceBound_ok e3 (⟨p3, by simpa using p4⟩ : 0 ≤ n3 ∧ n3 ≤ ((n2.toNat : Nat) : Int)), sliceBound_ok e4 (⟨p5, p6⟩ : 0 ≤ n4 ∧ n4 ≤ _)])
          | (simp only [Sem.run_bind, Sem.run_pure, Result.andThen_ok, Option.getD_some, 
              sliceBound_ok e2 (⟨p1, by omega⟩ : 0 ≤ n2 ∧ n2 ≤ (cap' : Nat)), sliceBound_ok e3 (⟨p3, by simpa using p4⟩ : 0 ≤ n3 ∧ n3 ≤ ((n2.toNat : Nat) : Int))])
          | (simp only [Sem.run_bind, Sem.run_pure, Result.andThen_ok, Option.getD_none, Option.isSome_none, Bool.false_eq_true, if_false, 
              sliceBound_ok e3 (⟨p3, by simp at p4; omega⟩ : 0 ≤ n3 ∧ n3 ≤ (cap' : Nat)), sliceBound_ok e4 (⟨p5, p6⟩ : 0 ≤ n4 ∧ n4 ≤ _)])
          | (simp only [Sem.run_bind, Sem.run_pure, Result.andThen_ok, Option.getD_none, 
              sliceBound_ok e3 (⟨p3, by simp at p4; omega⟩ : 0 ≤ n3 ∧ n3 ≤ (cap' : Nat))])
          | (simp only [Sem.run_bind, Sem.run_pure, Result.andThen_ok, Option.getD_none, Option.isSome_none, Bool.false_eq_true, if_false, 
              sliceBound_ok e4 (⟨p5, p6⟩ : 0 ≤ n4 ∧ n4 ≤ _)])
          | (simp only [Sem.run_bind, Sem.run_pure, Result.andThen_ok, Option.getD_none])

theorem VRc_bsz {fz : Nat → Prop} {w : World} {rf : RFt} {cells : List AV} {c o : Nat} (h : VRc fz w cells rf c o) (h0 : 0 < cells.length) : o + cells.length ≤ bsz w c := by
  obtain ⟨v, h1, _⟩ := VRc_get h (i := cells.length - 1) (List.getElem?_eq_getElem (by omega))
  unfold bsz
  simp only [World.cell?] at h1
  split at h1
  · rename_i cs _ _ hc
    rw [hc]
    have := (Array.getElem?_eq_some_iff.1 (by simpa using h1)).1
    simp only
    omega
  · exact absurd h1 (by simp)

theorem slice_ok (hE : EnvOK P E) (hI : Inv E g) {t : TypeId} {x r : AV} {xv : Value} {lo hi mx : Option AV} {lov hiv mxv : Option Value}
    (hlo : OR g lo lov) (hhi : OR g hi hiv) (hmx : OR g mx mxv) (h : (aSlice E.T t x lo hi mx).run g.H = some r) (hx : g.R x xv) :
    ∃ v', (Instr.sliceAt t xv lov hiv mxv).run P g.w = .ok v' g.w ∧ g.R r v' := by
  unfold aSlice at h
  split at h
  · -- a string
    rename_i s hT
    obtain ⟨inf, _, _, _, _, hu⟩ := hE.ty t _ hT
    simp only [KindOK] at hu
    simp only [Gh.R, VR] at hx; subst hx
    split at h
    · rename_i l hh m hb
      simp only [Rd.run, Option.some.injEq] at h; subst h
      cases mxv with
      | some v => exact hmx.elim
      | none =>
        obtain ⟨h1, _⟩ := bounds_ok (P := P) hlo hhi hmx hb (Nat.le_refl _) false g.w
        refine ⟨.string (s.extract l hh), ?_, by simp only [Gh.R, VR]⟩
        simp only [Instr.sliceAt, Instr.slice, Sem.run_bind, run_under hu, Result.andThen_ok, Option.isSome_none, Bool.false_eq_true, if_false, Sem.run_pure, h1]
    · simp [Rd.run] at h
  · -- nil
    rename_i e _ _ _ hT
    obtain ⟨inf, _, _, _, _, hu⟩ := hE.ty t _ hT
    simp only [KindOK] at hu
    simp only [Gh.R, VR] at hx; subst hx
    split at h
    · rename_i z sz hb hs
      obtain ⟨l, hh, m⟩ := z
      obtain ⟨i, hi, _⟩ := tsz_ok hE hs
      simp only [Rd.run, Option.some.injEq] at h; subst h
      obtain ⟨h1, h2, h3, h4⟩ := bounds_ok (P := P) hlo hhi hmx hb (Nat.le_refl _) true g.w
      refine ⟨.slice none 0 0, ?_, by simp only [Gh.R, VR]⟩
      simp only [Instr.sliceAt, Instr.slice, Sem.run_bind, run_under hu, Result.andThen_ok, h1, run_size hi, Sem.run_pure]
      have e1 : hh = 0 := by
        cases m with
        | none => rcases h4 rfl with h5 | h5 <;> omega
        | some k => have := h3 k rfl; omega
      have e2 : m.getD 0 = 0 := by
        cases m with
        | none => rfl
        | some k => have := h3 k rfl; simp; omega
      subst e1
      rw [e2]
      simp
    · simp [Rd.run] at h
  · -- a slice that nobody writes
    rename_i e _ _ _ cells len ex hT
    obtain ⟨inf, _, _, _, _, hu⟩ := hE.ty t _ hT
    simp only [KindOK] at hu
    simp only [Gh.R, VR] at hx
    obtain ⟨b, o, cap, rfl, hle, hex, hc⟩ := hx
    split at h
    · rename_i l hh m sz hb hs
      obtain ⟨i, hi, hsz⟩ := tsz_ok hE hs
      split at h
      · rename_i hlen
        simp only [Rd.run, Option.some.injEq] at h; subst h
        obtain ⟨h1, h2, h3, h4⟩ := bounds_ok (P := P) hlo hhi hmx hb hle true g.w
        refine ⟨_, by simp only [Instr.sliceAt, Instr.slice, Sem.run_bind, run_under hu, Result.andThen_ok, h1, run_size hi, Sem.run_pure]; rfl, ?_⟩
        have hM : m.getD cap ≤ cap := by
          cases m with
          | none => exact Nat.le_refl _
          | some k => have := (h3 k rfl).2; simp; omega
        have hhM : hh ≤ m.getD cap := by
          cases m with
          | none => simp; rcases h4 rfl with h5 | h5 <;> omega
          | some k => exact (h3 k rfl).1
        simp only [Gh.R, VR]
        refine ⟨b, if m.getD cap = l then o else o + l * sz, m.getD cap - l, ?_, by omega, ?_, ?_⟩
        · rw [hsz]
          split
          · rename_i hq; simp [hq]
          · rename_i hq; simp [add_none]
        · cases m with
          | none =>
            simp only [Bool.and_eq_true, decide_eq_true_eq, Option.getD_none]
            rintro ⟨q1, q2⟩
            have := hex q1
            omega
          | some k =>
            simp only [decide_eq_true_eq, Option.getD_some]
            intro q; omega
        · by_cases hq : m.getD cap - l = 0
          · exact .inl hq
          · right
            rcases hc with hc | ⟨hc1, hc2⟩
            · omega
            · refine ⟨hc1, ?_⟩
              rw [if_neg (by omega)]
              exact VRc_window hc2 _ _
      · simp [Rd.run] at h
    · simp [Rd.run] at h
  · -- a slice of ours
    rename_i e _ _ _ id off len cap gl sz ex hT
    obtain ⟨inf, _, _, _, _, hu⟩ := hE.ty t _ hT
    simp only [KindOK] at hu
    split at h
    · rename_i l hh m s hb hs
      obtain ⟨i, hi, hsz⟩ := tsz_ok hE hs
      split at h
      · rename_i hss
        subst hss
        obtain ⟨bl, k1, k2⟩ := Rd.run_bind_some h
        obtain ⟨k3, k4⟩ := liveBlk_run k1
        simp only [Gh.R, VR, RF] at hx
        obtain ⟨_, b', h6, h7, h8⟩ := hx
        rw [k3] at h6; obtain rfl := Option.some.inj h6
        obtain ⟨o, cap', rfl, c0, c1, c2, c3⟩ := h8 k4
        obtain ⟨h1, h2, h3, h4⟩ := bounds_ok (P := P) hlo hhi hmx hb c1 true g.w
        have hM : m.getD cap' ≤ cap' := by
          cases m with
          | none => exact Nat.le_refl _
          | some k => have := (h3 k rfl).2; simp; omega
        have hmain : ∀ (cp : Nat) (ex' : Bool), cp ≤ m.getD cap' - l → (ex' = true → m.getD cap' - l = cp) →
            ∃ v', (Instr.sliceAt t (.slice (some ⟨(g.mu id).1, o, none⟩) len cap') lov hiv mxv).run P g.w = .ok v' g.w ∧ g.R (.ref id (off + l * s) (hh - l) cp gl s ex') v' := by
          intro cp ex' q1 q2
          refine ⟨_, by simp only [Instr.sliceAt, Instr.slice, Sem.run_bind, run_under hu, Result.andThen_ok, h1, run_size hi, Sem.run_pure]; rfl, ?_⟩
          simp only [Gh.R, VR, RF]
          have hhM : hh ≤ m.getD cap' := by
            cases m with
            | none => rw [Option.getD_none]; rcases h4 rfl with h5 | h5 <;> omega
            | some k => exact (h3 k rfl).1
          refine ⟨rfl, bl, k3, h7, fun _ => ⟨if m.getD cap' = l then o else o + l * s, m.getD cap' - l, ?_, by omega, q1, q2, ?_⟩⟩
          · rw [hsz]
            split
            · rename_i hq; simp [hq]
            · rename_i hq; simp [add_none]
          · by_cases hq : m.getD cap' - l = 0
            · exact .inl hq
            · right
              rcases c3 with c3 | ⟨c3, c4⟩
              · omega
              · rw [if_neg (by omega)]
                refine ⟨by omega, ?_⟩
                have e1 : l * s + (m.getD cap' - l) * s = m.getD cap' * s := by rw [← Nat.add_mul]; congr 1; omega
                have e2 : m.getD cap' * s ≤ cap' * s := Nat.mul_le_mul_right _ hM
                omega
        cases m with
        | some k =>
          simp only [Rd.run, Option.some.injEq] at k2; subst k2
          exact hmain (k - l) true (Nat.le_refl _) (fun _ => rfl)
        | none =>
          simp only [Rd.run, Option.some.injEq] at k2; subst k2
          exact hmain (cap - l) ex (by simp only [Option.getD_none]; omega) (fun q => by rw [Option.getD_none, c2 q])
      · simp [Rd.run] at h
    · simp [Rd.run] at h
  · -- an array of ours
    rename_i n e q _ _ _ id off gl hT
    obtain ⟨inf, _, _, _, _, hu⟩ := hE.ty t _ hT
    simp only [KindOK] at hu
    split at h
    · rename_i l hh m sz hb hs
      obtain ⟨i, hi, hsz⟩ := tsz_ok hE hs
      split at h
      · rename_i hle
        obtain ⟨bl, k1, k2⟩ := Rd.run_bind_some h
        obtain ⟨k3, k4⟩ := liveBlk_run k1
        simp only [Gh.R, VR, RF] at hx
        obtain ⟨_, b', h6, h7, h8⟩ := hx
        rw [k3] at h6; obtain rfl := Option.some.inj h6
        rw [h8 k4]
        simp only [Rd.run, Option.some.injEq] at k2; subst k2
        obtain ⟨h1, h2, h3, h4⟩ := bounds_ok (P := P) hlo hhi hmx hb (Nat.le_refl _) false g.w
        have hM : m.getD n ≤ n := by
          cases m with
          | none => exact Nat.le_refl _
          | some k => have := (h3 k rfl).2; simp; omega
        have hbs := VRc_bsz (blk_cells hI k3 (liveBlk_st k1)) (by omega)
        refine ⟨_, by simp only [Instr.sliceAt, Instr.sureAddr, Sem.run_bind, run_under hu.1, Result.andThen_ok, h1, run_size hi, Sem.run_pure]; rfl, ?_⟩
        simp only [Gh.R, VR, RF]
        have hhM : hh ≤ m.getD n := by
          cases m with
          | none => rw [Option.getD_none]; rcases h4 rfl with h5 | h5 <;> omega
          | some k => exact (h3 k rfl).1
        refine ⟨rfl, bl, k3, h7, fun _ => ⟨if m.getD n = l then (g.mu id).2 + off else (g.mu id).2 + off + l * sz, m.getD n - l, ?_, by omega, Nat.le_refl _, fun _ => rfl, ?_⟩⟩
        · rw [hsz]
          split
          · rename_i hq; simp [hq]
          · rename_i hq; simp [add_none]
        · by_cases hq : m.getD n - l = 0
          · exact .inl hq
          · right
            rw [if_neg (by omega)]
            refine ⟨by omega, ?_⟩
            have e1 : l * sz + (m.getD n - l) * sz = m.getD n * sz := by rw [← Nat.add_mul]; congr 1; omega
            have e2 : m.getD n * sz ≤ n * sz := Nat.mul_le_mul_right _ hM
            omega
      · simp [Rd.run] at h
    · simp [Rd.run] at h
  · -- an array that nobody writes
    rename_i n e q _ _ _ cells off hT
    obtain ⟨inf, _, _, _, _, hu⟩ := hE.ty t _ hT
    simp only [KindOK] at hu
    simp only [Gh.R, VR] at hx
    obtain ⟨b, o, rfl, hc1, hc2⟩ := hx
    split at h
    · rename_i l hh m sz hb hs
      obtain ⟨i, hi, hsz⟩ := tsz_ok hE hs
      split at h
      · rename_i hle
        simp only [Rd.run, Option.some.injEq] at h; subst h
        obtain ⟨h1, h2, h3, h4⟩ := bounds_ok (P := P) hlo hhi hmx hb (Nat.le_refl _) false g.w
        have hhM : hh ≤ m.getD n := by
          cases m with
          | none => simp; rcases h4 rfl with h5 | h5 <;> omega
          | some k => exact (h3 k rfl).1
        refine ⟨_, by simp only [Instr.sliceAt, Instr.sureAddr, Sem.run_bind, run_under hu.1, Result.andThen_ok, h1, run_size hi, Sem.run_pure]; rfl, ?_⟩
        simp only [Gh.R, VR]
        refine ⟨b, if m.getD n = l then o + off else o + off + l * sz, m.getD n - l, ?_, by omega, ?_, ?_⟩
        · rw [hsz]
          split
          · rename_i hq; simp [hq]
          · rename_i hq; simp [add_none]
        · simp only [decide_eq_true_eq]; intro q; omega
        · by_cases hq : m.getD n - l = 0
          · exact .inl hq
          · right
            rw [if_neg (by omega)]
            refine ⟨hc1, ?_⟩
            have := VRc_window hc2 (off + l * sz) ((hh - l) * sz)
            rwa [← Nat.add_assoc] at this
      · simp [Rd.run] at h
    · simp [Rd.run] at h
  · simp [Rd.run] at h

end
end Go.AM
