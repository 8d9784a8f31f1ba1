/- Maps: made, looked into, written. Own work of this project. -/
import Derived.Test.YtikchlfbjdfioaaAmR
import Derived.MapKept
import Derived.WideKeyRuns
namespace Go.AM
section
variable {P : Program} {E : Env} {g : Gh}

/-! ### Keys -/
theorem eqInts_self {k : IntKind} : ∀ {xs ys : List AV}, eqInts k xs ys = some true → xs = ys ∧ ∀ x ∈ xs, ∃ n, x = .int k n
  | [], [], _ => ⟨rfl, by simp⟩
  | [], _ :: _, h => by simp [eqInts] at h
  | x :: xs, [], h => by cases x <;> simp [eqInts] at h
  | x :: xs, y :: ys, h => by
    cases x <;> cases y <;> simp only [eqInts] at h <;> try (simp at h; done)
    rename_i k1 a k2 b
    split at h
    · rename_i hk
      obtain ⟨rfl, rfl⟩ := hk
      split at h
      · rename_i hab
        obtain ⟨h1, h2⟩ := eqInts_self h
        refine ⟨by rw [h1, show a = b from by simpa using hab], fun z hz => ?_⟩
        rcases List.mem_cons.1 hz with rfl | hz
        · exact ⟨a, rfl⟩
        · exact h2 z hz
      · split at h <;> simp at h
    · simp at h

/-- What a key is: an integer, or a list of integers. -/
theorem eqK_shape (hE : EnvOK P E) {t : TypeId} {x y : AV} (h : eqK E.T t x y = some true) : x = y ∧ ((∃ k n, x = .int k n ∧ P.underlying t = some (.int k)) ∨
    ∃ k n e xs, x = .agg xs ∧ P.underlying t = some (.array n e) ∧ P.cellsOf e = 1 ∧ P.underlying e = some (.int k) ∧ (∃ i, P.info? e = some i) ∧ xs.length = n ∧ ∀ a ∈ xs, ∃ m, a = .int k m) := by
  unfold eqK at h
  split at h
  · rename_i k a k' b
    split at h
    · rename_i q _ _ _ hT
      split at h
      · rename_i hk
        obtain ⟨rfl, rfl⟩ := hk
        simp only [Option.some.injEq, beq_iff_eq] at h; subst h
        exact ⟨rfl, .inl ⟨_, _, rfl, kind_int hE hT⟩⟩
      · simp at h
    · simp at h
  · rename_i xs ys
    split at h
    · rename_i n e q _ _ _ hT
      unfold eqArr at h
      rw [hT] at h
      cases q with
      | false => simp at h
      | true =>
        simp only at h
        obtain ⟨inf, h1, h2, _, _, h3⟩ := hE.ty t _ hT
        simp only [KindOK] at h3
        split at h
        · rename_i k _ _ _ hT2
          split at h
          · rename_i hn
            obtain ⟨q1, q2⟩ := eqInts_self h
            obtain ⟨inf2, r1, _⟩ := hE.ty e _ hT2
            exact ⟨by rw [q1], .inr ⟨k, n, e, xs, rfl, h3.1, (h3.2 trivial).2, kind_int hE hT2, ⟨inf2, r1⟩, hn, q2⟩⟩
          · simp at h
        · simp at h
    · simp at h
  · simp at h

theorem ints_vals {fz : Nat → Prop} {w : World} {rf : RFt} {k : IntKind} : ∀ {xs : List AV} {X : List Value}, (∀ a ∈ xs, ∃ m, a = .int k m) → VRo fz w xs rf X → ∃ ns : List Int, xs = ns.map (AV.int k) ∧ X = ns.map (Value.int k)
  | [], X, _, h => by simp only [VRo] at h; exact ⟨[], rfl, h⟩
  | x :: xs, X, h1, h => by
    simp only [VRo] at h
    obtain ⟨v, t, rfl, _, h2, h3⟩ := h
    obtain ⟨m, rfl⟩ := h1 x (by simp)
    obtain ⟨ns, rfl, rfl⟩ := ints_vals (fun a ha => h1 a (by simp [ha])) h3
    simp only [VR] at h2; subst h2
    exact ⟨m :: ns, rfl, rfl⟩

theorem sameBits_ints (n : Nat) (k : IntKind) (ns : List Int) : Instr.sameBits (n + 2) (.agg (ns.map (Value.int k)).toArray) (.agg (ns.map (Value.int k)).toArray) = true := by
  simp only [Instr.sameBits, beq_self_eq_true, Bool.true_and]
  induction ns with
  | nil => rfl
  | cons a ns ih => simp only [List.map_cons, List.zip_cons_cons, List.all_cons, Instr.sameBits, beq_self_eq_true, Bool.and_self, Bool.true_and]; exact ih

theorem run_part_int {k : IntKind} {e : TypeId} (he : P.underlying e = some (.int k)) {A : Array Value} {i : Nat} {v : Value} (h : A[i]? = some v) (w : World) : (part e A i).run P w = .ok v w := by
  simp only [part, Sem.run_bind, run_isAgg he, aggD, Result.andThen_ok, Bool.false_eq_true, if_false, h, Sem.run_pure]

theorem check_int (em : Bool) (d : Nat) {k : IntKind} {e : TypeId} (he : P.underlying e = some (.int k)) (n : Int) (w : World) : (Instr.checkKey em (d + 1) e (.int k n)).run P w = .ok () w := by
  simp [Instr.checkKey, run_under he]

theorem check_arr (em : Bool) (d : Nat) {k : IntKind} {t e : TypeId} {n : Nat} (hu : P.underlying t = some (.array n e)) (he : P.underlying e = some (.int k)) (hi : ∃ i, P.info? e = some i) (hc : P.cellsOf e = 1) (ns : List Int) (hn : n = ns.length) (w : World) :
    (Instr.checkKey em (d + 2) t (.agg (ns.map (Value.int k)).toArray)).run P w = .ok () w := by
  obtain ⟨inf, hi⟩ := hi
  have hsz : inf.size = 1 := by simpa [Program.cellsOf, hi] using hc
  rw [show d + 2 = (d + 1) + 1 from rfl, Instr.checkKey]
  simp only [Sem.run_bind, run_under hu, Result.andThen_ok]
  simp only [Std.Legacy.Range.forIn_eq_forIn_range', Std.Legacy.Range.size, Nat.sub_zero, Nat.add_one_sub_one, Nat.div_one]
  have each : ∀ i ∈ List.range' 0 n, i < ns.length := fun i hi => by rw [List.mem_range'] at hi; obtain ⟨j, h1, h2⟩ := hi; omega
  generalize List.range' 0 n = is at each
  induction is with
  | nil => simp
  | cons j is ih =>
    have hlt := each j (by simp)
    have hA : (ns.map (Value.int k)).toArray[j * 1]? = some (.int k (ns[j]'hlt)) := by simp [hlt]
    simp only [List.forIn_cons, Sem.run_bind, run_size hi, hsz, Result.andThen_ok, run_part_int he hA, check_int em d he, Sem.run_pure]
    exact ih (fun y hy => each y (by simp [hy]))

/-- A key of a map: its value is sure, it may be asked for, it stays. -/
theorem key_ok (hE : EnvOK P E) {t : TypeId} {x : AV} (h : eqK E.T t x x = some true) {fz : Nat → Prop} {w0 : World} {rf : RFt} {v : Value} (hv : VR fz w0 x rf v) (w : World) :
    (∀ em, (Instr.checkKey em 10000 t v).run P w = .ok () w) ∧ (Instr.keyThatStays v v).run P w = .ok v w ∧ (∀ (fz' : Nat → Prop) (w' : World) (rf' : RFt) v', VR fz' w' x rf' v' → v' = v) ∧ x.leads = false := by
  obtain ⟨h0, h⟩ := eqK_shape hE h
  rcases h with ⟨k, n, rfl, hu⟩ | ⟨k, n, e, xs, rfl, hu, hc, he, hi, hn, hx⟩
  · simp only [VR] at hv; subst hv
    refine ⟨fun em => check_int em 9999 hu _ w, by simp only [Instr.keyThatStays, show Instr.sameBits 10000 (.int k n) (.int k n) = true from by simp only [Instr.sameBits, beq_self_eq_true, Bool.and_self], if_true, Sem.run_pure], fun _ _ _ v' h => by simpa only [VR] using h, rfl⟩
  · simp only [VR] at hv
    obtain ⟨X, rfl, hX⟩ := hv
    obtain ⟨ns, rfl, hns⟩ := ints_vals hx hX
    obtain rfl : X = (ns.map (Value.int k)).toArray := by rw [← hns]
    refine ⟨fun em => check_arr em 9998 hu he hi hc ns (by simpa using hn.symm) w, ?_, fun _ _ _ v' h => ?_, ?_⟩
    · simp only [Instr.keyThatStays, sameBits_ints 9998 k ns, if_true, Sem.run_pure]
    · simp only [VR] at h
      obtain ⟨Y, rfl, hY⟩ := h
      obtain ⟨ms, h1, h2⟩ := ints_vals hx hY
      have : ms = ns := (List.map_inj_right (by intro a b h; injection h)).1 h1.symm
      rw [this] at h2
      rw [show Y = (ns.map (Value.int k)).toArray from by rw [← h2]]
    · simp only [AV.leads]
      clear hx hX hns hn h0 h
      induction ns with
      | nil => rfl
      | cons a ns ih => simp only [List.map_cons, AV.leads.leadsL, AV.leads, Bool.false_or]; exact ih

theorem keyA_iff {t : TypeId} {x : AV} (h : keyA E.T t x = true) : eqK E.T t x x = some true := by
  unfold keyA at h
  split at h
  · rename_i b hb; rw [hb, h]
  · simp at h

/-- Where a key was found, and what is there. -/
def Found (es : List MapEntry) (key : Value) (i : Nat) : Option (Nat × AV) → Option (Nat × Value) → Prop
  | none, r => r = none
  | some (j, v), r => ∃ e, i ≤ j ∧ es[j - i]? = some e ∧ e.key = key ∧ (v.leads = false ∧ v.oneCellA = true ∧ ∀ fz w rf, VR fz w v rf e.val) ∧ r = some (j, e.val)

theorem Found.step {e : MapEntry} {es : List MapEntry} {key : Value} {i : Nat} {r : Option (Nat × AV)} {r' : Option (Nat × Value)} (h : Found es key (i + 1) r r') : Found (e :: es) key i r r' := by
  cases r with
  | none => exact h
  | some x =>
    obtain ⟨j, v⟩ := x
    obtain ⟨e', h1, h2, h3⟩ := h
    refine ⟨e', by omega, ?_, h3⟩
    rw [show j - i = (j - (i + 1)) + 1 from by omega, List.getElem?_cons_succ]
    exact h2

theorem findNow_go (hE : EnvOK P E) {t : TypeId} {k : IntKind} {a : Int} : ∀ (cs : List AV) (es : List MapEntry) (b i : Nat) (r : Option (Nat × AV)), MapR b cs es → findA E.T t (.int k a) cs i = some r →
    ∃ r', Instr.findNow (.int k) (.int k a) es i = some r' ∧ Found es (.int k a) i r r'
  | [], [], _, i, r, _, h => by simp only [findA, Option.some.injEq] at h; subst h; exact ⟨none, rfl, rfl⟩
  | [], _ :: _, _, _, _, h, _ => by simp [MapR] at h
  | [_], _, _, _, _, _, h => by simp [findA] at h
  | _ :: _ :: _, [], _, _, _, h, _ => by simp [MapR] at h
  | x :: v :: cs, e :: es, b, i, r, hm, h => by
    simp only [MapR] at hm
    obtain ⟨⟨m8, m9, m1, m2, m3, m4⟩, m5⟩ := hm
    simp only [findA] at h
    cases x <;> simp only [eqK] at h <;> try (simp at h; done)
    rename_i k' c
    have m6 := m3 (fun _ => False) default noRef
    simp only [VR] at m6
    cases hT : E.T t with
    | none => rw [hT] at h; simp at h
    | some ti =>
      rw [hT] at h
      obtain ⟨tk, z1, z2, z3⟩ := ti
      cases tk <;> try (simp at h; done)
      rename_i q
      simp only at h
      by_cases hq : k = q ∧ k' = q
      · obtain ⟨rfl, rfl⟩ := hq
        simp only [and_self, if_true] at h
        cases hac : (a == c) with
        | true =>
          rw [hac] at h
          simp only [Option.some.injEq] at h; subst h
          refine ⟨some (i, e.val), by simp [Instr.findNow, m6, Instr.sameNow, hac], e, Nat.le_refl _, by simp, ?_, ⟨m1, m2, m4⟩, rfl⟩
          rw [m6, show a = c from by simpa using hac]
        | false =>
          rw [hac] at h
          obtain ⟨r', h1, h2⟩ := findNow_go hE cs es _ (i + 1) r m5 h
          exact ⟨r', by simp [Instr.findNow, m6, Instr.sameNow, hac, h1], h2.step⟩
      · rw [if_neg hq] at h; simp at h

theorem findAsk_go (hE : EnvOK P E) {t : TypeId} {xs : List AV} {key : Value} (hk : g.R (.agg xs) key) : ∀ (cs : List AV) (es : List MapEntry) (b i : Nat) (r : Option (Nat × AV)), MapR b cs es → findA E.T t (.agg xs) cs i = some r →
    ∃ r', (Instr.findAsking t key es i).run P g.w = .ok r' g.w ∧ Found es key i r r'
  | [], [], _, i, r, _, h => by simp only [findA, Option.some.injEq] at h; subst h; exact ⟨none, rfl, rfl⟩
  | [], _ :: _, _, _, _, h, _ => by simp [MapR] at h
  | [_], _, _, _, _, _, h => by simp [findA] at h
  | _ :: _ :: _, [], _, _, _, h, _ => by simp [MapR] at h
  | x :: v :: cs, e :: es, b, i, r, hm, h => by
    simp only [MapR] at hm
    obtain ⟨⟨m8, m9, m1, m2, m3, m4⟩, m5⟩ := hm
    simp only [findA] at h
    cases hq : eqK E.T t (.agg xs) x with
    | none => rw [hq] at h; simp at h
    | some bb =>
      have hq0 := hq
      cases x <;> simp only [eqK] at hq <;> try (simp at hq; done)
      rename_i ys
      split at hq
      · have hk' := hk
        simp only [Gh.R, VR] at hk'
        obtain ⟨X, rfl, hX⟩ := hk'
        have m6 := m3 g.fz g.w (RF g)
        simp only [VR] at m6
        obtain ⟨Y, hY, m6⟩ := m6
        obtain ⟨he, _⟩ := eqArr_ok hE hq hX m6
        have he' : (Op.equal t (.agg X) (.agg Y)).run P g.w = .ok bb g.w := he
        rw [hq0] at h
        cases bb with
        | true =>
          simp only [Option.some.injEq] at h; subst h
          refine ⟨some (i, e.val), by simp only [Instr.findAsking, hY, Sem.run_bind, he', Result.andThen_ok, if_true, Sem.run_pure], e, Nat.le_refl _, by simp, ?_, ⟨m1, m2, m4⟩, rfl⟩
          obtain ⟨hxy, _⟩ := eqK_shape hE hq0
          have hs : eqK E.T t (.agg xs) (.agg xs) = some true := by rw [← hxy] at hq0; exact hq0
          obtain ⟨_, _, hd, _⟩ := key_ok hE hs hk g.w
          rw [← hxy] at m3
          exact hd (fun _ => False) default noRef _ (m3 _ _ _)
        | false =>
          simp only at h
          obtain ⟨r', h1, h2⟩ := findAsk_go hE hk cs es _ (i + 1) r m5 h
          exact ⟨r', by simp only [Instr.findAsking, hY, Sem.run_bind, he', Result.andThen_ok, Bool.false_eq_true, if_false, h1], h2.step⟩
      · simp at hq

theorem find_ok (hE : EnvOK P E) {t : TypeId} {x : AV} {key : Value} (hkA : keyA E.T t x = true) (hk : g.R x key) {cs : List AV} {es : List MapEntry} {r : Option (Nat × AV)} (hm : MapR 0 cs es) (h : findA E.T t x cs 0 = some r) :
    ∃ r', (Instr.findKey t key es).run P g.w = .ok r' g.w ∧ Found es key 0 r r' := by
  obtain ⟨_, hs⟩ := eqK_shape hE (keyA_iff hkA)
  rcases hs with ⟨k, n, rfl, hu⟩ | ⟨k, n, e, xs, rfl, hu, _⟩
  · have hk' := hk
    simp only [Gh.R, VR] at hk'; subst hk'
    obtain ⟨r', h1, h2⟩ := findNow_go hE cs es 0 0 r hm h
    exact ⟨r', by simp only [Instr.findKey, Sem.run_bind, run_under hu, Result.andThen_ok, h1, Sem.run_pure], h2⟩
  · obtain ⟨r', h1, h2⟩ := findAsk_go hE hk cs es 0 0 r hm h
    exact ⟨r', by rw [run_findKey_eq g.w (by rw [hu]) key es]; exact h1, h2⟩

/-! ### The map's block -/
theorem mapR_len : ∀ {cs : List AV} {es : List MapEntry} {b : Nat}, MapR b cs es → cs.length = 2 * es.length
  | [], [], _, _ => rfl
  | [], _ :: _, _, h => by simp [MapR] at h
  | [_], _, _, h => by simp [MapR] at h
  | _ :: _ :: _, [], _, h => by simp [MapR] at h
  | _ :: _ :: cs, _ :: es, b, h => by
    have := mapR_len h.2
    simp only [List.length_cons]; omega

theorem mapR_push {k v : AV} {e : MapEntry} : ∀ {cs : List AV} {es : List MapEntry} {b : Nat}, MapR b cs es → e.born = b + es.length → k.leads = false → v.leads = false → v.oneCellA = true →
    (∀ fz w rf, VR fz w k rf e.key) → (∀ fz w rf, VR fz w v rf e.val) → MapR b (cs ++ [k, v]) (es ++ [e])
  | [], [], _, _, h, h1, h2, h3, h4, h5 => ⟨⟨by simpa using h, h1, h2, h3, h4, h5⟩, trivial⟩
  | [], _ :: _, _, h, _, _, _, _, _, _ => by simp [MapR] at h
  | [_], _, _, h, _, _, _, _, _, _ => by simp [MapR] at h
  | _ :: _ :: _, [], _, h, _, _, _, _, _, _ => by simp [MapR] at h
  | _ :: _ :: cs, _ :: es, b, h, hb, h1, h2, h3, h4, h5 =>
    ⟨h.1, mapR_push h.2 (by simp only [List.length_cons] at hb; omega) h1 h2 h3 h4 h5⟩

theorem mapR_set {v : AV} {f : MapEntry → MapEntry} (hb : ∀ e, (f e).born = e.born) (h1 : v.leads = false) (h2 : v.oneCellA = true) :
    ∀ {cs : List AV} {es : List MapEntry} {b : Nat} (j : Nat), MapR b cs es → (∀ e, es[j]? = some e → (f e).key = e.key ∧ ∀ fz w rf, VR fz w v rf (f e).val) → MapR b (cs.set (2 * j + 1) v) (es.modify j f)
  | [], [], _, j, _, _ => by cases j <;> exact trivial
  | [], _ :: _, _, _, h, _ => by simp [MapR] at h
  | [_], _, _, _, h, _ => by simp [MapR] at h
  | _ :: _ :: _, [], _, _, h, _ => by simp [MapR] at h
  | k :: u :: cs, e :: es, b, 0, h, hf => by
    obtain ⟨q1, q2⟩ := hf e rfl
    obtain ⟨⟨m0, m1, _, _, m4, _⟩, m6⟩ := h
    simp only [Nat.mul_zero, Nat.zero_add, List.set_cons_succ, List.set_cons_zero, List.modify_zero_cons, MapR]
    exact ⟨⟨by rw [hb]; exact m0, m1, h1, h2, by rw [q1]; exact m4, q2⟩, m6⟩
  | k :: u :: cs, e :: es, b, j + 1, h, hf => by
    rw [show 2 * (j + 1) + 1 = (2 * j + 1) + 1 + 1 from by omega]
    simp only [List.set_cons_succ, List.modify_succ_cons, MapR]
    exact ⟨h.1, mapR_set hb h1 h2 j h.2 (fun e he => hf e (by simpa using he))⟩

theorem mapR_born : ∀ {cs : List AV} {es : List MapEntry} {b : Nat}, MapR b cs es → ∀ {j : Nat} {e : MapEntry}, es[j]? = some e → e.born = b + j
  | [], [], _, _, _, _, h => by simp at h
  | [], _ :: _, _, h, _, _, _ => by simp [MapR] at h
  | [_], _, _, h, _, _, _ => by simp [MapR] at h
  | _ :: _ :: _, [], _, h, _, _, _ => by simp [MapR] at h
  | _ :: _ :: cs, e :: es, b, h, j, e', he => by
    cases j with
    | zero => simp only [List.getElem?_cons_zero, Option.some.injEq] at he; subst he; exact h.1.1
    | succ j => rw [List.getElem?_cons_succ] at he; have := mapR_born h.2 he; omega

/-- A key alone is written anew. -/
theorem mapR_key {f : MapEntry → MapEntry} (hb : ∀ e, (f e).born = e.born ∧ (f e).val = e.val) :
    ∀ {cs : List AV} {es : List MapEntry} {b : Nat} (j : Nat), MapR b cs es → (∀ e, es[j]? = some e → (f e).key = e.key) → MapR b cs (es.modify j f)
  | [], [], _, j, _, _ => by cases j <;> exact trivial
  | [], _ :: _, _, _, h, _ => by simp [MapR] at h
  | [_], _, _, _, h, _ => by simp [MapR] at h
  | _ :: _ :: _, [], _, _, h, _ => by simp [MapR] at h
  | k :: u :: cs, e :: es, b, 0, h, hf => by
    have q1 := hf e rfl
    obtain ⟨⟨m0, m1, m2, m3, m4, m5⟩, m6⟩ := h
    simp only [List.modify_zero_cons, MapR]
    exact ⟨⟨by rw [(hb e).1]; exact m0, m1, m2, m3, by rw [q1]; exact m4, by rw [(hb e).2]; exact m5⟩, m6⟩
  | k :: u :: cs, e :: es, b, j + 1, h, hf => by
    simp only [List.modify_succ_cons, MapR]
    exact ⟨h.1, mapR_key hb j h.2 (fun e he => hf e (by simpa using he))⟩

/-- The map's block changes. -/
theorem map_step (hI : Inv E g) {id : Nat} {cs cs' : List AV} {es es' : Array MapEntry} (h : hget g.H id = some ⟨.mp, cs⟩) (hh : g.w.heap[(g.mu id).1]? = some (.map es es.size)) (hl : cs.length ≤ cs'.length) (hr : MapR 0 cs' es'.toList) :
    Inv E ⟨g.mu, g.fz, hset g.H id ⟨.mp, cs'⟩, { g.w with heap := g.w.heap.setIfInBounds (g.mu id).1 (.map es' es'.size) }⟩ ∧ Adv g ⟨g.mu, g.fz, hset g.H id ⟨.mp, cs'⟩, { g.w with heap := g.w.heap.setIfInBounds (g.mu id).1 (.map es' es'.size) }⟩ := by
  have hlt : (g.mu id).1 < g.w.heap.size := (Array.getElem?_eq_some_iff.1 hh).1
  have hbs : bsz { g.w with heap := g.w.heap.setIfInBounds (g.mu id).1 (.map es' es'.size) } (g.mu id).1 = bsz g.w (g.mu id).1 := by
    simp only [bsz, hh, Array.getElem?_setIfInBounds_self_of_lt hlt]
  refine step_block' hI id ⟨.mp, cs'⟩ rfl (fun _ _ => rfl) (fun k => by simp [BS.open_]) rfl rfl rfl (by simp) (fun k hk hne => ?_) (.inl ⟨_, h, rfl, rfl⟩) (.inl hbs) (fun b hb => ?_) (by simpa using hlt) (fun _ _ => ?_)
  · simp only
    rw [Array.getElem?_setIfInBounds_ne (Ne.symm hne)]
  · rw [h] at hb; obtain rfl := Option.some.inj hb
    exact ⟨fun _ => ⟨rfl, rfl⟩, rfl, hl, fun _ => ⟨rfl, hbs⟩⟩
  · exact lies_map rfl ⟨es', by simp [hlt], hr⟩

theorem map_new (hI : Inv E g) {site : Nat} {t : TypeId} {x : AV × Ups} (h : (opMkMap site none).run g.H = some x) : Done E g x ((Instr.makeMap t none).run P g.w) := by
  unfold opMkMap at h
  obtain ⟨us, h1, h2⟩ := Rd.run_bind_some h
  obtain ⟨hfree, rfl⟩ := fresh_run h1
  simp only [Rd.run, Option.some.injEq] at h2; subst h2
  have hs : Inv E (⟨fun j => if j = site then (g.w.heap.size, 0) else g.mu j, g.fz, hset g.H site ⟨.mp, []⟩, g.w.alloc (.map #[] 0)⟩ : Gh) ∧ Adv g ⟨fun j => if j = site then (g.w.heap.size, 0) else g.mu j, g.fz, hset g.H site ⟨.mp, []⟩, g.w.alloc (.map #[] 0)⟩ := by
    have ea : (g.w.alloc (.map #[] 0)).heap = g.w.heap.push (.map #[] 0) := rfl
    refine step_block' hI site ⟨.mp, []⟩ rfl (fun j hj => by simp [hj]) (fun k => by simp [BS.open_]) rfl rfl rfl (by simp [ea]) (fun k hk hne => ?_) (.inr (by simp)) (.inr (by simp)) (fun b hb => by rw [hfree] at hb; exact absurd hb (by simp)) (by simp [ea]) (fun _ _ => ?_)
    · simp only [ea]
      rw [Array.getElem?_push, if_neg (by simpa using hne)]
    · exact lies_map rfl ⟨#[], by simp [ea], trivial⟩
  refine ⟨.map (some g.w.heap.size), _, rfl, rfl, hs.1, hs.2, ?_⟩
  simp only [Gh.R, VR, RF]
  exact ⟨rfl, ⟨.mp, []⟩, by rw [hget_hset, if_pos rfl], rfl, by simp⟩

theorem liveMap_run {i : Nat} {H : AHeap} {cs : List AV} (h : (liveMap i).run H = some cs) : hget H i = some ⟨.mp, cs⟩ := by
  simp only [liveMap, Rd.run] at h
  split at h
  · rename_i c hc; simp only [Rd.run, Option.some.injEq] at h; subst h; exact hc
  · simp [Rd.run] at h

theorem mapv_R (hI : Inv E g) {id : Nat} {mv : Value} (hm : g.R (.mapv id) mv) {cs : List AV} (h : hget g.H id = some ⟨.mp, cs⟩) :
    mv = .map (some (g.mu id).1) ∧ ∃ es, g.w.heap[(g.mu id).1]? = some (.map es es.size) ∧ MapR 0 cs es.toList := by
  simp only [Gh.R, VR, RF] at hm
  obtain ⟨_, b, _, _, h3⟩ := hm
  exact ⟨h3, (hI.blk id _ h).map rfl⟩

/-- What is known when an operation has found its map and looked for its key. -/
theorem aFind_ok (hE : EnvOK P E) (hI : Inv E g) {t : TypeId} {m key : AV} {mv kv : Value} (hm : g.R m mv) (hk : g.R key kv) {f : Nat → List AV → AV → Option (Nat × AV) → Rd (AV × Ups)} {x : AV × Ups} (h : (aFind E.T t m key f).run g.H = some x) :
    ∃ k e id cs es r r' zv, P.underlying t = some (.map k e) ∧ (∀ w, (zeroValue e).run P w = .ok zv w) ∧ mv = .map (some (g.mu id).1) ∧ hget g.H id = some ⟨.mp, cs⟩ ∧
      g.w.heap[(g.mu id).1]? = some (.map es es.size) ∧ MapR 0 cs es.toList ∧ (∀ em w, (Instr.checkKey em 10000 k kv).run P w = .ok () w) ∧ (∀ w, (Instr.keyThatStays kv kv).run P w = .ok kv w) ∧
      (key.leads = false ∧ ∀ fz w rf, VR fz w key rf kv) ∧ (Instr.findKey k kv es.toList).run P g.w = .ok r' g.w ∧ Found es.toList kv 0 r r' ∧ (f id cs (ofV zv) r).run g.H = some x := by
  unfold aFind at h
  split at h
  · rename_i k e z id hT
    unfold mapTy at hT
    split at hT
    · rename_i k' e' z' _ _ _ hT2
      simp only [Option.some.injEq, Prod.mk.injEq] at hT
      obtain ⟨rfl, rfl, rfl⟩ := hT
      obtain ⟨inf, _, _, _, _, hu, inf2, zv, q1, q2, rfl⟩ := hE.ty t _ hT2
      obtain ⟨cs, h1, h2⟩ := Rd.run_bind_some h
      have h3 := liveMap_run h1
      obtain ⟨h4, es, h5, h6⟩ := mapv_R hI hm h3
      split at h2
      · rename_i hkA
        split at h2
        · rename_i r hr
          obtain ⟨r', h7, h8⟩ := find_ok hE hkA hk h6 hr
          obtain ⟨_, _, _, k4⟩ := key_ok hE (keyA_iff hkA) hk g.w
          exact ⟨_, _, id, cs, es, r, r', zv, hu, fun w => by simp only [zeroValue, Sem.run_bind, run_info q1, Result.andThen_ok, q2, Sem.run_pure], h4, h3, h5, h6,
            fun em w => (key_ok hE (keyA_iff hkA) hk w).1 em, fun w => (key_ok hE (keyA_iff hkA) hk w).2.1, ⟨k4, fun fz w rf => noleads_ok _ _ k4 hk⟩, h7, h8, h2⟩
        · simp [Rd.run] at h2
      · simp [Rd.run] at h2
    · simp at hT
  · simp [Rd.run] at h

theorem lookup_ok (hE : EnvOK P E) (hI : Inv E g) {t : TypeId} {m key : AV} {mv kv : Value} {ok : Bool} (hm : g.R m mv) (hk : g.R key kv) {x : AV × Ups} (h : (opLookup E.T t m key ok).run g.H = some x) :
    Done E g x ((Instr.lookup t mv kv ok).run P g.w) := by
  obtain ⟨k, e, id, cs, es, r, r', zv, hu, hz, rfl, h3, h5, h6, hck, hks, hkl, h7, h8, h9⟩ := aFind_ok hE hI hm hk h
  cases r with
  | none =>
    simp only [Found] at h8; subst h8
    simp only [Rd.run, Option.some.injEq] at h9; subst h9
    refine ⟨if ok then .tuple #[zv, .bool false] else zv, g, ?_, rfl, hI, Adv.refl g, ?_⟩
    · simp only [Instr.lookup, Sem.run_bind, run_under hu, Result.andThen_ok, MapKept.run_getObj_map h5, hck, h7, hz, Sem.run_pure]
    · cases ok
      · exact ofV_ok zv _ _ _
      · simp only [Gh.R, cond_true, VR, VRs]
        exact ⟨#[zv, .bool false], rfl, zv, [.bool false], rfl, ofV_ok zv _ _ _, .bool false, [], rfl, rfl, rfl⟩
  | some y =>
    obtain ⟨j, v⟩ := y
    obtain ⟨e0, _, _, _, ⟨hv1, hv2, hv3⟩, rfl⟩ := h8
    simp only [Rd.run, Option.some.injEq] at h9; subst h9
    refine ⟨if ok then .tuple #[e0.val, .bool true] else e0.val, g, ?_, rfl, hI, Adv.refl g, ?_⟩
    · simp only [Instr.lookup, Sem.run_bind, run_under hu, Result.andThen_ok, MapKept.run_getObj_map h5, hck, h7, Sem.run_pure]
    · cases ok
      · exact hv3 _ _ _
      · simp only [Gh.R, cond_true, VR, VRs]
        exact ⟨#[e0.val, .bool true], rfl, e0.val, [.bool true], rfl, hv3 _ _ _, .bool true, [], rfl, rfl, rfl⟩

theorem plainA_iff {v : AV} (h : plainA v = true) : v.leads = false ∧ v.oneCellA = true := by
  simpa [plainA] using h

theorem mapSet_ok (hE : EnvOK P E) (hI : Inv E g) {t : TypeId} {m key v : AV} {mv kv vv : Value} (hm : g.R m mv) (hk : g.R key kv) (hv : g.R v vv) {x : AV × Ups} (h : (opMapSet E.T t m key v).run g.H = some x) :
    ∃ g', (Instr.mapUpdate t mv kv vv).run P g.w = .ok () g'.w ∧ g'.H = upds g.H x.2 ∧ Inv E g' ∧ Adv g g' ∧ x.1 = .tup [] := by
  obtain ⟨k, e, id, cs, es, r, r', zv, hu, hz, rfl, h3, h5, h6, hck, hks, hkl, h7, h8, h9⟩ := aFind_ok hE hI hm hk h
  split at h9
  · rename_i hp
    obtain ⟨p1, p2⟩ := plainA_iff hp
    have hvv : ∀ fz w rf, VR fz w v rf vv := fun fz w rf => noleads_ok _ _ p1 hv
    cases r with
    | none =>
      simp only [Found] at h8; subst h8
      simp only [Rd.run, Option.some.injEq] at h9; subst h9
      have hs := map_step (es' := es.push { key := kv, val := vv, born := es.size }) (cs' := cs ++ [key, v]) hI h3 h5 (by simp) (by
        rw [Array.toList_push]; exact mapR_push h6 (by simp) hkl.1 p1 p2 hkl.2 hvv)
      refine ⟨_, ?_, rfl, hs.1, hs.2, rfl⟩
      simp only [Instr.mapUpdate, Sem.run_bind, run_under hu, Result.andThen_ok, MapKept.run_getObj_map h5, hck, h7, MapKept.run_setObj_map _ h5, Array.size_push]
    | some y =>
      obtain ⟨j, u⟩ := y
      obtain ⟨e0, _, he, hek, _, rfl⟩ := h8
      simp only [Rd.run, Option.some.injEq] at h9; subst h9
      simp only [Nat.sub_zero] at he
      have he' : es[j]? = some e0 := by simpa using he
      have hs := map_step (es' := es.modify j fun e => { e with key := kv, val := vv }) (cs' := cs.set (2 * j + 1) v) hI h3 h5 (by simp) (by
        rw [Array.toList_modify]
        exact mapR_set (f := fun e => { e with key := kv, val := vv }) (fun _ => rfl) p1 p2 j h6 (fun e1 he1 => by rw [he] at he1; obtain rfl := Option.some.inj he1; exact ⟨hek.symm, hvv⟩))
      refine ⟨_, ?_, rfl, hs.1, hs.2, rfl⟩
      simp only [Instr.mapUpdate, Sem.run_bind, run_under hu, Result.andThen_ok, MapKept.run_getObj_map h5, hck, h7, he', Option.map_some, Option.getD_some, hek, hks, MapKept.run_setObj_map _ h5, Array.size_modify]
  · simp [Rd.run] at h9

theorem mapEntry_ok (hE : EnvOK P E) (hI : Inv E g) {t : TypeId} {m key : AV} {mv kv : Value} (hm : g.R m mv) (hk : g.R key kv) {x : AV × Ups} (h : (opMapEntry E.T t m key).run g.H = some x) :
    Done E g x ((Instr.mapEntry t mv kv).run P g.w) := by
  obtain ⟨k, e, id, cs, es, r, r', zv, hu, hz, rfl, h3, h5, h6, hck, hks, hkl, h7, h8, h9⟩ := aFind_ok hE hI hm hk h
  cases r with
  | none =>
    simp only [Found] at h8; subst h8
    simp only at h9
    split at h9
    · rename_i hp
      obtain ⟨p1, p2⟩ := plainA_iff hp
      simp only [Rd.run, Option.some.injEq] at h9; subst h9
      have hs := map_step (es' := es.push { key := kv, val := zv, born := es.size }) (cs' := cs ++ [key, ofV zv]) hI h3 h5 (by simp) (by
        rw [Array.toList_push]; exact mapR_push h6 (by simp) hkl.1 p1 p2 hkl.2 (fun fz w rf => ofV_ok zv fz w rf))
      refine ⟨.tuple #[zv, goInt es.size], _, ?_, rfl, hs.1, hs.2, ?_⟩
      · simp only [Instr.mapEntry, Sem.run_bind, run_under hu, Result.andThen_ok, MapKept.run_getObj_map h5, hck, h7, hz, MapKept.run_setObj_map _ h5, Array.size_push, Sem.run_pure]
      · have hl := mapR_len h6
        simp only [Gh.R, VR, VRs]
        exact ⟨#[zv, goInt es.size], rfl, zv, [goInt es.size], rfl, ofV_ok zv _ _ _, goInt es.size, [], rfl, by rw [hl]; simp [goInt], rfl⟩
    · simp [Rd.run] at h9
  | some y =>
    obtain ⟨j, u⟩ := y
    obtain ⟨e0, _, he, hek, ⟨_, _, hv3⟩, rfl⟩ := h8
    simp only [Rd.run, Option.some.injEq] at h9; subst h9
    simp only [Nat.sub_zero] at he
    have he' : es[j]? = some e0 := by simpa using he
    have hborn : e0.born = j := by simpa using mapR_born h6 he
    have hs := map_step (es' := es.modify j fun e => { e with key := kv }) (cs' := cs) hI h3 h5 (Nat.le_refl _) (by
      rw [Array.toList_modify]
      exact mapR_key (f := fun e => { e with key := kv }) (fun _ => ⟨rfl, rfl⟩) j h6 (fun e1 he1 => by rw [he] at he1; obtain rfl := Option.some.inj he1; exact hek.symm))
    refine ⟨.tuple #[e0.val, goInt j], _, ?_, rfl, hs.1, hs.2, ?_⟩
    · simp only [Instr.mapEntry, Sem.run_bind, run_under hu, Result.andThen_ok, MapKept.run_getObj_map h5, hck, h7, he', Option.map_some, Option.getD_some, hek, hks, MapKept.run_setObj_map _ h5, Array.size_modify, Sem.run_pure, hborn]
    · simp only [Gh.R, VR, VRs]
      exact ⟨#[e0.val, goInt j], rfl, e0.val, [goInt j], rfl, hv3 _ _ _, goInt j, [], rfl, rfl, rfl⟩

theorem entryStore_ok (hI : Inv E g) {t : TypeId} {m s v : AV} {mv sv vv : Value} (hm : g.R m mv) (hs : g.R s sv) (hv : g.R v vv) {x : AV × Ups} (h : (opEntryStore m s v).run g.H = some x) :
    ∃ g', (Instr.entryStore t mv sv vv).run P g.w = .ok () g'.w ∧ g'.H = upds g.H x.2 ∧ Inv E g' ∧ Adv g g' ∧ x.1 = .tup [] := by
  unfold opEntryStore at h
  split at h
  · rename_i id k n
    obtain ⟨cs, h1, h2⟩ := Rd.run_bind_some h
    have h3 := liveMap_run h1
    obtain ⟨rfl, es, h5, h6⟩ := mapv_R hI hm h3
    simp only [Gh.R, VR] at hs; subst hs
    split at h2
    · rename_i hc
      obtain ⟨c1, c2, hp⟩ := hc
      obtain ⟨p1, p2⟩ := plainA_iff hp
      simp only [Rd.run, Option.some.injEq] at h2; subst h2
      have hl := mapR_len h6
      have hlt : n.toNat < es.size := by simp only [Array.length_toList] at hl; omega
      have hfind : es.findIdx? (fun e => (e.born : Int) == n) = some n.toNat := by
        rw [Array.findIdx?_eq_some_iff_getElem]
        refine ⟨hlt, ?_, fun j hj => ?_⟩
        · have : es[n.toNat].born = n.toNat := by simpa using mapR_born h6 (j := n.toNat) (e := es[n.toNat]) (by simp [hlt])
          rw [this]; simp only [beq_iff_eq]; omega
        · have : (es[j]'(by omega)).born = j := by simpa using mapR_born h6 (j := j) (e := es[j]'(by omega)) (by simp)
          rw [this]; simp; omega
      have hs := map_step (es' := es.modify n.toNat fun e => { e with val := vv }) (cs' := cs.set (2 * n.toNat + 1) v) hI h3 h5 (by simp) (by
        rw [Array.toList_modify]
        exact mapR_set (f := fun e => { e with val := vv }) (fun _ => rfl) p1 p2 n.toNat h6 (fun e1 he1 => ⟨rfl, fun fz w rf => noleads_ok _ _ p1 hv⟩))
      refine ⟨_, ?_, rfl, hs.1, hs.2, rfl⟩
      simp only [Instr.entryStore, asInt, asIntOf, Sem.run_bind, Sem.run_pure, Result.andThen_ok, MapKept.run_getObj_map h5, hfind, MapKept.run_setObj_map _ h5, Array.size_modify]
    · simp [Rd.run] at h2
  · simp [Rd.run] at h

end
end Go.AM
