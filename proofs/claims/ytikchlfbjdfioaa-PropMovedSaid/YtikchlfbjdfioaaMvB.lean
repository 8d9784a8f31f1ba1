/- Slack: how far stones can be moved is found. Own work of this project. -/
import Derived.Test.YtikchlfbjdfioaaWkW
namespace Go.AM.Ytikchlfbjdfioaa
open Go Go.AM
set_option maxRecDepth 100000
set_option maxHeartbeats 4000000

theorem clone_run {C : Callee} {l : List Stone} {ex : Bool} (h0 : 0 < l.length) (hl : l.length ≤ 5) : bodyA E C fg 1000 24 [.imm (pcells l) l.length ex] [] 0 = some (.ref 5 0 l.length l.length (l.length * 4) 4 false, [(5, ⟨.row, pcells l⟩)]) := by
  have hn : ¬ l.length = 0 := by omega
  have hn2 : ¬ l.length ≤ 0 := by omega
  have htk := take_pc2 l
  simp only [seqX_normal, bindR_some, regX_some, condX_bool, bodyX_ret, run_nil, run_cons, fget_cons', fput_cons', forget_nil, forget_cons', hget_nil', hget_cons', hset_nil', hset_cons', frame0, gcM, stp, just, Rd.bind, Rd.run, upds, zeroCells, tsz, elemT, resA, resL, fresh, aBuiltin, aBin, Nat.reduceAdd, Nat.reduceLT, Nat.reduceBEq, Nat.reduceEqDiff, Nat.reduceLeDiff, ↓reduceIte, reduceCtorEq, liveBlk_eq, Nat.zero_add, Nat.add_zero, List.nil_append, List.getElem?_toArray, aBuildSlice, partsOf, fillA, repC, frz, isSliceT, aAppend, srcOf, window, putD_some, and_true, snaps, Option.map_some, List.elem_cons, List.elem_nil, List.length_cons, List.length_nil, List.getElem?_cons_zero, List.getElem?_cons_succ, List.drop_zero, List.take_zero, T_27, T_44, x24_1, r24_0_l, s24_0_0, x24_4, r24_1_l, s24_1_0, s24_1_1, x24_7, r24_2_l, s24_2_0, x24_8, x24_6, x24_9, x24_5, x24_3, x24_11, r24_3_l, s24_3_0, s24_3_1, s24_3_2, s24_3_3, x24_12, x24_10, x24_2, x24_0, b_24, pcells_length, hn, hn2, aNil, room44 (show l.length ≤ 1000000 by omega), Nat.zero_mul, Nat.zero_add, Nat.le_refl, Nat.zero_le, List.length_nil, List.nil_append]
theorem clone_call {d : Nat} {site : Nat → Nat} {seen : List Nat} {l : List Stone} {ex : Bool} (h0 : 0 < l.length) (hl : l.length ≤ 5) :
    aBack site true seen (thaw (callA E fg 1000 (d + 1)) 24 [.imm (pcells l) l.length ex] [] 0) = back1 (site 0) seen (fun k => .ref k 0 l.length l.length (l.length * 4) 4 false) ⟨.row, pcells l⟩ := by
  have e := clone_run (C := callA E fg 1000 d) (ex := ex) h0 hl
  have := aBack_ref (site := site) (seen := seen) (n := l.length) (sz := 4) (id := 5) (cells := pcells l) (H' := [(5, ⟨.row, pcells l⟩)]) (C := callA E fg 1000 (d + 1)) (f := 24) (args := [.imm (pcells l) l.length ex]) (by rw [pcells_length]; exact e) (by rw [hget_cons']; simp)
  rw [pcells_length] at this
  exact this

def mvS (x : Stone) (b : Int) : Stone := ⟨x.half, x.pos + b, x.least, x.most⟩
def mvI (l : List Stone) (s : Nat) (b : Int) : Nat → List Stone
  | 0 => l
  | i + 1 => (mvI l s b i).set (s + i) (mvS (l.getD (s + i) default) b)
/-- A pile of which all stones from one on are moved. -/
def mv (l : List Stone) (s : Nat) (b : Int) : List Stone := mvI l s b (l.length - s)
theorem mvI_length (l : List Stone) (s : Nat) (b : Int) : ∀ i, (mvI l s b i).length = l.length
  | 0 => rfl
  | i + 1 => by simp [mvI, mvI_length l s b i]
theorem mvI_at (l : List Stone) (s : Nat) (b : Int) : ∀ i, s + i ≤ l.length → ∀ j, (mvI l s b i)[j]? = if s ≤ j ∧ j < s + i then (l[j]?).map (mvS · b) else l[j]?
  | 0, _, j => by simp [mvI]; intro h1 h2; omega
  | i + 1, hi, j => by
    have ih := mvI_at l s b i (by omega) j
    simp only [mvI, List.getElem?_set, mvI_length]
    by_cases hj : s + i = j
    · subst hj
      obtain ⟨x, hx⟩ := at_ex (l := l) (k := s + i) (by omega)
      rw [if_pos rfl, if_pos (by omega), if_pos (by omega)]
      simp [hx]
    · rw [if_neg hj, ih]
      by_cases h1 : s ≤ j ∧ j < s + i
      · rw [if_pos h1, if_pos (by omega)]
      · rw [if_neg h1, if_neg (by omega)]
theorem mv_at {l : List Stone} {s : Nat} {b : Int} (hs : s ≤ l.length) (j : Nat) : (mv l s b)[j]? = if s ≤ j then (l[j]?).map (mvS · b) else l[j]? := by
  rw [mv, mvI_at l s b _ (by omega) j]
  by_cases h1 : s ≤ j
  · rw [if_pos h1]
    by_cases h2 : j < l.length
    · rw [if_pos (by omega)]
    · rw [if_neg (by omega), List.getElem?_eq_none (by omega)]; rfl
  · rw [if_neg h1, if_neg (by omega)]
theorem mv_length (l : List Stone) (s : Nat) (b : Int) : (mv l s b).length = l.length := mvI_length ..
theorem pcells_set : ∀ (l : List Stone) (k : Nat) (x : Stone) (v : Int), l[k]? = some x → (pcells l).set (k * 4 + 1) (.int .i64 v) = pcells (l.set k ⟨x.half, v, x.least, x.most⟩)
  | [], k, x, v, h => by simp at h
  | a :: l, 0, x, v, h => by simp at h; subst h; simp [pcells, sc]
  | a :: l, k + 1, x, v, h => by
    simp at h
    have ih := pcells_set l k x v h
    have e : (k + 1) * 4 + 1 = (k * 4 + 1) + 4 := by omega
    rw [e, List.set_cons_succ, pcells, pcells]
    simp only [sc, List.cons_append, List.nil_append, List.set_cons_succ]
    rw [ih]

theorem mv_round {C : Callee} {l : List Stone} (hl : l.length ≤ 5) {s : Nat} {b : Int} (hb : 0 ≤ b ∧ b ≤ 134217729) (hf : ∀ (k : Nat) (x : Stone), l[k]? = some x → -33554432 ≤ x.pos ∧ x.pos ≤ 33554432) (i : Nat) (hi : s + i < l.length) :
    ∃ s', execA E C (fg 51) 0 31 [] 1000 c51_9 ([(15, .int .i64 i), (14, .int .i64 (l.length - s : Nat)), (7, .ref 10 0 l.length l.length (l.length * 4) 4 false), (2, .int .i64 b), (1, .int .i64 s)], [(10, ⟨.row, pcells (mvI l s b i)⟩)]) = some (.normal, s') ∧
      headA [] s' = ([(15, .int .i64 (i + 1 : Nat)), (14, .int .i64 (l.length - s : Nat)), (7, .ref 10 0 l.length l.length (l.length * 4) 4 false), (2, .int .i64 b), (1, .int .i64 s)], [(10, ⟨.row, pcells (mvI l s b (i + 1))⟩)]) := by
  obtain ⟨x, hx⟩ := at_ex hi
  have hx2 : (mvI l s b i)[s + i]? = some x := by rw [mvI_at l s b i (by omega), if_neg (by omega)]; exact hx
  obtain ⟨p1, p2⟩ := hf _ x hx
  have hpl : (pcells (mvI l s b i)).length = l.length * 4 := by rw [pcells_length, mvI_length]
  have f1 := pcells_field (mvI l s b i) (s + i) x 1 hx2 (by omega)
  simp only [sc, List.getElem?_cons_succ, List.getElem?_cons_zero] at f1
  have w1 : wrp .i64 ((s : Int) + (i : Int)) = ((s + i : Nat) : Int) := by rw [wrp64 (by omega)]; omega
  have w2 : wrp .i64 (x.pos + b) = x.pos + b := wrp64 (by omega)
  have hset := pcells_set (mvI l s b i) (s + i) x (x.pos + b) hx2
  have he : mvI l s b (i + 1) = (mvI l s b i).set (s + i) ⟨x.half, x.pos + b, x.least, x.most⟩ := by simp [mvI, mvS, hx]
  have hc : i < l.length - s := by omega
  have hlt : (s + i) * 4 + 1 < l.length * 4 := by omega
  have hle1 : (s + i) * 4 + 1 + 1 ≤ l.length * 4 := by omega
  rw [he]
  simp only [seqX_normal, bindR_some, regX_some, condX_bool, blockX_normal, run_nil, run_cons, fget_cons', fput_cons', forget_nil, forget_cons', hget_cons', hset_cons', gcM, stp, just, Rd.bind, Rd.run, Rd.opt, upds, acells, tsz, rdCells, fieldOf, aFieldAddr, aLoad, aStore, opStore, aIndexAddr, aNum, aBin, aInt, putC, Nat.reduceLT, Nat.reduceBEq, Nat.reduceEqDiff, Nat.reduceLeDiff, ↓reduceIte, reduceCtorEq, liveBlk_eq, Nat.zero_add, List.nil_append, decide_true, frz, putD_some, putD_none, and_true, Int.natCast_nonneg, Int.ofNat_lt, Int.toNat_natCast, snaps, snap, List.append_nil, List.elem_cons, List.elem_nil, List.length_cons, List.length_nil, List.getElem?_cons_zero, List.getElem?_cons_succ, T_3, T_27, T_44, x51_10, r51_3_l, s51_3_0, x51_13, x51_14, x51_12, x51_18, r51_4_l, s51_4_0, s51_4_1, x51_19, r51_5_l, s51_5_0, s51_5_1, s51_5_2, s51_5_3, s51_5_4, s51_5_5, s51_5_6, s51_5_7, s51_5_8, s51_5_9, s51_5_10, s51_5_11, x51_17, x51_16, x51_20, r51_6_l, s51_6_0, s51_6_1, x51_15, x51_11, x51_9, hc, hi, hpl, f1, w1, w2, hset, hle1, wrp_succ (show i < 1000000 by omega), List.not_mem_nil]
  exact ⟨_, rfl, rfl⟩
theorem moved_run {d : Nat} {l : List Stone} {ex : Bool} (h0 : 0 < l.length) (hl : l.length ≤ 5) {s : Nat} (hs : s < l.length) {b : Int} (hb : 0 ≤ b ∧ b ≤ 134217729) (hf : ∀ (k : Nat) (x : Stone), l[k]? = some x → -33554432 ≤ x.pos ∧ x.pos ≤ 33554432) :
    callA E fg 1000 (d + 2) 51 [.imm (pcells l) l.length ex, .int .i64 s, .int .i64 b] [] 0 = some (.ref 10 0 l.length l.length (l.length * 4) 4 false, [(10, ⟨.row, pcells (mv l s b)⟩)]) := by
  change bodyA E (callA E fg 1000 (d + 1)) fg 1000 51 _ _ _ = _
  have hcl := fun (site : Nat → Nat) seen => clone_call (d := d) (site := site) (seen := seen) (ex := ex) h0 hl
  have hloop := iter_all (f := execA E (callA E fg 1000 (d + 1)) (fg 51) 0 31 [] 1000 c51_9) (hd := headA []) (fun i => ([(15, .int .i64 i), (14, .int .i64 (l.length - s : Nat)), (7, .ref 10 0 l.length l.length (l.length * 4) 4 false), (2, .int .i64 b), (1, .int .i64 s)], [(10, ⟨.row, pcells (mvI l s b i)⟩)])) (l.length - s) 1000 0
    ([(15, .int .i64 0), (14, .int .i64 (l.length - s : Nat)), (7, .ref 10 0 l.length l.length (l.length * 4) 4 false), (2, .int .i64 b), (1, .int .i64 s)], [(10, ⟨.row, pcells l⟩)]) (by rfl) (by omega) (fun i h1 h2 => by
      exact mv_round (C := callA E fg 1000 (d + 1)) hl hb hf i (by omega)) (e := .exit 0) (se := ([(16, .bool false), (15, .int .i64 (l.length - s : Nat)), (14, .int .i64 (l.length - s : Nat)), (7, .ref 10 0 l.length l.length (l.length * 4) 4 false), (2, .int .i64 b), (1, .int .i64 s)], [(10, ⟨.row, pcells (mv l s b)⟩)])) (by
      rw [Nat.zero_add]
      have e : mvI l s b (l.length - s) = mv l s b := rfl
      simp only [e]
      simp only [seqX_normal, seqX_exit, bindR_some, regX_some, condX_bool, run_nil, run_cons, fget_cons', fput_cons', forget_nil, forget_cons', gcM, stp, just, Rd.bind, Rd.run, Rd.opt, upds, aBin, aInt, Nat.reduceEqDiff, Nat.reduceLeDiff, ↓reduceIte, decide_false, putD_some, List.elem_nil, x51_10, r51_3_l, s51_3_0, x51_13, x51_14, x51_12, x51_11, x51_9, Int.lt_irrefl, decide_false, Bool.false_eq_true]) (by simp)
  have b1 : (s : Int) ≤ l.length := by omega
  have b2 : s ≤ l.length := by omega
  have hbr := fun r bb => back1_run (k := 10) (seen := []) (r := r) (b := bb) (H := []) rfl
  simp only [seqX_normal, bindR_some, regX_some, blockX_exit, bodyX_ret, run_nil, run_cons, fget_cons', fput_nil, fput_cons', forget_nil, forget_cons', hget_cons', hset_nil', frame0, gcM, stp, just, Rd.bind, Rd.run, upds, tsz, resA, resL, aNum, aLen, aBuiltin, Nat.reduceAdd, Nat.reduceMul, Nat.reduceBEq, Nat.reduceEqDiff, Nat.reduceLeDiff, ↓reduceIte, reduceCtorEq, liveBlk_eq, Nat.zero_add, List.nil_append, List.getElem?_toArray, frz, putD_some, and_true, Int.natCast_nonneg, Int.toNat_natCast, aCall, snaps, List.append_nil, Option.map_some, List.elem_cons, List.elem_nil, List.getElem?_cons_zero, snap_imm, T_27, T_44, x51_1, r51_0_l, s51_0_0, x51_3, r51_1_l, s51_1_0, s51_1_1, s51_1_2, x51_6, r51_2_l, s51_2_0, s51_2_1, s51_2_2, s51_2_3, s51_2_4, x51_8, x51_7, x51_5, x51_22, r51_7_l, s51_7_0, s51_7_1, x51_23, x51_21, x51_4, x51_2, x51_0, b_51, hcl, hbr, hloop, pcells_length, aSlice, aBounds, bMax, bHigh, bLow, b1]
theorem moved_call {d : Nat} {site : Nat → Nat} {seen : List Nat} {l : List Stone} {ex : Bool} (h0 : 0 < l.length) (hl : l.length ≤ 5) {s : Nat} (hs : s < l.length) {b : Int} (hb : 0 ≤ b ∧ b ≤ 134217729) (hf : ∀ (k : Nat) (x : Stone), l[k]? = some x → -33554432 ≤ x.pos ∧ x.pos ≤ 33554432) :
    aBack site true seen (thaw (callA E fg 1000 (d + 2)) 51 [.imm (pcells l) l.length ex, .int .i64 s, .int .i64 b] [] 0) = back1 (site 0) seen (fun k => .ref k 0 l.length l.length (l.length * 4) 4 false) ⟨.row, pcells (mv l s b)⟩ := by
  have e := moved_run (d := d) (ex := ex) h0 hl hs hb hf
  have hpl : (pcells (mv l s b)).length = l.length * 4 := by rw [pcells_length, mv_length]
  have := aBack_ref (site := site) (seen := seen) (n := l.length) (sz := 4) (id := 10) (cells := pcells (mv l s b)) (H' := [(10, ⟨.row, pcells (mv l s b)⟩)]) (C := callA E fg 1000 (d + 2)) (f := 51) (args := [.imm (pcells l) l.length ex, .int .i64 s, .int .i64 b]) (by rw [hpl]; exact e) (by rw [hget_cons']; simp)
  rw [hpl] at this
  exact this
end Go.AM.Ytikchlfbjdfioaa
namespace Go.AM.Ytikchlfbjdfioaa
open Go Go.AM
set_option maxRecDepth 100000
set_option maxHeartbeats 4000000

theorem mv_wp {l : List Stone} (h : OkP l) {s : Nat} (hs : s ≤ l.length) {b : Int} (hb : 0 ≤ b ∧ b ≤ 134217729) : WP (mv l s b) := by
  refine ⟨by rw [mv_length]; exact h.ne, by rw [mv_length]; exact h.le, fun k x hx => ?_⟩
  rw [mv_at hs] at hx
  split at hx
  · cases hl : l[k]? with
    | none => rw [hl] at hx; simp at hx
    | some y =>
      rw [hl] at hx
      simp only [Option.map_some, Option.some.injEq] at hx
      obtain ⟨h1, h2, p1, p2, l1, lm, m9⟩ := h.fits k y hl
      rw [← hx]
      simp only [mvS]
      exact ⟨h1, h2, by simp only; omega, by simp only; omega, l1, lm, m9⟩
  · obtain ⟨h1, h2, p1, p2, l1, lm, m9⟩ := h.fits k x hx
    exact ⟨h1, h2, p1, by omega, l1, lm, m9⟩
theorem mv_ok {l : List Stone} (h : OkP l) {s : Nat} (hs : s ≤ l.length) {b : Int} (hb : 0 ≤ b) (hp : ∀ (k : Nat) (x : Stone), l[k]? = some x → x.pos + b ≤ 33554432) : OkP (mv l s b) := by
  refine ⟨by rw [mv_length]; exact h.ne, by rw [mv_length]; exact h.le, fun k x hx => ?_⟩
  rw [mv_at hs] at hx
  split at hx
  · cases hl : l[k]? with
    | none => rw [hl] at hx; simp at hx
    | some y =>
      rw [hl] at hx
      simp only [Option.map_some, Option.some.injEq] at hx
      obtain ⟨h1, h2, p1, p2, l1, lm, m9⟩ := h.fits k y hl
      have := hp k y hl
      rw [← hx]
      simp only [mvS]
      exact ⟨h1, h2, by simp only; omega, by simp only; omega, l1, lm, m9⟩
  · exact h.fits k x hx
theorem mv_zero (l : List Stone) (s : Nat) (hs : s ≤ l.length) : mv l s 0 = l := by
  apply List.ext_getElem?
  intro j
  rw [mv_at hs]
  split
  · cases l[j]? with
    | none => rfl
    | some x => simp [mvS]
  · rfl
theorem sumF_pos (F : Nat → Int) (k : Nat) : ∀ m, 0 < m → (∀ i, k ≤ i → i < k + m → 0 < F i) → 0 < sumF F k m
  | 0, h, _ => by omega
  | m + 1, _, h => by
    have h1 := h (k + m) (by omega) (by omega)
    simp only [sumF]
    by_cases hm : m = 0
    · subst hm; simp only [sumF]; omega
    · have := sumF_pos F k m (by omega) (fun i a b => h i a (by omega))
      omega
/-- What was moved far enough tips. -/
theorem mv_tips {l : List Stone} (h : OkP l) {s : Nat} (hs : s < l.length) {b : Int} (hb : ∀ (k : Nat) (x : Stone), s ≤ k → l[k]? = some x → x.pos + b > rightE l s) : ¬ weakL (mv l s b) < 0 := by
  intro hw
  have hn : s < (mv l s b).length := by rw [mv_length]; exact hs
  have hr : rightE (mv l s b) s = rightE l s := by
    cases s with
    | zero => rfl
    | succ s =>
      have := mv_at (l := l) (s := s + 1) (b := b) (by omega) s
      rw [if_neg (by omega)] at this
      simp only [rightE, List.getD_eq_getElem?_getD, this]
  have := (weak_worst hw hn).1
  have hp : 0 < worstSum (mv l s b) s 1 := by
    refine sumF_pos _ _ _ (by omega) fun i h1 h2 => ?_
    have hi : i < l.length := by rw [mv_length] at h2; omega
    obtain ⟨x, hx⟩ := at_ex hi
    have hx2 := mv_at (l := l) (s := s) (b := b) (by omega) i
    rw [if_pos h1, hx] at hx2
    have hbx := hb i x h1 hx
    obtain ⟨_, _, _, _, l1, lm, m9⟩ := h.fits i x hx
    simp only [List.getD_eq_getElem?_getD, hx2, Option.map_some, Option.getD_some, term, far, hr, wt, mvS]
    rw [if_pos (by omega : (1 : Int) > 0), if_pos (by omega)]
    exact Int.mul_pos (by omega) (by omega)
  omega

theorem slack_loop {d : Nat} {l : List Stone} {ex : Bool} (h : OkP l) {s : Nat} (hs : s < l.length) : ∀ (m F : Nat) (low high : Int) (H : AHeap), 0 ≤ low → low ≤ high → high ≤ 134217728 → high - low < 2 ^ m → m < F →
    ∃ r, low ≤ r ∧ r ≤ high ∧ (weakL (mv l s low) < 0 → weakL (mv l s r) < 0) ∧ (¬ weakL (mv l s (high + 1)) < 0 → ¬ weakL (mv l s (r + 1)) < 0) ∧
      iterA (execA E (callA E fg 1000 (d + 5)) (fg 22) 0 39 [] 1000 c22_24) (headA []) F ([(8, .int .i64 high), (7, .int .i64 low), (1, .int .i64 s), (0, .imm (pcells l) l.length ex)], H) =
        some (.exit 1, [(23, .bool false), (8, .int .i64 r), (7, .int .i64 r), (1, .int .i64 s), (0, .imm (pcells l) l.length ex)], []) := by
  intro m
  have hf : ∀ (k : Nat) (x : Stone), l[k]? = some x → -33554432 ≤ x.pos ∧ x.pos ≤ 33554432 := fun k x hx => by
    obtain ⟨_, _, p1, p2, _, _, _⟩ := h.fits k x hx
    exact ⟨p1, p2⟩
  induction m with
  | zero =>
    intro F low high H h0 h1 h2 h3 hF
    obtain rfl : low = high := by simp at h3; omega
    refine ⟨low, by omega, by omega, fun h => h, fun h => h, ?_⟩
    obtain ⟨F, rfl⟩ : ∃ G, F = G + 1 := ⟨F - 1, by omega⟩
    have hlt : ¬ low < low := by omega
    rw [iterA_succ]
    simp only [seqX_normal, seqX_exit, bindR_some, regX_some, condX_bool, run_nil, run_cons, fget_cons', fput_cons', forget_nil, forget_cons', gcM, stp, just, Rd.bind, Rd.run, Rd.opt, upds, aBin, aInt, Nat.reduceBEq, Nat.reduceEqDiff, Nat.reduceLeDiff, ↓reduceIte, reduceCtorEq, headA_drop, refsF, refsOf, decide_false, putD_some, List.append_nil, List.elem_cons, List.elem_nil, x22_26, r22_7_l, s22_7_0, s22_7_1, s22_7_2, x22_28, x22_29, x22_27, x22_25, x22_24, hlt]
  | succ m ih =>
    intro F low high H h0 h1 h2 h3 hF
    obtain ⟨F, rfl⟩ : ∃ G, F = G + 1 := ⟨F - 1, by omega⟩
    by_cases he : low = high
    · subst he
      refine ⟨low, by omega, by omega, fun h => h, fun h => h, ?_⟩
      have hlt : ¬ low < low := by omega
      rw [iterA_succ]
      simp only [seqX_normal, seqX_exit, bindR_some, regX_some, condX_bool, run_nil, run_cons, fget_cons', fput_cons', forget_nil, forget_cons', gcM, stp, just, Rd.bind, Rd.run, Rd.opt, upds, aBin, aInt, Nat.reduceBEq, Nat.reduceEqDiff, Nat.reduceLeDiff, ↓reduceIte, reduceCtorEq, headA_drop, refsF, refsOf, decide_false, putD_some, List.append_nil, List.elem_cons, List.elem_nil, x22_26, r22_7_l, s22_7_0, s22_7_1, s22_7_2, x22_28, x22_29, x22_27, x22_25, x22_24, hlt]
    · have hlt : low < high := by omega
      have hq : (low + high + 1).tdiv 2 = (low + high + 1) / 2 := Int.tdiv_eq_ediv_of_nonneg (by omega)
      generalize hby : (low + high + 1) / 2 = by_ at hq
      have hb1 : low < by_ := by omega
      have hb2 : by_ ≤ high := by omega
      have hpow : (2 : Int) ^ (m + 1) = 2 * 2 ^ m := by rw [Int.pow_succ]; omega
      have w1 : wrp .i64 (low + high) = low + high := wrp64 (by omega)
      have w2 : wrp .i64 (low + high + 1) = low + high + 1 := wrp64 (by omega)
      have w3 : wrp .i64 by_ = by_ := wrp64 (by omega)
      have w4 : wrp .i64 (by_ - 1) = by_ - 1 := wrp64 (by omega)
      have hmc := fun (site : Nat → Nat) seen => moved_call (d := d + 3) (site := site) (seen := seen) (ex := ex) h.ne h.le hs (b := by_) (by omega) hf
      have hwp := mv_wp h (Nat.le_of_lt hs) (b := by_) (by omega)
      have hwc := fun (site : Nat → Nat) seen => weak_callW (d := d) (site := site) (seen := seen) (ex := false) hwp
      have htk := take_pc2 (mv l s by_)
      have hpl := pcells_length (mv l s by_)
      simp only [mv_length] at hwc htk hpl
      by_cases hw : weakL (mv l s by_) < 0
      · obtain ⟨r, r1, r2, r3, r4, hr⟩ := ih F by_ high [(32, ⟨.row, pcells (mv l s by_)⟩)] (by omega) hb2 h2 (by omega) (by omega)
        refine ⟨r, by omega, r2, fun _ => r3 hw, r4, ?_⟩
        rw [iterA_succ]
        have hbr := fun r bb => back1_run (k := 32) (seen := []) (r := r) (b := bb) (H := []) rfl
        simp only [seqX_normal, bindR_some, regX_some, condX_bool, blockX_normal, run_nil, run_cons, fget_cons', fput_cons', forget_nil, forget_cons', hget_cons', hset_nil', gcM, stp, just, Rd.bind, Rd.run, Rd.opt, upds, aBin, aInt, Nat.reduceMul, Nat.reduceBEq, Nat.reduceEqDiff, Nat.reduceLeDiff, ↓reduceIte, reduceCtorEq, liveBlk_eq, Nat.zero_add, headA_drop, refsF, refsOf, List.nil_append, Bool.and_true, decide_true, frz, putD_some, aCall, snaps, List.append_nil, List.elem_cons, List.elem_nil, List.drop_zero, snap_int, snap_imm, snap_ref, x22_26, r22_7_l, s22_7_0, s22_7_1, s22_7_2, x22_28, x22_29, x22_27, x22_25, x22_32, r22_8_l, s22_8_0, s22_8_1, s22_8_2, s22_8_3, s22_8_4, s22_8_5, x22_34, r22_9_l, s22_9_0, s22_9_1, s22_9_2, s22_9_3, s22_9_4, s22_9_5, x22_36, r22_10_l, s22_10_0, s22_10_1, x22_37, r22_11_l, s22_11_0, s22_11_1, s22_11_2, x22_35, x22_33, x22_31, x22_30, x22_24, hlt, w1, w2, hq, w3, hmc, hbr, hwc, htk, hpl, hw, Int.reduceEq, Nat.le_refl, hr]
      · obtain ⟨r, r1, r2, r3, r4, hr⟩ := ih F low (by_ - 1) [(32, ⟨.row, pcells (mv l s by_)⟩)] h0 (by omega) (by omega) (by omega) (by omega)
        refine ⟨r, r1, by omega, r3, fun _ => r4 (by rw [show by_ - 1 + 1 = by_ by omega]; exact hw), ?_⟩
        rw [iterA_succ]
        have hbr := fun r bb => back1_run (k := 32) (seen := []) (r := r) (b := bb) (H := []) rfl
        simp only [seqX_normal, bindR_some, regX_some, condX_bool, blockX_normal, run_nil, run_cons, fget_cons', fput_cons', forget_nil, forget_cons', hget_cons', hset_nil', gcM, stp, just, Rd.bind, Rd.run, Rd.opt, upds, aBin, aInt, Nat.reduceMul, Nat.reduceBEq, Nat.reduceEqDiff, Nat.reduceLeDiff, ↓reduceIte, reduceCtorEq, liveBlk_eq, Nat.zero_add, headA_drop, refsF, refsOf, List.nil_append, Bool.and_true, decide_true, decide_false, frz, putD_some, aCall, snaps, List.append_nil, List.elem_cons, List.elem_nil, List.drop_zero, snap_int, snap_imm, snap_ref, x22_26, r22_7_l, s22_7_0, s22_7_1, s22_7_2, x22_28, x22_29, x22_27, x22_25, x22_32, r22_8_l, s22_8_0, s22_8_1, s22_8_2, s22_8_3, s22_8_4, s22_8_5, x22_34, r22_9_l, s22_9_0, s22_9_1, s22_9_2, s22_9_3, s22_9_4, s22_9_5, x22_36, r22_10_l, s22_10_0, s22_10_1, x22_37, r22_11_l, s22_11_0, s22_11_1, s22_11_2, x22_35, x22_33, x22_31, x22_30, x22_24, hlt, w1, w2, hq, w3, w4, hmc, hbr, hwc, htk, hpl, hw, Int.reduceEq, Nat.le_refl, hr]
end Go.AM.Ytikchlfbjdfioaa
