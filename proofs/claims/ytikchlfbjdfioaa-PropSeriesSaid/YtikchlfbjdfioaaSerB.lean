/- Placings: the centres of all levels. Own work of this project. -/
import Derived.Test.YtikchlfbjdfioaaSerA
import Derived.Test.YtikchlfbjdfioaaPropG
namespace Go.AM.Ytikchlfbjdfioaa
open Go Go.AM
set_option maxRecDepth 100000
set_option maxHeartbeats 4000000

def fcells : List Fr → List AV
  | [] => []
  | f :: l => frc f ++ fcells l
theorem fcells_length : ∀ (l : List Fr), (fcells l).length = l.length * 2
  | [] => rfl
  | s :: l => by simp [fcells, frc, fcells_length l]; omega
theorem fcells_at : ∀ (l : List Fr) (k : Nat) (s : Fr), l[k]? = some s → ((fcells l).drop (k * 2)).take 2 = frc s
  | [], k, s, h => by simp at h
  | a :: l, 0, s, h => by simp at h; subst h; simp [fcells, frc]
  | a :: l, k + 1, s, h => by
    simp at h
    have := fcells_at l k s h
    rw [fcells, show (k + 1) * 2 = 2 + k * 2 by omega, ← List.drop_drop]
    simpa [frc] using this
theorem fcells_snoc : ∀ (l : List Fr) (f : Fr), fcells l ++ frc f = fcells (l ++ [f])
  | [], f => by simp [fcells]
  | a :: l, f => by simp [fcells, ← fcells_snoc l f]
theorem take_fc (l : List Fr) : List.take (l.length * 2) (fcells l) = fcells l := List.take_of_length_le (by rw [fcells_length]; exact Nat.le_refl _)
theorem room78 {n : Nat} (h : n ≤ 1000000) : roomOk E.T 56 n = true := by
  simp only [roomOk, T_56, decide_eq_true_eq]; exact ⟨by decide, rfl, by omega⟩

/-- The weight of all from one on. -/
def allW (ws : List Int) (k : Nat) : Int := sumF (fun i => ws.getD i 0) k (ws.length - k)
theorem all_asks {d : Nat} {ws : List Int} {k : Nat} : Asks (callA E fg 1000 (d + 1)) (.clo 70 []) (fun i => [.int .i64 (ws.getD i 0)]) (fun i => ws.getD i 0) k ws.length := by
  refine ⟨fun _ => rfl, fun site i _ hi => ?_⟩
  have hr : rsOf (bodyA E (callA E fg 1000 d) fg 1000 70 [.int .i64 i, .int .i64 (ws.getD i 0)] [] 0) = some (.int .i64 (ws.getD i 0)) := by
    simp only [seqX_normal, bindR_some, regX_some, bodyX_ret, run_nil, run_cons, fget_cons', fput_cons', forget_nil, forget_cons', frame0, gcM, resA, resL, Nat.reduceBEq, Nat.reduceEqDiff, Nat.reduceLeDiff, ↓reduceIte, reduceCtorEq, Nat.zero_add, Option.map_some, List.elem_cons, List.elem_nil, x70_1, r70_0_l, s70_0_0, x70_3, r70_1_l, s70_1_0, s70_1_1, x70_4, x70_2, x70_0, b_70]
  have := aBack_int (site := site) (seen := []) (C := callA E fg 1000 (d + 1)) (f := 70) (rs_ex hr)
  simp only [opCallV, fi_70, aCall, List.append_nil, snaps, snap, Rd.bind]
  exact this
theorem all_call {d : Nat} {site : Nat → Nat} {seen : List Nat} {ws : List Int} {ex : Bool} {k : Nat} (hk : k ≤ ws.length) (hl : ws.length ≤ 5) (hw : ∀ i, i < ws.length → 1 ≤ ws.getD i 0 ∧ ws.getD i 0 ≤ 9) :
    aBack site true seen (thaw (callA E fg 1000 (d + 2)) 56 [.imm (icells ws) ws.length ex, .int .i64 k, .clo 70 []] [] 0) = .pure (.int .i64 (allW ws k), []) :=
  aBack_int (rs_ex (sumI_run (C := callA E fg 1000 (d + 1)) (ex := ex) hk hl (all_asks (d := d)) (fun i _ h2 => by have := hw i h2; omega)))
theorem sumF_lo {F : Nat → Int} {k n : Nat} (h : ∀ i, k ≤ i → i < n → 1 ≤ F i ∧ F i ≤ 9) : ∀ m, k + m ≤ n → (m : Int) ≤ sumF F k m ∧ sumF F k m ≤ 9 * m
  | 0, _ => by simp [sumF]
  | m + 1, hm => by
    obtain ⟨h1, h2⟩ := sumF_lo h m (by omega)
    obtain ⟨h3, h4⟩ := h (k + m) (by omega) (by omega)
    simp only [sumF]
    omega
theorem allW_b {ws : List Int} (hl : ws.length ≤ 5) (hw : ∀ i, i < ws.length → 1 ≤ ws.getD i 0 ∧ ws.getD i 0 ≤ 9) {k : Nat} (hk : k < ws.length) : 1 ≤ allW ws k ∧ allW ws k ≤ 45 := by
  have := sumF_lo (F := fun i => ws.getD i 0) (k := k) (n := ws.length) (fun i _ h => hw i h) (ws.length - k) (by omega)
  unfold allW
  omega

theorem placed_round {C : Callee} {hs ws : List Int} {e1 e2 : Bool} {i : Nat} {out : List Fr} {f g : Fr} {al h w : Int} (hl : ws.length ≤ 5) (hhl : hs.length = ws.length) (hi : i < ws.length) (ho : out.length = i + 1) (hf : out[i]? = some f)
    (hh : hs[i]? = some h) (hw : ws[i]? = some w) (hb : -1000000000 ≤ h * w ∧ h * w ≤ 1000000000)
    (ca : ∀ (site : Nat → Nat) seen, aBack site true seen (thaw C 56 [.imm (icells ws) ws.length e2, .int .i64 i, .clo 70 []] [] 0) = .pure (.int .i64 al, []))
    (cf : ∀ (site : Nat → Nat) seen, aBack site true seen (thaw C 52 [.agg (frc f), .int .i64 (h * w), .int .i64 al] [] 0) = .pure (.agg (frc g), [])) :
    ∃ s', execA E C (fg 55) 0 38 [] 1000 c55_9 ([(13, .int .i64 i), (12, .int .i64 ws.length), (11, .imm (icells ws) ws.length e2), (5, .ref 10 0 (i + 1) (i + 1) ((i + 1) * 2) 2 false), (1, .imm (icells ws) ws.length e2), (0, .imm (icells hs) hs.length e1)], [(10, ⟨.row, fcells out⟩)]) = some (.normal, s') ∧
      headA [] s' = ([(13, .int .i64 (i + 1 : Nat)), (12, .int .i64 ws.length), (11, .imm (icells ws) ws.length e2), (5, .ref 10 0 (i + 1 + 1) (i + 1 + 1) ((i + 1 + 1) * 2) 2 false), (1, .imm (icells ws) ws.length e2), (0, .imm (icells hs) hs.length e1)], [(10, ⟨.row, fcells (out ++ [g])⟩)]) := by
  have hat := fcells_at out i f hf
  have hfl := fcells_length out
  have hhi : i < hs.length := by omega
  have w1 : wrp .i64 (h * w) = h * w := wrp64 (by omega)
  have hoff : i * 2 + 2 ≤ (i + 1) * 2 := by omega
  have htk : List.take ((i + 1) * 2) (fcells out) = fcells out := by rw [← ho]; exact take_fc out
  rw [ho] at hfl
  have hii : i < i + 1 := by omega
  have hni : ¬ i + 1 ≤ i := by omega
  simp only [frc] at hat cf
  have hsn := fcells_snoc out g
  simp only [frc] at hsn
  simp only [seqX_normal, seqX_none, seqX_ite, bindR_some, regX_some, regX_none, regX_ite, condX_bool, blockX_normal, blockX_none, blockX_ite, Bool.not_true, Bool.not_false, run_nil, run_cons, fget_cons', fput_cons', forget_nil, forget_cons', hget_nil', hget_cons', hset_nil', hset_cons', gcM, stp, just, Rd.bind, Rd.run, Rd.opt, upds, acells, zeroCells, tsz, elemT, rdCells, aLoad, fresh, aIndexAddr, aNum, aBuiltin, aBin, aInt, putC, evO, Nat.reduceAdd, Nat.reduceMul, Nat.reduceLT, Nat.reduceGT, Nat.reduceBEq, Nat.reduceEqDiff, Nat.reduceLeDiff, ↓reduceIte, reduceCtorEq, liveBlk_eq, Nat.zero_add, ne_eq, List.nil_append, List.getElem?_toArray, rtX_some, addT_some, drX_some, runT_nil, runT_cons, neat_eq, descF_nil', descF_cons', ascH_nil', ascH_cons', stpT, Rd.foot, writing, touching, Tr.empty, dynPairs, apartT, disj, List.isEmpty_nil, List.isEmpty_cons, List.map_nil, List.map_cons, Bool.not_false, Bool.not_true, Bool.true_or, Bool.or_true, Bool.false_or, Bool.or_false, Bool.and_true, Bool.true_and, Bool.and_self, decide_true, not_true_eq_false, or_self, aBuildSlice, partsOf, fillA, repC, frz, isSliceT, aAppend, srcOf, window, putD_some, and_true, Int.natCast_nonneg, Int.ofNat_lt, Int.toNat_natCast, aCall, snaps, snap, List.append_nil, List.elem_cons, List.elem_nil, List.length_cons, List.length_nil, List.getElem?_cons_zero, List.getElem?_cons_succ, List.drop_zero, List.take_succ_cons, List.take_nil, List.set_cons_zero, List.set_cons_succ, T_3, T_36, T_56, T_78, x55_10, r55_3_l, s55_3_0, x55_13, x55_14, x55_12, x55_18, r55_4_l, s55_4_0, s55_4_1, s55_4_2, s55_4_3, s55_4_4, x55_20, r55_5_l, s55_5_0, s55_5_1, s55_5_2, s55_5_3, x55_21, r55_6_l, r55_6_dr, r55_6_an, s55_6_0, s55_6_1, s55_6_2, s55_6_3, s55_6_4, s55_6_5, s55_6_6, s55_6_7, s55_6_8, s55_6_9, s55_6_10, s55_6_11, s55_6_12, s55_6_13, s55_6_14, s55_6_15, x55_19, x55_17, x55_16, x55_22, r55_7_l, s55_7_0, s55_7_1, x55_15, x55_11, x55_9, hi, hhl, hfl, hat, hoff, hii, hni, Nat.le_refl, htk, ca, cf, icells_length, icells_at hh, icells_at hw, w1, Nat.mul_one, hsn, wrp_succ (show i < 1000000 by omega), room78 (show i + 1 + 1 ≤ 1000000 by omega)]
  exact ⟨_, rfl, rfl⟩

structure OkL (hs ws : List Int) : Prop where
  ne : 0 < ws.length
  le : ws.length ≤ 5
  eq : hs.length = ws.length
  h : ∀ i, i < ws.length → 1 ≤ hs.getD i 0 ∧ hs.getD i 0 ≤ 4194304
  w : ∀ i, i < ws.length → 1 ≤ ws.getD i 0 ∧ ws.getD i 0 ≤ 9
/-- The centre of a level, as far to the right as it can be. -/
def ctr (hs ws : List Int) : Nat → Fr
  | 0 => ⟨0, 1⟩
  | i + 1 => fadd (ctr hs ws i) (hs.getD i 0 * ws.getD i 0) (allW ws i)
structure FOk (i : Nat) (f : Fr) : Prop where
  n0 : 0 ≤ f.num
  d0 : 0 < f.den
  n1 : f.num ≤ (i * 4194304 : Nat) * f.den
  d1 : f.den ≤ (45 ^ i : Nat)
theorem fadd_ok {i : Nat} {f : Fr} {h w al : Int} (hf : FOk i f) (h1 : 0 ≤ h ∧ h ≤ 4194304) (w1 : 0 ≤ w ∧ w ≤ al) (a1 : 1 ≤ al ∧ al ≤ 45) : FOk (i + 1) (fadd f (h * w) al) := by
  obtain ⟨n0, d0, n1, d1⟩ := hf
  have hd : 0 < f.den * al := Int.mul_pos d0 (by omega)
  obtain ⟨p1, p2⟩ := rd_den (num := f.num * al + h * w * f.den) hd
  have hc := rd_cross (num := f.num * al + h * w * f.den) (den := f.den * al)
  have t1 : f.num * al ≤ (i * 4194304 : Nat) * f.den * al := Int.mul_le_mul_of_nonneg_right n1 (by omega)
  have t2 : h * w ≤ 4194304 * al := Int.mul_le_mul h1.2 w1.2 w1.1 (by omega)
  have t3 : h * w * f.den ≤ 4194304 * al * f.den := Int.mul_le_mul_of_nonneg_right t2 (by omega)
  have t4 : 0 ≤ f.num * al := Int.mul_nonneg n0 (by omega)
  have t5 : 0 ≤ h * w * f.den := Int.mul_nonneg (Int.mul_nonneg h1.1 w1.1) (by omega)
  have e : ((i + 1) * 4194304 : Nat) * (f.den * al) = (i * 4194304 : Nat) * f.den * al + 4194304 * al * f.den := by
    rw [show (((i + 1) * 4194304 : Nat) : Int) = (i * 4194304 : Nat) + 4194304 by omega, Int.add_mul]
    ac_rfl
  refine ⟨?_, p1, ?_, ?_⟩
  · apply Int.le_of_mul_le_mul_right (a := f.den * al) _ hd
    rw [fadd, hc, Int.zero_mul]
    exact Int.mul_nonneg (by omega) (by omega)
  · apply Int.le_of_mul_le_mul_right (a := f.den * al) _ hd
    rw [fadd, hc]
    have : (f.num * al + h * w * f.den) * (rd (f.num * al + h * w * f.den) (f.den * al)).den ≤ (((i + 1) * 4194304 : Nat) * (f.den * al)) * (rd (f.num * al + h * w * f.den) (f.den * al)).den := Int.mul_le_mul_of_nonneg_right (by omega) (by omega)
    refine Int.le_trans this (Int.le_of_eq ?_)
    ac_rfl
  · have : f.den * al ≤ (45 ^ i : Nat) * 45 := Int.mul_le_mul d1 a1.2 (by omega) (by omega)
    have e2 : ((45 ^ (i + 1) : Nat) : Int) = (45 ^ i : Nat) * 45 := by rw [Nat.pow_succ]; simp
    rw [e2]
    exact Int.le_trans p2 this
theorem fok_num {i : Nat} {f : Fr} (h : FOk i f) (hi : i ≤ 5) : f.num ≤ 3869867000000000 ∧ f.den ≤ 184528125 := by
  obtain ⟨n0, d0, n1, d1⟩ := h
  have h45 : 45 ^ i ≤ 45 ^ 5 := Nat.pow_le_pow_right (by omega) hi
  have e6 : (45 : Nat) ^ 5 = 184528125 := by decide
  have hd : f.den ≤ 184528125 := by omega
  have : ((i * 4194304 : Nat) : Int) * f.den ≤ 20971520 * 184528125 := Int.mul_le_mul (by omega) hd (by omega) (by omega)
  omega
theorem sumF_head (F : Nat → Int) (k : Nat) : ∀ m, sumF F k (m + 1) = F k + sumF F (k + 1) m
  | 0 => by simp [sumF]
  | m + 1 => by
    have := sumF_head F k m
    rw [sumF, this, sumF, show k + (m + 1) = k + 1 + m by omega]
    omega
theorem w_le_all {hs ws : List Int} (h : OkL hs ws) {i : Nat} (hi : i < ws.length) : ws.getD i 0 ≤ allW ws i := by
  obtain ⟨m, hm⟩ : ∃ m, ws.length - i = m + 1 := ⟨ws.length - i - 1, by omega⟩
  have e : allW ws i = sumF (fun i => ws.getD i 0) i (m + 1) := by rw [allW, hm]
  rw [e, sumF_head]
  have := sumF_lo (F := fun i => ws.getD i 0) (k := i + 1) (n := ws.length) (fun i _ h2 => h.w i h2) m (by omega)
  omega
theorem ctr_ok {hs ws : List Int} (h : OkL hs ws) : ∀ i, i ≤ ws.length → FOk i (ctr hs ws i)
  | 0, _ => by simp only [ctr]; exact ⟨by decide, by decide, by decide, by decide⟩
  | i + 1, hi => by
    have a := allW_b h.le h.w (k := i) (by omega)
    have b := h.h i (by omega)
    have c := h.w i (by omega)
    exact fadd_ok (ctr_ok h i (by omega)) (by omega) ⟨by omega, w_le_all h (by omega)⟩ a
def plI (hs ws : List Int) (i : Nat) : List Fr := (List.range (i + 1)).map (ctr hs ws)
theorem plI_length (hs ws : List Int) (i : Nat) : (plI hs ws i).length = i + 1 := by simp [plI]
theorem plI_succ (hs ws : List Int) (i : Nat) : plI hs ws (i + 1) = plI hs ws i ++ [ctr hs ws (i + 1)] := by simp [plI, List.range_succ]
theorem plI_at (hs ws : List Int) {n i : Nat} (h : i ≤ n) : (plI hs ws n)[i]? = some (ctr hs ws i) := by
  simp only [plI, List.getElem?_map, List.getElem?_range (show i < n + 1 by omega), Option.map_some]
theorem fadd_call {d : Nat} {site : Nat → Nat} {seen : List Nat} {i : Nat} {f : Fr} {h w al : Int} (hf : FOk i f) (hi : i ≤ 5) (h1 : 0 ≤ h ∧ h ≤ 4194304) (w1 : 0 ≤ w ∧ w ≤ al) (a1 : 1 ≤ al ∧ al ≤ 45) :
    aBack site true seen (thaw (callA E fg 1000 (d + 2)) 52 [.agg (frc f), .int .i64 (h * w), .int .i64 al] [] 0) = .pure (.agg (frc (fadd f (h * w) al)), []) := by
  obtain ⟨b1, b2⟩ := fok_num hf hi
  obtain ⟨n0, d0, _, _⟩ := hf
  have t1 : f.num * al ≤ 3869867000000000 * 45 := Int.mul_le_mul b1 a1.2 (by omega) (by omega)
  have t2 : h * w ≤ 4194304 * 45 := Int.mul_le_mul h1.2 (by omega) w1.1 (by omega)
  have t3 : h * w * f.den ≤ 4194304 * 45 * 184528125 := Int.mul_le_mul t2 b2 (by omega) (by omega)
  have t4 : 0 ≤ f.num * al := Int.mul_nonneg n0 (by omega)
  have t5 : 0 ≤ h * w * f.den := Int.mul_nonneg (Int.mul_nonneg h1.1 w1.1) (by omega)
  have t6 : f.den * al ≤ 184528125 * 45 := Int.mul_le_mul b2 a1.2 (by omega) (by omega)
  have t7 : 0 < f.den * al := Int.mul_pos d0 (by omega)
  exact add_call (M1 := 3869867000000000 * 45) (M2 := 4194304 * 45 * 184528125) ⟨by omega, t1⟩ ⟨by omega, t3⟩ (by omega) ⟨t7, by omega⟩

theorem placed_run {d : Nat} {hs ws : List Int} {e1 e2 : Bool} (h : OkL hs ws) :
    callA E fg 1000 (d + 3) 55 [.imm (icells hs) hs.length e1, .imm (icells ws) ws.length e2] [] 0 = some (.ref 10 0 (ws.length + 1) (ws.length + 1) ((ws.length + 1) * 2) 2 false, [(10, ⟨.row, fcells (plI hs ws ws.length)⟩)]) := by
  change bodyA E (callA E fg 1000 (d + 2)) fg 1000 55 _ _ _ = _
  have hle := h.le
  have hloop := iter_all (f := execA E (callA E fg 1000 (d + 2)) (fg 55) 0 38 [] 1000 c55_9) (hd := headA []) (fun i => ([(13, .int .i64 i), (12, .int .i64 ws.length), (11, .imm (icells ws) ws.length e2), (5, .ref 10 0 (i + 1) (i + 1) ((i + 1) * 2) 2 false), (1, .imm (icells ws) ws.length e2), (0, .imm (icells hs) hs.length e1)], [(10, ⟨.row, fcells (plI hs ws i)⟩)])) ws.length 1000 0
    ([(13, .int .i64 0), (12, .int .i64 ws.length), (11, .imm (icells ws) ws.length e2), (5, .ref 10 0 1 1 2 2 false), (1, .imm (icells ws) ws.length e2), (0, .imm (icells hs) hs.length e1)], [(10, ⟨.row, [.int .i64 0, .int .i64 1]⟩)]) (by rfl) (by omega) (fun i h1 h2 => by
      have hi : i < ws.length := by omega
      obtain ⟨x, hx⟩ := at_ex (l := hs) (k := i) (by have := h.eq; omega)
      obtain ⟨w, hw⟩ := at_ex (l := ws) (k := i) hi
      have bx := h.h i hi
      have bw := h.w i hi
      have ww := w_le_all h hi
      have aw := allW_b h.le h.w hi
      have gx : hs.getD i 0 = x := by simp [hx]
      have gw : ws.getD i 0 = w := by simp [hw]
      rw [gx] at bx
      rw [gw] at bw ww
      have hxw : x * w ≤ 4194304 * 9 := Int.mul_le_mul bx.2 bw.2 (by omega) (by omega)
      have hxw0 : 0 ≤ x * w := Int.mul_nonneg (by omega) (by omega)
      have hcn : ctr hs ws (i + 1) = fadd (ctr hs ws i) (x * w) (allW ws i) := by rw [ctr, gx, gw]
      rw [plI_succ]
      exact placed_round (C := callA E fg 1000 (d + 2)) h.le h.eq hi (plI_length ..) (plI_at hs ws (Nat.le_refl i)) hx hw (by omega) (fun site seen => all_call (Nat.le_of_lt hi) h.le h.w)
        (fun site seen => by rw [hcn]; exact fadd_call (ctr_ok h i (by omega)) (by omega) (by omega) ⟨by omega, ww⟩ aw)) (e := .exit 0) (se := ([(14, .bool false), (13, .int .i64 ws.length), (12, .int .i64 ws.length), (11, .imm (icells ws) ws.length e2), (5, .ref 10 0 (ws.length + 1) (ws.length + 1) ((ws.length + 1) * 2) 2 false), (1, .imm (icells ws) ws.length e2), (0, .imm (icells hs) hs.length e1)], [(10, ⟨.row, fcells (plI hs ws ws.length)⟩)])) (by
      rw [Nat.zero_add]
      simp only [seqX_normal, seqX_exit, bindR_some, regX_some, condX_bool, run_nil, run_cons, fget_cons', fput_cons', forget_nil, forget_cons', gcM, stp, just, Rd.bind, Rd.run, Rd.opt, upds, aBin, aInt, Nat.reduceEqDiff, Nat.reduceLeDiff, ↓reduceIte, decide_false, putD_some, List.elem_nil, x55_10, r55_3_l, s55_3_0, x55_13, x55_14, x55_12, x55_11, x55_9, Int.lt_irrefl, decide_false, Bool.false_eq_true]) (by simp)
  simp only [seqX_normal, bindR_some, regX_some, blockX_exit, bodyX_ret, run_nil, run_cons, fget_cons', fput_nil, fput_cons', forget_nil, forget_cons', hget_nil', hset_nil', frame0, gcM, stp, justO, just, Rd.bind, Rd.run, upds, acells, zeroCells, tsz, elemT, resA, resL, fresh, aLen, aBuiltin, putC, evO, ofV, ofV1, Nat.reduceAdd, Nat.reduceMul, Nat.reduceLT, Nat.reduceGT, Nat.reduceBEq, Nat.reduceEqDiff, Nat.reduceLeDiff, ↓reduceIte, reduceCtorEq, Nat.zero_add, ne_eq, List.nil_append, List.getElem?_toArray, not_true_eq_false, or_self, aBuildSlice, partsOf, fillA, repC, frz, putD_some, and_true, snaps, snap, List.append_nil, Option.map_some, List.elem_cons, List.elem_nil, List.length_cons, List.length_nil, List.getElem?_cons_zero, List.getElem?_cons_succ, List.set_cons_zero, List.set_cons_succ, T_36, T_56, T_78, x55_1, r55_0_l, s55_0_0, x55_3, r55_1_l, s55_1_0, s55_1_1, s55_1_2, x55_6, r55_2_l, s55_2_0, s55_2_1, s55_2_2, x55_8, x55_7, x55_5, x55_24, r55_8_l, s55_8_0, s55_8_1, x55_25, x55_23, x55_4, x55_2, x55_0, b_55, hloop, aBuild, placeF, fillA]
theorem placed_call {d : Nat} {site : Nat → Nat} {seen : List Nat} {hs ws : List Int} {e1 e2 : Bool} (h : OkL hs ws) :
    aBack site true seen (thaw (callA E fg 1000 (d + 3)) 55 [.imm (icells hs) hs.length e1, .imm (icells ws) ws.length e2] [] 0) = back1 (site 0) seen (fun k => .ref k 0 (ws.length + 1) (ws.length + 1) ((ws.length + 1) * 2) 2 false) ⟨.row, fcells (plI hs ws ws.length)⟩ := by
  have e := placed_run (d := d) (e1 := e1) (e2 := e2) h
  have hpl : (fcells (plI hs ws ws.length)).length = (ws.length + 1) * 2 := by rw [fcells_length, plI_length]
  have := aBack_ref (site := site) (seen := seen) (n := ws.length + 1) (sz := 2) (id := 10) (cells := fcells (plI hs ws ws.length)) (H' := [(10, ⟨.row, fcells (plI hs ws ws.length)⟩)]) (C := callA E fg 1000 (d + 3)) (f := 55) (args := [.imm (icells hs) hs.length e1, .imm (icells ws) ws.length e2]) (by rw [hpl]; exact e) (by rw [hget_cons']; simp)
  rw [hpl] at this
  exact this
end Go.AM.Ytikchlfbjdfioaa
