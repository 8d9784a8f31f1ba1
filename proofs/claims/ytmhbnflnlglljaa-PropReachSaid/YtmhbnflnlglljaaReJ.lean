/- A part of the proof of propReach_holds: SerB, SerC, SpD, RatA, SpE, MomA. Own work of this project; texts printed by own programs among it. -/
import Derived.Test.YtmhbnflnlglljaaReI
section
namespace Go.AM.Ytmhbnflnlglljaa
open Go Go.AM
set_option maxRecDepth 100000
set_option maxHeartbeats 4000000
def fcells : List Fr → List AV
  | [] => []
  | f :: l => frc f ++ fcells l
theorem fcells_length : ∀ (l : List Fr), (fcells l).length = l.length * 2
  | [] => rfl
  | s :: l => by simp [fcells, frc, fcells_length l]; omega
theorem fcells_at : ∀ (l : List Fr) (k : Nat) (s : Fr), l[k]? = some s → ((fcells l).drop (k * 2)).take 2 = frc s
  | [], k, s, h => by simp at h
  | a :: l, 0, s, h => by simp at h; subst h; simp [fcells, frc]
  | a :: l, k + 1, s, h => by
    simp at h
    have := fcells_at l k s h
    rw [fcells, show (k + 1) * 2 = 2 + k * 2 by omega, ← List.drop_drop]
    simpa [frc] using this
theorem fcells_snoc : ∀ (l : List Fr) (f : Fr), fcells l ++ frc f = fcells (l ++ [f])
  | [], f => by simp [fcells]
  | a :: l, f => by simp [fcells, ← fcells_snoc l f]
theorem take_fc (l : List Fr) : List.take (l.length * 2) (fcells l) = fcells l := List.take_of_length_le (by rw [fcells_length]; exact Nat.le_refl _)
theorem room78 {n : Nat} (h : n ≤ 1000000) : roomOk E.T 27 n = true := by
  simp only [roomOk, T_27, decide_eq_true_eq]; exact ⟨by decide, rfl, by omega⟩
/-- The weight of all from one on. -/
def allW (ws : List Int) (k : Nat) : Int := sumF (fun i => ws.getD i 0) k (ws.length - k)
theorem all_asks {d : Nat} {ws : List Int} {k : Nat} : Asks (callA E fg 1000 (d + 1)) (.clo 100 []) (fun i => [.int .i64 (ws.getD i 0)]) (fun i => ws.getD i 0) k ws.length := by
  refine ⟨fun _ => rfl, fun site i _ hi => ?_⟩
  have hr : rsOf (bodyA E (callA E fg 1000 d) fg 1000 100 [.int .i64 i, .int .i64 (ws.getD i 0)] [] 0) = some (.int .i64 (ws.getD i 0)) := by
    simp only [seqX_normal, bindR_some, regX_some, bodyX_ret, run_nil, run_cons, fget_cons', fput_cons', forget_nil, forget_cons', frame0, gcM_c, resA, resL, Nat.reduceBEq, Nat.reduceEqDiff, Nat.reduceLeDiff, ↓reduceIte, reduceCtorEq, Nat.zero_add, Option.map_some, List.elem_cons, List.elem_nil, x100_1, r100_0_l, s100_0_0, x100_3, r100_1_l, s100_1_0, s100_1_1, x100_4, x100_2, x100_0, b_100]
  have := aBack_int (site := site) (seen := []) (C := callA E fg 1000 (d + 1)) (f := 100) (rs_ex hr)
  simp only [opCallV, fi_100, aCall, List.append_nil, snaps, snap, Rd.bind]
  exact this
theorem all_call {d : Nat} {site : Nat → Nat} {seen : List Nat} {ws : List Int} {ex : Bool} {k : Nat} (hk : k ≤ ws.length) (hl : ws.length ≤ 5) (hw : ∀ i, i < ws.length → 1 ≤ ws.getD i 0 ∧ ws.getD i 0 ≤ 9) :
    aBack site true seen (thaw (callA E fg 1000 (d + 2)) 72 [.imm (icells ws) ws.length ex, .int .i64 k, .clo 100 []] [] 0) = .pure (.int .i64 (allW ws k), []) :=
  aBack_int (rs_ex (sumI_run (C := callA E fg 1000 (d + 1)) (ex := ex) hk hl (all_asks (d := d)) (fun i _ h2 => by have := hw i h2; omega)))
theorem sumF_lo {F : Nat → Int} {k n : Nat} (h : ∀ i, k ≤ i → i < n → 1 ≤ F i ∧ F i ≤ 9) : ∀ m, k + m ≤ n → (m : Int) ≤ sumF F k m ∧ sumF F k m ≤ 9 * m
  | 0, _ => by simp [sumF]
  | m + 1, hm => by
    obtain ⟨h1, h2⟩ := sumF_lo h m (by omega)
    obtain ⟨h3, h4⟩ := h (k + m) (by omega) (by omega)
    simp only [sumF]
    omega
theorem allW_b {ws : List Int} (hl : ws.length ≤ 5) (hw : ∀ i, i < ws.length → 1 ≤ ws.getD i 0 ∧ ws.getD i 0 ≤ 9) {k : Nat} (hk : k < ws.length) : 1 ≤ allW ws k ∧ allW ws k ≤ 45 := by
  have := sumF_lo (F := fun i => ws.getD i 0) (k := k) (n := ws.length) (fun i _ h => hw i h) (ws.length - k) (by omega)
  unfold allW
  omega
theorem placed_round {C : Callee} {hs ws : List Int} {e1 e2 : Bool} {i : Nat} {out : List Fr} {f g : Fr} {al h w : Int} (hl : ws.length ≤ 5) (hhl : hs.length = ws.length) (hi : i < ws.length) (ho : out.length = i + 1) (hf : out[i]? = some f)
    (hh : hs[i]? = some h) (hw : ws[i]? = some w) (hb : -1000000000 ≤ h * w ∧ h * w ≤ 1000000000)
    (ca : ∀ (site : Nat → Nat) seen, aBack site true seen (thaw C 72 [.imm (icells ws) ws.length e2, .int .i64 i, .clo 100 []] [] 0) = .pure (.int .i64 al, []))
    (cf : ∀ (site : Nat → Nat) seen, aBack site true seen (thaw C 74 [.agg (frc f), .int .i64 (h * w), .int .i64 al] [] 0) = .pure (.agg (frc g), [])) :
    ∃ s', execA E C (fg 71) 0 38 [] 1000 c71_9 ([(13, .int .i64 i), (12, .int .i64 ws.length), (11, .imm (icells ws) ws.length e2), (5, .ref 10 0 (i + 1) (i + 1) ((i + 1) * 2) 2 false), (1, .imm (icells ws) ws.length e2), (0, .imm (icells hs) hs.length e1)], [(10, ⟨.row, fcells out⟩)]) = some (.normal, s') ∧
      headA [] s' = ([(13, .int .i64 (i + 1 : Nat)), (12, .int .i64 ws.length), (11, .imm (icells ws) ws.length e2), (5, .ref 10 0 (i + 1 + 1) (i + 1 + 1) ((i + 1 + 1) * 2) 2 false), (1, .imm (icells ws) ws.length e2), (0, .imm (icells hs) hs.length e1)], [(10, ⟨.row, fcells (out ++ [g])⟩)]) := by
  have hat := fcells_at out i f hf
  have hfl := fcells_length out
  have hhi : i < hs.length := by omega
  have w1 : wrp .i64 (h * w) = h * w := wrp64 (by omega)
  have hoff : i * 2 + 2 ≤ (i + 1) * 2 := by omega
  have htk : List.take ((i + 1) * 2) (fcells out) = fcells out := by rw [← ho]; exact take_fc out
  rw [ho] at hfl
  have hii : i < i + 1 := by omega
  have hni : ¬ i + 1 ≤ i := by omega
  simp only [frc] at hat cf
  have hsn := fcells_snoc out g
  simp only [frc] at hsn
  simp only [seqX_normal, seqX_none, seqX_ite, bindR_some, regX_some, regX_none, regX_ite, condX_bool, blockX_normal, blockX_none, blockX_ite, Bool.not_true, Bool.not_false, run_nil, run_cons, fget_cons', fput_cons', forget_nil, forget_cons', hget_nil', hget_cons', hset_nil', hset_cons', gcM_n, gcM_c, stp, just, Rd.bind, Rd.run, Rd.opt, upds, acells, zeroCells, tsz, elemT, rdCells, aLoad, fresh, aIndexAddr, aNum, aBuiltin, aBin, aInt, putC, evO, Nat.reduceAdd, Nat.reduceMul, Nat.reduceLT, Nat.reduceGT, Nat.reduceBEq, Nat.reduceEqDiff, Nat.reduceLeDiff, ↓reduceIte, reduceCtorEq, liveBlk_eq, Nat.zero_add, ne_eq, List.nil_append, List.getElem?_toArray, rtX_some, addT_some, drX_some, runT_nil, runT_cons, neat_eq, descF_nil', descF_cons', ascH_nil', ascH_cons', stpT, Rd.foot, writing, touching, Tr.empty, dynPairs, apartT, disj, List.isEmpty_nil, List.isEmpty_cons, List.map_nil, List.map_cons, Bool.not_false, Bool.not_true, Bool.true_or, Bool.or_true, Bool.false_or, Bool.or_false, Bool.and_true, Bool.true_and, Bool.and_self, decide_true, not_true_eq_false, or_self, aBuildSlice, partsOf, fillA, repC, frz, isSliceT, aAppend, srcOf, window, putD_some, and_true, Int.natCast_nonneg, Int.ofNat_lt, Int.toNat_natCast, aCall, snaps, snap, List.append_nil, List.elem_cons, List.elem_nil, List.length_cons, List.length_nil, List.getElem?_cons_zero, List.getElem?_cons_succ, List.drop_zero, List.take_succ_cons, List.take_nil, List.set_cons_zero, List.set_cons_succ, T_3, T_47, T_27, T_52, x71_10, r71_3_l, s71_3_0, x71_13, x71_14, x71_12, x71_18, r71_4_l, s71_4_0, s71_4_1, s71_4_2, s71_4_3, s71_4_4, x71_20, r71_5_l, s71_5_0, s71_5_1, s71_5_2, s71_5_3, x71_21, r71_6_l, r71_6_dr, r71_6_an, s71_6_0, s71_6_1, s71_6_2, s71_6_3, s71_6_4, s71_6_5, s71_6_6, s71_6_7, s71_6_8, s71_6_9, s71_6_10, s71_6_11, s71_6_12, s71_6_13, s71_6_14, s71_6_15, x71_19, x71_17, x71_16, x71_22, r71_7_l, s71_7_0, s71_7_1, x71_15, x71_11, x71_9, hi, hhl, hfl, hat, hoff, hii, hni, Nat.le_refl, htk, ca, cf, icells_length, icells_at hh, icells_at hw, w1, Nat.mul_one, hsn, wrp_succ (show i < 1000000 by omega), room78 (show i + 1 + 1 ≤ 1000000 by omega)]
  exact ⟨_, rfl, rfl⟩
structure OkL (hs ws : List Int) : Prop where
  ne : 0 < ws.length
  le : ws.length ≤ 5
  eq : hs.length = ws.length
  h : ∀ i, i < ws.length → 1 ≤ hs.getD i 0 ∧ hs.getD i 0 ≤ 4194304
  w : ∀ i, i < ws.length → 1 ≤ ws.getD i 0 ∧ ws.getD i 0 ≤ 9
/-- The centre of a level, as far to the right as it can be. -/
def ctr (hs ws : List Int) : Nat → Fr
  | 0 => ⟨0, 1⟩
  | i + 1 => fadd (ctr hs ws i) (hs.getD i 0 * ws.getD i 0) (allW ws i)
structure FOk (i : Nat) (f : Fr) : Prop where
  n0 : 0 ≤ f.num
  d0 : 0 < f.den
  n1 : f.num ≤ (i * 4194304 : Nat) * f.den
  d1 : f.den ≤ (45 ^ i : Nat)
theorem fadd_ok {i : Nat} {f : Fr} {h w al : Int} (hf : FOk i f) (h1 : 0 ≤ h ∧ h ≤ 4194304) (w1 : 0 ≤ w ∧ w ≤ al) (a1 : 1 ≤ al ∧ al ≤ 45) : FOk (i + 1) (fadd f (h * w) al) := by
  obtain ⟨n0, d0, n1, d1⟩ := hf
  have hd : 0 < f.den * al := Int.mul_pos d0 (by omega)
  obtain ⟨p1, p2⟩ := rd_den (num := f.num * al + h * w * f.den) hd
  have hc := rd_cross (num := f.num * al + h * w * f.den) (den := f.den * al)
  have t1 : f.num * al ≤ (i * 4194304 : Nat) * f.den * al := Int.mul_le_mul_of_nonneg_right n1 (by omega)
  have t2 : h * w ≤ 4194304 * al := Int.mul_le_mul h1.2 w1.2 w1.1 (by omega)
  have t3 : h * w * f.den ≤ 4194304 * al * f.den := Int.mul_le_mul_of_nonneg_right t2 (by omega)
  have t4 : 0 ≤ f.num * al := Int.mul_nonneg n0 (by omega)
  have t5 : 0 ≤ h * w * f.den := Int.mul_nonneg (Int.mul_nonneg h1.1 w1.1) (by omega)
  have e : ((i + 1) * 4194304 : Nat) * (f.den * al) = (i * 4194304 : Nat) * f.den * al + 4194304 * al * f.den := by
    rw [show (((i + 1) * 4194304 : Nat) : Int) = (i * 4194304 : Nat) + 4194304 by omega, Int.add_mul]
    ac_rfl
  refine ⟨?_, p1, ?_, ?_⟩
  · apply Int.le_of_mul_le_mul_right (a := f.den * al) _ hd
    rw [fadd, hc, Int.zero_mul]
    exact Int.mul_nonneg (by omega) (by omega)
  · apply Int.le_of_mul_le_mul_right (a := f.den * al) _ hd
    rw [fadd, hc]
    have : (f.num * al + h * w * f.den) * (rd (f.num * al + h * w * f.den) (f.den * al)).den ≤ (((i + 1) * 4194304 : Nat) * (f.den * al)) * (rd (f.num * al + h * w * f.den) (f.den * al)).den := Int.mul_le_mul_of_nonneg_right (by omega) (by omega)
    refine Int.le_trans this (Int.le_of_eq ?_)
    ac_rfl
  · have : f.den * al ≤ (45 ^ i : Nat) * 45 := Int.mul_le_mul d1 a1.2 (by omega) (by omega)
    have e2 : ((45 ^ (i + 1) : Nat) : Int) = (45 ^ i : Nat) * 45 := by rw [Nat.pow_succ]; simp
    rw [e2]
    exact Int.le_trans p2 this
theorem fok_num {i : Nat} {f : Fr} (h : FOk i f) (hi : i ≤ 5) : f.num ≤ 3869867000000000 ∧ f.den ≤ 184528125 := by
  obtain ⟨n0, d0, n1, d1⟩ := h
  have h45 : 45 ^ i ≤ 45 ^ 5 := Nat.pow_le_pow_right (by omega) hi
  have e6 : (45 : Nat) ^ 5 = 184528125 := by decide
  have hd : f.den ≤ 184528125 := by omega
  have : ((i * 4194304 : Nat) : Int) * f.den ≤ 20971520 * 184528125 := Int.mul_le_mul (by omega) hd (by omega) (by omega)
  omega
theorem sumF_head (F : Nat → Int) (k : Nat) : ∀ m, sumF F k (m + 1) = F k + sumF F (k + 1) m
  | 0 => by simp [sumF]
  | m + 1 => by
    have := sumF_head F k m
    rw [sumF, this, sumF, show k + (m + 1) = k + 1 + m by omega]
    omega
theorem w_le_all {hs ws : List Int} (h : OkL hs ws) {i : Nat} (hi : i < ws.length) : ws.getD i 0 ≤ allW ws i := by
  obtain ⟨m, hm⟩ : ∃ m, ws.length - i = m + 1 := ⟨ws.length - i - 1, by omega⟩
  have e : allW ws i = sumF (fun i => ws.getD i 0) i (m + 1) := by rw [allW, hm]
  rw [e, sumF_head]
  have := sumF_lo (F := fun i => ws.getD i 0) (k := i + 1) (n := ws.length) (fun i _ h2 => h.w i h2) m (by omega)
  omega
theorem ctr_ok {hs ws : List Int} (h : OkL hs ws) : ∀ i, i ≤ ws.length → FOk i (ctr hs ws i)
  | 0, _ => by simp only [ctr]; exact ⟨by decide, by decide, by decide, by decide⟩
  | i + 1, hi => by
    have a := allW_b h.le h.w (k := i) (by omega)
    have b := h.h i (by omega)
    have c := h.w i (by omega)
    exact fadd_ok (ctr_ok h i (by omega)) (by omega) ⟨by omega, w_le_all h (by omega)⟩ a
def plI (hs ws : List Int) (i : Nat) : List Fr := (List.range (i + 1)).map (ctr hs ws)
theorem plI_length (hs ws : List Int) (i : Nat) : (plI hs ws i).length = i + 1 := by simp [plI]
theorem plI_succ (hs ws : List Int) (i : Nat) : plI hs ws (i + 1) = plI hs ws i ++ [ctr hs ws (i + 1)] := by simp [plI, List.range_succ]
theorem plI_at (hs ws : List Int) {n i : Nat} (h : i ≤ n) : (plI hs ws n)[i]? = some (ctr hs ws i) := by
  simp only [plI, List.getElem?_map, List.getElem?_range (show i < n + 1 by omega), Option.map_some]
theorem fadd_call {d : Nat} {site : Nat → Nat} {seen : List Nat} {i : Nat} {f : Fr} {h w al : Int} (hf : FOk i f) (hi : i ≤ 5) (h1 : 0 ≤ h ∧ h ≤ 4194304) (w1 : 0 ≤ w ∧ w ≤ al) (a1 : 1 ≤ al ∧ al ≤ 45) :
    aBack site true seen (thaw (callA E fg 1000 (d + 2)) 74 [.agg (frc f), .int .i64 (h * w), .int .i64 al] [] 0) = .pure (.agg (frc (fadd f (h * w) al)), []) := by
  obtain ⟨b1, b2⟩ := fok_num hf hi
  obtain ⟨n0, d0, _, _⟩ := hf
  have t1 : f.num * al ≤ 3869867000000000 * 45 := Int.mul_le_mul b1 a1.2 (by omega) (by omega)
  have t2 : h * w ≤ 4194304 * 45 := Int.mul_le_mul h1.2 (by omega) w1.1 (by omega)
  have t3 : h * w * f.den ≤ 4194304 * 45 * 184528125 := Int.mul_le_mul t2 b2 (by omega) (by omega)
  have t4 : 0 ≤ f.num * al := Int.mul_nonneg n0 (by omega)
  have t5 : 0 ≤ h * w * f.den := Int.mul_nonneg (Int.mul_nonneg h1.1 w1.1) (by omega)
  have t6 : f.den * al ≤ 184528125 * 45 := Int.mul_le_mul b2 a1.2 (by omega) (by omega)
  have t7 : 0 < f.den * al := Int.mul_pos d0 (by omega)
  exact add_call (M1 := 3869867000000000 * 45) (M2 := 4194304 * 45 * 184528125) ⟨by omega, t1⟩ ⟨by omega, t3⟩ (by omega) ⟨t7, by omega⟩
theorem placed_run {d : Nat} {hs ws : List Int} {e1 e2 : Bool} (h : OkL hs ws) :
    callA E fg 1000 (d + 3) 71 [.imm (icells hs) hs.length e1, .imm (icells ws) ws.length e2] [] 0 = some (.ref 10 0 (ws.length + 1) (ws.length + 1) ((ws.length + 1) * 2) 2 false, [(10, ⟨.row, fcells (plI hs ws ws.length)⟩)]) := by
  change bodyA E (callA E fg 1000 (d + 2)) fg 1000 71 _ _ _ = _
  have hle := h.le
  have hloop := iter_all (f := execA E (callA E fg 1000 (d + 2)) (fg 71) 0 38 [] 1000 c71_9) (hd := headA []) (fun i => ([(13, .int .i64 i), (12, .int .i64 ws.length), (11, .imm (icells ws) ws.length e2), (5, .ref 10 0 (i + 1) (i + 1) ((i + 1) * 2) 2 false), (1, .imm (icells ws) ws.length e2), (0, .imm (icells hs) hs.length e1)], [(10, ⟨.row, fcells (plI hs ws i)⟩)])) ws.length 1000 0
    ([(13, .int .i64 0), (12, .int .i64 ws.length), (11, .imm (icells ws) ws.length e2), (5, .ref 10 0 1 1 2 2 false), (1, .imm (icells ws) ws.length e2), (0, .imm (icells hs) hs.length e1)], [(10, ⟨.row, [.int .i64 0, .int .i64 1]⟩)]) (by rfl) (by omega) (fun i h1 h2 => by
      have hi : i < ws.length := by omega
      obtain ⟨x, hx⟩ := at_ex (l := hs) (k := i) (by have := h.eq; omega)
      obtain ⟨w, hw⟩ := at_ex (l := ws) (k := i) hi
      have bx := h.h i hi
      have bw := h.w i hi
      have ww := w_le_all h hi
      have aw := allW_b h.le h.w hi
      have gx : hs.getD i 0 = x := by simp [hx]
      have gw : ws.getD i 0 = w := by simp [hw]
      rw [gx] at bx
      rw [gw] at bw ww
      have hxw : x * w ≤ 4194304 * 9 := Int.mul_le_mul bx.2 bw.2 (by omega) (by omega)
      have hxw0 : 0 ≤ x * w := Int.mul_nonneg (by omega) (by omega)
      have hcn : ctr hs ws (i + 1) = fadd (ctr hs ws i) (x * w) (allW ws i) := by rw [ctr, gx, gw]
      rw [plI_succ]
      exact placed_round (C := callA E fg 1000 (d + 2)) h.le h.eq hi (plI_length ..) (plI_at hs ws (Nat.le_refl i)) hx hw (by omega) (fun site seen => all_call (Nat.le_of_lt hi) h.le h.w)
        (fun site seen => by rw [hcn]; exact fadd_call (ctr_ok h i (by omega)) (by omega) (by omega) ⟨by omega, ww⟩ aw)) (e := .exit 0) (se := ([(14, .bool false), (13, .int .i64 ws.length), (12, .int .i64 ws.length), (11, .imm (icells ws) ws.length e2), (5, .ref 10 0 (ws.length + 1) (ws.length + 1) ((ws.length + 1) * 2) 2 false), (1, .imm (icells ws) ws.length e2), (0, .imm (icells hs) hs.length e1)], [(10, ⟨.row, fcells (plI hs ws ws.length)⟩)])) (by
      rw [Nat.zero_add]
      simp only [seqX_normal, seqX_exit, bindR_some, regX_some, condX_bool, run_nil, run_cons, fget_cons', fput_cons', forget_nil, forget_cons', gcM_n, stp, just, Rd.bind, Rd.run, Rd.opt, upds, aBin, aInt, Nat.reduceEqDiff, Nat.reduceLeDiff, ↓reduceIte, decide_false, putD_some, List.elem_nil, x71_10, r71_3_l, s71_3_0, x71_13, x71_14, x71_12, x71_11, x71_9, Int.lt_irrefl, decide_false, Bool.false_eq_true]) (by simp)
  simp only [seqX_normal, bindR_some, regX_some, blockX_exit, bodyX_ret, run_nil, run_cons, fget_cons', fput_nil, fput_cons', forget_nil, forget_cons', hget_nil', hset_nil', frame0, gcM_n, gcM_c, stp, justO, just, Rd.bind, Rd.run, upds, acells, zeroCells, tsz, elemT, resA, resL, fresh, aLen, aBuiltin, putC, evO, ofV, ofV1, Nat.reduceAdd, Nat.reduceMul, Nat.reduceLT, Nat.reduceGT, Nat.reduceBEq, Nat.reduceEqDiff, Nat.reduceLeDiff, ↓reduceIte, reduceCtorEq, Nat.zero_add, ne_eq, List.nil_append, List.getElem?_toArray, not_true_eq_false, or_self, aBuildSlice, partsOf, fillA, repC, frz, putD_some, and_true, snaps, snap, List.append_nil, Option.map_some, List.elem_cons, List.elem_nil, List.length_cons, List.length_nil, List.getElem?_cons_zero, List.getElem?_cons_succ, List.set_cons_zero, List.set_cons_succ, T_47, T_27, T_52, x71_1, r71_0_l, s71_0_0, x71_3, r71_1_l, s71_1_0, s71_1_1, s71_1_2, x71_6, r71_2_l, s71_2_0, s71_2_1, s71_2_2, x71_8, x71_7, x71_5, x71_24, r71_8_l, s71_8_0, s71_8_1, x71_25, x71_23, x71_4, x71_2, x71_0, b_71, hloop, aBuild, placeF, fillA]
theorem placed_call {d : Nat} {site : Nat → Nat} {seen : List Nat} {hs ws : List Int} {e1 e2 : Bool} (h : OkL hs ws) :
    aBack site true seen (thaw (callA E fg 1000 (d + 3)) 71 [.imm (icells hs) hs.length e1, .imm (icells ws) ws.length e2] [] 0) = back1 (site 0) seen (fun k => .ref k 0 (ws.length + 1) (ws.length + 1) ((ws.length + 1) * 2) 2 false) ⟨.row, fcells (plI hs ws ws.length)⟩ := by
  have e := placed_run (d := d) (e1 := e1) (e2 := e2) h
  have hpl : (fcells (plI hs ws ws.length)).length = (ws.length + 1) * 2 := by rw [fcells_length, plI_length]
  have := aBack_ref (site := site) (seen := seen) (n := ws.length + 1) (sz := 2) (id := 10) (cells := fcells (plI hs ws ws.length)) (H' := [(10, ⟨.row, fcells (plI hs ws ws.length)⟩)]) (C := callA E fg 1000 (d + 3)) (f := 71) (args := [.imm (icells hs) hs.length e1, .imm (icells ws) ws.length e2]) (by rw [hpl]; exact e) (by rw [hget_cons']; simp)
  rw [hpl] at this
  exact this
end Go.AM.Ytmhbnflnlglljaa
end

section
namespace Go.AM.Ytmhbnflnlglljaa
open Go Go.AM
set_option maxRecDepth 100000
set_option maxHeartbeats 4000000
theorem eq56 {a b c d : Int} : eqArr E.T 27 [.int .i64 a, .int .i64 b] [.int .i64 c, .int .i64 d] = some (if a = c then (if b = d then true else false) else false) := by
  by_cases h1 : a = c <;> by_cases h2 : b = d <;> simp [eqArr, T_27, T_3, eqFs, h1, h2]
theorem aBack_frac {C : Callee} {site : Nat → Nat} {seen : List Nat} {f : FuncId} {args : List AV} {a b : Int} (h : ∃ H', C f args [] 0 = some (.agg [.int .i64 a, .int .i64 b], H')) : aBack site true seen (thaw C f args [] 0) = .pure (.agg [.int .i64 a, .int .i64 b], []) := by
  obtain ⟨H', h⟩ := h; exact aBack_plain h rfl (fun _ => rfl) rfl
theorem aBack_fracint {C : Callee} {site : Nat → Nat} {seen : List Nat} {f : FuncId} {args : List AV} {a b e : Int} (h : ∃ H', C f args [] 0 = some (.tup [.agg [.int .i64 a, .int .i64 b], .int .i64 e], H')) : aBack site true seen (thaw C f args [] 0) = .pure (.tup [.agg [.int .i64 a, .int .i64 b], .int .i64 e], []) := by
  obtain ⟨H', h⟩ := h; exact aBack_plain h rfl (fun _ => rfl) rfl
theorem loads_ok {d : Nat} {hs ws : List Int} {e1 e2 : Bool} (h : OkL hs ws) : rsOf (callA E fg 1000 (d + 1) 29 [.imm (icells hs) hs.length e1, .imm (icells ws) ws.length e2] [] 0) = some (.int .i64 0) := by
  change rsOf (bodyA E (callA E fg 1000 d) fg 1000 29 _ _ _) = _
  have hle := h.le
  have hne := h.ne
  have heq := h.eq
  have n0 : ¬ (ws.length : Int) = 0 := by omega
  have n5 : ¬ (ws.length : Int) > 5 := by omega
  have hloop := iter_all (f := execA E (callA E fg 1000 d) (fg 29) 0 49 [] 1000 c29_28) (hd := headA []) (fun i => ([(23, .int .i64 i), (22, .int .i64 ws.length), (21, .imm (icells ws) ws.length e2), (0, .imm (icells hs) ws.length e1)], [])) ws.length 1000 0
    ([(23, .int .i64 0), (22, .int .i64 ws.length), (21, .imm (icells ws) ws.length e2), (0, .imm (icells hs) ws.length e1)], []) (by rfl) (by omega) (fun i h1 h2 => by
      have hi : i < ws.length := by omega
      obtain ⟨x, hx⟩ := at_ex (l := hs) (k := i) (by omega)
      obtain ⟨w, hw⟩ := at_ex (l := ws) (k := i) hi
      have bx := h.h i hi
      have bw := h.w i hi
      have gx : hs.getD i 0 = x := by simp [hx]
      have gw : ws.getD i 0 = w := by simp [hw]
      rw [gx] at bx
      rw [gw] at bw
      have x1 : ¬ x < 1 := by omega
      have x2 : ¬ x > 4194304 := by omega
      have w1 : ¬ w < 1 := by omega
      have w2 : ¬ w > 9 := by omega
      simp only [seqX_normal, bindR_some, regX_some, condX_bool, blockX_normal, ↓gd, fset_cons, run_nil, run_cons, fget_cons', fput_cons', forget_nil, forget_cons', gcM_n, gcM_c, stp, opPick, just, Rd.bind, Rd.run, Rd.opt, upds, tsz, rdCells, aLoad, aIndexAddr, aNum, aBin, aInt, Nat.reduceLT, Nat.reduceBEq, Nat.reduceEqDiff, Nat.reduceLeDiff, ↓reduceIte, reduceCtorEq, decide_true, decide_false, putD_some, and_true, Int.natCast_nonneg, Int.ofNat_lt, Int.toNat_natCast, List.elem_cons, List.elem_nil, T_3, T_47, x29_29, r29_8_l, s29_8_0, x29_32, x29_33, x29_31, x29_37, r29_9_l, s29_9_0, s29_9_1, s29_9_2, s29_9_3, s29_9_4, x29_39, r29_10_l, s29_10_0, s29_10_1, s29_10_2, s29_10_3, s29_10_4, s29_10_5, s29_10_6, s29_10_7, s29_10_8, s29_10_9, s29_10_10, s29_10_11, s29_10_12, s29_10_13, s29_10_14, s29_10_15, s29_10_16, s29_10_17, s29_10_18, s29_10_19, x29_42, r29_11_l, s29_11_0, x29_43, x29_41, x29_44, x29_40, x29_38, x29_36, x29_35, x29_45, r29_12_l, s29_12_0, s29_12_1, x29_34, x29_30, x29_28, hi, heq, icells_length, icells_at hx, icells_at hw, x1, x2, w1, w2, Nat.mul_one, wrp_succ (show i < 1000000 by omega)]
      exact ⟨_, rfl, by simp only [headA_nil]⟩) (e := .exit 1) (se := ([(24, .bool false), (23, .int .i64 ws.length), (22, .int .i64 ws.length), (21, .imm (icells ws) ws.length e2), (0, .imm (icells hs) ws.length e1)], [])) (by
      rw [Nat.zero_add]
      simp only [seqX_normal, seqX_exit, bindR_some, regX_some, condX_bool, run_nil, run_cons, fget_cons', fput_cons', forget_nil, forget_cons', gcM_n, stp, just, Rd.bind, Rd.run, Rd.opt, upds, aBin, aInt, Nat.reduceEqDiff, Nat.reduceLeDiff, ↓reduceIte, decide_false, putD_some, List.elem_nil, x29_29, r29_8_l, s29_8_0, x29_32, x29_33, x29_31, x29_30, x29_28, Int.lt_irrefl, decide_false, Bool.false_eq_true]) (by simp)
  simp only [seqX_normal, bindR_some, regX_some, condX_bool, blockX_exit, blockX_normal, bodyX_ret, run_nil, run_cons, fget_cons', fput_nil, fput_cons', forget_nil, forget_cons', frame0, gcM_n, gcM_c, stp, just, Rd.bind, Rd.run, Rd.opt, upds, resA, resL, aLen, aBuiltin, aBin, aInt, Nat.reduceBEq, Nat.reduceEqDiff, Nat.reduceLeDiff, ↓reduceIte, reduceCtorEq, Nat.zero_add, bne_iff_ne, ne_eq, beq_iff_eq, List.getElem?_toArray, decide_false, not_true_eq_false, putD_some, Option.map_some, List.elem_cons, List.elem_nil, List.getElem?_cons_zero, T_47, x29_1, r29_0_l, s29_0_0, x29_5, r29_1_l, s29_1_0, s29_1_1, s29_1_2, s29_1_3, x29_8, r29_2_l, s29_2_0, x29_9, x29_7, x29_11, r29_3_l, s29_3_0, s29_3_1, s29_3_2, s29_3_3, x29_14, r29_4_l, s29_4_0, x29_15, x29_13, x29_17, r29_5_l, s29_5_0, s29_5_1, s29_5_2, s29_5_3, s29_5_4, s29_5_5, x29_20, r29_6_l, s29_6_0, x29_21, x29_19, x29_22, x29_18, x29_16, x29_12, x29_10, x29_6, x29_4, x29_3, x29_25, r29_7_l, s29_7_0, s29_7_1, s29_7_2, x29_27, x29_26, x29_24, x29_47, r29_13_l, s29_13_0, x29_48, x29_46, x29_23, x29_2, x29_0, b_29, heq, n0, n5, hloop]
theorem loads_call {d : Nat} {site : Nat → Nat} {seen : List Nat} {hs ws : List Int} {e1 e2 : Bool} (h : OkL hs ws) : aBack site true seen (thaw (callA E fg 1000 (d + 1)) 29 [.imm (icells hs) hs.length e1, .imm (icells ws) ws.length e2] [] 0) = .pure (.int .i64 0, []) :=
  aBack_int (rs_ex (loads_ok h))
theorem fall_asks {d : Nat} {ws : List Int} {k : Nat} : Asks (callA E fg 1000 (d + 1)) (.clo 73 []) (fun i => [.int .i64 (ws.getD i 0)]) (fun i => ws.getD i 0) k ws.length := by
  refine ⟨fun _ => rfl, fun site i _ hi => ?_⟩
  have hr : rsOf (bodyA E (callA E fg 1000 d) fg 1000 73 [.int .i64 i, .int .i64 (ws.getD i 0)] [] 0) = some (.int .i64 (ws.getD i 0)) := by
    simp only [seqX_normal, bindR_some, regX_some, bodyX_ret, run_nil, run_cons, fget_cons', fput_cons', forget_nil, forget_cons', frame0, gcM_c, resA, resL, Nat.reduceBEq, Nat.reduceEqDiff, Nat.reduceLeDiff, ↓reduceIte, reduceCtorEq, Nat.zero_add, Option.map_some, List.elem_cons, List.elem_nil, x73_1, r73_0_l, s73_0_0, x73_3, r73_1_l, s73_1_0, s73_1_1, x73_4, x73_2, x73_0, b_73]
  have := aBack_int (site := site) (seen := []) (C := callA E fg 1000 (d + 1)) (f := 73) (rs_ex hr)
  simp only [opCallV, fi_73, aCall, List.append_nil, snaps, snap, Rd.bind]
  exact this
theorem fall_call {d : Nat} {site : Nat → Nat} {seen : List Nat} {ws : List Int} {ex : Bool} {k : Nat} (hk : k ≤ ws.length) (hl : ws.length ≤ 5) (hw : ∀ i, i < ws.length → 1 ≤ ws.getD i 0 ∧ ws.getD i 0 ≤ 9) :
    aBack site true seen (thaw (callA E fg 1000 (d + 2)) 72 [.imm (icells ws) ws.length ex, .int .i64 k, .clo 73 []] [] 0) = .pure (.int .i64 (allW ws k), []) :=
  aBack_int (rs_ex (sumI_run (C := callA E fg 1000 (d + 1)) (ex := ex) hk hl (fall_asks (d := d)) (fun i _ h2 => by have := hw i h2; omega)))
/-- The greatest reach of a stone. -/
def farF (hs ws : List Int) (k : Nat) : Fr := fadd (fadd (ctr hs ws k) ((allW ws k - ws.getD k 0) * hs.getD k 0) (allW ws k)) (hs.getD k 0) 1
theorem farthest_run {d : Nat} {hs ws : List Int} {e1 e2 : Bool} (h : OkL hs ws) {k : Nat} (hk : k < ws.length) :
    rsOf (callA E fg 1000 (d + 4) 20 [.imm (icells hs) hs.length e1, .imm (icells ws) ws.length e2, .int .i64 k] [] 0) = some (.tup [.agg (frc (farF hs ws k)), .int .i64 0]) := by
  change rsOf (bodyA E (callA E fg 1000 (d + 3)) fg 1000 20 _ _ _) = _
  have hle := h.le
  have hne := h.ne
  have heq := h.eq
  obtain ⟨x, hx⟩ := at_ex (l := hs) (k := k) (by omega)
  obtain ⟨w, hw⟩ := at_ex (l := ws) (k := k) hk
  have bx := h.h k hk
  have bw := h.w k hk
  have ww := w_le_all h hk
  have aw := allW_b h.le h.w hk
  have gx : hs.getD k 0 = x := by simp [hx]
  have gw : ws.getD k 0 = w := by simp [hw]
  rw [farF]
  rw [gx] at bx ⊢
  rw [gw] at bw ww ⊢
  have k0 : ¬ (k : Int) < 0 := by omega
  have kn : ¬ (k : Int) ≥ ws.length := by omega
  have kn2 : k < ws.length + 1 := by omega
  have cl := fun (site : Nat → Nat) seen => loads_call (d := d + 2) (site := site) (seen := seen) (e1 := e1) (e2 := e2) h
  have cp := fun (site : Nat → Nat) seen => placed_call (d := d) (site := site) (seen := seen) (e1 := e1) (e2 := e2) h
  have cs := fun (site : Nat → Nat) seen => fall_call (d := d + 1) (site := site) (seen := seen) (ex := e2) (Nat.le_of_lt hk) h.le h.w
  have hok := ctr_ok h k (Nat.le_of_lt hk)
  have hf := fcells_at (plI hs ws ws.length) k (ctr hs ws k) (plI_at hs ws (Nat.le_of_lt hk))
  have hfl : (fcells (plI hs ws ws.length)).length = (ws.length + 1) * 2 := by rw [fcells_length, plI_length]
  have hoff : k * 2 + 2 ≤ (ws.length + 1) * 2 := by omega
  have hok2 : FOk (k + 1) (fadd (ctr hs ws k) ((allW ws k - w) * x) (allW ws k)) := by
    rw [Int.mul_comm]
    exact fadd_ok hok (by omega) ⟨by omega, by omega⟩ aw
  have ca : ∀ (site : Nat → Nat) seen, aBack site true seen (thaw (callA E fg 1000 (d + 3)) 74 [.agg (frc (ctr hs ws k)), .int .i64 ((allW ws k - w) * x), .int .i64 (allW ws k)] [] 0) = .pure (.agg (frc (fadd (ctr hs ws k) ((allW ws k - w) * x) (allW ws k))), []) := fun site seen => by
    have := fadd_call (d := d + 1) (site := site) (seen := seen) (h := x) (w := allW ws k - w) (al := allW ws k) hok (by omega) (by omega) ⟨by omega, by omega⟩ aw
    rw [Int.mul_comm x] at this
    exact this
  have cb : ∀ (site : Nat → Nat) seen, aBack site true seen (thaw (callA E fg 1000 (d + 3)) 74 [.agg (frc (fadd (ctr hs ws k) ((allW ws k - w) * x) (allW ws k))), .int .i64 x, .int .i64 1] [] 0) = .pure (.agg (frc (fadd (fadd (ctr hs ws k) ((allW ws k - w) * x) (allW ws k)) x 1)), []) := fun site seen => by
    have := fadd_call (d := d + 1) (site := site) (seen := seen) (h := x) (w := 1) (al := 1) hok2 (by omega) (by omega) ⟨by omega, by omega⟩ (by omega)
    rw [Int.mul_one x] at this
    exact this
  have m1 : (allW ws k - w) * x ≤ 45 * 4194304 := Int.mul_le_mul (by omega) bx.2 (by omega) (by omega)
  have m2 : 0 ≤ (allW ws k - w) * x := Int.mul_nonneg (by omega) (by omega)
  have w1 : wrp .i64 (allW ws k - w) = allW ws k - w := wrp64 (by omega)
  have w2 : wrp .i64 ((allW ws k - w) * x) = (allW ws k - w) * x := wrp64 (by omega)
  simp only [frc, heq] at ca cb hf cl cp cs
  simp only [frc, seqX_normal, bindR_some, regX_some, condX_bool, blockX_normal, ↓gd, fset_cons, Bool.not_true, Bool.not_false, bodyX_ret, run_nil, run_cons, fget_cons', fput_cons', forget_nil, forget_cons', hget_nil', hget_cons', hset_nil', hset_cons', frame0, gcM_c, stp, opPick, opBox, justO, just, Rd.bind, Rd.run, Rd.opt, upds, acells, zeroCells, tsz, rdCells, aLoad, aStore, opStore, resA, resL, fresh, aIndexAddr, aNum, aLen, aBuiltin, aBin, aInt, putC, Nat.reduceAdd, Nat.reduceMul, Nat.reduceLT, Nat.reduceBEq, Nat.reduceEqDiff, Nat.reduceLeDiff, ↓reduceIte, reduceCtorEq, liveBlk_eq, Nat.zero_add, bne_iff_ne, ne_eq, List.nil_append, List.getElem?_toArray, rtX_some, addT_some, drX_some, runT_nil, runT_cons, neat_eq, descF_nil', descF_cons', ascH_nil', ascH_cons', stpT, Rd.foot, writing, touching, Tr.empty, dynPairs, apartT, disj, List.isEmpty_nil, List.isEmpty_cons, List.map_nil, List.map_cons, Bool.not_false, Bool.not_true, Bool.true_or, Bool.or_true, Bool.or_false, Bool.and_true, Bool.true_and, Bool.and_self, decide_true, decide_false, not_true_eq_false, partsOf, fillA, frz, putD_some, putD_none, and_true, Int.natCast_nonneg, Int.ofNat_lt, Int.toNat_natCast, aCall, snaps, snap, List.append_nil, Option.map_some, List.elem_cons, List.elem_nil, List.length_cons, List.length_nil, List.getElem?_cons_zero, List.drop_zero, List.take_succ_cons, List.take_nil, List.set_cons_zero, List.set_cons_succ, T_3, T_47, T_27, T_52, x20_1, r20_0_l, s20_0_0, s20_0_1, x20_3, r20_1_l, s20_1_0, s20_1_1, s20_1_2, s20_1_3, x20_7, r20_2_l, s20_2_0, s20_2_1, s20_2_2, x20_10, r20_3_l, s20_3_0, s20_3_1, s20_3_2, s20_3_3, x20_11, x20_9, x20_13, r20_4_l, s20_4_0, s20_4_1, s20_4_2, s20_4_3, s20_4_4, s20_4_5, s20_4_6, s20_4_7, s20_4_8, x20_16, r20_5_l, s20_5_0, s20_5_1, s20_5_2, x20_17, x20_15, x20_18, x20_14, x20_12, x20_8, x20_6, x20_5, x20_20, r20_6_l, s20_6_0, s20_6_1, s20_6_2, s20_6_3, s20_6_4, s20_6_5, s20_6_6, s20_6_7, x20_22, r20_7_l, s20_7_0, s20_7_1, s20_7_2, s20_7_3, x20_24, r20_8_l, r20_8_dr, r20_8_an, s20_8_0, s20_8_1, s20_8_2, s20_8_3, s20_8_4, s20_8_5, s20_8_6, s20_8_7, s20_8_8, s20_8_9, s20_8_10, s20_8_11, s20_8_12, s20_8_13, s20_8_14, s20_8_15, s20_8_16, s20_8_17, s20_8_18, s20_8_19, s20_8_20, x20_25, x20_23, x20_21, x20_19, x20_4, x20_2, x20_0, b_20, cl, cp, cs, ca, cb, back1_run, heq, hk, k0, kn, kn2, hf, hfl, hoff, w1, w2, icells_length, icells_at hx, icells_at hw, Nat.mul_one, aBuild, fillA, List.all_cons, List.all_nil]
end Go.AM.Ytmhbnflnlglljaa
end

section
namespace Go.AM.Ytmhbnflnlglljaa
open Go Go.AM
set_option maxRecDepth 100000
set_option maxHeartbeats 4000000
theorem take_pcs (l : List Stone) : List.take (l.length * 4) (pcells l) = pcells l := List.take_of_length_le (by rw [pcells_length]; exact Nat.le_refl _)
def smS (q : List Stone) (i : Nat) : Int := sumS (fun s => s.least * s.pos) (q.take i)
def smW (q : List Stone) (i : Nat) : Int := sumS (fun s => s.least) (q.take i)
def gS (sg : Int) (q : List Stone) (i : Nat) : Int := (grd sg (q.take i) (smS q q.length) (smW q q.length)).1
def gW (sg : Int) (q : List Stone) (i : Nat) : Int := (grd sg (q.take i) (smS q q.length) (smW q q.length)).2
abbrev s1 (sg : Int) (q : List Stone) (i : Nat) : St := ([(21, .int .i64 i), (20, .int .i64 q.length), (19, .ref 15 0 q.length q.length (q.length * 4) 4 false), (7, .int .i64 (smW q i)), (6, .int .i64 (smS q i)), (5, .ref 15 0 q.length q.length (q.length * 4) 4 false), (4, .ptr 4 0 2), (3, .ptr 3 0 1)], sH sg q)
abbrev s2 (sg : Int) (q : List Stone) (i : Nat) : St := ([(39, .int .i64 i), (38, .int .i64 q.length), (37, .ref 15 0 q.length q.length (q.length * 4) 4 false), (7, .int .i64 (gW sg q i)), (6, .int .i64 (gS sg q i)), (4, .ptr 4 0 2), (3, .ptr 3 0 1)], sH sg q)
end Go.AM.Ytmhbnflnlglljaa
end

section
namespace Go.AM.Ytmhbnflnlglljaa
open Go Go.AM
set_option maxRecDepth 100000
set_option maxHeartbeats 4000000
abbrev coS (a b : Nat) : St := ([(1, .int .i64 b), (0, .int .i64 a)], [])
theorem co_go {C : Callee} {a b : Nat} (hb : b ≠ 0) (h2 : b < 9223372036854775808) :
    ∃ s', execA E C (fg 83) 0 20 [] 1000 c83_7 (coS a b) = some (.normal, s') ∧ headA [] s' = coS b (a % b) := by
  have hn : ¬ (b : Int) = 0 := by omega
  have ht : (a : Int).tmod b = ((a % b : Nat) : Int) := by rw [Int.tmod_eq_emod_of_nonneg (by omega)]; omega
  have hlt := Nat.mod_lt a (Nat.pos_of_ne_zero hb)
  have w : wrp .i64 ((a % b : Nat) : Int) = ((a % b : Nat) : Int) := wrp64 (by omega)
  simp only [seqX_normal, bindR_some, regX_some, condX_bool, blockX_normal, Bool.not_true, Bool.not_false, run_nil, run_cons, fget_cons', fput_cons', forget_nil, forget_cons', gcM_c, stp, just, Rd.bind, Rd.run, Rd.opt, upds, aBin, aInt, Nat.reduceAdd, Nat.reduceBEq, Nat.reduceEqDiff, Nat.reduceLeDiff, ↓reduceIte, reduceCtorEq, Nat.zero_add, bne_iff_ne, ne_eq, rtX_some, addT_some, drX_some, runT_nil, runT_cons, neat_eq, descF_nil', descF_cons', ascH_nil', stpT, Rd.foot, writing, touching, Tr.empty, dynPairs, List.isEmpty_nil, List.map_nil, Bool.not_false, Bool.not_true, Bool.or_true, Bool.or_false, Bool.and_self, decide_true, not_false_eq_true, putD_some, List.elem_cons, List.elem_nil, x83_9, r83_2_l, s83_2_0, s83_2_1, x83_11, x83_12, x83_10, x83_8, x83_14, r83_3_l, r83_3_dr, r83_3_an, s83_3_0, s83_3_1, s83_3_2, s83_3_3, s83_3_4, s83_3_5, x83_13, x83_7, coS, hn, ht]
  exact ⟨_, rfl, by simp only [headA_nil]⟩
abbrev coE (a : Nat) : St := ([(14, .bool false), (1, .int .i64 0), (0, .int .i64 a)], [])
theorem co_stop {C : Callee} {a : Nat} : execA E C (fg 83) 0 20 [] 1000 c83_7 (coS a 0) = some (.exit 0, coE a) := by
  simp only [seqX_normal, seqX_exit, bindR_some, regX_some, condX_bool, run_nil, run_cons, fget_cons', fput_cons', forget_nil, forget_cons', gcM_c, stp, just, Rd.bind, Rd.run, Rd.opt, upds, aBin, aInt, Nat.reduceBEq, Nat.reduceEqDiff, Nat.reduceLeDiff, ↓reduceIte, reduceCtorEq, putD_some, List.elem_cons, List.elem_nil, x83_9, r83_2_l, s83_2_0, s83_2_1, x83_11, x83_12, x83_10, x83_8, x83_7, coS, coE, Int.natCast_zero, bne_self_eq_false]
theorem co_loop {C : Callee} : ∀ (m a b F : Nat) (s : St), headA [] s = coS a b → b < 2 ^ m → m ≤ 62 → 2 * m < F →
    iterA (execA E C (fg 83) 0 20 [] 1000 c83_7) (headA []) F s = some (.exit 0, coE (Nat.gcd a b)) := by
  intro m
  induction m with
  | zero =>
    intro a b F s hs hb hm hF
    obtain ⟨F, rfl⟩ : ∃ G, F = G + 1 := ⟨F - 1, by omega⟩
    obtain rfl : b = 0 := by omega
    rw [iterA_succ, hs, co_stop, seqX_exit, Nat.gcd_zero_right]
  | succ m ih =>
    intro a b F s hs hb hm hF
    obtain ⟨F, rfl⟩ : ∃ G, F = G + 2 := ⟨F - 2, by omega⟩
    have hpow : 2 ^ (m + 1) ≤ 2 ^ 62 := Nat.pow_le_pow_right (by omega) hm
    have h62 : (2 : Nat) ^ 62 < 9223372036854775808 := by decide
    have hps : 2 ^ (m + 1) = 2 * 2 ^ m := by rw [Nat.pow_succ]; omega
    by_cases h0 : b = 0
    · subst h0
      rw [iterA_succ, hs, co_stop, seqX_exit, Nat.gcd_zero_right]
    · obtain ⟨s1, e1, e2⟩ := co_go (C := C) (a := a) h0 (by omega)
      have hlt := Nat.mod_lt a (Nat.pos_of_ne_zero h0)
      have hg : Nat.gcd a b = Nat.gcd b (a % b) := by rw [Nat.gcd_comm a b, Nat.gcd_rec, Nat.gcd_comm]
      rw [iterA_succ, hs, e1, seqN, iterA_succ, e2, hg]
      by_cases h1 : a % b = 0
      · rw [h1, co_stop, seqX_exit, Nat.gcd_zero_right]
      · obtain ⟨s2, f1, f2⟩ := co_go (C := C) (a := b) h1 (by omega)
        have hlt2 := Nat.mod_lt b (Nat.pos_of_ne_zero h1)
        have hg2 : Nat.gcd b (a % b) = Nat.gcd (a % b) (b % (a % b)) := by rw [Nat.gcd_comm b (a % b), Nat.gcd_rec, Nat.gcd_comm]
        have hdm := Nat.div_add_mod b (a % b)
        have hq : 1 ≤ b / (a % b) := Nat.div_pos (by omega) (by omega)
        have hmul : a % b ≤ (a % b) * (b / (a % b)) := Nat.le_mul_of_pos_right _ hq
        rw [f1, seqN, hg2]
        exact ih (a % b) (b % (a % b)) F s2 f2 (by omega) (by omega) (by omega)
theorem common_run {C : Callee} {num den : Int} (h1 : -4611686018427387903 ≤ num ∧ num ≤ 4611686018427387903) (h2 : -4611686018427387903 ≤ den ∧ den ≤ 4611686018427387903) :
    rsOf (bodyA E C fg 1000 83 [.int .i64 num, .int .i64 den] [] 0) = some (.int .i64 (gcdI num den)) := by
  have h62 : (2 : Nat) ^ 62 = 4611686018427387904 := by decide
  have hl := co_loop (C := C) 62 num.natAbs den.natAbs 1000 (coS num.natAbs den.natAbs) rfl (by omega) (by omega) (by omega)
  have hmax : (if -num > num then -num else num) = (num.natAbs : Int) := by split <;> omega
  have hmax2 : (if -den > den then -den else den) = (den.natAbs : Int) := by split <;> omega
  have w1 : wrp .i64 (0 - num) = -num := by rw [wrp64 (by omega)]; omega
  have w2 : wrp .i64 (0 - den) = -den := by rw [wrp64 (by omega)]; omega
  have hg : Nat.gcd num.natAbs den.natAbs = gcdI num den := rfl
  simp only [hg, coE, coS] at hl
  simp only [seqX_normal, bindR_some, regX_some, blockX_exit, bodyX_ret, run_nil, run_cons, fget_cons', fput_cons', forget_nil, forget_cons', frame0, gcM_c, stp, justO, Rd.run, upds, resA, resL, aBuiltin, aMax, Nat.reduceBEq, Nat.reduceEqDiff, Nat.reduceLeDiff, ↓reduceIte, reduceCtorEq, Nat.zero_add, aUn, putD_some, Option.map_some, List.elem_cons, List.elem_nil, x83_1, r83_0_l, s83_0_0, x83_3, r83_1_l, s83_1_0, s83_1_1, s83_1_2, s83_1_3, s83_1_4, s83_1_5, s83_1_6, s83_1_7, s83_1_8, s83_1_9, x83_6, x83_5, x83_16, r83_4_l, s83_4_0, s83_4_1, x83_17, x83_15, x83_4, x83_2, x83_0, b_83, w1, w2, hmax, hmax2, hl]
theorem common_call {d : Nat} {site : Nat → Nat} {seen : List Nat} {num den : Int} (h1 : -4611686018427387903 ≤ num ∧ num ≤ 4611686018427387903) (h2 : -4611686018427387903 ≤ den ∧ den ≤ 4611686018427387903) :
    aBack site true seen (thaw (callA E fg 1000 (d + 1)) 83 [.int .i64 num, .int .i64 den] [] 0) = .pure (.int .i64 (gcdI num den), []) :=
  aBack_int (rs_ex (common_run h1 h2))
theorem lfrac_run {C : Callee} {a b : Int} : rsOf (bodyA E C fg 1000 40 [.int .i64 a, .int .i64 b] [] 0) = some (.agg [.int .i64 a, .int .i64 b]) := by
  simp only [seqX_normal, bindR_some, regX_some, bodyX_ret, run_nil, run_cons, fget_cons', fput_cons', forget_nil, forget_cons', hget_nil', hget_cons', hset_nil', hset_cons', frame0, gcM_n, gcM_c, stp, opBox, justO, Rd.bind, Rd.run, Rd.opt, upds, acells, zeroCells, tsz, rdCells, aLoad, aStore, opStore, resA, resL, fresh, putC, evO, Nat.reduceAdd, Nat.reduceGT, Nat.reduceBEq, Nat.reduceEqDiff, Nat.reduceLeDiff, ↓reduceIte, reduceCtorEq, liveBlk_eq, Nat.zero_add, ne_eq, List.nil_append, not_true_eq_false, or_self, partsOf, fillA, frz, putD_some, putD_none, and_true, snaps, snap, List.append_nil, Option.map_some, List.elem_cons, List.elem_nil, List.length_cons, List.length_nil, List.getElem?_cons_zero, List.getElem?_cons_succ, List.drop_zero, List.take_succ_cons, List.take_nil, List.set_cons_zero, List.set_cons_succ, T_27, x40_1, r40_0_l, s40_0_0, x40_3, r40_1_l, s40_1_0, s40_1_1, s40_1_2, s40_1_3, x40_4, x40_2, x40_0, b_40, aBuild, placeF, fillA]
theorem lfrac_call {d : Nat} {site : Nat → Nat} {seen : List Nat} {a b : Int} :
    aBack site true seen (thaw (callA E fg 1000 (d + 1)) 40 [.int .i64 a, .int .i64 b] [] 0) = .pure (.agg [.int .i64 a, .int .i64 b], []) :=
  aBack_frac (rs_ex (lfrac_run))
theorem rdN_b {num den : Int} (hd : 0 < den) : (rdN num den).natAbs ≤ num.natAbs := by
  obtain ⟨m1, _⟩ := rd_mul num den
  have hg := gcdI_pos (num := num) hd
  have := nat_le_mul (rdN num den) (show (1 : Int) ≤ gcdI num den by omega)
  rwa [m1] at this
theorem ratio_run {d : Nat} {num den : Int} (h1 : -4611686018427387903 ≤ num ∧ num ≤ 4611686018427387903) (h2 : 0 < den ∧ den ≤ 4611686018427387903) :
    rsOf (callA E fg 1000 (d + 2) 35 [.int .i64 num, .int .i64 den] [] 0) = some (.agg (frc (rd num den))) := by
  change rsOf (bodyA E (callA E fg 1000 (d + 1)) fg 1000 35 _ _ _) = _
  have hc := fun (site : Nat → Nat) seen => common_call (d := d) (site := site) (seen := seen) h1 ⟨by omega, h2.2⟩
  have gp := gcdI_pos (num := num) h2.1
  have hz : ¬ (gcdI num den : Int) = 0 := by omega
  have t1 : num.tdiv (gcdI num den : Int) = rdN num den := Int.tdiv_eq_ediv_of_dvd (gcdI_dvd1 ..)
  have t2 : den.tdiv (gcdI num den : Int) = rdD num den := Int.tdiv_eq_ediv_of_dvd (gcdI_dvd2 ..)
  have b1 := rdN_b (num := num) h2.1
  obtain ⟨b2, b3⟩ := rd_den (num := num) h2.1
  simp only [rd] at b2 b3
  have x1 : wrp .i64 (rdN num den) = rdN num den := wrp64 (by omega)
  have x2 : wrp .i64 (rdD num den) = rdD num den := wrp64 (by omega)
  have hf := fun (site : Nat → Nat) seen => lfrac_call (d := d) (site := site) (seen := seen) (a := rdN num den) (b := rdD num den)
  simp only [seqX_normal, bindR_some, regX_some, Bool.not_true, Bool.not_false, bodyX_ret, run_nil, run_cons, fget_cons', fput_cons', forget_nil, forget_cons', hget_nil', hget_cons', hset_nil', hset_cons', frame0, gcM_n, gcM_c, stp, opBox, just, Rd.bind, Rd.run, Rd.opt, upds, acells, zeroCells, tsz, rdCells, aLoad, aStore, opStore, resA, resL, fresh, aBin, aInt, putC, Nat.reduceAdd, Nat.reduceBEq, Nat.reduceEqDiff, Nat.reduceLeDiff, ↓reduceIte, reduceCtorEq, liveBlk_eq, Nat.zero_add, List.nil_append, rtX_some, addT_some, drX_some, runT_nil, runT_cons, neat_eq, descF_nil', descF_cons', ascH_nil', ascH_cons', stpT, Rd.foot, writing, touching, Tr.empty, dynPairs, apartT, disj, List.isEmpty_nil, List.isEmpty_cons, List.map_nil, List.map_cons, Bool.not_false, Bool.not_true, Bool.true_or, Bool.or_true, Bool.or_false, Bool.true_and, Bool.and_self, decide_true, frz, putD_some, putD_none, and_true, aCall, snaps, snap, List.append_nil, Option.map_some, List.elem_cons, List.elem_nil, List.length_cons, List.length_nil, List.drop_zero, List.take_succ_cons, List.take_nil, List.set_cons_zero, List.set_cons_succ, T_27, x35_1, r35_0_l, s35_0_0, x35_3, r35_1_l, s35_1_0, s35_1_1, s35_1_2, s35_1_3, x35_5, r35_2_l, r35_2_dr, r35_2_an, s35_2_0, s35_2_1, s35_2_2, s35_2_3, s35_2_4, s35_2_5, s35_2_6, s35_2_7, x35_6, x35_4, x35_2, x35_0, b_35, hc, hf, hz, t1, t2, x1, x2, frc, rd, List.all_nil]
theorem ratio_call {d : Nat} {site : Nat → Nat} {seen : List Nat} {num den : Int} (h1 : -4611686018427387903 ≤ num ∧ num ≤ 4611686018427387903) (h2 : 0 < den ∧ den ≤ 4611686018427387903) :
    aBack site true seen (thaw (callA E fg 1000 (d + 2)) 35 [.int .i64 num, .int .i64 den] [] 0) = .pure (.agg (frc (rd num den)), []) :=
  aBack_frac (rs_ex (ratio_run h1 h2))
end Go.AM.Ytmhbnflnlglljaa
end

section
namespace Go.AM.Ytmhbnflnlglljaa
open Go Go.AM
set_option maxRecDepth 100000
set_option maxHeartbeats 4000000
structure Fair (f : Fr) : Prop where
  d0 : 0 < f.den
  d1 : f.den < 33554432
  n0 : -68719476736 < f.num
  n1 : f.num < 68719476736
  co : gcdI f.num f.den = 1
theorem fair_run {d : Nat} {f : Fr} (h : Fair f) : rsOf (callA E fg 1000 (d + 2) 33 [.agg (frc f)] [] 0) = some (.bool true) := by
  change rsOf (bodyA E (callA E fg 1000 (d + 1)) fg 1000 33 _ _ _) = _
  obtain ⟨d0, d1, n0, n1, co⟩ := h
  have hc := fun (site : Nat → Nat) seen => common_call (d := d) (site := site) (seen := seen) (num := f.num) (den := f.den) (by omega) (by omega)
  have g1 : f.den > 0 := d0
  have g2 : f.num > -68719476736 := n0
  simp only [co, cl1] at hc
  simp (disch := omega) only [↓gd, fset_cons, bodyX_ret, run_nil, run_cons, fget_cons', fput_cons', forget_nil, forget_cons', hget_nil', hget_cons', hset_nil', frame0, gcM_c, stp, opPick, opBox, just, Rd.bind, Rd.run, Rd.opt, upds, acells, rdCells, fieldOf, aFieldAddr, aLoad, resA, resL, fresh, aBin, aInt, Nat.reduceAdd, Nat.reduceBEq, Nat.reduceEqDiff, Nat.reduceLeDiff, Int.reduceNeg, ↓reduceIte, reduceCtorEq, liveBlk_eq, Nat.zero_add, Nat.add_zero, decide_true, putD_some, aCall, snaps, List.append_nil, Option.map_some, List.elem_cons, List.elem_nil, List.length_cons, List.length_nil, List.getElem?_cons_zero, List.getElem?_cons_succ, seqN, bindN, regN, snap_int, beq_self_eq_true, Bool.false_eq_true, T_3, T_27, x33_1, r33_0_l, s33_0_0, s33_0_1, x33_3, r33_1_l, s33_1_0, s33_1_1, s33_1_2, s33_1_3, s33_1_4, s33_1_5, s33_1_6, s33_1_7, s33_1_8, s33_1_9, s33_1_10, s33_1_11, s33_1_12, s33_1_13, s33_1_14, s33_1_15, s33_1_16, s33_1_17, s33_1_18, s33_1_19, s33_1_20, s33_1_21, s33_1_22, s33_1_23, s33_1_24, s33_1_25, s33_1_26, x33_4, x33_2, x33_0, b_33, frc, g1, d1, g2, n1, hc]
theorem fair_call {d : Nat} {site : Nat → Nat} {seen : List Nat} {f : Fr} (h : Fair f) : aBack site true seen (thaw (callA E fg 1000 (d + 2)) 33 [.agg [.int .i64 f.num, .int .i64 f.den]] [] 0) = .pure (.bool true, []) :=
  aBack_bool (rs_ex (fair_run h))
end Go.AM.Ytmhbnflnlglljaa
end

section
namespace Go.AM.Ytmhbnflnlglljaa
open Go Go.AM
set_option maxRecDepth 100000
set_option maxHeartbeats 4000000
theorem weigh_at : ∀ {l : List Stone} {ws : List Int}, weighL l ws = 0 → ∀ {i : Nat} {s : Stone} {w : Int}, l[i]? = some s → ws[i]? = some w → s.least ≤ w ∧ w ≤ s.most
  | [], _, _, i, s, w, h, _ => by simp at h
  | _ :: _, [], _, i, s, w, _, h => by simp at h
  | a :: l, b :: ws, h, i, s, w, h1, h2 => by
    simp only [weighL] at h
    split at h
    · simp at h
    · split at h
      · simp at h
      · cases i with
        | zero => simp at h1 h2; subst h1; subst h2; omega
        | succ i => exact weigh_at h (by simpa using h1) (by simpa using h2)
theorem weighE_at {l : List Stone} {ws : List Int} (hw : weighE l ws = 0) {i : Nat} {s : Stone} {w : Int} (h1 : l[i]? = some s) (h2 : ws[i]? = some w) : s.least ≤ w ∧ w ≤ s.most := by
  unfold weighE at hw
  split at hw
  · exact weigh_at hw h1 h2
  · simp at hw
def leftM (l : List Stone) (ws : List Int) : Nat → Int
  | 0 => 0
  | k + 1 => momSum l ws (k + 1) (-1)
theorem sumF_step (F : Nat → Int) (k i : Nat) (h : k ≤ i) : sumF F k (i + 1 - k) = sumF F k (i - k) + F i := by
  rw [show i + 1 - k = (i - k) + 1 by omega]; simp only [sumF, show k + (i - k) = i by omega]
theorem moments_zero {C : Callee} {l : List Stone} {ws : List Int} {ex ex' : Bool} (h : OkP l) (hw : weighE l ws = 0) :
    rsOf (bodyA E C fg 1000 86 [.imm (pcells l) l.length ex, .imm (icells ws) ws.length ex', .int .i64 (0 : Nat)] [] 0) = some (.tup [.int .i64 (momSum l ws 0 1), .int .i64 0]) := by
  have hlen := weigh_len hw
  have hle := h.le
  have hb := fun i (h1 : 0 ≤ i) (h2 : i < l.length) => momTerm_bound h hw (Nat.zero_le l.length) 1 (i := i) h2
  have hloop := iter_all (f := execA E C (fg 86) 0 74 [] 1000 c86_7) (hd := headA []) (fun i => ([(8, .int .i64 i), (7, .int .i64 0), (6, .int .i64 (sumF (momTerm l ws 0 1) 0 (i - 0))), (2, .int .i64 (0 : Nat)), (1, .imm (icells ws) ws.length ex'), (0, .imm (pcells l) l.length ex)], [])) l.length 1000 0
    ([(8, .int .i64 (0 : Nat)), (7, .int .i64 0), (6, .int .i64 0), (2, .int .i64 (0 : Nat)), (1, .imm (icells ws) ws.length ex'), (0, .imm (pcells l) l.length ex)], []) (by simp [headA_nil, sumF]) (by omega) (fun i h1 h2 => by
      have hil : i < l.length := by omega
      have hiw : i < ws.length := by omega
      obtain ⟨s, hs⟩ := at_ex hil
      obtain ⟨w, hws⟩ := at_ex hiw
      have hm : momTerm l ws 0 1 i = w * s.pos := by simp [momTerm, hs, hws, far, rightE]
      have f1 := pcells_field l i s 1 hs (by omega)
      simp only [sc, List.getElem?_cons_succ, List.getElem?_cons_zero] at f1
      obtain ⟨b1, b2⟩ := sumF_bound (M := 2717908992) (by omega) hb (i - 0) (by omega)
      obtain ⟨b3, b4⟩ := hb i (by omega) hil
      have hst := sumF_step (momTerm l ws 0 1) 0 i (by omega)
      rw [hm] at hst b3 b4
      have w1 : wrp .i64 (w * s.pos) = w * s.pos := wrp64 (by omega)
      have w2 : wrp .i64 (sumF (momTerm l ws 0 1) 0 (i - 0) + w * s.pos) = sumF (momTerm l ws 0 1) 0 (i + 1 - 0) := by rw [hst]; exact wrp64 (by omega)
      simp only [seqX_normal, seqX_exit, bindR_some, regX_some, condX_bool, blockX_exit, Bool.not_true, Bool.not_false, run_nil, run_cons, fget_cons', fput_cons', forget_nil, forget_cons', gcM_c, stp, just, Rd.bind, Rd.run, Rd.opt, upds, tsz, rdCells, fieldOf, aFieldAddr, aLoad, aIndexAddr, aNum, aLen, aBuiltin, aBin, aInt, Nat.reduceAdd, Nat.reduceLT, Nat.reduceBEq, Nat.reduceEqDiff, Nat.reduceLeDiff, ↓reduceIte, reduceCtorEq, Nat.zero_add, beq_iff_eq, List.getElem?_toArray, rtX_some, addT_some, drX_some, runT_nil, runT_cons, neat_eq, descF_nil', descF_cons', ascH_nil', stpT, Rd.foot, writing, touching, Tr.empty, dynPairs, List.isEmpty_nil, List.map_nil, Bool.not_false, Bool.not_true, Bool.or_true, Bool.or_false, Bool.and_self, decide_true, putD_some, and_true, Int.natCast_nonneg, Int.ofNat_lt, Int.toNat_natCast, List.elem_cons, List.elem_nil, List.getElem?_cons_zero, List.getElem?_cons_succ, T_3, T_22, T_45, T_47, x86_9, r86_2_l, s86_2_0, s86_2_1, s86_2_2, s86_2_3, x86_11, x86_12, x86_10, x86_8, x86_17, r86_4_l, s86_4_0, s86_4_1, x86_20, r86_5_l, r86_5_dr, r86_5_an, s86_5_0, s86_5_1, s86_5_2, s86_5_3, s86_5_4, s86_5_5, s86_5_6, s86_5_7, s86_5_8, s86_5_9, s86_5_10, s86_5_11, s86_5_12, x86_21, x86_19, x86_22, x86_18, x86_16, x86_15, x86_14, x86_28, r86_3_l, s86_3_0, s86_3_1, s86_3_2, x86_13, x86_7, hil, hiw, icells_length, icells_at hws, pcells_length, Nat.mul_one, f1, w1, w2, wrp_succ (show i < 1000000 by omega), cl0]
      exact ⟨_, rfl, by simp only [headA_nil]⟩) (e := .exit 0) (se := ([(14, .bool false), (8, .int .i64 l.length), (7, .int .i64 0), (6, .int .i64 (momSum l ws 0 1)), (2, .int .i64 (0 : Nat)), (1, .imm (icells ws) ws.length ex'), (0, .imm (pcells l) l.length ex)], [])) (by
      rw [show 0 + l.length = l.length by omega]
      simp only [seqX_normal, seqX_exit, bindR_some, regX_some, condX_bool, run_nil, run_cons, fget_cons', fput_cons', forget_nil, forget_cons', gcM_c, stp, just, Rd.bind, Rd.run, Rd.opt, upds, aLen, aBuiltin, aBin, aInt, Nat.reduceBEq, Nat.reduceEqDiff, Nat.reduceLeDiff, ↓reduceIte, reduceCtorEq, List.getElem?_toArray, decide_false, putD_some, List.elem_cons, List.elem_nil, List.getElem?_cons_zero, T_22, x86_9, r86_2_l, s86_2_0, s86_2_1, s86_2_2, s86_2_3, x86_11, x86_12, x86_10, x86_8, x86_7, Int.lt_irrefl, decide_false, Bool.false_eq_true, momSum]) (by simp)
  simp only [cl0] at hloop
  simp only [seqX_normal, bindR_some, regX_some, blockX_exit, bodyX_ret, run_nil, run_cons, fget_cons', fput_cons', forget_nil, forget_cons', frame0, gcM_n, gcM_c, resA, resL, Nat.reduceAdd, Nat.reduceBEq, Nat.reduceEqDiff, Nat.reduceLeDiff, ↓reduceIte, reduceCtorEq, Nat.zero_add, Option.map_some, List.elem_cons, List.elem_nil, x86_1, r86_0_l, s86_0_0, s86_0_1, x86_4, r86_1_l, s86_1_0, s86_1_1, x86_6, x86_5, x86_3, x86_30, r86_9_l, s86_9_0, s86_9_1, s86_9_2, s86_9_3, x86_31, x86_29, x86_2, x86_0, b_86, cl0, hloop]
theorem moments_succ {C : Callee} {l : List Stone} {ws : List Int} {ex ex' : Bool} (h : OkP l) (hw : weighE l ws = 0) {k : Nat} (hk : k + 1 < l.length) :
    rsOf (bodyA E C fg 1000 86 [.imm (pcells l) l.length ex, .imm (icells ws) ws.length ex', .int .i64 (k + 1 : Nat)] [] 0) = some (.tup [.int .i64 (momSum l ws (k + 1) 1), .int .i64 (momSum l ws (k + 1) (-1))]) := by
  have hlen := weigh_len hw
  have hle := h.le
  have hkl : k < l.length := by omega
  obtain ⟨t, ht⟩ := at_ex hkl
  have hft := h.fits k t ht
  have hb := fun side i (h1 : k + 1 ≤ i) (h2 : i < l.length) => momTerm_bound h hw (Nat.le_of_lt hk) side (i := i) h2
  have e1 : wrp .i64 (((k + 1 : Nat) : Int) - 1) = (k : Int) := by rw [wrp64 (by omega)]; omega
  have e0 : ¬ ((k + 1 : Nat) : Int) = 0 := by omega
  have hloop := iter_all (f := execA E C (fg 86) 0 74 [] 1000 c86_7) (hd := headA []) (fun i => ([(8, .int .i64 i), (7, .int .i64 (sumF (momTerm l ws (k + 1) (-1)) (k + 1) (i - (k + 1)))), (6, .int .i64 (sumF (momTerm l ws (k + 1) 1) (k + 1) (i - (k + 1)))), (2, .int .i64 (k + 1 : Nat)), (1, .imm (icells ws) ws.length ex'), (0, .imm (pcells l) l.length ex)], [])) (l.length - (k + 1)) 1000 (k + 1)
    ([(8, .int .i64 (k + 1 : Nat)), (7, .int .i64 0), (6, .int .i64 0), (2, .int .i64 (k + 1 : Nat)), (1, .imm (icells ws) ws.length ex'), (0, .imm (pcells l) l.length ex)], []) (by simp [headA_nil, sumF]) (by omega) (fun i h1 h2 => by
      have hil : i < l.length := by omega
      have hiw : i < ws.length := by omega
      obtain ⟨s, hs⟩ := at_ex hil
      obtain ⟨w, hws⟩ := at_ex hiw
      have hm : momTerm l ws (k + 1) 1 i = w * (s.pos - t.pos - t.half) := by simp [momTerm, hs, hws, far, rightE, ht, show s.pos - (t.pos + t.half) = s.pos - t.pos - t.half by omega]
      have hm2 : momTerm l ws (k + 1) (-1) i = w * (t.pos - t.half - s.pos) := by simp [momTerm, hs, hws, far, leftE, ht]
      have f1 := pcells_field l i s 1 hs (by omega)
      simp only [sc, List.getElem?_cons_succ, List.getElem?_cons_zero] at f1
      have hfs := h.fits i s hs
      obtain ⟨b1, b2⟩ := sumF_bound (M := 2717908992) (by omega) (hb 1) (i - (k + 1)) (by omega)
      obtain ⟨b3, b4⟩ := hb 1 i (by omega) hil
      obtain ⟨b5, b6⟩ := sumF_bound (M := 2717908992) (by omega) (hb (-1)) (i - (k + 1)) (by omega)
      obtain ⟨b7, b8⟩ := hb (-1) i (by omega) hil
      have hst := sumF_step (momTerm l ws (k + 1) 1) (k + 1) i (by omega)
      have hst2 := sumF_step (momTerm l ws (k + 1) (-1)) (k + 1) i (by omega)
      rw [hm] at hst b3 b4
      rw [hm2] at hst2 b7 b8
      obtain ⟨_, _, p1, p2, _, _, _⟩ := hfs
      obtain ⟨q1, q2, p3, p4, _, _, _⟩ := hft
      have w1 : wrp .i64 (s.pos - t.pos) = s.pos - t.pos := wrp64 (by omega)
      have w2 : wrp .i64 (s.pos - t.pos - t.half) = s.pos - t.pos - t.half := wrp64 (by omega)
      have w3 : wrp .i64 (w * (s.pos - t.pos - t.half)) = w * (s.pos - t.pos - t.half) := wrp64 (by omega)
      have w4 : wrp .i64 (sumF (momTerm l ws (k + 1) 1) (k + 1) (i - (k + 1)) + w * (s.pos - t.pos - t.half)) = sumF (momTerm l ws (k + 1) 1) (k + 1) (i + 1 - (k + 1)) := by rw [hst]; exact wrp64 (by omega)
      have w5 : wrp .i64 (t.pos - t.half) = t.pos - t.half := wrp64 (by omega)
      have w6 : wrp .i64 (t.pos - t.half - s.pos) = t.pos - t.half - s.pos := wrp64 (by omega)
      have w7 : wrp .i64 (w * (t.pos - t.half - s.pos)) = w * (t.pos - t.half - s.pos) := wrp64 (by omega)
      have w8 : wrp .i64 (sumF (momTerm l ws (k + 1) (-1)) (k + 1) (i - (k + 1)) + w * (t.pos - t.half - s.pos)) = sumF (momTerm l ws (k + 1) (-1)) (k + 1) (i + 1 - (k + 1)) := by rw [hst2]; exact wrp64 (by omega)
      simp only [seqX_normal, bindR_some, regX_some, condX_bool, blockX_normal, Bool.not_true, Bool.not_false, run_nil, run_cons, fget_cons', fput_cons', forget_nil, forget_cons', hget_nil', hget_cons', hset_nil', hset_cons', gcM_c, stp, opBox, just, Rd.bind, Rd.run, Rd.opt, upds, acells, zeroCells, tsz, rdCells, fieldOf, aFieldAddr, aLoad, aStore, opStore, fresh, aIndexAddr, aNum, aLen, aBuiltin, aBin, aInt, putC, Nat.reduceAdd, Nat.reduceLT, Nat.reduceBEq, Nat.reduceEqDiff, Nat.reduceLeDiff, Int.reduceNeg, ↓reduceIte, reduceCtorEq, liveBlk_eq, Nat.zero_add, Nat.add_zero, beq_iff_eq, List.nil_append, List.getElem?_toArray, rtX_some, addT_some, drX_some, runT_nil, runT_cons, neat_eq, descF_nil', descF_cons', ascH_nil', ascH_cons', stpT, Rd.foot, writing, touching, Tr.empty, dynPairs, apartT, disj, List.isEmpty_nil, List.isEmpty_cons, List.map_nil, Bool.not_false, Bool.not_true, Bool.true_or, Bool.or_true, Bool.or_false, Bool.and_true, Bool.true_and, Bool.and_self, decide_true, frz, putD_some, putD_none, and_true, Int.natCast_nonneg, Int.ofNat_lt, Int.toNat_natCast, snaps, snap, List.append_nil, List.elem_cons, List.elem_nil, List.length_cons, List.length_nil, List.getElem?_cons_zero, List.getElem?_cons_succ, List.set_cons_zero, List.set_cons_succ, T_3, T_22, T_45, T_47, x86_9, r86_2_l, s86_2_0, s86_2_1, s86_2_2, s86_2_3, x86_11, x86_12, x86_10, x86_8, x86_17, r86_4_l, s86_4_0, s86_4_1, x86_20, r86_5_l, r86_5_dr, r86_5_an, s86_5_0, s86_5_1, s86_5_2, s86_5_3, s86_5_4, s86_5_5, s86_5_6, s86_5_7, s86_5_8, s86_5_9, s86_5_10, s86_5_11, s86_5_12, x86_21, x86_19, x86_22, x86_18, x86_16, x86_24, r86_6_l, s86_6_0, s86_6_1, s86_6_2, s86_6_3, s86_6_4, s86_6_5, s86_6_6, x86_26, r86_7_l, r86_7_dr, r86_7_an, s86_7_0, s86_7_1, s86_7_2, s86_7_3, s86_7_4, s86_7_5, s86_7_6, s86_7_7, s86_7_8, s86_7_9, s86_7_10, s86_7_11, s86_7_12, s86_7_13, s86_7_14, s86_7_15, s86_7_16, s86_7_17, s86_7_18, x86_27, r86_8_l, r86_8_dr, r86_8_an, s86_8_0, s86_8_1, s86_8_2, s86_8_3, s86_8_4, s86_8_5, s86_8_6, s86_8_7, s86_8_8, s86_8_9, s86_8_10, s86_8_11, s86_8_12, s86_8_13, s86_8_14, s86_8_15, s86_8_16, s86_8_17, s86_8_18, x86_25, x86_23, x86_15, x86_14, x86_28, r86_3_l, s86_3_0, s86_3_1, s86_3_2, x86_13, x86_7, hil, hiw, hkl, icells_length, icells_at hws, pcells_length, Nat.mul_one, f1, e0, e1, pcells_at l k t ht, sc, pcells_off l k hkl, w1, w2, w3, w4, w5, w6, w7, w8, wrp_succ (show i < 1000000 by omega)]
      exact ⟨_, rfl, by rfl⟩) (e := .exit 0) (se := ([(14, .bool false), (8, .int .i64 l.length), (7, .int .i64 (momSum l ws (k + 1) (-1))), (6, .int .i64 (momSum l ws (k + 1) 1)), (2, .int .i64 (k + 1 : Nat)), (1, .imm (icells ws) ws.length ex'), (0, .imm (pcells l) l.length ex)], [])) (by
      rw [show k + 1 + (l.length - (k + 1)) = l.length by omega]
      simp only [seqX_normal, seqX_exit, bindR_some, regX_some, condX_bool, run_nil, run_cons, fget_cons', fput_cons', forget_nil, forget_cons', gcM_c, stp, just, Rd.bind, Rd.run, Rd.opt, upds, aLen, aBuiltin, aBin, aInt, Nat.reduceBEq, Nat.reduceEqDiff, Nat.reduceLeDiff, Int.reduceNeg, ↓reduceIte, reduceCtorEq, List.getElem?_toArray, decide_false, putD_some, List.elem_cons, List.elem_nil, List.getElem?_cons_zero, T_22, x86_9, r86_2_l, s86_2_0, s86_2_1, s86_2_2, s86_2_3, x86_11, x86_12, x86_10, x86_8, x86_7, Int.lt_irrefl, decide_false, Bool.false_eq_true, momSum]) (by simp)
  simp only [seqX_normal, bindR_some, regX_some, blockX_exit, bodyX_ret, run_nil, run_cons, fget_cons', fput_cons', forget_nil, forget_cons', frame0, gcM_n, gcM_c, resA, resL, Nat.reduceAdd, Nat.reduceBEq, Nat.reduceEqDiff, Nat.reduceLeDiff, Int.reduceNeg, ↓reduceIte, reduceCtorEq, Nat.zero_add, Option.map_some, List.elem_cons, List.elem_nil, x86_1, r86_0_l, s86_0_0, s86_0_1, x86_4, r86_1_l, s86_1_0, s86_1_1, x86_6, x86_5, x86_3, x86_30, r86_9_l, s86_9_0, s86_9_1, s86_9_2, s86_9_3, x86_31, x86_29, x86_2, x86_0, b_86, hloop]
theorem moments_call {d : Nat} {site : Nat → Nat} {seen : List Nat} {l : List Stone} {ws : List Int} {ex ex' : Bool} (h : OkP l) (hw : weighE l ws = 0) {k : Nat} (hk : k < l.length) :
    aBack site true seen (thaw (callA E fg 1000 (d + 1)) 86 [.imm (pcells l) l.length ex, .imm (icells ws) ws.length ex', .int .i64 k] [] 0) = .pure (.tup [.int .i64 (momSum l ws k 1), .int .i64 (leftM l ws k)], []) := by
  cases k with
  | zero => exact aBack_ints (rs_ex (moments_zero (C := callA E fg 1000 d) h hw))
  | succ k => exact aBack_ints (rs_ex (moments_succ (C := callA E fg 1000 d) h hw hk))
def totalF (ws : List Int) : Int := sumF (fun i => ws.getD i 0) 0 ws.length
theorem total_run {C : Callee} {ws : List Int} {ex : Bool} (hl : ws.length ≤ 6) (hb : ∀ (i : Nat) (w : Int), ws[i]? = some w → -1000 ≤ w ∧ w ≤ 1000) :
    rsOf (bodyA E C fg 1000 84 [.imm (icells ws) ws.length ex] [] 0) = some (.int .i64 (totalF ws)) := by
  have hb2 : ∀ i, 0 ≤ i → i < ws.length → -1000 ≤ ws.getD i 0 ∧ ws.getD i 0 ≤ 1000 := fun i _ h2 => by
    obtain ⟨w, hw⟩ := at_ex h2
    have := hb i w hw
    simpa [hw] using this
  have hloop := iter_all (f := execA E C (fg 84) 0 17 [] 1000 c84_9) (hd := headA []) (fun i => ([(8, .int .i64 i), (7, .int .i64 ws.length), (6, .imm (icells ws) ws.length ex), (3, .int .i64 (sumF (fun i => ws.getD i 0) 0 (i - 0)))], [])) ws.length 1000 0
    ([(8, .int .i64 0), (7, .int .i64 ws.length), (6, .imm (icells ws) ws.length ex), (3, .int .i64 0)], []) (by simp [headA_nil, sumF]) (by omega) (fun i h1 h2 => by
      have hiw : i < ws.length := by omega
      obtain ⟨w, hws⟩ := at_ex hiw
      obtain ⟨b1, b2⟩ := sumF_bound (M := 1000) (by omega) hb2 (i - 0) (by omega)
      obtain ⟨b3, b4⟩ := hb i w hws
      have hst := sumF_step (fun i => ws.getD i 0) 0 i (by omega)
      have hg : ws.getD i 0 = w := by simp [hws]
      simp only [hg] at hst
      have w2 : wrp .i64 (sumF (fun i => ws.getD i 0) 0 (i - 0) + w) = sumF (fun i => ws.getD i 0) 0 (i + 1 - 0) := by rw [hst]; exact wrp64 (by omega)
      simp only [seqX_normal, bindR_some, regX_some, condX_bool, blockX_normal, run_nil, run_cons, fget_cons', fput_cons', forget_nil, forget_cons', gcM_n, gcM_c, stp, just, Rd.bind, Rd.run, Rd.opt, upds, tsz, rdCells, aLoad, aIndexAddr, aNum, aBin, aInt, Nat.reduceLT, Nat.reduceBEq, Nat.reduceEqDiff, Nat.reduceLeDiff, ↓reduceIte, reduceCtorEq, decide_true, putD_some, and_true, Int.natCast_nonneg, Int.ofNat_lt, Int.toNat_natCast, List.elem_cons, List.elem_nil, T_3, T_47, x84_10, r84_3_l, s84_3_0, x84_13, x84_14, x84_12, x84_18, r84_4_l, s84_4_0, s84_4_1, s84_4_2, x84_19, r84_5_l, s84_5_0, s84_5_1, s84_5_2, s84_5_3, x84_17, x84_16, x84_20, r84_6_l, s84_6_0, s84_6_1, x84_15, x84_11, x84_9, hiw, icells_length, icells_at hws, Nat.mul_one, w2, wrp_succ (show i < 1000000 by omega)]
      exact ⟨_, rfl, by simp only [headA_nil]⟩) (e := .exit 0) (se := ([(9, .bool false), (8, .int .i64 ws.length), (7, .int .i64 ws.length), (6, .imm (icells ws) ws.length ex), (3, .int .i64 (totalF ws))], [])) (by
      rw [show 0 + ws.length = ws.length by omega]
      simp only [seqX_normal, seqX_exit, bindR_some, regX_some, condX_bool, run_nil, run_cons, fget_cons', fput_cons', forget_nil, forget_cons', gcM_n, stp, just, Rd.bind, Rd.run, Rd.opt, upds, aBin, aInt, Nat.reduceEqDiff, Nat.reduceLeDiff, ↓reduceIte, decide_false, putD_some, List.elem_nil, x84_10, r84_3_l, s84_3_0, x84_13, x84_14, x84_12, x84_11, x84_9, Int.lt_irrefl, decide_false, Bool.false_eq_true, totalF, Nat.sub_zero]) (by simp)
  simp only [seqX_normal, bindR_some, regX_some, blockX_exit, bodyX_ret, run_nil, run_cons, fget_cons', fput_nil, fput_cons', forget_nil, forget_cons', frame0, gcM_n, gcM_c, stp, just, Rd.bind, Rd.run, upds, resA, resL, aLen, aBuiltin, Nat.reduceBEq, Nat.reduceEqDiff, Nat.reduceLeDiff, ↓reduceIte, reduceCtorEq, List.getElem?_toArray, putD_some, Option.map_some, List.elem_cons, List.elem_nil, List.getElem?_cons_zero, T_47, x84_1, r84_0_l, s84_0_0, x84_3, r84_1_l, s84_1_0, x84_6, r84_2_l, s84_2_0, s84_2_1, s84_2_2, x84_8, x84_7, x84_5, x84_22, r84_7_l, s84_7_0, s84_7_1, x84_23, x84_21, x84_4, x84_2, x84_0, b_84, hloop]
theorem total_call {d : Nat} {site : Nat → Nat} {seen : List Nat} {ws : List Int} {ex : Bool} (hl : ws.length ≤ 6) (hb : ∀ (i : Nat) (w : Int), ws[i]? = some w → -1000 ≤ w ∧ w ≤ 1000) :
    aBack site true seen (thaw (callA E fg 1000 (d + 1)) 84 [.imm (icells ws) ws.length ex] [] 0) = .pure (.int .i64 (totalF ws), []) := aBack_int (rs_ex (total_run hl hb))
end Go.AM.Ytmhbnflnlglljaa
end
