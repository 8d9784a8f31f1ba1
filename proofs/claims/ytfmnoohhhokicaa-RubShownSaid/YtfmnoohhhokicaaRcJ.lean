/- A part of the proof of rubShown_holds: RtB, RuF, RtC, RubQ, RtG, RubN, RtE, RtH, RtI, RtJ, RtK, RuH, RxC0, RxC, WksR, RyC. Own work of this project; texts printed by own programs among it. -/
import Derived.KernelRfl
import Derived.Test.YtfmnoohhhokicaaRcI
section
namespace Go.AM.Ytfmnoohhhokicaa
open Go Go.AM Go.AM.Rub
set_option maxRecDepth 100000
set_option maxHeartbeats 4000000
/-- Bytes. -/
def u8s (l : List Int) : List AV := l.map (AV.int .u8)
theorem u8s_len (l : List Int) : (u8s l).length = l.length := by simp [u8s]
theorem u8s_at {l : List Int} {k : Nat} (h : k < l.length) : (u8s l)[k]? = some (.int .u8 (rowF l k)) := by simp [u8s, rowF_at h]
theorem u8s_refs : ∀ l : List Int, refsL (u8s l) = []
  | [] => rfl
  | a :: l => by
    have := u8s_refs l
    unfold u8s at this ⊢
    simp only [List.map_cons, refsL, refsOf, this, List.append_nil]
/-- A pile's numbers. -/
structure Pl (zs : List Int) : Prop where
  len : zs.length = 8
  b : ∀ k, k < 8 → 0 ≤ rowF zs k ∧ rowF zs k ≤ 255
theorem pl_of {zs : List Int} (h : zs.length = 8 ∧ ∀ (i : Nat) (z : Int), zs[i]? = some z → 0 ≤ z ∧ z ≤ 255) : Pl zs := ⟨h.1, fun k hk => h.2 k _ (rowF_at (by rw [h.1]; exact hk))⟩
/-- How many stones, and their thicknesses, unsorted. -/
def mdN (zs : List Int) (m : Int) : Nat := (1 + (rowF zs 0).tmod m).toNat
def mdP (zs : List Int) (t : Int) (i : Nat) : List Int := (List.range i).map fun k => (rowF zs (2 + k)).tmod (1 + (rowF zs 1).tmod t + 1)
theorem mdP_len (zs : List Int) (t : Int) (i : Nat) : (mdP zs t i).length = i := by simp [mdP]
theorem mdP_snoc (zs : List Int) (t : Int) (i : Nat) : mdP zs t (i + 1) = mdP zs t i ++ [(rowF zs (2 + i)).tmod (1 + (rowF zs 1).tmod t + 1)] := by simp [mdP, List.range_succ]
theorem tmod_b {a b : Int} (ha : 0 ≤ a) (hb : 0 < b) : 0 ≤ a.tmod b ∧ a.tmod b < b := ⟨Int.tmod_nonneg _ ha, Int.tmod_lt_of_pos _ hb⟩
theorem mdN_b {zs : List Int} (h : Pl zs) {m : Int} (h0 : 0 < m) (_ : m ≤ 6) : 0 < mdN zs m ∧ (mdN zs m : Int) ≤ m ∧ (mdN zs m : Int) = 1 + (rowF zs 0).tmod m := by
  have := tmod_b (h.b 0 (by omega)).1 h0
  unfold mdN
  omega
theorem mdP_b {zs : List Int} (h : Pl zs) {t : Int} (h0 : 0 < t) {i : Nat} (hi : i ≤ 6) {k : Nat} (hk : k < i) : 0 ≤ rowF (mdP zs t i) k ∧ rowF (mdP zs t i) k ≤ t := by
  have h1 := tmod_b (h.b 1 (by omega)).1 h0
  have h2 := tmod_b (a := rowF zs (2 + k)) (b := 1 + (rowF zs 1).tmod t + 1) (h.b (2 + k) (by omega)).1 (by omega)
  have e : rowF (mdP zs t i) k = (rowF zs (2 + k)).tmod (1 + (rowF zs 1).tmod t + 1) := by
    simp only [rowF, mdP, List.getD_eq_getElem?_getD, List.getElem?_map]
    rw [List.getElem?_range hk]; rfl
  rw [e]; omega
/-- The row of a pile. -/
def mdR (zs : List Int) (m t : Int) : List Int := srtI (mdP zs t (mdN zs m))
theorem mdR_row {zs : List Int} (h : Pl zs) {m t : Int} (hm : 0 < m) (h6 : m ≤ 6) (ht : 0 < t) (h8 : t ≤ 8) : Rw (mdN zs m) (mdR zs m t) ∧ ∀ x ∈ mdR zs m t, x ≤ t := by
  obtain ⟨n0, n1, _⟩ := mdN_b h hm h6
  have hl := mdP_len zs t (mdN zs m)
  obtain ⟨hp, hd⟩ := srtI_spec (l := mdP zs t (mdN zs m)) (by omega)
  have hx : ∀ x ∈ srtI (mdP zs t (mdN zs m)), 0 ≤ x ∧ x ≤ t := by
    intro x hx
    have hx := hp.mem_iff.1 hx
    obtain ⟨k, hk, rfl⟩ := List.getElem_of_mem hx
    have := mdP_b h ht (i := mdN zs m) (by omega) (k := k) (by omega)
    rw [show rowF (mdP zs t (mdN zs m)) k = (mdP zs t (mdN zs m))[k] by simp [rowF, hk]] at this
    exact this
  exact ⟨⟨by show (srtI _).length = _; rw [hp.length_eq, hl], descP_row (fun x h => by have := hx x h; omega) hd⟩, fun x h => (hx x h).2⟩
noncomputable abbrev mdS (zs : List Int) (n : Nat) (t : Int) (i : Nat) : St :=
  ([(19, .int .i64 i), (18, .int .i64 n), (17, .ref 3 2 n 6 8 1 true), (7, oV 35 1 i), (3, .ptr 3 0 8), (2, .int .i64 t)], (3, ⟨.box, u8s zs⟩) :: oH 35 (ics (mdP zs t i)))
theorem md_go {C : Callee} {zs : List Int} {n : Nat} {t : Int} (h : Pl zs) (hn : n ≤ 6) (h0 : 0 < t) (h8 : t ≤ 8) (i : Nat) (hi : i < n) :
    ∃ s', (execA E C (fg 56) 0 40 [] 1000000 c56_9) (mdS zs n t i) = some (.normal, s') ∧ headA [] s' = mdS zs n t (i + 1) := by
  have hlz : (u8s zs).length = 8 := by rw [u8s_len, h.len]
  have hat := u8s_at (l := zs) (k := 2 + i) (by rw [h.len]; omega)
  have hat1 := u8s_at (l := zs) (k := 1) (by rw [h.len]; omega)
  have b1 := h.b 1 (by omega)
  have b2 := h.b (2 + i) (by omega)
  have m1 := tmod_b b1.1 h0
  have m2 := tmod_b (a := rowF zs (2 + i)) (b := 1 + (rowF zs 1).tmod t + 1) b2.1 (by omega)
  have hsn := ics_snoc (mdP zs t i) ((rowF zs (2 + i)).tmod (1 + (rowF zs 1).tmod t + 1))
  have hrl : (ics (mdP zs t i)).length = i := by rw [ics_length, mdP_len]
  have g1 : (i : Int) < n := by omega
  have t0 : ¬ t = 0 := by omega
  have hz := u8s_refs zs
  simp only [mdS]
  rw [ov_pos (show 0 < i + 1 by omega), ohi_pos (l := mdP zs t (i + 1)) (by rw [mdP_len]; omega), mdP_snoc, ← hsn]
  have w1 : wrp .i64 (rowF zs (2 + i)) = rowF zs (2 + i) := wrp64 (by omega)
  have w2 : wrp .i64 (rowF zs 1) = rowF zs 1 := wrp64 (by omega)
  generalize rowF zs (2 + i) = x at *
  generalize rowF zs 1 = y at *
  generalize u8s zs = Z at *
  generalize hq : y.tmod t = q at *
  have w3 : wrp .i64 (1 + q) = 1 + q := wrp64 (by omega)
  have w4 : wrp .i64 (1 + q + 1) = 1 + q + 1 := wrp64 (by omega)
  have q0 : ¬ 1 + q + 1 = 0 := by omega
  rcases Nat.eq_zero_or_pos i with hp | hp
  · subst hp
    have e0 : ics (mdP zs t 0) = [] := rfl
    rw [e0, ov_zero]
    have oh0 : oH 35 [] = [] := rfl
    rw [oh0]
    simp (disch := omega) only [ZF, stp, justO, just, Rd.bind, Rd.run, Rd.opt, upds, acells, zeroCells, tsz, elemT, rdCells, fieldOf, aFieldAddr, aLoad, fresh, aIndexAddr, aNum, aBuiltin, aBin, aInt, putC, evO, Nat.reduceAdd, Nat.reduceLT, Nat.reduceBEq, Nat.reduceEqDiff, Nat.reduceLeDiff, ↓reduceIte, reduceCtorEq, aBuildSlice, aBuildAt, partsOf, fillA, repC, isSliceT, aAppend, srcOf, window, snaps, aConv, Int.reduceLE, Int.reduceToNat, ZT, F_56, hlz, hat, hat1, t0, q0, hq, w1, w2, w3, w4, cl0, if_pos, room22 (show 1 ≤ 1000000 by omega)]
    exact ⟨_, rfl, headA_box hz rfl rfl⟩
  · rw [ov_pos hp, ohi_pos (by rw [mdP_len]; exact hp)]
    have htk : List.take i (ics (mdP zs t i)) = ics (mdP zs t i) := List.take_of_length_le (by omega)
    have hno : ¬ i + 1 ≤ i := by omega
    generalize ics (mdP zs t i) = L at *
    simp (disch := omega) only [ZF, stp, justO, just, Rd.bind, Rd.run, Rd.opt, upds, acells, zeroCells, tsz, elemT, rdCells, fieldOf, aFieldAddr, aLoad, fresh, aIndexAddr, aNum, aBuiltin, aBin, aInt, putC, evO, Nat.reduceAdd, Nat.reduceLT, Nat.reduceBEq, Nat.reduceEqDiff, Nat.reduceLeDiff, ↓reduceIte, reduceCtorEq, aBuildSlice, aBuildAt, partsOf, fillA, repC, isSliceT, aAppend, srcOf, window, snaps, aConv, ZT, F_56, g1, hlz, hat, hat1, t0, q0, hq, w1, w2, w3, w4, hrl, htk, hno, room22 (show i + 1 ≤ 1000000 by omega), wrp_succ (show i < 1000000 by omega)]
    exact ⟨_, rfl, headA_box hz rfl rfl⟩
theorem made_run {d : Nat} {zs : List Int} {m t : Int} (h : Pl zs) (hm : 0 < m) (h6 : m ≤ 6) (h0 : 0 < t) (h8 : t ≤ 8) :
    ∃ H, bodyA E (kF (d + 6)) fg 1000000 56 [.agg (u8s zs), .int .i64 m, .int .i64 t] [] 0 = some (.ref 35 0 (mdN zs m) (mdN zs m) (mdN zs m) 1 false, H) ∧ hget H 35 = some ⟨.row, ics (mdR zs m t)⟩ := by
  obtain ⟨n0, n1, n2⟩ := mdN_b h hm h6
  have hlz : (u8s zs).length = 8 := by rw [u8s_len, h.len]
  have hat0 := u8s_at (l := zs) (k := 0) (by rw [h.len]; omega)
  have b0 := h.b 0 (by omega)
  have hz := u8s_refs zs
  have hpl := mdP_len zs t (mdN zs m)
  have hso := fun B => sorted_call (d := d) (B := B) (k := 35) (l := mdP zs t (mdN zs m)) (n := mdN zs m) (H := [(3, ⟨.box, u8s zs⟩), (35, ⟨.row, ics (mdP zs t (mdN zs m))⟩)]) hpl n0 (by omega) (fun k hk => by
    have := mdP_b h h0 (i := mdN zs m) (by omega) (k := k) (by omega)
    omega) rfl
  have hh : ∀ b : Blk, hset [(3, ⟨.box, u8s zs⟩), (35, ⟨.row, ics (mdP zs t (mdN zs m))⟩)] 35 b = [(3, ⟨.box, u8s zs⟩), (35, b)] := fun _ => rfl
  simp only [hh] at hso
  have er : srtI (mdP zs t (mdN zs m)) = mdR zs m t := rfl
  rw [er] at hso
  have hloop := loopM (f := execA E (kF (d + 6)) (fg 56) 0 40 [] 1000000 c56_9) (E0 := []) (mdS zs (mdN zs m) t) (mdN zs m) (fun i hi => md_go h (by omega) h0 h8 i hi) (headA_box hz rfl rfl) (by omega)
    (e := .exit 0) (se := ([(20, .bool false), (19, .int .i64 (mdN zs m)), (18, .int .i64 (mdN zs m)), (17, .ref 3 2 (mdN zs m) 6 8 1 true), (7, .ref 35 0 (mdN zs m) (mdN zs m) (mdN zs m) 1 false), (3, .ptr 3 0 8), (2, .int .i64 t)], [(3, ⟨.box, u8s zs⟩), (35, ⟨.row, ics (mdP zs t (mdN zs m))⟩)]))
    (by
      simp only [mdS]
      rw [ov_pos n0, ohi_pos (by rw [hpl]; exact n0)]
      simp (disch := omega) only [ZF, stp, just, Rd.bind, Rd.run, Rd.opt, upds, aBin, aInt, Nat.reduceEqDiff, Nat.reduceLeDiff, ↓reduceIte, F_56]) (by simp)
  have e0 : oH 35 (ics (mdP zs t 0)) = [] := rfl
  simp only [mdS, cl0, e0, ov_zero] at hloop
  have w1 : wrp .i64 (rowF zs 0) = rowF zs 0 := wrp64 (by omega)
  have w2 : wrp .i64 (1 + (rowF zs 0).tmod m) = (mdN zs m : Int) := by rw [← n2]; exact wrp64 (by omega)
  have hm0 : ¬ m = 0 := by omega
  have sp := fun d => snaps_flat (u8s zs) (d + 10) (by simp [u8s]) (by rw [hlz]; omega)
  generalize kF (d + 6) = C at *
  generalize mdN zs m = n at *
  generalize mdR zs m t = R at *
  generalize ics (mdP zs t n) = L at *
  generalize rowF zs 0 = x at *
  generalize u8s zs = Z at *
  have g1 : (0 : Int) ≤ n ∧ (n : Int) ≤ 6 := by omega
  simp (disch := omega) only [ZF, frame0, stp, opBox, justO, just, Rd.bind, Rd.run, Rd.opt, upds, acells, tsz, rdCells, fieldOf, aFieldAddr, aLoad, resA, resL, fresh, aNum, aLen, aBuiltin, aBin, aInt, Nat.reduceAdd, Nat.reduceMul, Nat.reduceLT, Nat.reduceBEq, Nat.reduceEqDiff, Nat.reduceLeDiff, ↓reduceIte, reduceCtorEq, mutX, aConv, aSlice, aBounds, bMax, bHigh, bLow, ZT, F_56, hlz, hat0, w1, w2, hm0, g1, hloop, hso, if_pos]
  exact ⟨_, rfl, rfl⟩
theorem made_call {d : Nat} {site : Nat → Nat} {seen : List Nat} {zs : List Int} {m t : Int} (h : Pl zs) (hm : 0 < m) (h6 : m ≤ 6) (h0 : 0 < t) (h8 : t ≤ 8) : aBack site true seen (thaw (kF (d + 7)) 56 [.agg (u8s zs), .int .i64 m, .int .i64 t] [] 0) =
    back1 (site 0) seen (fun k => .ref k 0 (mdN zs m) (mdN zs m) (mdN zs m) 1 false) ⟨.row, ics (mdR zs m t)⟩ := by
  obtain ⟨H, h1, h2⟩ := made_run (d := d) h hm h6 h0 h8
  exact aBack_refc (by rw [kF_no rfl]; exact h1) h2 (by rw [ics_length]; exact (mdR_row h hm h6 h0 h8).1.len)
end Go.AM.Ytfmnoohhhokicaa
end

section
namespace Go.AM.Ytfmnoohhhokicaa
open Go Go.AM Go.AM.Rub
set_option maxRecDepth 100000
set_option maxHeartbeats 4000000
theorem iv_al {l : List Int} {a : AV} (h : IV l a) : aLen E.T 22 a = .pure (.int .i64 (l.length : Int)) := by
  rcases h with ⟨rfl, rfl⟩ | ⟨ex, rfl⟩ <;> (simp only [aLen, T_22] <;> rfl)
end Go.AM.Ytfmnoohhhokicaa
end

section
namespace Go.AM.Ytfmnoohhhokicaa
open Go Go.AM Go.AM.Rub
set_option maxRecDepth 100000
set_option maxHeartbeats 4000000
/-- The cells of a list of rows. -/
def lcs (L : List (List Int)) : List AV := L.map fun l => .imm (ics l) l.length false
theorem lcs_length (L : List (List Int)) : (lcs L).length = L.length := by simp [lcs]
theorem lcs_at {L : List (List Int)} {k : Nat} {l : List Int} (h : L[k]? = some l) : (lcs L)[k]? = some (.imm (ics l) l.length false) := by simp [lcs, h]
theorem lcs_snoc (L : List (List Int)) (l : List Int) : lcs L ++ [.imm (ics l) l.length false] = lcs (L ++ [l]) := by simp [lcs]
theorem lcs_takeA (L : List (List Int)) : (lcs L).take L.length = lcs L := List.take_of_length_le (by rw [lcs_length]; exact Nat.le_refl _)
theorem room39 {n : Nat} (h : n ≤ 1000000) : roomOk E.T 22 n = true := by
  simp only [roomOk, T_22, decide_eq_true_eq]; exact ⟨by decide, rfl, by omega⟩
theorem ohl_pos {k : Nat} {L : List (List Int)} (h : 0 < L.length) : oH k (lcs L) = [(k, ⟨.row, lcs L⟩)] := oH_ne k (by rw [lcs_length]; exact h)
abbrev toS (l : List Int) (a : AV) (i : Nat) : St := ([(8, .int .i64 i), (7, .int .i64 l.length), (6, a), (3, .int .i64 (ps (rowF l) i))], [])
theorem total_run {C : Callee} {l : List Int} {a : AV} (ha : IV l a) (hl : l.length ≤ 1000) (hb : ∀ k, k < l.length → 0 ≤ rowF l k ∧ rowF l k ≤ 100000) : rsOf (bodyA E C fg 1000000 58 [a] [] 0) = some (.int .i64 (ps (rowF l) l.length)) := by
  have hps : ∀ k, k ≤ l.length → 0 ≤ ps (rowF l) k ∧ ps (rowF l) k ≤ 100000 * k := by
    intro k
    induction k with
    | zero => intro _; simp [ps]
    | succ k ih =>
      intro hk
      have := ih (by omega)
      have := hb k (by omega)
      simp only [ps]; omega
  rcases ha with ⟨rfl, rfl⟩ | ⟨ex, rfl⟩
  · have hloop := loopM0 (f := (execA E C (fg 58) 0 17 [] 1000000 c58_9)) (E0 := []) (s0 := ([(8, .int .i64 0), (7, .int .i64 0), (6, .nilsl), (3, .int .i64 0)], [])) rfl (e := .exit 0) (se := ([(9, .bool false), (8, .int .i64 0), (7, .int .i64 0), (6, .nilsl), (3, .int .i64 0)], []))
      (by simp (disch := omega) only [ZF, stp, just, Rd.bind, Rd.run, Rd.opt, upds, aBin, aInt, Nat.reduceEqDiff, Nat.reduceLeDiff, ↓reduceIte, F_58]) (by simp)
    simp (disch := omega) only [ZF, frame0, stp, just, Rd.bind, Rd.run, upds, resA, resL, aLen, aBuiltin, Nat.reduceBEq, Nat.reduceEqDiff, Nat.reduceLeDiff, ↓reduceIte, reduceCtorEq, ZT, F_58, hloop, ps]
  · have hlen := ics_length l
    have hloop := loopM (f := (execA E C (fg 58) 0 17 [] 1000000 c58_9)) (E0 := []) (toS l (.imm (ics l) l.length ex)) l.length (fun i hi => by
        have hat := icr_at hi
        have g1 : (i : Int) < l.length := by omega
        have := hps i (by omega)
        have := hb i hi
        have w : wrp .i64 (ps (rowF l) i + rowF l i) = ps (rowF l) i + rowF l i := wrp64 (by omega)
        simp (disch := omega) only [ZF, stp, just, Rd.bind, Rd.run, Rd.opt, upds, tsz, rdCells, aLoad, aIndexAddr, aNum, aBin, aInt, Nat.reduceLT, Nat.reduceBEq, Nat.reduceEqDiff, Nat.reduceLeDiff, ↓reduceIte, ZT, F_58, toS, ps, g1, hat, hlen, w, wrp_succ (show i < 1000000 by omega)]
        exact ⟨_, rfl, rfl⟩) rfl (by omega) (e := .exit 0) (se := ([(9, .bool false), (8, .int .i64 l.length), (7, .int .i64 l.length), (6, .imm (ics l) l.length ex), (3, .int .i64 (ps (rowF l) l.length))], []))
      (by simp (disch := omega) only [ZF, stp, just, Rd.bind, Rd.run, Rd.opt, upds, aBin, aInt, Nat.reduceEqDiff, Nat.reduceLeDiff, ↓reduceIte, F_58, toS]) (by simp)
    simp only [toS, cl0, ps] at hloop
    simp (disch := omega) only [ZF, frame0, stp, just, Rd.bind, Rd.run, upds, resA, resL, aLen, aBuiltin, Nat.reduceBEq, Nat.reduceEqDiff, Nat.reduceLeDiff, ↓reduceIte, reduceCtorEq, ZT, F_58, hloop]
theorem total_call {d : Nat} {site : Nat → Nat} {seen : List Nat} {l : List Int} {a : AV} (ha : IV l a) (hl : l.length ≤ 1000) (hb : ∀ k, k < l.length → 0 ≤ rowF l k ∧ rowF l k ≤ 100000) : aBack site true seen (thaw (kF (d + 1)) 58 [a] [] 0) = .pure (.int .i64 (ps (rowF l) l.length), []) :=
  aBack_int (kF_ex rfl (total_run ha hl hb))
theorem rowF_take {l : List Int} {k i : Nat} (h : i < k) : rowF (l.take k) i = rowF l i := by
  simp only [rowF, List.getD_eq_getElem?_getD, List.getElem?_take, if_pos h]
theorem totalk_call {d : Nat} {site : Nat → Nat} {seen : List Nat} {n : Nat} {l : List Int} (h : Rw n l) (hn : n ≤ 8) {k : Nat} (hk : k ≤ n) {ex : Bool} : aBack site true seen (thaw (kF (d + 1)) 58 [.imm (ics (l.take k)) k ex] [] 0) = .pure (.int .i64 (ps (rowF l) k), []) := by
  have hl : (l.take k).length = k := by rw [List.length_take, h.len]; omega
  have ha : IV (l.take k) (.imm (ics (l.take k)) k ex) := .inr ⟨ex, by rw [hl]⟩
  have := total_call (d := d) (site := site) (seen := seen) ha (by omega) (fun i hi => by rw [rowF_take (by omega)]; have := rw_b h (k := i) (by omega); omega)
  rw [hl, ps_congr k fun i hi => rowF_take hi] at this
  exact this
end Go.AM.Ytfmnoohhhokicaa
end

section
namespace Go.AM.Rub
set_option maxRecDepth 100000
/-- All rows of m more numbers behind l, none above 'most', of what is left. -/
def fuR (l : List Int) (m : Nat) (left most : Int) : List (List Int) := (rowsL m left most).map (l ++ ·)
theorem fuR_zero (l : List Int) (left most : Int) : fuR l 0 left most = if left = 0 then [l] else [] := by
  unfold fuR
  simp only [rowsL]
  split <;> simp
theorem fuR_nil (m : Nat) (left most : Int) : fuR [] m left most = rowsL m left most := by
  unfold fuR; simp
theorem fuR_succ (l : List Int) (m : Nat) (left most : Int) : fuR l (m + 1) left most = (dn (min most left)).flatMap fun t => fuR (l ++ [t]) m (left - t) t := by
  unfold fuR
  simp only [rowsL, List.map_flatMap, List.map_map]
  congr 1
  funext t
  congr 1
  funext r
  simp
/-- .. by the first j numbers, from the greatest one down. -/
def fuP (l : List Int) (m : Nat) (left : Int) (m0 : Nat) (j : Nat) : List (List Int) := (List.range j).flatMap fun (i : Nat) => fuR (l ++ [((m0 : Int) - i)]) m (left - ((m0 : Int) - i)) ((m0 : Int) - i)
theorem fuP_snoc (l : List Int) (m : Nat) (left : Int) (m0 j : Nat) : fuP l m left m0 (j + 1) = fuP l m left m0 j ++ fuR (l ++ [((m0 : Int) - j)]) m (left - ((m0 : Int) - j)) ((m0 : Int) - j) := by
  unfold fuP
  rw [List.range_succ, List.flatMap_append]
  simp
theorem dnN_range : ∀ n : Nat, dnN n = (List.range (n + 1)).map fun (i : Nat) => (n : Int) - i
  | 0 => rfl
  | n + 1 => by
    have h : List.range (n + 1 + 1) = 0 :: (List.range (n + 1)).map Nat.succ := List.range_succ_eq_map
    rw [dnN, dnN_range n, h, List.map_cons, List.map_map]
    congr 1
    apply List.map_congr_left
    intro a _
    simp only [Function.comp_apply]
    omega
theorem fuP_all (l : List Int) (m : Nat) {left most : Int} {m0 : Nat} (h : min most left = m0) : fuP l m left m0 (m0 + 1) = fuR l (m + 1) left most := by
  rw [fuR_succ, h]
  unfold fuP dn
  rw [if_neg (by omega), Int.toNat_natCast, dnN_range, List.flatMap_map]
theorem fuR_len (l : List Int) (m : Nat) (left most : Int) (h : most ≤ 8) : (fuR l m left most).length ≤ 9 ^ m := by
  unfold fuR
  rw [List.length_map]
  exact rowsL_len m left most h
theorem fuP_len (l : List Int) (m : Nat) (left : Int) (m0 : Nat) (h : m0 ≤ 8) : ∀ j, j ≤ m0 + 1 → (fuP l m left m0 j).length ≤ j * 9 ^ m
  | 0, _ => by simp [fuP]
  | j + 1, hj => by
    have ih := fuP_len l m left m0 h j (by omega)
    have := fuR_len (l ++ [((m0 : Int) - j)]) m (left - ((m0 : Int) - j)) ((m0 : Int) - j) (by omega)
    rw [fuP_snoc, List.length_append, Nat.succ_mul]
    omega
end Go.AM.Rub
end

section
namespace Go.AM.Ytfmnoohhhokicaa
open Go Go.AM Go.AM.Rub
set_option maxRecDepth 100000
set_option maxHeartbeats 8000000
abbrev rwK (i j k : Nat) : AV := .clo 105 [.ptr i 0 1, .ptr j 0 1, .ptr k 0 1]
/-- The heap of a call, with no row found yet, and with some. -/
abbrev rhA (l : List Int) (n : Nat) : AHeap := [(0, ⟨.row, ics l⟩), (1, ⟨.box, [.int .i64 n]⟩), (2, ⟨.box, [.nilsl]⟩), (3, ⟨.box, [rwK 1 2 3]⟩)]
abbrev rhB (l : List Int) (n : Nat) (L : List (List Int)) : AHeap := [(0, ⟨.row, ics l⟩), (1, ⟨.box, [.int .i64 n]⟩), (2, ⟨.box, [.ref 3 0 L.length L.length L.length 1 false]⟩), (3, ⟨.row, lcs L⟩), (4, ⟨.box, [rwK 1 2 4]⟩)]
/-- What it leaves. -/
structure RoA (l : List Int) (n : Nat) (new : List (List Int)) (H : AHeap) (id : Nat) (st : BS) : Prop where
  h0 : hget H 0 = some ⟨st, ics l⟩
  st : st = .row ∨ st = .froz
  h1 : hget H 1 = some ⟨.box, [.int .i64 n]⟩
  h2 : hget H 2 = some ⟨.box, [oV id 1 new.length]⟩
  h3 : hget H 3 = some ⟨.box, [rwK 1 2 3]⟩
  id4 : 4 ≤ id
  hr : 0 < new.length → hget H id = some ⟨.row, lcs new⟩
structure RoB (l : List Int) (n : Nat) (L : List (List Int)) (H : AHeap) (st : BS) : Prop where
  h0 : hget H 0 = some ⟨st, ics l⟩
  st : st = .row ∨ st = .froz
  h1 : hget H 1 = some ⟨.box, [.int .i64 n]⟩
  h2 : hget H 2 = some ⟨.box, [.ref 3 0 L.length L.length L.length 1 false]⟩
  h3 : hget H 3 = some ⟨.row, lcs L⟩
  h4 : hget H 4 = some ⟨.box, [rwK 1 2 4]⟩
/-- What a call does. -/
structure RoC (d : Nat) (l : List Int) (n k m : Nat) (left most : Int) : Prop where
  a : ∃ H id st, pF d 105 [.ref 0 0 k k k 1 false, .int .i64 left, .int .i64 most, .ptr 1 0 1, .ptr 2 0 1, .ptr 3 0 1] (rhA l n) 64 = some (.tup [], H) ∧ RoA l n (fuR l m left most) H id st
  b : ∀ L : List (List Int), 0 < L.length → L.length + 9 ^ m ≤ 900000 → ∃ H st, pF d 105 [.ref 0 0 k k k 1 false, .int .i64 left, .int .i64 most, .ptr 1 0 1, .ptr 2 0 1, .ptr 4 0 1] (rhB l n L) 64 = some (.tup [], H) ∧ RoB l n (L ++ fuR l m left most) H st
theorem newsA {l : List Int} {n : Nat} {new : List (List Int)} {H : AHeap} {id : Nat} {st : BS} (h : RoA l n new H id st) : newsF H (.tup []) 4 = if new = [] then [] else [id] := by
  obtain ⟨h0, hs, h1, h2, h3, h4, hr⟩ := h
  have e : refsOf (.tup []) ++ List.range 4 = [0, 1, 2, 3] := rfl
  unfold newsF
  rw [e]
  cases hn : new with
  | nil =>
    subst hn
    rw [if_pos rfl]
    have hv : oV id 1 ([] : List (List Int)).length = .nilsl := rfl
    rw [hv] at h2
    rcases hs with rfl | rfl <;> simp [mark, h0, h1, h2, h3, refsL, refsOf]
  | cons x xs =>
    rw [← hn]
    have hp : 0 < new.length := by rw [hn]; simp
    rw [if_neg (by rw [hn]; simp)]
    rw [ov_pos hp] at h2
    have hr := hr hp
    have c0 : (id == 0) = false := by rw [beq_eq_false_iff_ne]; omega
    have c1 : (id == 1) = false := by rw [beq_eq_false_iff_ne]; omega
    have c2 : (id == 2) = false := by rw [beq_eq_false_iff_ne]; omega
    have c3 : (3 == id) = false := by rw [beq_eq_false_iff_ne]; omega
    have c4 : ¬ id < 4 := by omega
    have d0 : ¬ id = 0 := by omega
    have d1 : ¬ id = 1 := by omega
    have d2 : ¬ id = 2 := by omega
    have d3 : ¬ id = 3 := by omega
    have d3' : ¬ 3 = id := by omega
    have d2' : ¬ 2 = id := by omega
    have d1' : ¬ 1 = id := by omega
    rcases hs with rfl | rfl <;> simp [mark, h0, h1, h2, h3, hr, refsL, refsOf, d0, d1, d2, d1', d2', d3', h4]
theorem newsB {l : List Int} {n : Nat} {L : List (List Int)} {H : AHeap} {st : BS} (h : RoB l n L H st) : newsF H (.tup []) 5 = [] := by
  obtain ⟨h0, hs, h1, h2, h3, h4⟩ := h
  have e : refsOf (.tup []) ++ List.range 5 = [0, 1, 2, 3, 4] := rfl
  unfold newsF
  rw [e]
  rcases hs with rfl | rfl <;> simp [mark, h0, h1, h2, h3, h4, refsL, refsOf]
end Go.AM.Ytfmnoohhhokicaa
end

section
namespace Go.AM.Rub
set_option maxRecDepth 100000
/-- One row more, if it is not there. -/
def ad (out : List (List Int)) (l : List Int) : List (List Int) := if l ∈ out then out else out ++ [l]
end Go.AM.Rub
end

section
namespace Go.AM.Ytfmnoohhhokicaa
open Go Go.AM Go.AM.Rub
set_option maxRecDepth 100000
set_option maxHeartbeats 8000000
theorem ocvL (k : Nat) (L : List (List Int)) : (L = [] ∧ oV k 1 L.length = .nilsl ∧ oH k (lcs L) = []) ∨ (0 < L.length ∧ oV k 1 L.length = .ref k 0 L.length L.length L.length 1 false ∧ oH k (lcs L) = [(k, ⟨.row, lcs L⟩)]) := by
  cases L with
  | nil => exact .inl ⟨rfl, rfl, rfl⟩
  | cons x L => exact .inr ⟨by simp, ov_pos (by simp), ohl_pos (by simp)⟩
end Go.AM.Ytfmnoohhhokicaa
end

section
namespace Go.AM.Ytfmnoohhhokicaa
open Go Go.AM Go.AM.Rub
set_option maxRecDepth 100000
set_option maxHeartbeats 8000000
section
variable {d : Nat} {l l' : List Int} {n k m : Nat} {left most : Int} {c : List AV}
theorem rw_callA0 (hC : RoC d l' n k m left most) (_ : l'.length = k) : ∃ st, kF d 105 [.ref 100 0 k k k 1 false, .int .i64 left, .int .i64 most, .ptr 1 0 1, .ptr 2 0 1, .ptr 3 0 1]
      [(0, ⟨.row, ics l⟩), (1, ⟨.box, [.int .i64 n]⟩), (2, ⟨.box, [.nilsl]⟩), (3, ⟨.box, [rwK 1 2 3]⟩), (99, ⟨.row, c⟩), (100, ⟨.row, ics l'⟩)] 400 =
    some (.tup [], (0, ⟨.row, ics l⟩) :: (1, ⟨.box, [.int .i64 n]⟩) :: (2, ⟨.box, [oV 400 1 (fuR l' m left most).length]⟩) :: (3, ⟨.box, [rwK 1 2 3]⟩) :: (99, ⟨.row, c⟩) :: (100, ⟨st, ics l'⟩) :: oH 400 (lcs (fuR l' m left most))) := by
  obtain ⟨H, id, st, hp, ro⟩ := hC.a
  refine ⟨st, ?_⟩
  rw [kF_fr rfl]
  have hks : (mark [(0, ⟨.row, ics l⟩), (1, ⟨.box, [.int .i64 n]⟩), (2, ⟨.box, [.nilsl]⟩), (3, ⟨.box, [rwK 1 2 3]⟩), (99, ⟨.row, c⟩), (100, ⟨.row, ics l'⟩)] 1000 (refsL [.ref 100 0 k k k 1 false, .int .i64 left, .int .i64 most, .ptr 1 0 1, .ptr 2 0 1, .ptr 3 0 1]) []).reverse = [100, 1, 2, 3] := rfl
  have hap : AM.apart [100, 1, 2, 3] = true := rfl
  have e1 : renL (posF [100, 1, 2, 3] 0) [.ref 100 0 k k k 1 false, .int .i64 left, .int .i64 most, .ptr 1 0 1, .ptr 2 0 1, .ptr 3 0 1] = some [.ref 0 0 k k k 1 false, .int .i64 left, .int .i64 most, .ptr 1 0 1, .ptr 2 0 1, .ptr 3 0 1] := rfl
  have e2 : foc (posF [100, 1, 2, 3] 0) [(0, ⟨.row, ics l⟩), (1, ⟨.box, [.int .i64 n]⟩), (2, ⟨.box, [.nilsl]⟩), (3, ⟨.box, [rwK 1 2 3]⟩), (99, ⟨.row, c⟩), (100, ⟨.row, ics l'⟩)] 0 [100, 1, 2, 3] = some (rhA l' n) := rfl
  have hn := newsA ro
  obtain ⟨h0, hs, h1, h2, h3, h4, hr⟩ := ro
  have hlen : (ics l').length = (ics l').length := rfl
  have hl4 : ([100, 1, 2, 3] : List Nat).length = 4 := rfl
  have er : List.range 4 = [0, 1, 2, 3] := rfl
  rw [hks]
  unfold focus
  rw [if_pos hap]
  simp only [e1, e2, hp, backF, hl4, hn, er]
  rcases ocvL 400 (fuR l' m left most) with ⟨hn0, o1, o2⟩ | ⟨hp0, o1, o2⟩
  · rw [o1, o2]
    rw [hn0] at h2
    have hv : oV id 1 ([] : List (List Int)).length = .nilsl := rfl
    rw [hv] at h2
    rcases hs with rfl | rfl <;>
    simp only [hn0, if_true, List.length_nil, baseF, freeL, AM.apart, List.append_nil, ren, renL, unf, outF, posF, h0, h1, h2, h3, List.getElem?_cons_zero, List.getElem?_cons_succ, Nat.reduceLT, if_true, goodB, BS.open_, Bool.true_or, Bool.false_or, rhA, hget_cons', decide_true, Bool.and_self, renB, hl4, upds, hset_cons', hset_nil', Nat.reduceEqDiff, Nat.reduceLeDiff, if_false, Nat.reduceAdd, reduceCtorEq]
  · rw [o1, o2]
    rw [ov_pos hp0] at h2
    have hr := hr hp0
    have hne : ¬ fuR l' m left most = [] := fun e => by rw [e] at hp0; simp at hp0
    have c4 : ¬ id < 4 := by omega
    have hbase : baseF [(0, ⟨.row, ics l⟩), (1, ⟨.box, [.int .i64 n]⟩), (2, ⟨.box, [.nilsl]⟩), (3, ⟨.box, [rwK 1 2 3]⟩), (99, ⟨.row, c⟩), (100, ⟨.row, ics l'⟩)] 1 8 400 = some 400 := rfl
    rcases hs with rfl | rfl <;>
    simp only [hne, if_false, List.length_cons, List.length_nil, Nat.zero_add, hbase, AM.apart, List.elem_nil, Bool.not_false, Bool.and_self, if_true, List.cons_append, List.nil_append, ren, renL, unf, outF, posF, h0, h1, h2, h3, hr, c4, List.getElem?_cons_zero, List.getElem?_cons_succ, Nat.reduceLT, goodB, BS.open_, Bool.true_or, Bool.false_or, rhA, hget_cons', decide_true, renB, hl4, upds, hset_cons', hset_nil', Nat.reduceEqDiff, Nat.reduceLeDiff, Nat.add_zero, reduceCtorEq]
theorem rw_callA1 (hC : RoC d l' n k m left most) {L : List (List Int)} (h0 : 0 < L.length) (h8 : L.length + 9 ^ m ≤ 900000) : ∃ st, kF d 105 [.ref 100 0 k k k 1 false, .int .i64 left, .int .i64 most, .ptr 1 0 1, .ptr 2 0 1, .ptr 3 0 1]
      [(0, ⟨.row, ics l⟩), (1, ⟨.box, [.int .i64 n]⟩), (2, ⟨.box, [.ref 400 0 L.length L.length L.length 1 false]⟩), (3, ⟨.box, [rwK 1 2 3]⟩), (99, ⟨.row, c⟩), (100, ⟨.row, ics l'⟩), (400, ⟨.row, lcs L⟩)] 400 =
    some (.tup [], [(0, ⟨.row, ics l⟩), (1, ⟨.box, [.int .i64 n]⟩), (2, ⟨.box, [.ref 400 0 (L ++ fuR l' m left most).length (L ++ fuR l' m left most).length (L ++ fuR l' m left most).length 1 false]⟩), (3, ⟨.box, [rwK 1 2 3]⟩), (99, ⟨.row, c⟩), (100, ⟨st, ics l'⟩), (400, ⟨.row, lcs (L ++ fuR l' m left most)⟩)]) := by
  obtain ⟨H, st, hp, ro⟩ := hC.b L h0 h8
  refine ⟨st, ?_⟩
  rw [kF_fr rfl]
  have hks : (mark [(0, ⟨.row, ics l⟩), (1, ⟨.box, [.int .i64 n]⟩), (2, ⟨.box, [.ref 400 0 L.length L.length L.length 1 false]⟩), (3, ⟨.box, [rwK 1 2 3]⟩), (99, ⟨.row, c⟩), (100, ⟨.row, ics l'⟩), (400, ⟨.row, lcs L⟩)] 1000 (refsL [.ref 100 0 k k k 1 false, .int .i64 left, .int .i64 most, .ptr 1 0 1, .ptr 2 0 1, .ptr 3 0 1]) []).reverse = [100, 1, 2, 400, 3] := rfl
  have hap : AM.apart [100, 1, 2, 400, 3] = true := rfl
  have e1 : renL (posF [100, 1, 2, 400, 3] 0) [.ref 100 0 k k k 1 false, .int .i64 left, .int .i64 most, .ptr 1 0 1, .ptr 2 0 1, .ptr 3 0 1] = some [.ref 0 0 k k k 1 false, .int .i64 left, .int .i64 most, .ptr 1 0 1, .ptr 2 0 1, .ptr 4 0 1] := rfl
  have e2 : foc (posF [100, 1, 2, 400, 3] 0) [(0, ⟨.row, ics l⟩), (1, ⟨.box, [.int .i64 n]⟩), (2, ⟨.box, [.ref 400 0 L.length L.length L.length 1 false]⟩), (3, ⟨.box, [rwK 1 2 3]⟩), (99, ⟨.row, c⟩), (100, ⟨.row, ics l'⟩), (400, ⟨.row, lcs L⟩)] 0 [100, 1, 2, 400, 3] = some (rhB l' n L) := rfl
  have hn := newsB ro
  obtain ⟨h0, hs, h1, h2, h3, h4⟩ := ro
  have hl5 : ([100, 1, 2, 400, 3] : List Nat).length = 5 := rfl
  have er : List.range 5 = [0, 1, 2, 3, 4] := rfl
  rw [hks]
  unfold focus
  rw [if_pos hap]
  simp only [e1, e2, hp, backF, hl5, hn, er]
  rcases hs with rfl | rfl <;>
  simp only [List.length_nil, baseF, freeL, AM.apart, if_true, List.append_nil, ren, renL, unf, outF, posF, h0, h1, h2, h3, h4, List.getElem?_cons_zero, List.getElem?_cons_succ, Nat.reduceLT, goodB, BS.open_, Bool.true_or, Bool.false_or, rhB, hget_cons', decide_true, Bool.and_self, renB, hl5, upds, hset_cons', hset_nil', Nat.reduceEqDiff, Nat.reduceLeDiff, if_false, Nat.reduceAdd, reduceCtorEq]
theorem rw_callB (hC : RoC d l' n k m left most) {L : List (List Int)} (h0 : 0 < L.length) (h8 : L.length + 9 ^ m ≤ 900000) : ∃ st, kF d 105 [.ref 100 0 k k k 1 false, .int .i64 left, .int .i64 most, .ptr 1 0 1, .ptr 2 0 1, .ptr 4 0 1]
      [(0, ⟨.row, ics l⟩), (1, ⟨.box, [.int .i64 n]⟩), (2, ⟨.box, [.ref 3 0 L.length L.length L.length 1 false]⟩), (3, ⟨.row, lcs L⟩), (4, ⟨.box, [rwK 1 2 4]⟩), (99, ⟨.row, c⟩), (100, ⟨.row, ics l'⟩)] 400 =
    some (.tup [], [(0, ⟨.row, ics l⟩), (1, ⟨.box, [.int .i64 n]⟩), (2, ⟨.box, [.ref 3 0 (L ++ fuR l' m left most).length (L ++ fuR l' m left most).length (L ++ fuR l' m left most).length 1 false]⟩), (3, ⟨.row, lcs (L ++ fuR l' m left most)⟩), (4, ⟨.box, [rwK 1 2 4]⟩), (99, ⟨.row, c⟩), (100, ⟨st, ics l'⟩)]) := by
  obtain ⟨H, st, hp, ro⟩ := hC.b L h0 h8
  refine ⟨st, ?_⟩
  rw [kF_fr rfl]
  have hks : (mark [(0, ⟨.row, ics l⟩), (1, ⟨.box, [.int .i64 n]⟩), (2, ⟨.box, [.ref 3 0 L.length L.length L.length 1 false]⟩), (3, ⟨.row, lcs L⟩), (4, ⟨.box, [rwK 1 2 4]⟩), (99, ⟨.row, c⟩), (100, ⟨.row, ics l'⟩)] 1000 (refsL [.ref 100 0 k k k 1 false, .int .i64 left, .int .i64 most, .ptr 1 0 1, .ptr 2 0 1, .ptr 4 0 1]) []).reverse = [100, 1, 2, 3, 4] := rfl
  have hap : AM.apart [100, 1, 2, 3, 4] = true := rfl
  have e1 : renL (posF [100, 1, 2, 3, 4] 0) [.ref 100 0 k k k 1 false, .int .i64 left, .int .i64 most, .ptr 1 0 1, .ptr 2 0 1, .ptr 4 0 1] = some [.ref 0 0 k k k 1 false, .int .i64 left, .int .i64 most, .ptr 1 0 1, .ptr 2 0 1, .ptr 4 0 1] := rfl
  have e2 : foc (posF [100, 1, 2, 3, 4] 0) [(0, ⟨.row, ics l⟩), (1, ⟨.box, [.int .i64 n]⟩), (2, ⟨.box, [.ref 3 0 L.length L.length L.length 1 false]⟩), (3, ⟨.row, lcs L⟩), (4, ⟨.box, [rwK 1 2 4]⟩), (99, ⟨.row, c⟩), (100, ⟨.row, ics l'⟩)] 0 [100, 1, 2, 3, 4] = some (rhB l' n L) := rfl
  have hn := newsB ro
  obtain ⟨h0, hs, h1, h2, h3, h4⟩ := ro
  have hl5 : ([100, 1, 2, 3, 4] : List Nat).length = 5 := rfl
  have er : List.range 5 = [0, 1, 2, 3, 4] := rfl
  rw [hks]
  unfold focus
  rw [if_pos hap]
  simp only [e1, e2, hp, backF, hl5, hn, er]
  rcases hs with rfl | rfl <;>
  simp only [List.length_nil, baseF, freeL, AM.apart, if_true, List.append_nil, ren, renL, unf, outF, posF, h0, h1, h2, h3, h4, List.getElem?_cons_zero, List.getElem?_cons_succ, Nat.reduceLT, goodB, BS.open_, Bool.true_or, Bool.false_or, rhB, hget_cons', decide_true, Bool.and_self, renB, hl5, upds, hset_cons', hset_nil', Nat.reduceEqDiff, Nat.reduceLeDiff, if_false, Nat.reduceAdd, reduceCtorEq]
end
end Go.AM.Ytfmnoohhhokicaa
end

section
namespace Go.AM.Ytfmnoohhhokicaa
open Go Go.AM Go.AM.Rub
set_option maxRecDepth 100000
set_option maxHeartbeats 8000000
/-- No number is left to choose. -/
theorem rw_leaf {d : Nat} {l : List Int} {n : Nat} {left most : Int} (hl : l.length = n) : RoC (d + 1) l n n 0 left most := by
  have hlen : (ics l).length = n := by rw [ics_length, hl]
  have htk : List.take n (ics l) = ics l := List.take_of_length_le (by omega)
  have em : AV.imm (ics l) n false = .imm (ics l) l.length false := by rw [hl]
  constructor
  · rw [pF_s, fuR_zero]
    by_cases h : left = 0
    · rw [if_pos h]
      subst h
      generalize kF d = C
      simp only [rhA]
      have e : lcs [l] = [.imm (ics l) n false] := by show [AV.imm (ics l) l.length false] = _; rw [hl]
      simp (disch := omega) only [ZF, frame0, stp, just, Rd.bind, Rd.run, Rd.opt, upds, acells, zeroCells, tsz, elemT, rdCells, aLoad, aStore, opStore, resA, resL, fresh, aLen, aBuiltin, aBin, aInt, putC, evO, Nat.reduceAdd, Nat.reduceLT, Nat.reduceBEq, Nat.reduceEqDiff, Nat.reduceLeDiff, ↓reduceIte, reduceCtorEq, aBuildSlice, aBuildAt, partsOf, fillA, repC, isSliceT, aAppend, srcOf, window, snaps, ZT, F_105, hlen, htk, room39 (show 1 ≤ 1000000 by omega)]
      exact ⟨_, 83, .froz, rfl, ⟨rfl, .inr rfl, rfl, rfl, rfl, by omega, fun _ => by rw [e]; rfl⟩⟩
    · rw [if_neg h]
      have h' : (left == 0) = false := by rw [beq_eq_false_iff_ne]; exact h
      generalize kF d = C
      simp only [rhA]
      simp (disch := omega) only [ZF, frame0, stp, just, Rd.bind, Rd.run, Rd.opt, upds, acells, zeroCells, tsz, elemT, rdCells, aLoad, resA, resL, fresh, aLen, aBuiltin, aBin, aInt, putC, evO, Nat.reduceAdd, Nat.reduceLT, Nat.reduceBEq, Nat.reduceEqDiff, Nat.reduceLeDiff, ↓reduceIte, reduceCtorEq, aBuildSlice, aBuildAt, partsOf, fillA, repC, isSliceT, aAppend, srcOf, window, snaps, ZT, F_105, hlen, h']
      exact ⟨_, 83, .row, rfl, ⟨rfl, .inl rfl, rfl, rfl, rfl, by omega, fun h => by simp at h⟩⟩
  · intro L h0 h8
    rw [pF_s, fuR_zero]
    have hlo := lcs_length L
    have hto := lcs_takeA L
    by_cases h : left = 0
    · rw [if_pos h]
      subst h
      generalize kF d = C
      have hsn := lcs_snoc L l
      rw [← em] at hsn
      have hno : ¬ L.length + 1 ≤ L.length := by omega
      simp only [rhB]
      have key : ∀ (A : List AV) (m : Nat), A.length = m → List.take m A = A → ¬ m + 1 ≤ m → m + 1 ≤ 1000000 → ∃ H st, bodyA E C fg 1000000 105 [.ref 0 0 n n n 1 false, .int .i64 0, .int .i64 most, .ptr 1 0 1, .ptr 2 0 1, .ptr 4 0 1] [(0, ⟨.row, ics l⟩), (1, ⟨.box, [.int .i64 n]⟩), (2, ⟨.box, [.ref 3 0 m m m 1 false]⟩), (3, ⟨.row, A⟩), (4, ⟨.box, [rwK 1 2 4]⟩)] 64 = some (.tup [], H) ∧
          (hget H 0 = some ⟨st, ics l⟩ ∧ (st = .row ∨ st = .froz) ∧ hget H 1 = some ⟨.box, [.int .i64 n]⟩ ∧ hget H 2 = some ⟨.box, [.ref 3 0 (m + 1) (m + 1) (m + 1) 1 false]⟩ ∧ hget H 3 = some ⟨.row, A ++ [.imm (ics l) n false]⟩ ∧ hget H 4 = some ⟨.box, [rwK 1 2 4]⟩) := by
        intro A m q1 q2 q3 q4
        simp (disch := omega) only [ZF, frame0, stp, just, Rd.bind, Rd.run, Rd.opt, upds, acells, zeroCells, tsz, elemT, rdCells, aLoad, aStore, opStore, resA, resL, fresh, aLen, aBuiltin, aBin, aInt, putC, evO, Nat.reduceAdd, Nat.reduceLT, Nat.reduceBEq, Nat.reduceEqDiff, Nat.reduceLeDiff, ↓reduceIte, reduceCtorEq, aBuildSlice, aBuildAt, partsOf, fillA, repC, isSliceT, aAppend, srcOf, window, snaps, ZT, F_105, hlen, htk, q1, q2, q3, room39 q4]
        exact ⟨_, .froz, rfl, rfl, .inr rfl, rfl, rfl, rfl, rfl⟩
      obtain ⟨H, st, p1, p2, p3, p4, p5, p6, p7⟩ := key (lcs L) L.length hlo hto hno (by omega)
      refine ⟨H, st, p1, ⟨p2, p3, p4, by rw [List.length_append]; exact p5, by rw [← hsn]; exact p6, p7⟩⟩
    · rw [if_neg h, List.append_nil]
      have h' : (left == 0) = false := by rw [beq_eq_false_iff_ne]; exact h
      generalize kF d = C
      simp only [rhB]
      simp (disch := omega) only [ZF, frame0, stp, just, Rd.bind, Rd.run, Rd.opt, upds, acells, zeroCells, tsz, elemT, rdCells, aLoad, resA, resL, fresh, aLen, aBuiltin, aBin, aInt, putC, evO, Nat.reduceAdd, Nat.reduceLT, Nat.reduceBEq, Nat.reduceEqDiff, Nat.reduceLeDiff, ↓reduceIte, reduceCtorEq, aBuildSlice, aBuildAt, partsOf, fillA, repC, isSliceT, aAppend, srcOf, window, snaps, ZT, F_105, hlen, h', if_pos]
      exact ⟨_, .row, rfl, ⟨rfl, .inl rfl, rfl, rfl, rfl, rfl⟩⟩
theorem rw_mut (caps args : List AV) : mutV E (.clo 105 caps) args = some (105, args ++ caps) := rfl
noncomputable abbrev rsA (l : List Int) (n k : Nat) (left t : Int) (L : List (List Int)) : St :=
  ([(9, .int .i64 t), (5, .ptr 3 0 1), (1, .int .i64 left), (0, .ref 0 0 k k k 1 false)], (0, ⟨.row, ics l⟩) :: (1, ⟨.box, [.int .i64 n]⟩) :: (2, ⟨.box, [oV 400 1 L.length]⟩) :: (3, ⟨.box, [rwK 1 2 3]⟩) :: oH 400 (lcs L))
abbrev rsB (l : List Int) (n k : Nat) (left t : Int) (L : List (List Int)) : St :=
  ([(9, .int .i64 t), (5, .ptr 4 0 1), (1, .int .i64 left), (0, .ref 0 0 k k k 1 false)], [(0, ⟨.row, ics l⟩), (1, ⟨.box, [.int .i64 n]⟩), (2, ⟨.box, [.ref 3 0 L.length L.length L.length 1 false]⟩), (3, ⟨.row, lcs L⟩), (4, ⟨.box, [rwK 1 2 4]⟩)])
theorem rwA_go {d : Nat} {l : List Int} {n k m : Nat} {left t : Int} (hl : l.length = k) (h9 : k ≤ 1000) (ht : 0 ≤ t ∧ t ≤ 1000) (hlf : 0 ≤ left ∧ left ≤ 1000) (hC : RoC d (l ++ [t]) n (k + 1) m (left - t) t) (L : List (List Int)) (h8 : L.length + 9 ^ m ≤ 900000) :
    ∃ s', execA E (kF d) (fg 105) 64 42 (rhA l n) 1000000 c105_16 (rsA l n k left t L) = some (.normal, s') ∧ headA (rhA l n) s' = rsA l n k left (t - 1) (L ++ fuR (l ++ [t]) m (left - t) t) := by
  have hlen : (ics l).length = k := by rw [ics_length, hl]
  have htk : List.take k (ics l) = ics l := List.take_of_length_le (by omega)
  have hsn := ics_snoc l t
  have hl' : (l ++ [t]).length = k + 1 := by simp [hl]
  have g1 : t ≥ 0 := ht.1
  have w1 : wrp .i64 (left - t) = left - t := wrp64 (by omega)
  have w2 : wrp .i64 (t - 1) = t - 1 := wrp64 (by omega)
  have gk : (0 : Int) ≤ (k : Int) ∧ (k : Int) ≤ (k : Int) := by omega
  have hno : ¬ k + 1 ≤ k := by omega
  rcases ocvL 400 L with ⟨hn0, o1, o2⟩ | ⟨hp0, o1, o2⟩
  · obtain ⟨st, hc⟩ := rw_callA0 (l := l) (c := [.int .i64 t]) hC hl'
    subst hn0
    rw [List.nil_append]
    simp only [rsA]
    rw [o1, o2]
    rw [← hsn] at hc
    generalize fuR (l ++ [t]) m (left - t) t = new at *
    generalize kF d = C at *
    rcases ocvL 400 new with ⟨hn1, p1, p2⟩ | ⟨hp1, p1, p2⟩ <;> rw [p1, p2] at hc ⊢ <;>
      simp (disch := omega) only [ZF, stp, just, Rd.bind, Rd.run, Rd.opt, upds, acells, zeroCells, tsz, elemT, rdCells, aLoad, fresh, aNum, aLen, aBuiltin, aBin, aInt, putC, evO, Nat.reduceAdd, Nat.reduceMul, Nat.reduceLT, Nat.reduceBEq, Nat.reduceEqDiff, Nat.reduceLeDiff, ↓reduceIte, reduceCtorEq, stpT, Rd.foot, writing, touching, Tr.empty, dynPairs, apartT, disj, aBuildSlice, aBuildAt, partsOf, fillA, repC, isSliceT, aAppend, srcOf, window, mutX, snaps, aSlice, aBounds, bMax, bHigh, bLow, ZT, F_105, callVT, rw_mut, hlen, htk, hno, g1, w1, w2, gk, hc, room22 (show k + 1 ≤ 1000000 by omega)] <;> exact ⟨_, rfl, rfl⟩
  · obtain ⟨st, hc⟩ := rw_callA1 (l := l) (c := [.int .i64 t]) hC hp0 h8
    simp only [rsA]
    rw [o1, o2, ov_pos (show 0 < (L ++ fuR (l ++ [t]) m (left - t) t).length by rw [List.length_append]; omega), ohl_pos (show 0 < (L ++ fuR (l ++ [t]) m (left - t) t).length by rw [List.length_append]; omega)]
    rw [← hsn] at hc
    generalize L ++ fuR (l ++ [t]) m (left - t) t = new at *
    generalize lcs new = LN at *
    generalize new.length = nn at *
    generalize lcs L = LL at *
    generalize L.length = ll at *
    generalize kF d = C at *
    simp (disch := omega) only [ZF, stp, just, Rd.bind, Rd.run, Rd.opt, upds, acells, zeroCells, tsz, elemT, rdCells, aLoad, fresh, aNum, aLen, aBuiltin, aBin, aInt, putC, evO, Nat.reduceAdd, Nat.reduceMul, Nat.reduceLT, Nat.reduceBEq, Nat.reduceEqDiff, Nat.reduceLeDiff, ↓reduceIte, reduceCtorEq, stpT, Rd.foot, writing, touching, Tr.empty, dynPairs, apartT, disj, aBuildSlice, aBuildAt, partsOf, fillA, repC, isSliceT, aAppend, srcOf, window, mutX, snaps, aSlice, aBounds, bMax, bHigh, bLow, ZT, F_105, callVT, rw_mut, hlen, htk, hno, g1, w1, w2, gk, hc, room22 (show k + 1 ≤ 1000000 by omega)]
    exact ⟨_, rfl, rfl⟩
theorem rwB_go {d : Nat} {l : List Int} {n k m : Nat} {left t : Int} (hl : l.length = k) (h9 : k ≤ 1000) (ht : 0 ≤ t ∧ t ≤ 1000) (hlf : 0 ≤ left ∧ left ≤ 1000) (hC : RoC d (l ++ [t]) n (k + 1) m (left - t) t) (L0 L : List (List Int)) (hp0 : 0 < L.length) (h8 : L.length + 9 ^ m ≤ 900000) :
    ∃ s', execA E (kF d) (fg 105) 64 42 (rhB l n L0) 1000000 c105_16 (rsB l n k left t L) = some (.normal, s') ∧ headA (rhB l n L0) s' = rsB l n k left (t - 1) (L ++ fuR (l ++ [t]) m (left - t) t) := by
  have hlen : (ics l).length = k := by rw [ics_length, hl]
  have htk : List.take k (ics l) = ics l := List.take_of_length_le (by omega)
  have hsn := ics_snoc l t
  have g1 : t ≥ 0 := ht.1
  have w1 : wrp .i64 (left - t) = left - t := wrp64 (by omega)
  have w2 : wrp .i64 (t - 1) = t - 1 := wrp64 (by omega)
  have gk : (0 : Int) ≤ (k : Int) ∧ (k : Int) ≤ (k : Int) := by omega
  have hno : ¬ k + 1 ≤ k := by omega
  obtain ⟨st, hc⟩ := rw_callB (l := l) (c := [.int .i64 t]) hC hp0 h8
  simp only [rsB]
  rw [← hsn] at hc
  generalize L ++ fuR (l ++ [t]) m (left - t) t = new at *
  generalize lcs new = LN at *
  generalize new.length = nn at *
  generalize lcs L = LL at *
  generalize L.length = ll at *
  generalize lcs L0 = LL0 at *
  generalize L0.length = l0 at *
  generalize kF d = C at *
  simp (disch := omega) only [ZF, stp, just, Rd.bind, Rd.run, Rd.opt, upds, acells, zeroCells, tsz, elemT, rdCells, aLoad, fresh, aNum, aLen, aBuiltin, aBin, aInt, putC, evO, Nat.reduceAdd, Nat.reduceMul, Nat.reduceLT, Nat.reduceBEq, Nat.reduceEqDiff, Nat.reduceLeDiff, ↓reduceIte, reduceCtorEq, stpT, Rd.foot, writing, touching, Tr.empty, dynPairs, apartT, disj, aBuildSlice, aBuildAt, partsOf, fillA, repC, isSliceT, aAppend, srcOf, window, mutX, snaps, aSlice, aBounds, bMax, bHigh, bLow, ZT, F_105, callVT, rw_mut, hlen, htk, hno, g1, w1, w2, gk, hc, room22 (show k + 1 ≤ 1000000 by omega)]
  exact ⟨_, rfl, rfl⟩
end Go.AM.Ytfmnoohhhokicaa
end

section
namespace Go.AM.Ytfmnoohhhokicaa
open Go Go.AM Go.AM.Rub
set_option maxRecDepth 100000
set_option maxHeartbeats 8000000
theorem rw_all {d n : Nat} (h6 : n ≤ 6) : ∀ (m : Nat) (l : List Int) (k : Nat) (left most : Int), l.length = k → k + m = n → 0 ≤ left ∧ left ≤ 1000 → 0 ≤ most ∧ most ≤ 8 → RoC (d + m + 1) l n k m left most
  | 0, l, k, left, most, hl, hk, _, _ => by
    rw [Nat.add_zero] at hk
    subst hk
    exact rw_leaf hl
  | m + 1, l, k, left, most, hl, hk, hlf, hm => by
    obtain ⟨m0, hm0⟩ : ∃ m0 : Nat, min most left = m0 := ⟨(min most left).toNat, by omega⟩
    have hrec : ∀ j : Nat, j < m0 + 1 → RoC (d + m + 1) (l ++ [((m0 : Int) - j)]) n (k + 1) m (left - ((m0 : Int) - j)) ((m0 : Int) - j) := fun j hj =>
      rw_all h6 m (l ++ [((m0 : Int) - j)]) (k + 1) (left - ((m0 : Int) - j)) ((m0 : Int) - j) (by simp [hl]) (by omega) (by omega) (by omega)
    have hlen : (ics l).length = k := by rw [ics_length, hl]
    have hall := fuP_all l m hm0
    have h9 : 9 ^ (m + 1) ≤ 531441 := by have := Nat.pow_le_pow_right (n := 9) (by omega) (show m + 1 ≤ 6 by omega); omega
    have h9' : 9 ^ (m + 1) = 9 * 9 ^ m := by rw [Nat.pow_succ, Nat.mul_comm]
    have hfl : ∀ j, j ≤ m0 + 1 → (fuP l m left m0 j).length ≤ j * 9 ^ m := fuP_len l m left m0 (by omega)
    have hj9 : ∀ j, j ≤ m0 → j * 9 ^ m ≤ 8 * 9 ^ m := fun j hj => Nat.mul_le_mul_right _ (by omega)
    have emin : (if left < most then left else most) = (m0 : Int) := by rw [← hm0]; split <;> omega
    have gk : ¬ (k : Int) = n := by omega
    have gk' : ((k : Int) == n) = false := by rw [beq_eq_false_iff_ne]; exact gk
    have e2 : ∀ j : Nat, (m0 : Int) - ((j + 1 : Nat) : Int) = (m0 : Int) - j - 1 := fun j => by omega
    have ge : ¬ (m0 : Int) - ((m0 + 1 : Nat) : Int) ≥ 0 := by omega
    constructor
    · rw [show d + (m + 1) + 1 = (d + m + 1) + 1 by omega, pF_s]
      have hloop := loopM (f := execA E (kF (d + m + 1)) (fg 105) 64 42 (rhA l n) 1000000 c105_16) (E0 := rhA l n) (fun j => rsA l n k left ((m0 : Int) - j) (fuP l m left m0 j)) (m0 + 1) (fun j hj => by
          simp only [fuP_snoc, e2]
          exact rwA_go hl (by omega) (by omega) hlf (hrec j hj) (fuP l m left m0 j) (by have := hfl j (by omega); have := hj9 j (by omega); omega)) (by
          have e0 : fuP l m left m0 0 = [] := rfl
          simp only [rsA, e0]; rfl) (by omega)
        (e := .exit 0) (se := ([(24, .bool false), (9, .int .i64 ((m0 : Int) - ((m0 + 1 : Nat) : Int))), (5, .ptr 3 0 1), (1, .int .i64 left), (0, .ref 0 0 k k k 1 false)], (0, ⟨.row, ics l⟩) :: (1, ⟨.box, [.int .i64 n]⟩) :: (2, ⟨.box, [oV 400 1 (fuR l (m + 1) left most).length]⟩) :: (3, ⟨.box, [rwK 1 2 3]⟩) :: oH 400 (lcs (fuR l (m + 1) left most))))
        (by
          simp only [rsA, hall]
          rcases ocvL 400 (fuR l (m + 1) left most) with ⟨_, o1, o2⟩ | ⟨_, o1, o2⟩ <;> rw [o1, o2] <;>
            simp (disch := omega) only [ZF, stp, just, Rd.bind, Rd.run, Rd.opt, upds, aBin, aInt, Nat.reduceBEq, Nat.reduceEqDiff, Nat.reduceLeDiff, ↓reduceIte, F_105, ge]) (by simp)
      have e0 : fuP l m left m0 0 = [] := rfl
      have v0 : oV 400 1 ([] : List (List Int)).length = .nilsl := rfl
      have o0 : oH 400 (lcs []) = [] := rfl
      have z0 : (m0 : Int) - ((0 : Nat) : Int) = m0 := by omega
      simp only [rsA, e0, v0, o0, z0, rhA] at hloop
      simp only [rhA]
      generalize fuR l (m + 1) left most = R at *
      generalize kF (d + m + 1) = C at *
      rcases ocvL 400 R with ⟨hn1, o1, o2⟩ | ⟨hp1, o1, o2⟩ <;> rw [o1, o2] at hloop
      · simp (disch := omega) only [ZF, frame0, stp, justO, just, Rd.bind, Rd.run, Rd.opt, upds, acells, zeroCells, tsz, elemT, rdCells, aLoad, resA, resL, fresh, aLen, aBuiltin, aMin, aBin, aInt, putC, evO, Nat.reduceAdd, Nat.reduceLT, Nat.reduceBEq, Nat.reduceEqDiff, Nat.reduceLeDiff, ↓reduceIte, reduceCtorEq, aBuildSlice, aBuildAt, partsOf, fillA, repC, isSliceT, aAppend, srcOf, window, snaps, ZT, F_105, hlen, gk', emin, hloop]
        exact ⟨_, 400, .row, rfl, ⟨rfl, .inl rfl, rfl, by rw [o1]; rfl, rfl, by omega, fun h => by rw [hn1] at h; simp at h⟩⟩
      · simp (disch := omega) only [ZF, frame0, stp, justO, just, Rd.bind, Rd.run, Rd.opt, upds, acells, zeroCells, tsz, elemT, rdCells, aLoad, resA, resL, fresh, aLen, aBuiltin, aMin, aBin, aInt, putC, evO, Nat.reduceAdd, Nat.reduceLT, Nat.reduceBEq, Nat.reduceEqDiff, Nat.reduceLeDiff, ↓reduceIte, reduceCtorEq, aBuildSlice, aBuildAt, partsOf, fillA, repC, isSliceT, aAppend, srcOf, window, snaps, ZT, F_105, hlen, gk', emin, hloop]
        exact ⟨_, 400, .row, rfl, ⟨rfl, .inl rfl, rfl, by rw [o1]; rfl, rfl, by omega, fun h => rfl⟩⟩
    · intro L h0 h8
      rw [show d + (m + 1) + 1 = (d + m + 1) + 1 by omega, pF_s]
      have hloop := loopM (f := execA E (kF (d + m + 1)) (fg 105) 64 42 (rhB l n L) 1000000 c105_16) (E0 := rhB l n L) (fun j => rsB l n k left ((m0 : Int) - j) (L ++ fuP l m left m0 j)) (m0 + 1) (fun j hj => by
          simp only [fuP_snoc, e2, ← List.append_assoc]
          exact rwB_go hl (by omega) (by omega) hlf (hrec j hj) L (L ++ fuP l m left m0 j) (by rw [List.length_append]; omega) (by rw [List.length_append]; have := hfl j (by omega); have := hj9 j (by omega); omega)) (headA_keep (by simp [rhB, hget_cons'])) (by omega)
        (e := .exit 0) (se := ([(24, .bool false), (9, .int .i64 ((m0 : Int) - ((m0 + 1 : Nat) : Int))), (5, .ptr 4 0 1), (1, .int .i64 left), (0, .ref 0 0 k k k 1 false)], [(0, ⟨.row, ics l⟩), (1, ⟨.box, [.int .i64 n]⟩), (2, ⟨.box, [.ref 3 0 (L ++ fuR l (m + 1) left most).length (L ++ fuR l (m + 1) left most).length (L ++ fuR l (m + 1) left most).length 1 false]⟩), (3, ⟨.row, lcs (L ++ fuR l (m + 1) left most)⟩), (4, ⟨.box, [rwK 1 2 4]⟩)]))
        (by
          simp only [rsB, hall]
          simp (disch := omega) only [ZF, stp, just, Rd.bind, Rd.run, Rd.opt, upds, aBin, aInt, Nat.reduceBEq, Nat.reduceEqDiff, Nat.reduceLeDiff, ↓reduceIte, F_105, ge]) (by simp)
      have e0 : fuP l m left m0 0 = [] := rfl
      have z0 : (m0 : Int) - ((0 : Nat) : Int) = m0 := by omega
      simp only [rsB, e0, z0, rhB, List.append_nil] at hloop
      simp only [rhB]
      generalize L ++ fuR l (m + 1) left most = R at *
      generalize kF (d + m + 1) = C at *
      simp (disch := omega) only [ZF, frame0, stp, justO, just, Rd.bind, Rd.run, Rd.opt, upds, acells, zeroCells, tsz, elemT, rdCells, aLoad, resA, resL, fresh, aLen, aBuiltin, aMin, aBin, aInt, putC, evO, Nat.reduceAdd, Nat.reduceLT, Nat.reduceBEq, Nat.reduceEqDiff, Nat.reduceLeDiff, ↓reduceIte, reduceCtorEq, aBuildSlice, aBuildAt, partsOf, fillA, repC, isSliceT, aAppend, srcOf, window, snaps, ZT, F_105, hlen, gk', emin, hloop]
      exact ⟨_, .row, rfl, ⟨rfl, .inl rfl, rfl, rfl, rfl, rfl⟩⟩
end Go.AM.Ytfmnoohhhokicaa
end

section
namespace Go.AM.Ytfmnoohhhokicaa
open Go Go.AM Go.AM.Rub
set_option maxRecDepth 100000
set_option maxHeartbeats 8000000
abbrev rhN (n : Nat) : AHeap := [(0, ⟨.box, [.int .i64 n]⟩), (1, ⟨.box, [.nilsl]⟩), (2, ⟨.box, [rwK 0 1 2]⟩)]
section
variable {d : Nat} {l' : List Int} {n k m : Nat} {left most : Int} {c : List AV}
theorem rw_callN0 (hC : RoC d l' n k m left most) : ∃ st, kF d 105 [.ref 100 0 k k k 1 false, .int .i64 left, .int .i64 most, .ptr 0 0 1, .ptr 1 0 1, .ptr 2 0 1] [(0, ⟨.box, [.int .i64 n]⟩), (1, ⟨.box, [.nilsl]⟩), (2, ⟨.box, [rwK 0 1 2]⟩), (99, ⟨.row, c⟩), (100, ⟨.row, ics l'⟩)] 400 =
    some (.tup [], (0, ⟨.box, [.int .i64 n]⟩) :: (1, ⟨.box, [oV 400 1 (fuR l' m left most).length]⟩) :: (2, ⟨.box, [rwK 0 1 2]⟩) :: (99, ⟨.row, c⟩) :: (100, ⟨st, ics l'⟩) :: oH 400 (lcs (fuR l' m left most))) := by
  obtain ⟨H, id, st, hp, ro⟩ := hC.a
  refine ⟨st, ?_⟩
  rw [kF_fr rfl]
  have hks : (mark [(0, ⟨.box, [.int .i64 n]⟩), (1, ⟨.box, [.nilsl]⟩), (2, ⟨.box, [rwK 0 1 2]⟩), (99, ⟨.row, c⟩), (100, ⟨.row, ics l'⟩)] 1000 (refsL [.ref 100 0 k k k 1 false, .int .i64 left, .int .i64 most, .ptr 0 0 1, .ptr 1 0 1, .ptr 2 0 1]) []).reverse = [100, 0, 1, 2] := rfl
  have hap : AM.apart [100, 0, 1, 2] = true := rfl
  have e1 : renL (posF [100, 0, 1, 2] 0) [.ref 100 0 k k k 1 false, .int .i64 left, .int .i64 most, .ptr 0 0 1, .ptr 1 0 1, .ptr 2 0 1] = some [.ref 0 0 k k k 1 false, .int .i64 left, .int .i64 most, .ptr 1 0 1, .ptr 2 0 1, .ptr 3 0 1] := rfl
  have e2 : foc (posF [100, 0, 1, 2] 0) [(0, ⟨.box, [.int .i64 n]⟩), (1, ⟨.box, [.nilsl]⟩), (2, ⟨.box, [rwK 0 1 2]⟩), (99, ⟨.row, c⟩), (100, ⟨.row, ics l'⟩)] 0 [100, 0, 1, 2] = some (rhA l' n) := rfl
  have hn := newsA ro
  obtain ⟨h0, hs, h1, h2, h3, h4, hr⟩ := ro
  have hl4 : ([100, 0, 1, 2] : List Nat).length = 4 := rfl
  have er : List.range 4 = [0, 1, 2, 3] := rfl
  rw [hks]
  unfold focus
  rw [if_pos hap]
  simp only [e1, e2, hp, backF, hl4, hn, er]
  rcases ocvL 400 (fuR l' m left most) with ⟨hn0, o1, o2⟩ | ⟨hp0, o1, o2⟩
  · rw [o1, o2]
    rw [hn0] at h2
    have hv : oV id 1 ([] : List (List Int)).length = .nilsl := rfl
    rw [hv] at h2
    rcases hs with rfl | rfl <;>
    simp only [hn0, if_true, List.length_nil, baseF, freeL, AM.apart, List.append_nil, ren, renL, unf, outF, posF, h0, h1, h2, h3, List.getElem?_cons_zero, List.getElem?_cons_succ, Nat.reduceLT, if_true, goodB, BS.open_, Bool.true_or, Bool.false_or, rhA, hget_cons', decide_true, Bool.and_self, renB, hl4, upds, hset_cons', hset_nil', Nat.reduceEqDiff, Nat.reduceLeDiff, if_false, Nat.reduceAdd, reduceCtorEq]
  · rw [o1, o2]
    rw [ov_pos hp0] at h2
    have hr := hr hp0
    have hne : ¬ fuR l' m left most = [] := fun e => by rw [e] at hp0; simp at hp0
    have c4 : ¬ id < 4 := by omega
    have hbase : baseF [(0, ⟨.box, [.int .i64 n]⟩), (1, ⟨.box, [.nilsl]⟩), (2, ⟨.box, [rwK 0 1 2]⟩), (99, ⟨.row, c⟩), (100, ⟨.row, ics l'⟩)] 1 8 400 = some 400 := rfl
    rcases hs with rfl | rfl <;>
    simp only [hne, if_false, List.length_cons, List.length_nil, Nat.zero_add, hbase, AM.apart, List.elem_nil, Bool.not_false, Bool.and_self, if_true, List.cons_append, List.nil_append, ren, renL, unf, outF, posF, h0, h1, h2, h3, hr, c4, List.getElem?_cons_zero, List.getElem?_cons_succ, Nat.reduceLT, goodB, BS.open_, Bool.true_or, Bool.false_or, rhA, hget_cons', decide_true, renB, hl4, upds, hset_cons', hset_nil', Nat.reduceEqDiff, Nat.reduceLeDiff, Nat.add_zero, reduceCtorEq]
theorem rw_callN1 (hC : RoC d l' n k m left most) {L : List (List Int)} (h0 : 0 < L.length) (h8 : L.length + 9 ^ m ≤ 900000) : ∃ st, kF d 105 [.ref 100 0 k k k 1 false, .int .i64 left, .int .i64 most, .ptr 0 0 1, .ptr 1 0 1, .ptr 2 0 1] [(0, ⟨.box, [.int .i64 n]⟩), (1, ⟨.box, [.ref 400 0 L.length L.length L.length 1 false]⟩), (2, ⟨.box, [rwK 0 1 2]⟩), (99, ⟨.row, c⟩), (100, ⟨.row, ics l'⟩), (400, ⟨.row, lcs L⟩)] 400 =
    some (.tup [], [(0, ⟨.box, [.int .i64 n]⟩), (1, ⟨.box, [.ref 400 0 (L ++ fuR l' m left most).length (L ++ fuR l' m left most).length (L ++ fuR l' m left most).length 1 false]⟩), (2, ⟨.box, [rwK 0 1 2]⟩), (99, ⟨.row, c⟩), (100, ⟨st, ics l'⟩), (400, ⟨.row, lcs (L ++ fuR l' m left most)⟩)]) := by
  obtain ⟨H, st, hp, ro⟩ := hC.b L h0 h8
  refine ⟨st, ?_⟩
  rw [kF_fr rfl]
  have hks : (mark [(0, ⟨.box, [.int .i64 n]⟩), (1, ⟨.box, [.ref 400 0 L.length L.length L.length 1 false]⟩), (2, ⟨.box, [rwK 0 1 2]⟩), (99, ⟨.row, c⟩), (100, ⟨.row, ics l'⟩), (400, ⟨.row, lcs L⟩)] 1000 (refsL [.ref 100 0 k k k 1 false, .int .i64 left, .int .i64 most, .ptr 0 0 1, .ptr 1 0 1, .ptr 2 0 1]) []).reverse = [100, 0, 1, 400, 2] := rfl
  have hap : AM.apart [100, 0, 1, 400, 2] = true := rfl
  have e1 : renL (posF [100, 0, 1, 400, 2] 0) [.ref 100 0 k k k 1 false, .int .i64 left, .int .i64 most, .ptr 0 0 1, .ptr 1 0 1, .ptr 2 0 1] = some [.ref 0 0 k k k 1 false, .int .i64 left, .int .i64 most, .ptr 1 0 1, .ptr 2 0 1, .ptr 4 0 1] := rfl
  have e2 : foc (posF [100, 0, 1, 400, 2] 0) [(0, ⟨.box, [.int .i64 n]⟩), (1, ⟨.box, [.ref 400 0 L.length L.length L.length 1 false]⟩), (2, ⟨.box, [rwK 0 1 2]⟩), (99, ⟨.row, c⟩), (100, ⟨.row, ics l'⟩), (400, ⟨.row, lcs L⟩)] 0 [100, 0, 1, 400, 2] = some (rhB l' n L) := rfl
  have hn := newsB ro
  obtain ⟨h0, hs, h1, h2, h3, h4⟩ := ro
  have hl5 : ([100, 0, 1, 400, 2] : List Nat).length = 5 := rfl
  have er : List.range 5 = [0, 1, 2, 3, 4] := rfl
  rw [hks]
  unfold focus
  rw [if_pos hap]
  simp only [e1, e2, hp, backF, hl5, hn, er]
  rcases hs with rfl | rfl <;>
  simp only [List.length_nil, baseF, freeL, AM.apart, if_true, List.append_nil, ren, renL, unf, outF, posF, h0, h1, h2, h3, h4, List.getElem?_cons_zero, List.getElem?_cons_succ, Nat.reduceLT, goodB, BS.open_, Bool.true_or, Bool.false_or, rhB, hget_cons', decide_true, Bool.and_self, renB, hl5, upds, hset_cons', hset_nil', Nat.reduceEqDiff, Nat.reduceLeDiff, if_false, Nat.reduceAdd, reduceCtorEq]
end
noncomputable abbrev rsN (n : Nat) (left t : Int) (L : List (List Int)) : St :=
  ([(9, .int .i64 t), (5, .ptr 2 0 1), (1, .int .i64 left), (0, .nilsl)], (0, ⟨.box, [.int .i64 n]⟩) :: (1, ⟨.box, [oV 400 1 L.length]⟩) :: (2, ⟨.box, [rwK 0 1 2]⟩) :: oH 400 (lcs L))
theorem rwN_go {d : Nat} {n m : Nat} {left t : Int} (ht : 0 ≤ t ∧ t ≤ 1000) (hlf : 0 ≤ left ∧ left ≤ 1000) (hC : RoC d [t] n 1 m (left - t) t) (L : List (List Int)) (h8 : L.length + 9 ^ m ≤ 900000) :
    ∃ s', execA E (kF d) (fg 105) 64 42 (rhN n) 1000000 c105_16 (rsN n left t L) = some (.normal, s') ∧ headA (rhN n) s' = rsN n left (t - 1) (L ++ fuR [t] m (left - t) t) := by
  have e1 : ics [t] = [.int .i64 t] := rfl
  have g1 : t ≥ 0 := ht.1
  have w1 : wrp .i64 (left - t) = left - t := wrp64 (by omega)
  have w2 : wrp .i64 (t - 1) = t - 1 := wrp64 (by omega)
  rcases ocvL 400 L with ⟨hn0, o1, o2⟩ | ⟨hp0, o1, o2⟩
  · obtain ⟨st, hc⟩ := rw_callN0 (c := [.int .i64 t]) hC
    subst hn0
    rw [List.nil_append]
    simp only [rsN]
    rw [o1, o2]
    rw [e1] at hc
    generalize fuR [t] m (left - t) t = new at *
    generalize kF d = C at *
    rcases ocvL 400 new with ⟨hn1, p1, p2⟩ | ⟨hp1, p1, p2⟩ <;> rw [p1, p2] at hc ⊢ <;>
      simp (disch := omega) only [ZF, stp, just, Rd.bind, Rd.run, Rd.opt, upds, acells, zeroCells, tsz, elemT, rdCells, aLoad, fresh, aNum, aLen, aBuiltin, aBin, aInt, putC, evO, Nat.reduceAdd, Nat.reduceMul, Nat.reduceLT, Nat.reduceBEq, Nat.reduceEqDiff, Nat.reduceLeDiff, ↓reduceIte, reduceCtorEq, stpT, Rd.foot, writing, touching, Tr.empty, dynPairs, apartT, disj, aBuildSlice, aBuildAt, partsOf, fillA, repC, isSliceT, aAppend, srcOf, window, mutX, snaps, aSlice, aBounds, bMax, bHigh, bLow, Int.reduceLE, Int.reduceToNat, ZT, F_105, callVT, rw_mut, g1, w1, w2, hc, room22 (show 1 ≤ 1000000 by omega)] <;> exact ⟨_, rfl, rfl⟩
  · obtain ⟨st, hc⟩ := rw_callN1 (c := [.int .i64 t]) hC hp0 h8
    simp only [rsN]
    rw [o1, o2, ov_pos (show 0 < (L ++ fuR [t] m (left - t) t).length by rw [List.length_append]; omega), ohl_pos (show 0 < (L ++ fuR [t] m (left - t) t).length by rw [List.length_append]; omega)]
    rw [e1] at hc
    generalize L ++ fuR [t] m (left - t) t = new at *
    generalize lcs new = LN at *
    generalize new.length = nn at *
    generalize lcs L = LL at *
    generalize L.length = ll at *
    generalize kF d = C at *
    simp (disch := omega) only [ZF, stp, just, Rd.bind, Rd.run, Rd.opt, upds, acells, zeroCells, tsz, elemT, rdCells, aLoad, fresh, aNum, aLen, aBuiltin, aBin, aInt, putC, evO, Nat.reduceAdd, Nat.reduceMul, Nat.reduceLT, Nat.reduceBEq, Nat.reduceEqDiff, Nat.reduceLeDiff, ↓reduceIte, reduceCtorEq, stpT, Rd.foot, writing, touching, Tr.empty, dynPairs, apartT, disj, aBuildSlice, aBuildAt, partsOf, fillA, repC, isSliceT, aAppend, srcOf, window, mutX, snaps, aSlice, aBounds, bMax, bHigh, bLow, Int.reduceLE, Int.reduceToNat, ZT, F_105, callVT, rw_mut, g1, w1, w2, hc, room22 (show 1 ≤ 1000000 by omega)]
    exact ⟨_, rfl, rfl⟩
/-- From no number chosen. -/
structure RoN (n : Nat) (new : List (List Int)) (H : AHeap) : Prop where
  h0 : hget H 0 = some ⟨.box, [.int .i64 n]⟩
  h1 : hget H 1 = some ⟨.box, [oV 400 1 new.length]⟩
  h2 : hget H 2 = some ⟨.box, [rwK 0 1 2]⟩
  hr : 0 < new.length → hget H 400 = some ⟨.row, lcs new⟩
theorem rw_none {d n : Nat} (h0 : 0 < n) (h6 : n ≤ 6) {left : Int} (hlf : 0 ≤ left ∧ left ≤ 1000) : ∃ H, pF (d + n + 1) 105 [.nilsl, .int .i64 left, .int .i64 8, .ptr 0 0 1, .ptr 1 0 1, .ptr 2 0 1] (rhN n) 64 = some (.tup [], H) ∧ RoN n (rowsL n left 8) H := by
  obtain ⟨m, rfl⟩ : ∃ m, n = m + 1 := ⟨n - 1, by omega⟩
  obtain ⟨m0, hm0⟩ : ∃ m0 : Nat, min 8 left = m0 := ⟨(min 8 left).toNat, by omega⟩
  have hrec : ∀ j : Nat, j < m0 + 1 → RoC (d + m + 1) ([] ++ [((m0 : Int) - j)]) (m + 1) 1 m (left - ((m0 : Int) - j)) ((m0 : Int) - j) := fun j hj =>
    rw_all h6 m _ 1 _ _ rfl (by omega) (by omega) (by omega)
  have hall := fuP_all [] m hm0
  rw [fuR_nil] at hall
  have h9 : 9 ^ (m + 1) ≤ 531441 := by have := Nat.pow_le_pow_right (n := 9) (by omega) (show m + 1 ≤ 6 by omega); omega
  have h9' : 9 ^ (m + 1) = 9 * 9 ^ m := by rw [Nat.pow_succ, Nat.mul_comm]
  have hfl : ∀ j, j ≤ m0 + 1 → (fuP [] m left m0 j).length ≤ j * 9 ^ m := fuP_len [] m left m0 (by omega)
  have hj9 : ∀ j, j ≤ m0 → j * 9 ^ m ≤ 8 * 9 ^ m := fun j hj => Nat.mul_le_mul_right _ (by omega)
  have emin : (if left < 8 then left else 8) = (m0 : Int) := by rw [← hm0]; split <;> omega
  have gk : ¬ (0 : Int) = ((m + 1 : Nat) : Int) := by omega
  have gk' : ((0 : Int) == ((m + 1 : Nat) : Int)) = false := by rw [beq_eq_false_iff_ne]; exact gk
  have e2 : ∀ j : Nat, (m0 : Int) - ((j + 1 : Nat) : Int) = (m0 : Int) - j - 1 := fun j => by omega
  have ge : ¬ (m0 : Int) - ((m0 + 1 : Nat) : Int) ≥ 0 := by omega
  rw [show d + (m + 1) + 1 = (d + m + 1) + 1 by omega, pF_s]
  have hloop := loopM (f := execA E (kF (d + m + 1)) (fg 105) 64 42 (rhN (m + 1)) 1000000 c105_16) (E0 := rhN (m + 1)) (fun j => rsN (m + 1) left ((m0 : Int) - j) (fuP [] m left m0 j)) (m0 + 1) (fun j hj => by
      simp only [fuP_snoc, e2]
      exact rwN_go (by omega) hlf (hrec j hj) (fuP [] m left m0 j) (by have := hfl j (by omega); have := hj9 j (by omega); omega)) (by
      have e0 : fuP [] m left m0 0 = [] := rfl
      simp only [rsN, e0]; rfl) (by omega)
    (e := .exit 0) (se := ([(24, .bool false), (9, .int .i64 ((m0 : Int) - ((m0 + 1 : Nat) : Int))), (5, .ptr 2 0 1), (1, .int .i64 left), (0, .nilsl)], (0, ⟨.box, [.int .i64 ((m + 1 : Nat) : Int)]⟩) :: (1, ⟨.box, [oV 400 1 (rowsL (m + 1) left 8).length]⟩) :: (2, ⟨.box, [rwK 0 1 2]⟩) :: oH 400 (lcs (rowsL (m + 1) left 8))))
    (by
      simp only [rsN, hall]
      rcases ocvL 400 (rowsL (m + 1) left 8) with ⟨_, o1, o2⟩ | ⟨_, o1, o2⟩ <;> rw [o1, o2] <;>
        simp (disch := omega) only [ZF, stp, just, Rd.bind, Rd.run, Rd.opt, upds, aBin, aInt, Nat.reduceBEq, Nat.reduceEqDiff, Nat.reduceLeDiff, ↓reduceIte, F_105, ge]) (by simp)
  have e0 : fuP [] m left m0 0 = [] := rfl
  have v0 : oV 400 1 ([] : List (List Int)).length = .nilsl := rfl
  have o0 : oH 400 (lcs []) = [] := rfl
  have z0 : (m0 : Int) - ((0 : Nat) : Int) = m0 := by omega
  simp only [rsN, e0, v0, o0, z0, rhN] at hloop
  simp only [rhN]
  generalize rowsL (m + 1) left 8 = R at *
  generalize kF (d + m + 1) = C at *
  rcases ocvL 400 R with ⟨hn1, o1, o2⟩ | ⟨hp1, o1, o2⟩ <;> rw [o1, o2] at hloop
  · simp (disch := omega) only [ZF, frame0, stp, justO, just, Rd.bind, Rd.run, Rd.opt, upds, acells, zeroCells, tsz, elemT, rdCells, aLoad, resA, resL, fresh, aLen, aBuiltin, aMin, aBin, aInt, putC, evO, Nat.reduceAdd, Nat.reduceLT, Nat.reduceBEq, Nat.reduceEqDiff, Nat.reduceLeDiff, ↓reduceIte, reduceCtorEq, aBuildSlice, aBuildAt, partsOf, fillA, repC, isSliceT, aAppend, srcOf, window, snaps, ZT, F_105, gk', emin, hloop]
    exact ⟨_, rfl, ⟨rfl, by rw [o1]; rfl, rfl, fun h => by rw [hn1] at h; simp at h⟩⟩
  · simp (disch := omega) only [ZF, frame0, stp, justO, just, Rd.bind, Rd.run, Rd.opt, upds, acells, zeroCells, tsz, elemT, rdCells, aLoad, resA, resL, fresh, aLen, aBuiltin, aMin, aBin, aInt, putC, evO, Nat.reduceAdd, Nat.reduceLT, Nat.reduceBEq, Nat.reduceEqDiff, Nat.reduceLeDiff, ↓reduceIte, reduceCtorEq, aBuildSlice, aBuildAt, partsOf, fillA, repC, isSliceT, aAppend, srcOf, window, snaps, ZT, F_105, gk', emin, hloop]
    exact ⟨_, rfl, ⟨rfl, by rw [o1]; rfl, rfl, fun h => rfl⟩⟩
theorem newsN {n : Nat} {new : List (List Int)} {H : AHeap} (h : RoN n new H) : newsF H (.tup []) 3 = if new = [] then [] else [400] := by
  obtain ⟨h0, h1, h2, hr⟩ := h
  have e : refsOf (.tup []) ++ List.range 3 = [0, 1, 2] := rfl
  unfold newsF
  rw [e]
  cases hn : new with
  | nil =>
    subst hn
    rw [if_pos rfl]
    have hv : oV 400 1 ([] : List (List Int)).length = .nilsl := rfl
    rw [hv] at h1
    simp [mark, h0, h1, h2, refsL, refsOf]
  | cons x xs =>
    rw [← hn]
    have hp : 0 < new.length := by rw [hn]; simp
    rw [if_neg (by rw [hn]; simp)]
    rw [ov_pos hp] at h1
    have hr := hr hp
    simp [mark, h0, h1, h2, hr, refsL, refsOf]
theorem rw_top {d n : Nat} (h0 : 0 < n) (h6 : n ≤ 6) {left : Int} (hlf : 0 ≤ left ∧ left ≤ 1000) : kF (d + n + 1) 105 [.nilsl, .int .i64 left, .int .i64 8, .ptr 2 0 1, .ptr 5 0 1, .ptr 6 0 1] [(2, ⟨.box, [.int .i64 n]⟩), (5, ⟨.box, [.nilsl]⟩), (6, ⟨.box, [rwK 2 5 6]⟩)] 96 =
    some (.tup [], (2, ⟨.box, [.int .i64 n]⟩) :: (5, ⟨.box, [oV 96 1 (rowsL n left 8).length]⟩) :: (6, ⟨.box, [rwK 2 5 6]⟩) :: oH 96 (lcs (rowsL n left 8))) := by
  obtain ⟨H, hp, ro⟩ := rw_none (d := d) h0 h6 hlf
  rw [kF_fr rfl]
  have hks : (mark [(2, ⟨.box, [.int .i64 n]⟩), (5, ⟨.box, [.nilsl]⟩), (6, ⟨.box, [rwK 2 5 6]⟩)] 1000 (refsL [.nilsl, .int .i64 left, .int .i64 8, .ptr 2 0 1, .ptr 5 0 1, .ptr 6 0 1]) []).reverse = [2, 5, 6] := rfl
  have hap : AM.apart [2, 5, 6] = true := rfl
  have e1 : renL (posF [2, 5, 6] 0) [.nilsl, .int .i64 left, .int .i64 8, .ptr 2 0 1, .ptr 5 0 1, .ptr 6 0 1] = some [.nilsl, .int .i64 left, .int .i64 8, .ptr 0 0 1, .ptr 1 0 1, .ptr 2 0 1] := rfl
  have e2 : foc (posF [2, 5, 6] 0) [(2, ⟨.box, [.int .i64 n]⟩), (5, ⟨.box, [.nilsl]⟩), (6, ⟨.box, [rwK 2 5 6]⟩)] 0 [2, 5, 6] = some (rhN n) := rfl
  have hn := newsN ro
  obtain ⟨h0, h1, h2, hr⟩ := ro
  have hl3 : ([2, 5, 6] : List Nat).length = 3 := rfl
  have er : List.range 3 = [0, 1, 2] := rfl
  rw [hks]
  unfold focus
  rw [if_pos hap]
  simp only [e1, e2, hp, backF, hl3, hn, er]
  rcases ocvL 96 (rowsL n left 8) with ⟨hn0, o1, o2⟩ | ⟨hp0, o1, o2⟩
  · rw [o1, o2]
    rw [hn0] at h1
    have hv : oV 400 1 ([] : List (List Int)).length = .nilsl := rfl
    rw [hv] at h1
    simp only [hn0, if_true, List.length_nil, baseF, freeL, AM.apart, List.append_nil, ren, renL, unf, outF, posF, h0, h1, h2, List.getElem?_cons_zero, List.getElem?_cons_succ, Nat.reduceLT, if_true, goodB, BS.open_, Bool.true_or, renB, hl3, upds, hset_cons', hset_nil', Nat.reduceEqDiff, Nat.reduceLeDiff, if_false, Nat.reduceAdd]
  · rw [o1, o2]
    rw [ov_pos hp0] at h1
    have hr := hr hp0
    have hne : ¬ rowsL n left 8 = [] := fun e => by rw [e] at hp0; simp at hp0
    have hbase : baseF [(2, ⟨.box, [.int .i64 n]⟩), (5, ⟨.box, [.nilsl]⟩), (6, ⟨.box, [rwK 2 5 6]⟩)] 1 8 96 = some 96 := rfl
    simp only [hne, if_false, List.length_cons, List.length_nil, Nat.zero_add, hbase, AM.apart, List.elem_nil, Bool.not_false, Bool.and_self, if_true, List.cons_append, List.nil_append, ren, renL, unf, outF, posF, h0, h1, h2, hr, List.getElem?_cons_zero, List.getElem?_cons_succ, Nat.reduceLT, goodB, BS.open_, Bool.true_or, renB, hl3, upds, hset_cons', hset_nil', Nat.reduceEqDiff, Nat.reduceLeDiff, Nat.add_zero, reduceCtorEq]
theorem rows_call {d n : Nat} {site : Nat → Nat} {seen : List Nat} (h0 : 0 < n) (h6 : n ≤ 6) {left : Int} (hlf : 0 ≤ left ∧ left ≤ 1000) : aBack site true seen (thaw (kF (d + n + 2)) 59 [.int .i64 n, .int .i64 left] [] 0) =
    if rowsL n left 8 = [] then .pure (.nilsl, []) else back1 (site 0) seen (fun k => .ref k 0 (rowsL n left 8).length (rowsL n left 8).length (rowsL n left 8).length 1 false) ⟨.row, lcs (rowsL n left 8)⟩ := by
  have hc := rw_top (d := d) h0 h6 hlf
  have key : (rowsL n left 8 = [] ∧ ∃ H, bodyA E (kF (d + n + 1)) fg 1000000 59 [.int .i64 n, .int .i64 left] [] 0 = some (.nilsl, H)) ∨ (0 < (rowsL n left 8).length ∧ ∃ H, bodyA E (kF (d + n + 1)) fg 1000000 59 [.int .i64 n, .int .i64 left] [] 0 = some (.ref 96 0 (rowsL n left 8).length (rowsL n left 8).length (rowsL n left 8).length 1 false, H) ∧ hget H 96 = some ⟨.row, lcs (rowsL n left 8)⟩) := by
    generalize rowsL n left 8 = R at *
    generalize kF (d + n + 1) = C at *
    rcases ocvL 96 R with ⟨hn1, o1, o2⟩ | ⟨hp1, o1, o2⟩ <;> rw [o1, o2] at hc
    · refine .inl ⟨hn1, ?_⟩
      simp (disch := omega) only [ZF, frame0, stp, opBox, just, Rd.bind, Rd.run, Rd.opt, upds, acells, zeroCells, tsz, rdCells, aLoad, aStore, opStore, resA, resL, fresh, putC, Nat.reduceMul, Nat.reduceBEq, Nat.reduceEqDiff, Nat.reduceLeDiff, ↓reduceIte, reduceCtorEq, mutX, snaps, ZT, F_59, callV, rw_mut, hc]
      exact ⟨_, rfl⟩
    · refine .inr ⟨hp1, ?_⟩
      simp (disch := omega) only [ZF, frame0, stp, opBox, just, Rd.bind, Rd.run, Rd.opt, upds, acells, zeroCells, tsz, rdCells, aLoad, aStore, opStore, resA, resL, fresh, putC, Nat.reduceMul, Nat.reduceBEq, Nat.reduceEqDiff, Nat.reduceLeDiff, ↓reduceIte, reduceCtorEq, mutX, snaps, ZT, F_59, callV, rw_mut, hc]
      exact ⟨_, rfl, rfl⟩
  rcases key with ⟨e, H, h1⟩ | ⟨hp, H, h1, h2⟩
  · rw [if_pos e]
    exact aBack_nil ⟨H, by rw [kF_no rfl]; exact h1⟩
  · rw [if_neg (fun e => by rw [e] at hp; simp at hp)]
    exact aBack_refc (by rw [kF_no rfl]; exact h1) h2 (lcs_length _)
end Go.AM.Ytfmnoohhhokicaa
end

section
namespace Go.AM.Ytfmnoohhhokicaa
open Go Go.AM Go.AM.Rub
set_option maxRecDepth 100000
set_option maxHeartbeats 4000000
theorem aBack_ref2int {C : Callee} {site : Nat → Nat} {seen : List Nat} {f : FuncId} {args : List AV} {id id' n n' g g' sz sz' : Nat} {cells cells' : List AV} {k : IntKind} {z : Int} {H' : AHeap} (h : C f args [] 0 = some (.tup [.ref id 0 n n g sz false, .ref id' 0 n' n' g' sz' false, .int k z], H')) (hg : hget H' id = some ⟨.row, cells⟩) (hg' : hget H' id' = some ⟨.row, cells'⟩) (hne : id' ≠ id) (hs : site 1 ≠ site 0) (e1 : cells.length = g) (e2 : cells'.length = g') :
    aBack site true seen (thaw C f args [] 0) = back2 (site 0) (site 1) seen (fun k0 k1 => .tup [.ref k0 0 n n g sz false, .ref k1 0 n' n' g' sz' false, .int k z]) ⟨.row, cells⟩ ⟨.row, cells'⟩ := by
  subst e1; subst e2
  have hb : ∀ off, (site 1 + off == site 0 + off) = false := fun off => by rw [beq_eq_false_iff_ne]; omega
  simp only [thaw, h, frzRet, aBack, sitesB, aBackAt, imp, imps, hg, hg', hne, hb, List.length_nil, List.length_cons, List.not_mem_nil, List.mem_cons, or_false, not_false_eq_true, and_true, if_true, List.map_cons, List.map_nil, AM.apart, List.elem_cons, List.elem_nil, Bool.not_false, Bool.and_true, AV.leads, AV.leads.leadsL, Bool.or_false, Bool.true_or, Nat.zero_add, back2]
def pairE (a b : List Int) : Int := if chkR a ≠ 0 then chkR a else if chkR b ≠ 0 then chkR b else if a.length ≠ b.length then 5 else if ps (rowF a) a.length ≠ ps (rowF b) b.length then 17 else 0
theorem pairE_zero {a b : List Int} : pairE a b = 0 ↔ ∃ n, 0 < n ∧ n ≤ 6 ∧ Rw n a ∧ Rw n b ∧ ps (rowF a) n = ps (rowF b) n := by
  unfold pairE
  by_cases ha : chkR a = 0
  · rw [if_neg (fun e => e ha)]
    by_cases hb : chkR b = 0
    · rw [if_neg (fun e => e hb)]
      obtain ⟨a1, a2, a3⟩ := chkR_zero.1 ha
      obtain ⟨b1, b2, b3⟩ := chkR_zero.1 hb
      by_cases hl : a.length = b.length
      · rw [if_neg (fun e => e hl)]
        by_cases hs : ps (rowF a) a.length = ps (rowF b) b.length
        · rw [if_neg (fun e => e hs)]
          rw [← hl] at hs b3
          exact ⟨fun _ => ⟨a.length, a1, a2, a3, b3, hs⟩, fun _ => rfl⟩
        · rw [if_pos hs]
          refine ⟨fun e => absurd e (by decide), fun ⟨n, _, _, r1, r2, r3⟩ => ?_⟩
          rw [r1.len, r2.len] at hs; exact absurd r3 hs
      · rw [if_pos hl]
        refine ⟨fun e => absurd e (by decide), fun ⟨n, _, _, r1, r2, r3⟩ => ?_⟩
        rw [r1.len, r2.len] at hl; exact absurd rfl hl
    · rw [if_pos hb]
      refine ⟨fun e => absurd e hb, fun ⟨n, h0, h6, r1, r2, r3⟩ => absurd (chkR_zero.2 ⟨by rw [r2.len]; exact h0, by rw [r2.len]; exact h6, by rw [r2.len]; exact r2⟩) hb⟩
  · rw [if_pos ha]
    refine ⟨fun e => absurd e ha, fun ⟨n, h0, h6, r1, r2, r3⟩ => absurd (chkR_zero.2 ⟨by rw [r1.len]; exact h0, by rw [r1.len]; exact h6, by rw [r1.len]; exact r1⟩) ha⟩
theorem pair_run {d : Nat} {l m : List Int} {a b : AV} (ha : IV l a) (hb : IV m b) (hl : l.length ≤ 1000) (hm : m.length ≤ 1000) :
    (pairE l m ≠ 0 ∧ ∃ H, bodyA E (kF (d + 1)) fg 1000000 85 [a, b] [] 0 = some (.tup [.nilsl, .nilsl, .int .i64 (pairE l m)], H)) ∨
    (pairE l m = 0 ∧ ∃ H, bodyA E (kF (d + 1)) fg 1000000 85 [a, b] [] 0 = some (.tup [.ref 20 0 (l.length + 1) (l.length + 1) (l.length + 1) 1 false, .ref 22 0 (m.length + 1) (m.length + 1) (m.length + 1) 1 false, .int .i64 0], H) ∧ hget H 20 = some ⟨.row, ics (riL l)⟩ ∧ hget H 22 = some ⟨.row, ics (riL m)⟩) := by
  have hc1 := fun (site : Nat → Nat) seen => check_call (d := d) (site := site) (seen := seen) ha hl
  have hc2 := fun (site : Nat → Nat) seen => check_call (d := d) (site := site) (seen := seen) hb hm
  have sa := iv_snap ha
  have sb := iv_snap hb
  unfold pairE
  by_cases h1 : chkR l = 0
  · rw [if_neg (fun e => e h1)]
    rw [h1] at hc1
    obtain ⟨a1, a2, a3⟩ := chkR_zero.1 h1
    by_cases h2 : chkR m = 0
    · rw [if_neg (fun e => e h2)]
      rw [h2] at hc2
      obtain ⟨b1, b2, b3⟩ := chkR_zero.1 h2
      have r1 := fun (site : Nat → Nat) seen => rises_call (d := d) (site := site) (seen := seen) ha a3 (by omega)
      have r2 := fun (site : Nat → Nat) seen => rises_call (d := d) (site := site) (seen := seen) hb b3 (by omega)
      obtain ⟨ea, rfl⟩ := iv_ne ha a1
      obtain ⟨eb, rfl⟩ := iv_ne hb b1
      have l1 := ics_length l
      have l2 := ics_length m
      have l3 := ri_len l
      have l4 := ri_len m
      generalize kF (d + 1) = C at *
      by_cases h3 : l.length = m.length
      · rw [if_neg (fun e => e h3)]
        have g1 : ¬ (l.length : Int) ≠ m.length := by omega
        have g2 : ((l.length : Int) != m.length) = false := by rw [bne_eq_false_iff_eq]; omega
        have g3 : (l.length : Int) = m.length := by omega
        have g4 : (l.length : Int) < ((l.length + 1 : Nat) : Int) := by omega
        have g5 : (m.length : Int) < ((m.length + 1 : Nat) : Int) := by omega
        have t1 : (ics (riL l))[l.length]? = some (.int .i64 (ps (rowF l) l.length)) := ics_at (riP_at (Nat.le_refl _))
        have t2 : (ics (riL m))[m.length]? = some (.int .i64 (ps (rowF m) m.length)) := ics_at (riP_at (Nat.le_refl _))
        by_cases h4 : ps (rowF l) l.length = ps (rowF m) m.length
        · rw [if_neg (fun e => e h4)]
          refine .inr ⟨rfl, ?_⟩
          generalize ps (rowF l) l.length = p at *
          generalize ps (rowF m) m.length = q at *
          subst h4
          simp (disch := omega) only [ZF, frame0, stp, just, Rd.bind, Rd.run, Rd.opt, upds, tsz, rdCells, aLoad, resA, resL, aIndexAddr, aNum, aLen, aBuiltin, aBin, aInt, Nat.reduceAdd, Nat.reduceLT, Nat.reduceBEq, Nat.reduceEqDiff, Nat.reduceLeDiff, ↓reduceIte, reduceCtorEq, stpT, Rd.foot, writing, touching, Tr.empty, dynPairs, apartT, disj, aCall, snaps, ZT, F_85, hc1, hc2, r1, r2, l3, l4, g2, g4, g5, t1, t2]
          exact ⟨_, rfl, rfl, rfl⟩
        · rw [if_pos h4]
          refine .inl ⟨by decide, ?_⟩
          generalize ps (rowF l) l.length = p at *
          generalize ps (rowF m) m.length = q at *
          have h4' : (p != q) = true := by rw [bne_iff_ne]; exact h4
          simp (disch := omega) only [ZF, frame0, stp, just, Rd.bind, Rd.run, Rd.opt, upds, tsz, rdCells, aLoad, resA, resL, aIndexAddr, aNum, aLen, aBuiltin, aBin, aInt, Nat.reduceAdd, Nat.reduceLT, Nat.reduceBEq, Nat.reduceEqDiff, Nat.reduceLeDiff, ↓reduceIte, reduceCtorEq, stpT, Rd.foot, writing, touching, Tr.empty, dynPairs, apartT, disj, aCall, snaps, ZT, F_85, hc1, hc2, r1, r2, l3, l4, g2, g4, g5, h4', t1, t2]
          exact ⟨_, rfl⟩
      · rw [if_pos h3]
        refine .inl ⟨by decide, ?_⟩
        have g1 : (l.length : Int) ≠ m.length := by omega
        have g2 : ((l.length : Int) != m.length) = true := by rw [bne_iff_ne]; omega
        have g3 : ¬ (l.length : Int) = m.length := by omega
        simp (disch := omega) only [ZF, frame0, stp, just, Rd.bind, Rd.run, Rd.opt, upds, tsz, rdCells, aLoad, resA, resL, aIndexAddr, aNum, aLen, aBuiltin, aBin, aInt, Nat.reduceAdd, Nat.reduceLT, Nat.reduceBEq, Nat.reduceEqDiff, Nat.reduceLeDiff, ↓reduceIte, reduceCtorEq, stpT, Rd.foot, aCall, snaps, ZT, F_85, hc1, hc2, r1, r2, l3, g2, if_pos]
        exact ⟨_, rfl⟩
    · rw [if_pos h2]
      refine .inl ⟨h2, ?_⟩
      generalize kF (d + 1) = C at *
      generalize chkR m = z at *
      have h0' : (z == 0) = false := by rw [beq_eq_false_iff_ne]; exact h2
      simp (disch := omega) only [ZF, frame0, stp, just, Rd.bind, Rd.run, Rd.opt, upds, resA, resL, aBin, aInt, Nat.reduceBEq, Nat.reduceEqDiff, Nat.reduceLeDiff, ↓reduceIte, reduceCtorEq, aCall, snaps, F_85, hc1, hc2, h2, sa 198, sb 198]
      exact ⟨_, rfl⟩
  · rw [if_pos h1]
    refine .inl ⟨h1, ?_⟩
    generalize kF (d + 1) = C at *
    generalize chkR l = z at *
    have h0' : (z == 0) = false := by rw [beq_eq_false_iff_ne]; exact h1
    simp (disch := omega) only [ZF, frame0, stp, just, Rd.bind, Rd.run, Rd.opt, upds, resA, resL, aBin, aInt, Nat.reduceBEq, Nat.reduceEqDiff, Nat.reduceLeDiff, ↓reduceIte, reduceCtorEq, aCall, snaps, F_85, hc1, h1, sa 198]
    exact ⟨_, rfl⟩
/-- What 'pair' gives. -/
def PaC (C : Callee) (a b : AV) (l m : List Int) : Prop :=
  (pairE l m ≠ 0 ∧ ∀ (site : Nat → Nat) seen, aBack site true seen (thaw C 85 [a, b] [] 0) = .pure (.tup [.nilsl, .nilsl, .int .i64 (pairE l m)], [])) ∨
  (pairE l m = 0 ∧ ∀ (site : Nat → Nat) seen, site 1 ≠ site 0 → aBack site true seen (thaw C 85 [a, b] [] 0) = back2 (site 0) (site 1) seen (fun k k' => .tup [.ref k 0 (l.length + 1) (l.length + 1) (l.length + 1) 1 false, .ref k' 0 (m.length + 1) (m.length + 1) (m.length + 1) 1 false, .int .i64 0]) ⟨.row, ics (riL l)⟩ ⟨.row, ics (riL m)⟩)
theorem paC {d : Nat} {l m : List Int} {a b : AV} (ha : IV l a) (hb : IV m b) (hl : l.length ≤ 1000) (hm : m.length ≤ 1000) : PaC (kF (d + 2)) a b l m := by
  rcases pair_run (d := d) ha hb hl hm with ⟨h, H, h1⟩ | ⟨h, H, h1, h2, h3⟩
  · exact .inl ⟨h, fun site seen => aBack_plain (by rw [kF_no rfl]; exact h1) rfl (fun _ => rfl) rfl⟩
  · exact .inr ⟨h, fun site seen hs => aBack_ref2int (by rw [kF_no rfl]; exact h1) h2 h3 (by decide) hs (ri_len l) (ri_len m)⟩
def prvE (a b : List Int) (k : Int) : Int := if pairE a b ≠ 0 then pairE a b else if k < 0 ∨ k > a.length then 2 else if ps (rowF a) k.toNat ≥ ps (rowF b) k.toNat then 14 else 0
theorem proves_run {d : Nat} {l m : List Int} {a b : AV} {k : Int} (ha : IV l a) (hb : IV m b) (hl : l.length ≤ 1000) (hm : m.length ≤ 1000) : rsOf (bodyA E (kF (d + 2)) fg 1000000 35 [a, b, .int .i64 k] [] 0) = some (.int .i64 (prvE l m k)) := by
  have hp := paC (d := d) ha hb hl hm
  have sa := iv_snap ha
  have sb := iv_snap hb
  unfold prvE
  rcases hp with ⟨h, hp⟩ | ⟨h, hp⟩
  · rw [if_pos h]
    generalize kF (d + 2) = C at *
    generalize pairE l m = z at *
    have h0' : (z == 0) = false := by rw [beq_eq_false_iff_ne]; exact h
    simp (disch := omega) only [ZF, ↓gd, frame0, stp, opPick, justO, just, Rd.bind, Rd.run, Rd.opt, upds, opExtract, resA, resL, aIndexAddr, aNum, aLen, aBuiltin, aBin, aInt, Nat.reduceAdd, Nat.reduceBEq, Nat.reduceEqDiff, Nat.reduceLeDiff, ↓reduceIte, reduceCtorEq, stpT, aCall, snaps, ZT, F_35, hp, h, sa 198, sb 197]
  · obtain ⟨n, n0, n6, r1, r2, re⟩ := pairE_zero.1 h
    rw [r1.len, r2.len] at hp
    have l1 := ri_len l
    have l2 := ri_len m
    rw [r1.len] at l1
    rw [r2.len] at l2
    rw [h, if_neg (fun e : (0 : Int) ≠ 0 => e rfl)]
    have hla : aLen E.T 22 a = .pure (.int .i64 (n : Int)) := by rw [iv_al ha, r1.len]
    rw [r1.len]
    generalize kF (d + 2) = C at *
    by_cases c1 : k < 0 ∨ k > n
    · rw [if_pos c1]
      by_cases c2 : k < 0
      · simp (disch := omega) only [ZF, ↓gd, frame0, stp, opPick, justO, just, Rd.bind, Rd.run, Rd.opt, upds, tsz, opExtract, resA, resL, aIndexAddr, aNum, aBin, aInt, Nat.reduceAdd, Nat.reduceMul, Nat.reduceLT, Nat.reduceBEq, Nat.reduceEqDiff, Nat.reduceLeDiff, ↓reduceIte, reduceCtorEq, stpT, aCall, snaps, ZT, F_35, hp, c2, sa 198, sb 197, if_pos]
      · have c3 : k > n := by omega
        simp (disch := omega) only [ZF, ↓gd, frame0, stp, opPick, justO, just, Rd.bind, Rd.run, Rd.opt, upds, tsz, opExtract, resA, resL, aIndexAddr, aNum, aBuiltin, aBin, aInt, Nat.reduceAdd, Nat.reduceMul, Nat.reduceLT, Nat.reduceBEq, Nat.reduceEqDiff, Nat.reduceLeDiff, ↓reduceIte, reduceCtorEq, stpT, aCall, snaps, ZT, F_35, hp, c2, c3, hla, sa 198, sb 197, if_pos]
    · rw [if_neg c1]
      obtain ⟨q, rfl⟩ : ∃ q : Nat, k = q := ⟨k.toNat, by omega⟩
      have c2 : ¬ (q : Int) < 0 := by omega
      have c3 : ¬ (q : Int) > n := by omega
      have t1 : (ics (riL l))[q]? = some (.int .i64 (ps (rowF l) q)) := ics_at (riP_at (by rw [r1.len]; omega))
      have t2 : (ics (riL m))[q]? = some (.int .i64 (ps (rowF m) q)) := ics_at (riP_at (by rw [r2.len]; omega))
      have g1 : (q : Int) < ((n + 1 : Nat) : Int) := by omega
      rw [Int.toNat_natCast]
      generalize ps (rowF l) q = u at *
      generalize ps (rowF m) q = v at *
      by_cases c4 : u ≥ v
      · rw [if_pos c4]
        simp (disch := omega) only [ZF, ↓gd, frame0, stp, opPick, justO, just, Rd.bind, Rd.run, Rd.opt, upds, tsz, rdCells, aLoad, opExtract, resA, resL, aIndexAddr, aNum, aBuiltin, aBin, aInt, Nat.reduceAdd, Nat.reduceMul, Nat.reduceLT, Nat.reduceBEq, Nat.reduceEqDiff, Nat.reduceLeDiff, ↓reduceIte, reduceCtorEq, stpT, Rd.foot, writing, touching, Tr.empty, dynPairs, apartT, disj, aCall, snaps, ZT, F_35, hp, c2, c3, c4, g1, t1, t2, l1, l2, hla, sa 198, sb 197]
      · rw [if_neg c4]
        simp (disch := omega) only [ZF, ↓gd, frame0, stp, opPick, justO, just, Rd.bind, Rd.run, Rd.opt, upds, tsz, rdCells, aLoad, opExtract, resA, resL, aIndexAddr, aNum, aBuiltin, aBin, aInt, Nat.reduceAdd, Nat.reduceMul, Nat.reduceLT, Nat.reduceBEq, Nat.reduceEqDiff, Nat.reduceLeDiff, ↓reduceIte, reduceCtorEq, stpT, Rd.foot, writing, touching, Tr.empty, dynPairs, apartT, disj, aCall, snaps, ZT, F_35, hp, c2, c3, c4, g1, t1, t2, l1, l2, hla, sa 198, sb 197]
theorem proves_call {d : Nat} {site : Nat → Nat} {seen : List Nat} {l m : List Int} {a b : AV} {k : Int} (ha : IV l a) (hb : IV m b) (hl : l.length ≤ 1000) (hm : m.length ≤ 1000) : aBack site true seen (thaw (kF (d + 3)) 35 [a, b, .int .i64 k] [] 0) = .pure (.int .i64 (prvE l m k), []) :=
  aBack_int (kF_ex rfl (proves_run ha hb hl hm))
end Go.AM.Ytfmnoohhhokicaa
end

section
namespace Go.AM.Ytfmnoohhhokicaa
open Go Go.AM Go.AM.Rub
set_option maxRecDepth 100000
set_option maxHeartbeats 16000000
theorem take_all {n : Nat} {l : List Int} (h : Rw n l) : l.take n = l := List.take_of_length_le (by rw [h.len]; exact Nat.le_refl _)
theorem totalA {d : Nat} {site : Nat → Nat} {seen : List Nat} {n : Nat} {l : List Int} (h : Rw n l) (hn : n ≤ 8) {ex : Bool} : aBack site true seen (thaw (kF (d + 1)) 58 [.imm (ics l) n ex] [] 0) = .pure (.int .i64 (ps (rowF l) n), []) := by
  have := totalk_call (d := d) (site := site) (seen := seen) h hn (Nat.le_refl n) (ex := ex)
  rw [take_all h] at this
  exact this
theorem rows_mem {n : Nat} {l : List Int} (h : Rw n l) : l ∈ rowsL n (ps (rowF l) n) 8 := by
  rw [mem_rowsL]
  exact ⟨h.len, by rw [← ps_tot, h.len], h.row⟩
theorem rows_rw {n : Nat} {s : Int} {l : List Int} (h : l ∈ rowsL n s 8) : Rw n l ∧ ps (rowF l) n = s := by
  rw [mem_rowsL] at h
  exact ⟨⟨h.1, h.2.2⟩, by rw [← h.2.1, ← ps_tot, h.1]⟩
theorem chk_ok {n : Nat} {l : List Int} (h : Rw n l) (h0 : 0 < n) (h6 : n ≤ 6) : chkR l = 0 := by
  rw [chkR_zero, h.len]; exact ⟨h0, h6, h⟩
/-- The first part: what is wanted is what is found. -/
structure ShC (C : Callee) (a b : List Int) (n m : Nat) (k : Int) : Prop where
  ta : ∀ (site : Nat → Nat) seen x, aBack site true seen (thaw C 58 [.imm (ics a) n x] [] 0) = .pure (.int .i64 (ps (rowF a) n), [])
  tb : ∀ (site : Nat → Nat) seen x, aBack site true seen (thaw C 58 [.imm (ics b) m x] [] 0) = .pure (.int .i64 (ps (rowF b) m), [])
  ua : ∀ (site : Nat → Nat) seen x, 0 ≤ k → k ≤ n → aBack site true seen (thaw C 58 [.imm (ics (a.take k.toNat)) k.toNat x] [] 0) = .pure (.int .i64 (ps (rowF a) k.toNat), [])
  ub : ∀ (site : Nat → Nat) seen x, 0 ≤ k → k ≤ m → aBack site true seen (thaw C 58 [.imm (ics (b.take k.toNat)) k.toNat x] [] 0) = .pure (.int .i64 (ps (rowF b) k.toNat), [])
def wantE (a b : List Int) (n m : Nat) (k : Int) : Int := if n ≠ m then 5 else if ps (rowF a) n ≠ ps (rowF b) m then 17 else if k < 0 ∨ k > n then 2 else if ps (rowF a) k.toNat ≥ ps (rowF b) k.toNat then 14 else 0
theorem sh_blk {C : Callee} {a b : List Int} {n m : Nat} {k pl : Int} {Z Y : List AV} (hC : ShC C a b n m k) (la : (ics a).length = n) (lb : (ics b).length = m) (_ : n ≤ 6) (hm : m ≤ 6) :
    (execA E C (fg 8) 0 96 [] 1000000 c8_9) ([(10, .int .i64 0), (9, .int .i64 k), (8, .ref 16 0 m m m 1 false), (7, .ref 14 0 n n n 1 false), (4, .ptr 4 0 8), (2, .int .u8 pl)], [(3, ⟨.box, Z⟩), (4, ⟨.box, Y⟩), (14, ⟨.row, ics a⟩), (16, ⟨.row, ics b⟩)]) =
      some (.normal, ([(10, .int .i64 (wantE a b n m k)), (9, .int .i64 k), (8, .ref 16 0 m m m 1 false), (7, .ref 14 0 n n n 1 false), (4, .ptr 4 0 8), (2, .int .u8 pl)], [(3, ⟨.box, Z⟩), (4, ⟨.box, Y⟩), (14, ⟨.row, ics a⟩), (16, ⟨.row, ics b⟩)])) := by
  obtain ⟨ta, tb, ua, ub⟩ := hC
  have a1 : List.take n (ics a) = ics a := List.take_of_length_le (by omega)
  have b1 : List.take m (ics b) = ics b := List.take_of_length_le (by omega)
  unfold wantE
  by_cases d1 : n = m
  · subst d1
    have g1 : ((n : Int) != n) = false := by simp
    rw [if_neg (fun e : n ≠ n => e rfl)]
    by_cases d2 : ps (rowF a) n = ps (rowF b) n
    · rw [if_neg (fun e => e d2)]
      rw [d2] at ta
      by_cases d3 : k < 0 ∨ k > n
      · rw [if_pos d3]
        generalize ps (rowF b) n = S at *
        by_cases d4 : k < 0
        · simp (disch := omega) only [ZF, ↓gd, stp, opPick, just, Rd.bind, Rd.run, Rd.opt, upds, tsz, aNum, aLen, aBuiltin, aBin, aInt, Nat.reduceAdd, Nat.reduceBEq, Nat.reduceEqDiff, Nat.reduceLeDiff, ↓reduceIte, reduceCtorEq, stpT, aCall, snaps, aSlice, aBounds, bMax, bHigh, bLow, ZT, F_8, la, lb, a1, b1, ta, tb, d4]
        · have d5 : k > n := by omega
          simp (disch := omega) only [ZF, ↓gd, stp, opPick, just, Rd.bind, Rd.run, Rd.opt, upds, tsz, aNum, aLen, aBuiltin, aBin, aInt, Nat.reduceAdd, Nat.reduceBEq, Nat.reduceEqDiff, Nat.reduceLeDiff, ↓reduceIte, stpT, aCall, snaps, aSlice, aBounds, bMax, bHigh, bLow, ZT, F_8, la, lb, a1, b1, ta, tb, d4, d5]
      · rw [if_neg d3]
        obtain ⟨q, rfl⟩ : ∃ q : Nat, k = q := ⟨k.toNat, by omega⟩
        simp only [Int.toNat_natCast] at *
        have xa := fun (site : Nat → Nat) seen x => ua site seen x (by omega) (by omega)
        have xb := fun (site : Nat → Nat) seen x => ub site seen x (by omega) (by omega)
        clear ua ub
        have aq : List.take q (ics a) = ics (a.take q) := ics_take a q
        have bq : List.take q (ics b) = ics (b.take q) := ics_take b q
        have gq : (0 : Int) ≤ (q : Int) ∧ (q : Int) ≤ (n : Int) := by omega
        have d4 : ¬ (q : Int) < 0 := by omega
        have d5 : ¬ (q : Int) > n := by omega
        generalize ps (rowF b) n = S at *
        by_cases d6 : ps (rowF a) q ≥ ps (rowF b) q
        · rw [if_pos d6]
          generalize ps (rowF a) q = u at *
          generalize ps (rowF b) q = v at *
          simp (disch := omega) only [ZF, ↓gd, stp, opPick, just, Rd.bind, Rd.run, Rd.opt, upds, tsz, aNum, aLen, aBuiltin, aBin, aInt, Nat.reduceAdd, Nat.reduceBEq, Nat.reduceEqDiff, Nat.reduceLeDiff, ↓reduceIte, stpT, Rd.foot, writing, touching, Tr.empty, dynPairs, apartT, disj, aCall, snaps, aSlice, aBounds, bMax, bHigh, bLow, ZT, F_8, la, lb, a1, b1, ta, tb, xa, xb, aq, bq, gq, d4, d5, d6, if_pos]
        · rw [if_neg d6]
          generalize ps (rowF a) q = u at *
          generalize ps (rowF b) q = v at *
          simp (disch := omega) only [ZF, ↓gd, stp, opPick, just, Rd.bind, Rd.run, Rd.opt, upds, tsz, aNum, aLen, aBuiltin, aBin, aInt, Nat.reduceAdd, Nat.reduceBEq, Nat.reduceEqDiff, Nat.reduceLeDiff, ↓reduceIte, stpT, Rd.foot, writing, touching, Tr.empty, dynPairs, apartT, disj, aCall, snaps, aSlice, aBounds, bMax, bHigh, bLow, ZT, F_8, la, lb, a1, b1, ta, tb, xa, xb, aq, bq, gq, d4, d5, d6, if_pos]
    · rw [if_pos d2]
      generalize ps (rowF a) n = u at *
      generalize ps (rowF b) n = v at *
      have d2' : (u != v) = true := by rw [bne_iff_ne]; exact d2
      simp (disch := omega) only [ZF, ↓gd, stp, opPick, just, Rd.bind, Rd.run, Rd.opt, upds, tsz, aNum, aLen, aBuiltin, aBin, aInt, Nat.reduceAdd, Nat.reduceBEq, Nat.reduceEqDiff, Nat.reduceLeDiff, ↓reduceIte, reduceCtorEq, stpT, Rd.foot, aCall, snaps, aSlice, aBounds, bMax, bHigh, bLow, ZT, F_8, la, lb, a1, b1, ta, tb, d2', if_pos]
  · rw [if_pos d1]
    have g1 : ((n : Int) != m) = true := by rw [bne_iff_ne]; omega
    have g2 : ¬ (n : Int) = m := by omega
    simp (disch := omega) only [ZF, stp, just, Rd.bind, Rd.run, Rd.opt, upds, aLen, aBuiltin, aBin, aInt, Nat.reduceBEq, Nat.reduceEqDiff, Nat.reduceLeDiff, ↓reduceIte, aCall, snaps, ZT, F_8, g1, if_pos]
end Go.AM.Ytfmnoohhhokicaa
end

section
namespace Go.AM.Ytfmnoohhhokicaa
open Go Go.AM Go.AM.Rub
set_option maxRecDepth 100000
set_option maxHeartbeats 16000000
theorem rubShown_law {zs zt : List Int} {pl : Int} (hz : zs.length = 8 ∧ ∀ (i : Nat) (z : Int), zs[i]? = some z → 0 ≤ z ∧ z ≤ 255) (hzt : zt.length = 8 ∧ ∀ (i : Nat) (z : Int), zt[i]? = some z → 0 ≤ z ∧ z ≤ 255) (hp : 0 ≤ pl ∧ pl ≤ 255) (hw : ∃ H0, kF 40 17 [] [] 0 = some (.bool true, H0)) :
    rsOf (bodyA E (kF 40) fg 1000000 8 [.agg (zs.map (AV.int .u8)), .agg (zt.map (AV.int .u8)), .int .u8 pl] [] 0) = some (.bool true) := by
  have hwk := fun (site : Nat → Nat) seen => aBack_bool (site := site) (seen := seen) hw
  have p1 := pl_of hz
  have p2 := pl_of hzt
  obtain ⟨n0, n1, n2⟩ := mdN_b (m := 6) p1 (by omega) (by omega)
  obtain ⟨m0, m1, m2⟩ := mdN_b (m := 6) p2 (by omega) (by omega)
  obtain ⟨ra, _⟩ := mdR_row (m := 6) (t := 8) p1 (by omega) (by omega) (by omega) (by omega)
  obtain ⟨rb, _⟩ := mdR_row (m := 6) (t := 8) p2 (by omega) (by omega) (by omega) (by omega)
  have hm1 := fun (site : Nat → Nat) seen => made_call (d := 33) (site := site) (seen := seen) (m := 6) (t := 8) p1 (by omega) (by omega) (by omega) (by omega)
  have hm2 := fun (site : Nat → Nat) seen => made_call (d := 33) (site := site) (seen := seen) (m := 6) (t := 8) p2 (by omega) (by omega) (by omega) (by omega)
  have lz : (u8s zs).length = 8 := by rw [u8s_len, p1.len]
  have lt : (u8s zt).length = 8 := by rw [u8s_len, p2.len]
  have tz : List.take 8 (u8s zs) = u8s zs := List.take_of_length_le (by omega)
  have tt : List.take 8 (u8s zt) = u8s zt := List.take_of_length_le (by omega)
  have sp1 := fun d => snaps_flat (u8s zs) (d + 10) (by simp [u8s]) (by rw [lz]; omega)
  have sp2 := fun d => snaps_flat (u8s zt) (d + 10) (by simp [u8s]) (by rw [lt]; omega)
  have hq0 := u8s_at (l := zt) (k := 0) (by rw [p2.len]; omega)
  have bq0 := p2.b 0 (by omega)
  have ez : zs.map (AV.int .u8) = u8s zs := rfl
  have et : zt.map (AV.int .u8) = u8s zt := rfl
  rw [ez, et]
  clear n2 m2 hz hzt ez et
  generalize mdR zs 6 8 = a at *
  generalize mdR zt 6 8 = b at *
  generalize mdN zs 6 = n at *
  generalize mdN zt 6 = m at *
  generalize rowF zt 0 = mq at *
  have hn6 : n ≤ 6 := by omega
  have hm6 : m ≤ 6 := by omega
  obtain ⟨t8, ht8, b8⟩ : ∃ t8 : Int, (∀ _ : Unit, pl.tmod 8 = t8) ∧ (0 ≤ t8 ∧ t8 < 8) := ⟨_, fun _ => rfl, tmod_b hp.1 (by decide)⟩
  have w1 : wrp .i64 pl = pl := wrp64 (by omega)
  have w2 : wrp .i64 (t8 - 1) = t8 - 1 := wrp64 (by omega)
  have w3 : wrp .i64 ((n : Int) + 1) = (n : Int) + 1 := wrp64 (by omega)
  have w4 : wrp .i64 mq = mq := wrp64 (by omega)
  have z1 : ¬ (n : Int) + 1 = 0 := by omega
  have la : (ics a).length = n := by rw [ics_length, ra.len]
  have lb : (ics b).length = m := by rw [ics_length, rb.len]
  have a1 : List.take n (ics a) = ics a := List.take_of_length_le (by omega)
  have b1 : List.take m (ics b) = ics b := List.take_of_length_le (by omega)
  have ia : ∀ x, IV a (.imm (ics a) n x) := fun x => .inr ⟨x, by rw [ra.len]⟩
  have ib : ∀ x, IV b (.imm (ics b) m x) := fun x => .inr ⟨x, by rw [rb.len]⟩
  have ta := fun (site : Nat → Nat) seen ex => totalA (d := 39) (site := site) (seen := seen) (ex := ex) ra (by omega)
  have hpr := fun (site : Nat → Nat) seen x y => proves_call (d := 37) (site := site) (seen := seen) (k := t8 - 1) (ia x) (ib y) (by rw [ra.len]; omega) (by rw [rb.len]; omega)
  have eP1 : prvE a b (t8 - 1) = wantE a b n m (t8 - 1) := by
    unfold prvE pairE wantE
    rw [chk_ok ra n0 hn6, chk_ok rb m0 hm6, ra.len, rb.len]
    rw [if_neg (fun e : (0 : Int) ≠ 0 => e rfl), if_neg (fun e : (0 : Int) ≠ 0 => e rfl)]
    by_cases c1 : n ≠ m
    · rw [if_pos c1, if_pos (by decide), if_pos c1]
    · rw [if_neg c1, if_neg c1]
      by_cases c2 : ps (rowF a) n ≠ ps (rowF b) m
      · rw [if_pos c2, if_pos (by decide), if_pos c2]
      · rw [if_neg c2, if_neg c2, if_neg (fun e : (0 : Int) ≠ 0 => e rfl)]
  rw [eP1] at hpr
  have hsh : ShC (kF 40) a b n m (t8 - 1) := ⟨fun site seen x => totalA (d := 39) ra (by omega), fun site seen x => totalA (d := 39) rb (by omega),
    fun site seen x _ _ => totalk_call (d := 39) ra (by omega) (by omega), fun site seen x _ _ => totalk_call (d := 39) rb (by omega) (by omega)⟩
  have hblk := sh_blk (pl := pl) (Z := u8s zs) (Y := u8s zt) hsh la lb hn6 hm6
  have sb := ps_b ra n (Nat.le_refl n)
  have hro := fun (site : Nat → Nat) seen => rows_call (d := 38 - n) (n := n) (site := site) (seen := seen) n0 hn6 (left := ps (rowF a) n) (by omega)
  rw [show 38 - n + n + 2 = 40 by omega] at hro
  have hmem := rows_mem ra
  have hne : ¬ rowsL n (ps (rowF a) n) 8 = [] := fun e => by rw [e] at hmem; simp at hmem
  simp only [if_neg hne] at hro
  have hlp : 0 < (rowsL n (ps (rowF a) n) 8).length := List.length_pos_of_mem hmem
  have hsub : ∀ c ∈ rowsL n (ps (rowF a) n) 8, Rw n c ∧ ps (rowF c) n = ps (rowF a) n := fun c hc => rows_rw hc
  clear hmem hne
  generalize hS : ps (rowF a) n = S at *
  generalize rowsL n S 8 = R at *
  obtain ⟨j, hj, hjl⟩ : ∃ j : Nat, mq.tmod (R.length : Int) = j ∧ j < R.length := by
    have := tmod_b (a := mq) (b := (R.length : Int)) bq0.1 (by omega)
    exact ⟨(mq.tmod (R.length : Int)).toNat, by omega, by omega⟩
  have hcj : R[j]? = some R[j] := List.getElem?_eq_getElem hjl
  obtain ⟨rc, ec⟩ := hsub _ (List.mem_of_getElem? hcj)
  have hat := lcs_at hcj
  rw [rc.len] at hat
  generalize hcc : R[j]'hjl = c at *
  clear hcc hsub
  have hll := lcs_length R
  have z2 : ¬ (R.length : Int) = 0 := by omega
  have gj : (j : Int) < (R.length : Int) := by omega
  have ic : ∀ x, IV c (.imm (ics c) n x) := fun x => .inr ⟨x, by rw [rc.len]⟩
  obtain ⟨q, hq, hqn⟩ : ∃ q : Nat, pl.tmod ((n : Int) + 1) = q ∧ q ≤ n := by
    have := tmod_b (a := pl) (b := (n : Int) + 1) hp.1 (by omega)
    exact ⟨(pl.tmod ((n : Int) + 1)).toNat, by omega, by omega⟩
  have hpr2 := fun (site : Nat → Nat) seen x y => proves_call (d := 37) (site := site) (seen := seen) (k := (q : Int)) (ia x) (ic y) (by rw [ra.len]; omega) (by rw [rc.len]; omega)
  have eP2 : prvE a c q = if ps (rowF a) q ≥ ps (rowF c) q then 14 else 0 := by
    unfold prvE
    rw [pairE_zero.2 ⟨n, n0, hn6, ra, rc, by rw [hS, ec]⟩, if_neg (fun e : (0 : Int) ≠ 0 => e rfl), if_neg (by rw [ra.len]; omega), Int.toNat_natCast]
  rw [eP2] at hpr2
  have ua := fun (site : Nat → Nat) seen ex => totalk_call (d := 39) (site := site) (seen := seen) (ex := ex) ra (by omega) hqn
  have uc := fun (site : Nat → Nat) seen ex => totalk_call (d := 39) (site := site) (seen := seen) (ex := ex) rc (by omega) hqn
  have lc : (ics c).length = n := by rw [ics_length, rc.len]
  have c1 : List.take n (ics c) = ics c := List.take_of_length_le (by omega)
  have aq : List.take q (ics a) = ics (a.take q) := ics_take a q
  have cq : List.take q (ics c) = ics (c.take q) := ics_take c q
  have gq : (0 : Int) ≤ (q : Int) ∧ (q : Int) ≤ (n : Int) := by omega
  generalize kF 40 = C at *
  generalize wantE a b n m (t8 - 1) = W at *
  generalize ps (rowF a) q = u at *
  generalize ps (rowF c) q = v at *
  generalize lcs R = RL at *
  generalize R.length = rl at *
  generalize u8s zs = Z at *
  generalize u8s zt = Y at *
  by_cases d6 : u ≥ v
  · have d7 : ¬ u < v := by omega
    simp only [if_pos d6] at hpr2
    simp (disch := omega) only [ZF, ↓gd, frame0, stp, opPick, opBox, justO, just, Rd.bind, Rd.run, Rd.opt, upds, acells, tsz, rdCells, fieldOf, aFieldAddr, aLoad, resA, resL, fresh, aIndexAddr, aNum, aLen, aBuiltin, aBin, aInt, Nat.reduceAdd, Nat.reduceLT, Nat.reduceBEq, Nat.reduceEqDiff, Nat.reduceLeDiff, ↓reduceIte, reduceCtorEq, stpT, Rd.foot, writing, touching, Tr.empty, dynPairs, apartT, disj, window, aCall, snaps, aConv, aSlice, aBounds, bMax, bHigh, bLow, Int.reduceEq, ZT, x8_1, r8_0_l, s8_0_0, s8_0_1, s8_0_2, x8_3, r8_1_l, r8_1_dr, r8_1_an, s8_1_0, s8_1_1, s8_1_2, s8_1_3, s8_1_4, s8_1_5, x8_5, r8_2_l, s8_2_0, s8_2_1, s8_2_2, s8_2_3, s8_2_4, x8_7, r8_3_l, s8_3_0, x8_29, r8_12_l, s8_12_0, s8_12_1, s8_12_2, s8_12_3, s8_12_4, s8_12_5, x8_32, r8_13_l, s8_13_0, x8_33, x8_31, x8_34, x8_30, x8_28, x8_36, r8_14_l, s8_14_0, s8_14_1, s8_14_2, s8_14_3, s8_14_4, s8_14_5, x8_38, r8_15_l, s8_15_0, s8_15_1, s8_15_2, s8_15_3, s8_15_4, s8_15_5, s8_15_6, s8_15_7, s8_15_8, s8_15_9, x8_40, r8_16_l, s8_16_0, x8_43, r8_17_l, s8_17_0, s8_17_1, s8_17_2, s8_17_3, s8_17_4, s8_17_5, s8_17_6, x8_45, r8_18_l, r8_18_dr, r8_18_an, s8_18_0, s8_18_1, s8_18_2, s8_18_3, s8_18_4, s8_18_5, s8_18_6, s8_18_7, s8_18_8, x8_47, r8_19_l, s8_19_0, x8_48, x8_46, x8_44, x8_42, x8_50, r8_20_l, s8_20_0, s8_20_1, s8_20_2, s8_20_3, s8_20_4, s8_20_5, s8_20_6, s8_20_7, s8_20_8, s8_20_9, x8_51, x8_49, x8_41, x8_39, x8_37, x8_35, x8_27, x8_8, x8_6, x8_4, x8_2, x8_0, b_8, lz, lt, tz, tt, sp1, sp2, hm1, hm2, hq0, w1, w2, w3, w4, ht8 (), hj, hq, la, lb, lc, a1, b1, aq, cq, ta, ua, uc, hblk, hpr, hpr2, hro, hat, hll, hwk, d7, gq, gj, z1, z2, if_pos]
  · have d7 : u < v := by omega
    simp only [if_neg d6] at hpr2
    simp (disch := omega) only [ZF, ↓gd, frame0, stp, opPick, opBox, justO, just, Rd.bind, Rd.run, Rd.opt, upds, acells, tsz, rdCells, fieldOf, aFieldAddr, aLoad, resA, resL, fresh, aIndexAddr, aNum, aLen, aBuiltin, aBin, aInt, Nat.reduceAdd, Nat.reduceLT, Nat.reduceBEq, Nat.reduceEqDiff, Nat.reduceLeDiff, ↓reduceIte, reduceCtorEq, stpT, Rd.foot, writing, touching, Tr.empty, dynPairs, apartT, disj, window, aCall, snaps, aConv, aSlice, aBounds, bMax, bHigh, bLow, Int.reduceEq, ZT, x8_1, r8_0_l, s8_0_0, s8_0_1, s8_0_2, x8_3, r8_1_l, r8_1_dr, r8_1_an, s8_1_0, s8_1_1, s8_1_2, s8_1_3, s8_1_4, s8_1_5, x8_5, r8_2_l, s8_2_0, s8_2_1, s8_2_2, s8_2_3, s8_2_4, x8_7, r8_3_l, s8_3_0, x8_29, r8_12_l, s8_12_0, s8_12_1, s8_12_2, s8_12_3, s8_12_4, s8_12_5, x8_32, r8_13_l, s8_13_0, x8_33, x8_31, x8_34, x8_30, x8_28, x8_36, r8_14_l, s8_14_0, s8_14_1, s8_14_2, s8_14_3, s8_14_4, s8_14_5, x8_38, r8_15_l, s8_15_0, s8_15_1, s8_15_2, s8_15_3, s8_15_4, s8_15_5, s8_15_6, s8_15_7, s8_15_8, s8_15_9, x8_40, r8_16_l, s8_16_0, x8_43, r8_17_l, s8_17_0, s8_17_1, s8_17_2, s8_17_3, s8_17_4, s8_17_5, s8_17_6, x8_45, r8_18_l, r8_18_dr, r8_18_an, s8_18_0, s8_18_1, s8_18_2, s8_18_3, s8_18_4, s8_18_5, s8_18_6, s8_18_7, s8_18_8, x8_47, r8_19_l, s8_19_0, x8_48, x8_46, x8_44, x8_42, x8_50, r8_20_l, s8_20_0, s8_20_1, s8_20_2, s8_20_3, s8_20_4, s8_20_5, s8_20_6, s8_20_7, s8_20_8, s8_20_9, x8_51, x8_49, x8_41, x8_39, x8_37, x8_35, x8_27, x8_8, x8_6, x8_4, x8_2, x8_0, b_8, lz, lt, tz, tt, sp1, sp2, hm1, hm2, hq0, w1, w2, w3, w4, ht8 (), hj, hq, la, lb, lc, a1, b1, aq, cq, ta, ua, uc, hblk, hpr, hpr2, hro, hat, hll, hwk, d7, gq, gj, z1, z2, if_pos]
end Go.AM.Ytfmnoohhhokicaa
end

section
namespace Go.AM.Ytfmnoohhhokicaa
open Go Go.AM
set_option maxRecDepth 1000000
theorem works_runF : isTrue (kF 40 17 [] [] 0) = true := by kernel_rfl
theorem soundK (d : Nat) : CS Proofs.Try.prog E (kF d) := frC_ok (callF_sound envOk mixed fr fg 1000000 d)
theorem soundB : CS Proofs.Try.prog E (bodyA E (kF 40) fg 1000000) := body_ok envOk mixed fg 1000000 (soundK 40)
end Go.AM.Ytfmnoohhhokicaa
end

section
namespace Go.AM.Ytfmnoohhhokicaa
open Go Go.AM Go.RowKit Go.Proofs Go.Proofs.Ytfmnoohhhokicaa Go.ChangeShapes Go.WideShapes Go.ChangeAt Go.AM.Rub
set_option maxRecDepth 1000000
theorem laidOut : laidOutB Try.prog = true := by kernel_rfl
theorem readable_0 : Try.prog.readableRec 49 = true := by kernel_rfl
theorem types_lt_0 : 49 < Try.prog.types.size := of_decide_eq_true (by kernel_rfl)
theorem cellsOf_0 : Try.prog.cellsOf 49 = 8 := by kernel_rfl
theorem cellTypes_0 : Try.prog.cellTypes Try.prog.depth 49 = some (List.replicate 8 5) := by kernel_rfl
theorem readable_1 : Try.prog.readableRec 5 = true := by kernel_rfl
theorem types_lt_1 : 5 < Try.prog.types.size := of_decide_eq_true (by kernel_rfl)
theorem rubShown_walk {W : World} {zs0 : List Int} {v0 : Value} {zs1 : List Int} {v1 : Value} {x2 : Int} (h0 : zs0.length = 8 ∧ ∀ (i : Nat) (z : Int), zs0[i]? = some z → 0 ≤ z ∧ z ≤ 255) (r0 : (start (fun k => k < W.heap.size) W).R (.agg (zs0.map (AV.int .u8))) v0) (h1 : zs1.length = 8 ∧ ∀ (i : Nat) (z : Int), zs1[i]? = some z → 0 ≤ z ∧ z ≤ 255) (r1 : (start (fun k => k < W.heap.size) W).R (.agg (zs1.map (AV.int .u8))) v1) (h2 : 0 ≤ x2 ∧ x2 ≤ 255) :
    Calls Try.prog 8 #[v0, v1, .int .u8 x2] W fun e w' => e = .returned (.bool true) ∧ Below W.heap.size W w' := by
  obtain ⟨H0, hw⟩ := isTrue_ok works_runF
  obtain ⟨H1, hr⟩ := rs_ex (rubShown_law h0 h1 h2 ⟨H0, hw⟩)
  refine law_run soundB hr (fun k h => h) (vs := [v0, v1, .int .u8 x2]) ?_
  simp only [Gh.Rs, VRs]
  exact ⟨v0, _, rfl, r0, v1, _, rfl, r1, _, _, rfl, by simp only [VR], rfl⟩
theorem rubShown_lifted (os : Os) (started : os.Started) (H : Type) (enc : TypeId × Value → H) :
    ReturnsInHanded {} Try.checked os 8 .any (Rows.rubShownSpec.pre6 enc Try.prog Try.f8 Rows.rubShownRow.domain false)
      (Rows.rubShownSpec.post enc Try.prog Try.f8 false true false false) := by
  refine returnsInHanded_of_change own started (by kernel_rfl) Try.func8 (ChangeSpec.witness6 (enc := enc) (C := Try.checked) false ⟨#[], #[.agg (Array.replicate 8 (.int .u8 0)), .agg (Array.replicate 8 (.int .u8 0)), .int .u8 0], []⟩ 8 (by kernel_rfl) (by kernel_rfl) (by kernel_rfl) (by kernel_rfl)) ?_
  intro W base args ds gs before hval0 hW _ _
  have hW' := hW
  obtain ⟨p, q, hA0, hV, rfl, hfz, hnd⟩ := hW
  have hA : DataW.TrodAll enc Try.prog W 0 (fun _ => true) true Try.f8.params.toList args.toList ds p := hA0
  rw [Try.params8] at hA
  obtain ⟨w0, vs0, d0, ds0, p0, q0, ha, rfl, rfl, t0, hr0⟩ := trodAll_cons hA
  obtain ⟨w1, vs1, d1, ds1, p1, q1, rfl, rfl, rfl, t1, hr1⟩ := trodAll_cons hr0
  obtain ⟨w2, vs2, d2, ds2, p2, q2, rfl, rfl, rfl, t2, hr2⟩ := trodAll_cons hr1
  obtain ⟨rfl, rfl, rfl⟩ := trodAll_nil hr2
  obtain rfl : args = #[w0, w1, w2] := by cases args; simp_all
  obtain ⟨rfl, rfl⟩ := trodVars_none hV
  have hval : ∀ (j : Nat) t v, (#[49, 49, 5] : Array TypeId)[j]? = some t → (#[w0, w1, w2] : Array Value)[j]? = some v → Value.okWide Try.prog W .any base t v := by
    intro j t v; have := hval0 j t v; rw [Try.params8] at this; exact this
  obtain ⟨zs0, cs0, rfl, e0, l0, b0⟩ := hand_struct Try.underlying49 Try.underlying5 cellTypes_0 cellsOf_0 (by omega) (hval 0 49 w0 rfl rfl)
  have h0 : zs0.length = 8 ∧ ∀ (i : Nat) (z : Int), zs0[i]? = some z → 0 ≤ z ∧ z ≤ 255 := ⟨l0, b0⟩
  have r0 : (start (fun k => k < W.heap.size) W).R (.agg (zs0.map (AV.int .u8))) (.agg cs0) := vr_u8 _ e0
  obtain ⟨zs1, cs1, rfl, e1, l1, b1⟩ := hand_struct Try.underlying49 Try.underlying5 cellTypes_0 cellsOf_0 (by omega) (hval 1 49 w1 rfl rfl)
  have h1 : zs1.length = 8 ∧ ∀ (i : Nat) (z : Int), zs1[i]? = some z → 0 ≤ z ∧ z ≤ 255 := ⟨l1, b1⟩
  have r1 : (start (fun k => k < W.heap.size) W).R (.agg (zs1.map (AV.int .u8))) (.agg cs1) := vr_u8 _ e1
  obtain ⟨x2, rfl, h2⟩ := hand_u8 Try.underlying5 (hval 2 5 w2 rfl rfl)
  refine (rubShown_walk h0 r0 h1 r1 h2).mono fun e W' ⟨he, bel⟩ => ?_
  subst he
  exact ⟨_, rfl, _, _, _, [], _, [], hW', trodAll_mk1 (shut_bool Try.underlying4 _),
    trodAll_mk3 (bel.trod' laidOut readable_0 types_lt_0 t0) (bel.trod' laidOut readable_0 types_lt_0 t1) (bel.trod' laidOut readable_1 types_lt_1 t2), rfl, bel.frame _, fun h => by cases h⟩
theorem rubShown_holds : Rows.RubShownSaid :=
  OpenClaim.holds_of_wide 8 Try.f8 rfl rfl rfl rfl rfl rfl rfl ⟨rfl, rfl, rfl, rfl, rfl⟩ rfl rfl rfl rfl rfl (by kernel_rfl) Try.func8 (by kernel_rfl)
    (of_decide_eq_true (by kernel_rfl)) (by unfold Func.isWrapper; first | (rw [if_pos (by decide +kernel)]; kernel_rfl) | (rw [if_neg (by decide +kernel)]; exact ⟨rfl, rfl⟩))
    (fun os started H enc _ => rubShown_lifted os started H enc)
end Go.AM.Ytfmnoohhhokicaa
namespace Go.Proofs.Ytfmnoohhhokicaa
/-- RubShown: the law answers true for every input, and the input reads as it did. No condition. -/
theorem rubShown_holds : Rows.RubShownSaid := Go.AM.Ytfmnoohhhokicaa.rubShown_holds
end Go.Proofs.Ytfmnoohhhokicaa
end
#print axioms Go.Proofs.Ytfmnoohhhokicaa.rubShown_holds
