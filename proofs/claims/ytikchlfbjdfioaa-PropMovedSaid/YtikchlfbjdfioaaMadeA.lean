/- Moments by the law's own sums; totals. Own work of this project. -/
import Derived.Test.YtikchlfbjdfioaaPropG
import Derived.Test.YtikchlfbjdfioaaSyC
import Derived.Test.YtikchlfbjdfioaaAmBk
namespace Go.AM.Ytikchlfbjdfioaa
open Go Go.AM
set_option maxRecDepth 100000
set_option maxHeartbeats 4000000

/-- Four numbers of eight bits. -/
theorem cl0 : ((0 : Nat) : Int) = 0 := rfl
theorem cl1 : ((1 : Nat) : Int) = 1 := rfl
theorem cl2 : ((2 : Nat) : Int) = 2 := rfl
theorem cl3 : ((3 : Nat) : Int) = 3 := rfl
theorem cl4 : ((4 : Nat) : Int) = 4 := rfl
theorem cl5 : ((5 : Nat) : Int) = 5 := rfl
/-- .. -/
structure Q where
  a : Int
  b : Int
  c : Int
  d : Int
deriving Inhabited
structure QOk (q : Q) : Prop where
  a : 0 ≤ q.a ∧ q.a ≤ 255
  b : 0 ≤ q.b ∧ q.b ≤ 255
  c : 0 ≤ q.c ∧ q.c ≤ 255
  d : 0 ≤ q.d ∧ q.d ≤ 255
def qc (q : Q) : List AV := [.int .u8 q.a, .int .u8 q.b, .int .u8 q.c, .int .u8 q.d]
def qcells : List Q → List AV
  | [] => []
  | q :: l => qc q ++ qcells l
def hcells (m : Int) (qs : List Q) : List AV := .int .u8 m :: qcells qs
theorem qcells_length : ∀ (l : List Q), (qcells l).length = l.length * 4
  | [] => rfl
  | s :: l => by simp [qcells, qc, qcells_length l]; omega
theorem hcells_length {m : Int} {qs : List Q} (h : qs.length = 5) : (hcells m qs).length = 21 := by
  simp [hcells, qcells_length, h]
theorem qcells_at : ∀ (l : List Q) (k : Nat) (s : Q), l[k]? = some s → ((qcells l).drop (k * 4)).take 4 = qc s
  | [], k, s, h => by simp at h
  | a :: l, 0, s, h => by simp at h; subst h; simp [qcells, qc]
  | a :: l, k + 1, s, h => by
    simp at h
    have := qcells_at l k s h
    have e : (k + 1) * 4 = k * 4 + 4 := by omega
    rw [e, qcells, show k * 4 + 4 = 4 + k * 4 by omega, ← List.drop_drop]
    simpa [qc] using this
theorem hcells_at {m : Int} {qs : List Q} {k : Nat} {q : Q} (h : qs[k]? = some q) : ((hcells m qs).drop (1 + k * 4)).take 4 = [.int .u8 q.a, .int .u8 q.b, .int .u8 q.c, .int .u8 q.d] := by
  have := qcells_at qs k q h
  rw [hcells, show 1 + k * 4 = k * 4 + 1 by omega, List.drop_succ_cons]
  exact this

def mk (e : Int) (q : Q) : Stone := ⟨1 + q.a.tmod 12, e + 1 - q.b.tmod 15, 1 + q.c.tmod 9, 1 + q.c.tmod 9 + q.d.tmod (10 - (1 + q.c.tmod 9))⟩
def edgeN (qs : List Q) : Nat → Int
  | 0 => 0
  | i + 1 => (mk (edgeN qs i) (qs.getD i default)).pos + (mk (edgeN qs i) (qs.getD i default)).half
def stN (qs : List Q) (i : Nat) : Stone := mk (edgeN qs i) (qs.getD i default)
def nOf (m : Int) : Nat := (1 + m.tmod 5).toNat
def madeI (qs : List Q) (i : Nat) : List Stone := (List.range i).map (stN qs)
def madeL (m : Int) (qs : List Q) : List Stone := madeI qs (nOf m)
theorem madeI_length (qs : List Q) (i : Nat) : (madeI qs i).length = i := by simp [madeI]
theorem madeI_succ (qs : List Q) (i : Nat) : madeI qs (i + 1) = madeI qs i ++ [stN qs i] := by simp [madeI, List.range_succ]
theorem tmod_b {x : Int} (h : 0 ≤ x) (k : Int) (hk : 0 < k) : 0 ≤ x.tmod k ∧ x.tmod k ≤ k - 1 := by
  rw [Int.tmod_eq_emod_of_nonneg h]
  exact ⟨Int.emod_nonneg _ (by omega), by have := Int.emod_lt_of_pos x hk; omega⟩
structure Mk (e : Int) (s : Stone) : Prop where
  h1 : 1 ≤ s.half
  h2 : s.half ≤ 12
  p1 : e - 13 ≤ s.pos
  p2 : s.pos ≤ e + 1
  l1 : 1 ≤ s.least
  l2 : s.least ≤ 9
  lm : s.least ≤ s.most
  m9 : s.most ≤ 9
theorem mk_ok {e : Int} {q : Q} (h : QOk q) : Mk e (mk e q) := by
  obtain ⟨a1, a2⟩ := tmod_b h.a.1 12 (by omega)
  obtain ⟨b1, b2⟩ := tmod_b h.b.1 15 (by omega)
  obtain ⟨c1, c2⟩ := tmod_b h.c.1 9 (by omega)
  obtain ⟨d1, d2⟩ := tmod_b h.d.1 (10 - (1 + q.c.tmod 9)) (by omega)
  constructor <;> simp only [mk] <;> omega
structure HOk (m : Int) (qs : List Q) : Prop where
  m : 0 ≤ m ∧ m ≤ 255
  l : qs.length = 5
  q : ∀ (i : Nat) (q : Q), qs[i]? = some q → QOk q
theorem edge_b {m : Int} {qs : List Q} (h : HOk m qs) : ∀ i : Nat, i ≤ 5 → -(13 * (i : Int)) ≤ edgeN qs i ∧ edgeN qs i ≤ 13 * i
  | 0, _ => by simp [edgeN]
  | i + 1, hi => by
    obtain ⟨q, hq⟩ := at_ex (l := qs) (k := i) (by have := h.l; omega)
    have e : qs.getD i default = q := by simp [hq]
    have := edge_b h i (by omega)
    obtain ⟨h1, h2, p1, p2, _, _, _, _⟩ := mk_ok (e := edgeN qs i) (h.q i q hq)
    simp only [edgeN, e]
    omega
theorem nOf_b {m : Int} {qs : List Q} (h : HOk m qs) : 1 ≤ nOf m ∧ nOf m ≤ 5 ∧ (1 + m.tmod 5) = (nOf m : Int) := by
  obtain ⟨a, b⟩ := tmod_b h.m.1 5 (by omega)
  unfold nOf
  omega
theorem made_okP {m : Int} {qs : List Q} (h : HOk m qs) : OkP (madeL m qs) := by
  obtain ⟨n1, n2, _⟩ := nOf_b h
  refine ⟨by rw [madeL, madeI_length]; exact n1, by rw [madeL, madeI_length]; exact n2, fun k s hs => ?_⟩
  have hk := at_lt hs
  rw [madeL, madeI_length] at hk
  simp only [madeL, madeI, List.getElem?_map, List.getElem?_range hk, Option.map_some, Option.some.injEq] at hs
  obtain ⟨q, hq⟩ := at_ex (l := qs) (k := k) (by have := h.l; omega)
  have e : qs.getD k default = q := by simp [hq]
  obtain ⟨h1, h2, p1, p2, l1, l2, lm, m9⟩ := mk_ok (e := edgeN qs k) (h.q k q hq)
  have := edge_b h k (by omega)
  rw [← hs, stN, e]
  exact ⟨h1, by omega, by omega, by omega, l1, lm, m9⟩

/-! A pile that is being built. -/
theorem room44 {n : Nat} (h : n ≤ 1000000) : roomOk E.T 44 n = true := by
  simp only [roomOk, T_44, decide_eq_true_eq]; exact ⟨by decide, rfl, by omega⟩
def poutV (id : Nat) : List Stone → AV
  | [] => .nilsl
  | s :: l => .ref id 0 (l.length + 1) (l.length + 1) ((l.length + 1) * 4) 4 false
def poutH (id : Nat) : List Stone → AHeap
  | [] => []
  | s :: l => [(id, ⟨.row, pcells (s :: l)⟩)]
theorem pcells_snoc : ∀ (l : List Stone) (s : Stone), pcells l ++ sc s = pcells (l ++ [s])
  | [], s => by simp [pcells]
  | a :: l, s => by simp only [pcells, List.append_assoc, List.cons_append]; rw [pcells_snoc l s]
theorem poutV_ne {id : Nat} {l : List Stone} (h : 0 < l.length) : poutV id l = .ref id 0 l.length l.length (l.length * 4) 4 false ∧ poutH id l = [(id, ⟨.row, pcells l⟩)] := by
  cases l with
  | nil => simp at h
  | cons a o => exact ⟨rfl, rfl⟩

theorem made_round {C : Callee} {m : Int} {qs : List Q} (h : HOk m qs) (n i : Nat) (hn : n ≤ 5) (hi : i < n) (out : List Stone) (ho : out.length = i) :
    ∃ s', execA E C (fg 7) 0 63 [] 1000 c7_11 ([(19, .int .i64 i), (18, .int .i64 n), (17, .ref 2 1 n 5 21 4 true), (6, .int .i64 (edgeN qs i)), (5, poutV 55 out)], (2, ⟨.box, hcells m qs⟩) :: poutH 55 out) = some (.normal, s') ∧
      headA [] s' = ([(19, .int .i64 (i + 1 : Nat)), (18, .int .i64 n), (17, .ref 2 1 n 5 21 4 true), (6, .int .i64 (edgeN qs (i + 1))), (5, poutV 55 (out ++ [stN qs i]))], (2, ⟨.box, hcells m qs⟩) :: poutH 55 (out ++ [stN qs i])) := by
  obtain ⟨q, hq⟩ := at_ex (l := qs) (k := i) (by have := h.l; omega)
  have eq : qs.getD i default = q := by simp [hq]
  have hqo := h.q i q hq
  obtain ⟨a1, a2⟩ := tmod_b hqo.a.1 12 (by omega)
  obtain ⟨b1, b2⟩ := tmod_b hqo.b.1 15 (by omega)
  obtain ⟨c1, c2⟩ := tmod_b hqo.c.1 9 (by omega)
  obtain ⟨d1, d2⟩ := tmod_b hqo.d.1 (10 - (1 + q.c.tmod 9)) (by omega)
  obtain ⟨e1, e2⟩ := edge_b h i (by omega)
  have w1 : wrp .i64 q.a = q.a := wrp64 (by have := hqo.a; omega)
  have w2 : wrp .i64 q.b = q.b := wrp64 (by have := hqo.b; omega)
  have w3 : wrp .i64 q.c = q.c := wrp64 (by have := hqo.c; omega)
  have w4 : wrp .i64 q.d = q.d := wrp64 (by have := hqo.d; omega)
  have w5 : wrp .i64 (1 + q.a.tmod 12) = 1 + q.a.tmod 12 := wrp64 (by omega)
  have w6 : wrp .i64 (edgeN qs i + 1) = edgeN qs i + 1 := wrp64 (by omega)
  have w7 : wrp .i64 (edgeN qs i + 1 - q.b.tmod 15) = edgeN qs i + 1 - q.b.tmod 15 := wrp64 (by omega)
  have w8 : wrp .i64 (1 + q.c.tmod 9) = 1 + q.c.tmod 9 := wrp64 (by omega)
  have w9 : wrp .i64 (10 - (1 + q.c.tmod 9)) = 10 - (1 + q.c.tmod 9) := wrp64 (by omega)
  have w10 : wrp .i64 (1 + q.c.tmod 9 + q.d.tmod (10 - (1 + q.c.tmod 9))) = 1 + q.c.tmod 9 + q.d.tmod (10 - (1 + q.c.tmod 9)) := wrp64 (by omega)
  have w11 : wrp .i64 (edgeN qs i + 1 - q.b.tmod 15 + (1 + q.a.tmod 12)) = edgeN qs i + 1 - q.b.tmod 15 + (1 + q.a.tmod 12) := wrp64 (by omega)
  have n1 : ¬ (10 - (1 + q.c.tmod 9) = 0) := by omega
  have hlen := hcells_length (m := m) h.l
  have hat := hcells_at (m := m) hq
  have hoff : 1 + i * 4 + 4 ≤ 21 := by omega
  have hst : stN qs i = ⟨1 + q.a.tmod 12, edgeN qs i + 1 - q.b.tmod 15, 1 + q.c.tmod 9, 1 + q.c.tmod 9 + q.d.tmod (10 - (1 + q.c.tmod 9))⟩ := by rw [stN, eq]; rfl
  have hed : edgeN qs (i + 1) = edgeN qs i + 1 - q.b.tmod 15 + (1 + q.a.tmod 12) := by simp only [edgeN, eq]; rfl
  have hin : (i : Int) < n := by omega
  rw [hst, hed]
  cases out with
  | nil =>
    simp only [poutV, poutH, List.nil_append]
    simp only [seqX_normal, bindR_some, regX_some, condX_bool, blockX_normal, Bool.not_true, Bool.not_false, run_nil, run_cons, fget_cons', fput_cons', forget_nil, forget_cons', hget_nil', hget_cons', hset_nil', hset_cons', gcM, stp, opBox, justO, just, Rd.bind, Rd.run, Rd.opt, upds, acells, zeroCells, tsz, elemT, rdCells, fieldOf, aFieldAddr, aLoad, aStore, opStore, fresh, aIndexAddr, aNum, aBuiltin, aBin, aInt, putC, evO, Nat.reduceAdd, Nat.reduceMul, Nat.reduceLT, Nat.reduceGT, Nat.reduceBEq, Nat.reduceEqDiff, Nat.reduceLeDiff, ↓reduceIte, reduceCtorEq, liveBlk_eq, Nat.zero_add, Nat.add_zero, ne_eq, List.nil_append, List.getElem?_toArray, rtX_some, addT_some, drX_some, runT_nil, runT_cons, neat_eq, descF_nil', descF_cons', ascH_nil', ascH_cons', stpT, Rd.foot, writing, touching, Tr.empty, dynPairs, apartT, disj, List.isEmpty_nil, List.isEmpty_cons, List.map_nil, List.map_cons, Bool.not_false, Bool.not_true, Bool.true_or, Bool.or_true, Bool.or_false, Bool.and_true, Bool.true_and, Bool.and_self, decide_true, not_true_eq_false, or_self, aBuildSlice, partsOf, fillA, repC, frz, isSliceT, aAppend, srcOf, window, putD_some, putD_none, and_true, Int.natCast_nonneg, Int.ofNat_lt, Int.toNat_natCast, snaps, snap, List.append_nil, Option.map_some, List.elem_cons, List.elem_nil, List.length_cons, List.length_nil, List.getElem?_cons_zero, List.getElem?_cons_succ, List.drop_zero, List.take_succ_cons, List.take_nil, List.set_cons_zero, List.set_cons_succ, T_3, T_27, T_44, T_5, T_22, T_64, x7_12, r7_4_l, s7_4_0, x7_15, x7_16, x7_14, x7_20, r7_5_l, s7_5_0, s7_5_1, s7_5_2, s7_5_3, x7_22, r7_6_l, s7_6_0, s7_6_1, s7_6_2, s7_6_3, s7_6_4, s7_6_5, s7_6_6, s7_6_7, s7_6_8, s7_6_9, s7_6_10, s7_6_11, s7_6_12, s7_6_13, s7_6_14, s7_6_15, s7_6_16, s7_6_17, s7_6_18, s7_6_19, x7_24, r7_7_l, r7_7_dr, r7_7_an, s7_7_0, s7_7_1, s7_7_2, s7_7_3, s7_7_4, s7_7_5, s7_7_6, s7_7_7, s7_7_8, s7_7_9, s7_7_10, s7_7_11, x7_26, r7_8_l, s7_8_0, s7_8_1, s7_8_2, s7_8_3, s7_8_4, x7_27, r7_9_l, s7_9_0, s7_9_1, s7_9_2, s7_9_3, s7_9_4, s7_9_5, x7_25, x7_23, x7_21, x7_19, x7_18, x7_28, r7_10_l, s7_10_0, s7_10_1, x7_17, x7_13, x7_11, hi, hlen, hat, hoff, w1, w2, w3, w4, w5, w6, w7, w8, w9, w10, w11, n1, aConv, aBuild, placeF, fillA, List.all_cons, List.all_nil, List.getD_cons_zero, List.getD_cons_succ, beq_self_eq_true, Int.reduceLE, Int.reduceLT, Int.reduceToNat, cl4, Int.le_refl, Int.reduceEq, wrp_succ (show i < 1000000 by omega), room44 (show 1 ≤ 1000000 by omega)]
    refine ⟨_, rfl, ?_⟩
    obtain ⟨_, hl, _⟩ := h
    match qs, hl with
    | [_, _, _, _, _], _ => rfl
  | cons a o =>
    have hlen2 : (pcells (a :: o)).length = (o.length + 1) * 4 := by rw [pcells_length]; rfl
    have htake : List.take ((o.length + 1) * 4) (pcells (a :: o)) = pcells (a :: o) := List.take_of_length_le (by omega)
    have hno : ¬ o.length + 1 + 1 ≤ o.length + 1 := by omega
    have ho2 : o.length + 1 = i := by simpa using ho
    have hsn := pcells_snoc (a :: o) ⟨1 + q.a.tmod 12, edgeN qs i + 1 - q.b.tmod 15, 1 + q.c.tmod 9, 1 + q.c.tmod 9 + q.d.tmod (10 - (1 + q.c.tmod 9))⟩
    simp only [sc] at hsn
    have hl2 : ∀ s : Stone, (o ++ [s]).length = o.length + 1 := fun s => by simp
    simp only [poutV, poutH, List.cons_append, hl2]
    simp only [seqX_normal, bindR_some, regX_some, condX_bool, blockX_normal, Bool.not_true, Bool.not_false, run_nil, run_cons, fget_cons', fput_cons', forget_nil, forget_cons', hget_nil', hget_cons', hset_cons', gcM, stp, opBox, justO, just, Rd.bind, Rd.run, Rd.opt, upds, acells, zeroCells, tsz, elemT, rdCells, fieldOf, aFieldAddr, aLoad, aStore, opStore, fresh, aIndexAddr, aNum, aBuiltin, aBin, aInt, putC, evO, Nat.reduceAdd, Nat.reduceMul, Nat.reduceLT, Nat.reduceGT, Nat.reduceBEq, Nat.reduceEqDiff, Nat.reduceLeDiff, ↓reduceIte, reduceCtorEq, liveBlk_eq, Nat.zero_add, Nat.add_zero, ne_eq, List.nil_append, List.getElem?_toArray, rtX_some, addT_some, drX_some, runT_nil, runT_cons, neat_eq, descF_nil', descF_cons', ascH_nil', ascH_cons', stpT, Rd.foot, writing, touching, Tr.empty, dynPairs, apartT, disj, List.isEmpty_nil, List.isEmpty_cons, List.map_nil, List.map_cons, Bool.not_false, Bool.not_true, Bool.true_or, Bool.or_true, Bool.or_false, Bool.and_true, Bool.true_and, Bool.and_self, decide_true, not_true_eq_false, or_self, aBuildSlice, partsOf, fillA, repC, frz, isSliceT, aAppend, srcOf, window, putD_some, putD_none, and_true, Int.natCast_nonneg, Int.ofNat_lt, Int.toNat_natCast, snaps, snap, List.append_nil, Option.map_some, List.elem_cons, List.elem_nil, List.length_cons, List.length_nil, List.getElem?_cons_zero, List.getElem?_cons_succ, List.drop_zero, List.take_succ_cons, List.take_nil, List.set_cons_zero, List.set_cons_succ, T_3, T_27, T_44, T_5, T_22, T_64, x7_12, r7_4_l, s7_4_0, x7_15, x7_16, x7_14, x7_20, r7_5_l, s7_5_0, s7_5_1, s7_5_2, s7_5_3, x7_22, r7_6_l, s7_6_0, s7_6_1, s7_6_2, s7_6_3, s7_6_4, s7_6_5, s7_6_6, s7_6_7, s7_6_8, s7_6_9, s7_6_10, s7_6_11, s7_6_12, s7_6_13, s7_6_14, s7_6_15, s7_6_16, s7_6_17, s7_6_18, s7_6_19, x7_24, r7_7_l, r7_7_dr, r7_7_an, s7_7_0, s7_7_1, s7_7_2, s7_7_3, s7_7_4, s7_7_5, s7_7_6, s7_7_7, s7_7_8, s7_7_9, s7_7_10, s7_7_11, x7_26, r7_8_l, s7_8_0, s7_8_1, s7_8_2, s7_8_3, s7_8_4, x7_27, r7_9_l, s7_9_0, s7_9_1, s7_9_2, s7_9_3, s7_9_4, s7_9_5, x7_25, x7_23, x7_21, x7_19, x7_18, x7_28, r7_10_l, s7_10_0, s7_10_1, x7_17, x7_13, x7_11, hi, hlen, hat, hoff, w1, w2, w3, w4, w5, w6, w7, w8, w9, w10, w11, n1, aConv, aBuild, placeF, fillA, List.all_cons, List.all_nil, List.getD_cons_zero, List.getD_cons_succ, beq_self_eq_true, Int.reduceLE, Int.reduceLT, Int.reduceToNat, cl4, Int.le_refl, Int.reduceEq, wrp_succ (show i < 1000000 by omega), room44 (show o.length + 1 + 1 ≤ 1000000 by omega), hlen2, hno, htake, hsn, Nat.le_refl, List.cons_append]
    refine ⟨_, rfl, ?_⟩
    obtain ⟨_, hl, _⟩ := h
    match qs, hl with
    | [_, _, _, _, _], _ => rfl

theorem made_run {C : Callee} {m : Int} {qs : List Q} (h : HOk m qs) : bodyA E C fg 1000 7 [.agg (hcells m qs), .int .i64 5] [] 0 = some (poutV 55 (madeL m qs), (2, ⟨.box, hcells m qs⟩) :: poutH 55 (madeL m qs)) := by
  obtain ⟨n1, n2, n3⟩ := nOf_b h
  have hloop := iter_all (f := execA E C (fg 7) 0 63 [] 1000 c7_11) (hd := headA []) (fun i => ([(19, .int .i64 i), (18, .int .i64 (nOf m)), (17, .ref 2 1 (nOf m) 5 21 4 true), (6, .int .i64 (edgeN qs i)), (5, poutV 55 (madeI qs i))], (2, ⟨.box, hcells m qs⟩) :: poutH 55 (madeI qs i))) (nOf m) 1000 0
    ([(19, .int .i64 0), (18, .int .i64 (nOf m)), (17, .ref 2 1 (nOf m) 5 21 4 true), (6, .int .i64 0), (5, .nilsl)], [(2, ⟨.box, hcells m qs⟩)]) (by
      obtain ⟨_, hl, _⟩ := h
      match qs, hl with
      | [_, _, _, _, _], _ => rfl) (by omega) (fun i h1 h2 => by
      have := made_round (C := C) h (nOf m) i n2 (by omega) (madeI qs i) (madeI_length qs i)
      rw [madeI_succ]
      exact this) (e := .exit 0) (se := ([(20, .bool false), (19, .int .i64 (nOf m)), (18, .int .i64 (nOf m)), (17, .ref 2 1 (nOf m) 5 21 4 true), (6, .int .i64 (edgeN qs (nOf m))), (5, poutV 55 (madeL m qs))], (2, ⟨.box, hcells m qs⟩) :: poutH 55 (madeL m qs))) (by
      rw [Nat.zero_add]
      have e : madeI qs (nOf m) = madeL m qs := rfl
      simp only [e]
      simp only [seqX_normal, seqX_exit, bindR_some, regX_some, condX_bool, run_nil, run_cons, fget_cons', fput_cons', forget_nil, forget_cons', gcM, stp, just, Rd.bind, Rd.run, Rd.opt, upds, aBin, aInt, Nat.reduceEqDiff, Nat.reduceLeDiff, ↓reduceIte, decide_false, putD_some, List.elem_nil, x7_12, r7_4_l, s7_4_0, x7_15, x7_16, x7_14, x7_13, x7_11, Int.lt_irrefl, decide_false, Bool.false_eq_true]) (by simp)
  have hlen := hcells_length (m := m) h.l
  have w1 : wrp .i64 m = m := wrp64 (by have := h.m; omega)
  have w2 : wrp .i64 (1 + m.tmod 5) = (nOf m : Int) := by rw [n3]; exact wrp64 (by omega)
  have hc : (hcells m qs)[0]? = some (.int .u8 m) := rfl
  have hn5 : (nOf m : Int) ≤ 5 := by omega
  simp only [seqX_normal, bindR_some, regX_some, blockX_exit, bodyX_ret, run_nil, run_cons, fget_cons', fput_nil, fput_cons', forget_nil, forget_cons', hget_nil', hget_cons', hset_nil', frame0, gcM, stp, opBox, justO, just, Rd.bind, Rd.run, Rd.opt, upds, acells, tsz, rdCells, fieldOf, aFieldAddr, aLoad, resA, resL, fresh, aNum, aLen, aBuiltin, aBin, aInt, Nat.reduceAdd, Nat.reduceMul, Nat.reduceLT, Nat.reduceBEq, Nat.reduceEqDiff, Nat.reduceLeDiff, ↓reduceIte, reduceCtorEq, liveBlk_eq, Nat.zero_add, Nat.add_zero, List.getElem?_toArray, putD_some, and_true, Int.natCast_nonneg, Int.toNat_natCast, Option.map_some, List.elem_cons, List.elem_nil, List.getElem?_cons_zero, List.getElem?_cons_succ, T_3, T_5, T_22, T_23, T_25, T_64, x7_1, r7_0_l, s7_0_0, s7_0_1, x7_3, r7_1_l, s7_1_0, x7_5, r7_2_l, s7_2_0, x7_8, r7_3_l, s7_3_0, s7_3_1, s7_3_2, s7_3_3, s7_3_4, s7_3_5, s7_3_6, s7_3_7, s7_3_8, s7_3_9, x7_10, x7_9, x7_7, x7_30, r7_11_l, s7_11_0, s7_11_1, x7_31, x7_29, x7_6, x7_4, x7_2, x7_0, b_7, hlen, w1, w2, hc, hn5, aConv, aSlice, aBounds, bMax, bHigh, bLow, cl5, Int.reduceEq, Option.getD_none, Nat.zero_mul, Nat.sub_zero, Nat.reduceMul, hloop]
theorem made_call {d : Nat} {site : Nat → Nat} {seen : List Nat} {m : Int} {qs : List Q} (h : HOk m qs) :
    aBack site true seen (thaw (callA E fg 1000 (d + 1)) 7 [.agg (hcells m qs), .int .i64 5] [] 0) = back1 (site 0) seen (fun k => .ref k 0 (nOf m) (nOf m) (nOf m * 4) 4 false) ⟨.row, pcells (madeL m qs)⟩ := by
  obtain ⟨n1, n2, n3⟩ := nOf_b h
  have hl : (madeL m qs).length = nOf m := madeI_length _ _
  obtain ⟨e1, e2⟩ := poutV_ne (id := 55) (l := madeL m qs) (by omega)
  have e := made_run (C := callA E fg 1000 d) h
  rw [e1, e2, hl] at e
  have := aBack_ref (site := site) (seen := seen) (n := nOf m) (sz := 4) (id := 55) (cells := pcells (madeL m qs)) (H' := [(2, ⟨.box, hcells m qs⟩), (55, ⟨.row, pcells (madeL m qs)⟩)]) (C := callA E fg 1000 (d + 1)) (f := 7) (args := [.agg (hcells m qs), .int .i64 5]) (by rw [pcells_length, hl]; exact e) (by rw [hget_cons', hget_cons']; simp)
  rw [pcells_length, hl] at this
  exact this
end Go.AM.Ytikchlfbjdfioaa
namespace Go.AM.Ytikchlfbjdfioaa
open Go Go.AM
set_option maxRecDepth 100000
set_option maxHeartbeats 4000000

theorem weigh_at : ∀ {l : List Stone} {ws : List Int}, weighL l ws = 0 → ∀ {i : Nat} {s : Stone} {w : Int}, l[i]? = some s → ws[i]? = some w → s.least ≤ w ∧ w ≤ s.most
  | [], _, _, i, s, w, h, _ => by simp at h
  | _ :: _, [], _, i, s, w, _, h => by simp at h
  | a :: l, b :: ws, h, i, s, w, h1, h2 => by
    simp only [weighL] at h
    split at h
    · simp at h
    · split at h
      · simp at h
      · cases i with
        | zero => simp at h1 h2; subst h1; subst h2; omega
        | succ i => exact weigh_at h (by simpa using h1) (by simpa using h2)
theorem weighE_at {l : List Stone} {ws : List Int} (hw : weighE l ws = 0) {i : Nat} {s : Stone} {w : Int} (h1 : l[i]? = some s) (h2 : ws[i]? = some w) : s.least ≤ w ∧ w ≤ s.most := by
  unfold weighE at hw
  split at hw
  · exact weigh_at hw h1 h2
  · simp at hw

def leftM (l : List Stone) (ws : List Int) : Nat → Int
  | 0 => 0
  | k + 1 => momSum l ws (k + 1) (-1)
theorem sumF_step (F : Nat → Int) (k i : Nat) (h : k ≤ i) : sumF F k (i + 1 - k) = sumF F k (i - k) + F i := by
  rw [show i + 1 - k = (i - k) + 1 by omega]; simp only [sumF, show k + (i - k) = i by omega]

theorem moments_zero {C : Callee} {l : List Stone} {ws : List Int} {ex ex' : Bool} (h : OkP l) (hw : weighE l ws = 0) :
    rsOf (bodyA E C fg 1000 13 [.imm (pcells l) l.length ex, .imm (icells ws) ws.length ex', .int .i64 (0 : Nat)] [] 0) = some (.tup [.int .i64 (momSum l ws 0 1), .int .i64 0]) := by
  have hlen := weigh_len hw
  have hle := h.le
  have hb := fun i (h1 : 0 ≤ i) (h2 : i < l.length) => momTerm_bound h hw (Nat.zero_le l.length) 1 (i := i) h2
  have hloop := iter_all (f := execA E C (fg 13) 0 74 [] 1000 c13_7) (hd := headA []) (fun i => ([(8, .int .i64 i), (7, .int .i64 0), (6, .int .i64 (sumF (momTerm l ws 0 1) 0 (i - 0))), (2, .int .i64 (0 : Nat)), (1, .imm (icells ws) ws.length ex'), (0, .imm (pcells l) l.length ex)], [])) l.length 1000 0
    ([(8, .int .i64 (0 : Nat)), (7, .int .i64 0), (6, .int .i64 0), (2, .int .i64 (0 : Nat)), (1, .imm (icells ws) ws.length ex'), (0, .imm (pcells l) l.length ex)], []) (by simp [headA_nil, sumF]) (by omega) (fun i h1 h2 => by
      have hil : i < l.length := by omega
      have hiw : i < ws.length := by omega
      obtain ⟨s, hs⟩ := at_ex hil
      obtain ⟨w, hws⟩ := at_ex hiw
      have hm : momTerm l ws 0 1 i = w * s.pos := by simp [momTerm, hs, hws, far, rightE]
      have f1 := pcells_field l i s 1 hs (by omega)
      simp only [sc, List.getElem?_cons_succ, List.getElem?_cons_zero] at f1
      obtain ⟨b1, b2⟩ := sumF_bound (M := 2717908992) (by omega) hb (i - 0) (by omega)
      obtain ⟨b3, b4⟩ := hb i (by omega) hil
      have hst := sumF_step (momTerm l ws 0 1) 0 i (by omega)
      rw [hm] at hst b3 b4
      have w1 : wrp .i64 (w * s.pos) = w * s.pos := wrp64 (by omega)
      have w2 : wrp .i64 (sumF (momTerm l ws 0 1) 0 (i - 0) + w * s.pos) = sumF (momTerm l ws 0 1) 0 (i + 1 - 0) := by rw [hst]; exact wrp64 (by omega)
      simp only [seqX_normal, seqX_exit, bindR_some, regX_some, condX_bool, blockX_exit, Bool.not_true, Bool.not_false, run_nil, run_cons, fget_cons', fput_cons', forget_nil, forget_cons', gcM, stp, just, Rd.bind, Rd.run, Rd.opt, upds, tsz, rdCells, fieldOf, aFieldAddr, aLoad, aIndexAddr, aNum, aLen, aBuiltin, aBin, aInt, Nat.reduceAdd, Nat.reduceLT, Nat.reduceBEq, Nat.reduceEqDiff, Nat.reduceLeDiff, ↓reduceIte, reduceCtorEq, Nat.zero_add, beq_iff_eq, List.getElem?_toArray, rtX_some, addT_some, drX_some, runT_nil, runT_cons, neat_eq, descF_nil', descF_cons', ascH_nil', stpT, Rd.foot, writing, touching, Tr.empty, dynPairs, List.isEmpty_nil, List.map_nil, Bool.not_false, Bool.not_true, Bool.or_true, Bool.or_false, Bool.and_self, decide_true, putD_some, and_true, Int.natCast_nonneg, Int.ofNat_lt, Int.toNat_natCast, List.elem_cons, List.elem_nil, List.getElem?_cons_zero, List.getElem?_cons_succ, T_3, T_27, T_36, T_44, x13_9, r13_2_l, s13_2_0, s13_2_1, s13_2_2, s13_2_3, x13_11, x13_12, x13_10, x13_8, x13_17, r13_4_l, s13_4_0, s13_4_1, x13_20, r13_5_l, r13_5_dr, r13_5_an, s13_5_0, s13_5_1, s13_5_2, s13_5_3, s13_5_4, s13_5_5, s13_5_6, s13_5_7, s13_5_8, s13_5_9, s13_5_10, s13_5_11, s13_5_12, x13_21, x13_19, x13_22, x13_18, x13_16, x13_15, x13_14, x13_28, r13_3_l, s13_3_0, s13_3_1, s13_3_2, x13_13, x13_7, hil, hiw, icells_length, icells_at hws, pcells_length, Nat.mul_one, f1, w1, w2, wrp_succ (show i < 1000000 by omega), cl0]
      exact ⟨_, rfl, by simp only [headA_nil]⟩) (e := .exit 0) (se := ([(14, .bool false), (8, .int .i64 l.length), (7, .int .i64 0), (6, .int .i64 (momSum l ws 0 1)), (2, .int .i64 (0 : Nat)), (1, .imm (icells ws) ws.length ex'), (0, .imm (pcells l) l.length ex)], [])) (by
      rw [show 0 + l.length = l.length by omega]
      simp only [seqX_normal, seqX_exit, bindR_some, regX_some, condX_bool, run_nil, run_cons, fget_cons', fput_cons', forget_nil, forget_cons', gcM, stp, just, Rd.bind, Rd.run, Rd.opt, upds, aLen, aBuiltin, aBin, aInt, Nat.reduceBEq, Nat.reduceEqDiff, Nat.reduceLeDiff, ↓reduceIte, reduceCtorEq, List.getElem?_toArray, decide_false, putD_some, List.elem_cons, List.elem_nil, List.getElem?_cons_zero, T_27, x13_9, r13_2_l, s13_2_0, s13_2_1, s13_2_2, s13_2_3, x13_11, x13_12, x13_10, x13_8, x13_7, Int.lt_irrefl, decide_false, Bool.false_eq_true, momSum]) (by simp)
  simp only [cl0] at hloop
  simp only [seqX_normal, bindR_some, regX_some, blockX_exit, bodyX_ret, run_nil, run_cons, fget_cons', fput_cons', forget_nil, forget_cons', frame0, gcM, resA, resL, Nat.reduceAdd, Nat.reduceBEq, Nat.reduceEqDiff, Nat.reduceLeDiff, ↓reduceIte, reduceCtorEq, Nat.zero_add, Option.map_some, List.elem_cons, List.elem_nil, x13_1, r13_0_l, s13_0_0, s13_0_1, x13_4, r13_1_l, s13_1_0, s13_1_1, x13_6, x13_5, x13_3, x13_30, r13_9_l, s13_9_0, s13_9_1, s13_9_2, s13_9_3, x13_31, x13_29, x13_2, x13_0, b_13, cl0, hloop]

theorem moments_succ {C : Callee} {l : List Stone} {ws : List Int} {ex ex' : Bool} (h : OkP l) (hw : weighE l ws = 0) {k : Nat} (hk : k + 1 < l.length) :
    rsOf (bodyA E C fg 1000 13 [.imm (pcells l) l.length ex, .imm (icells ws) ws.length ex', .int .i64 (k + 1 : Nat)] [] 0) = some (.tup [.int .i64 (momSum l ws (k + 1) 1), .int .i64 (momSum l ws (k + 1) (-1))]) := by
  have hlen := weigh_len hw
  have hle := h.le
  have hkl : k < l.length := by omega
  obtain ⟨t, ht⟩ := at_ex hkl
  have hft := h.fits k t ht
  have hb := fun side i (h1 : k + 1 ≤ i) (h2 : i < l.length) => momTerm_bound h hw (Nat.le_of_lt hk) side (i := i) h2
  have e1 : wrp .i64 (((k + 1 : Nat) : Int) - 1) = (k : Int) := by rw [wrp64 (by omega)]; omega
  have e0 : ¬ ((k + 1 : Nat) : Int) = 0 := by omega
  have hloop := iter_all (f := execA E C (fg 13) 0 74 [] 1000 c13_7) (hd := headA []) (fun i => ([(8, .int .i64 i), (7, .int .i64 (sumF (momTerm l ws (k + 1) (-1)) (k + 1) (i - (k + 1)))), (6, .int .i64 (sumF (momTerm l ws (k + 1) 1) (k + 1) (i - (k + 1)))), (2, .int .i64 (k + 1 : Nat)), (1, .imm (icells ws) ws.length ex'), (0, .imm (pcells l) l.length ex)], [])) (l.length - (k + 1)) 1000 (k + 1)
    ([(8, .int .i64 (k + 1 : Nat)), (7, .int .i64 0), (6, .int .i64 0), (2, .int .i64 (k + 1 : Nat)), (1, .imm (icells ws) ws.length ex'), (0, .imm (pcells l) l.length ex)], []) (by simp [headA_nil, sumF]) (by omega) (fun i h1 h2 => by
      have hil : i < l.length := by omega
      have hiw : i < ws.length := by omega
      obtain ⟨s, hs⟩ := at_ex hil
      obtain ⟨w, hws⟩ := at_ex hiw
      have hm : momTerm l ws (k + 1) 1 i = w * (s.pos - t.pos - t.half) := by simp [momTerm, hs, hws, far, rightE, ht, show s.pos - (t.pos + t.half) = s.pos - t.pos - t.half by omega]
      have hm2 : momTerm l ws (k + 1) (-1) i = w * (t.pos - t.half - s.pos) := by simp [momTerm, hs, hws, far, leftE, ht]
      have f1 := pcells_field l i s 1 hs (by omega)
      simp only [sc, List.getElem?_cons_succ, List.getElem?_cons_zero] at f1
      have hfs := h.fits i s hs
      obtain ⟨b1, b2⟩ := sumF_bound (M := 2717908992) (by omega) (hb 1) (i - (k + 1)) (by omega)
      obtain ⟨b3, b4⟩ := hb 1 i (by omega) hil
      obtain ⟨b5, b6⟩ := sumF_bound (M := 2717908992) (by omega) (hb (-1)) (i - (k + 1)) (by omega)
      obtain ⟨b7, b8⟩ := hb (-1) i (by omega) hil
      have hst := sumF_step (momTerm l ws (k + 1) 1) (k + 1) i (by omega)
      have hst2 := sumF_step (momTerm l ws (k + 1) (-1)) (k + 1) i (by omega)
      rw [hm] at hst b3 b4
      rw [hm2] at hst2 b7 b8
      obtain ⟨_, _, p1, p2, _, _, _⟩ := hfs
      obtain ⟨q1, q2, p3, p4, _, _, _⟩ := hft
      have w1 : wrp .i64 (s.pos - t.pos) = s.pos - t.pos := wrp64 (by omega)
      have w2 : wrp .i64 (s.pos - t.pos - t.half) = s.pos - t.pos - t.half := wrp64 (by omega)
      have w3 : wrp .i64 (w * (s.pos - t.pos - t.half)) = w * (s.pos - t.pos - t.half) := wrp64 (by omega)
      have w4 : wrp .i64 (sumF (momTerm l ws (k + 1) 1) (k + 1) (i - (k + 1)) + w * (s.pos - t.pos - t.half)) = sumF (momTerm l ws (k + 1) 1) (k + 1) (i + 1 - (k + 1)) := by rw [hst]; exact wrp64 (by omega)
      have w5 : wrp .i64 (t.pos - t.half) = t.pos - t.half := wrp64 (by omega)
      have w6 : wrp .i64 (t.pos - t.half - s.pos) = t.pos - t.half - s.pos := wrp64 (by omega)
      have w7 : wrp .i64 (w * (t.pos - t.half - s.pos)) = w * (t.pos - t.half - s.pos) := wrp64 (by omega)
      have w8 : wrp .i64 (sumF (momTerm l ws (k + 1) (-1)) (k + 1) (i - (k + 1)) + w * (t.pos - t.half - s.pos)) = sumF (momTerm l ws (k + 1) (-1)) (k + 1) (i + 1 - (k + 1)) := by rw [hst2]; exact wrp64 (by omega)
      simp only [seqX_normal, bindR_some, regX_some, condX_bool, blockX_normal, Bool.not_true, Bool.not_false, run_nil, run_cons, fget_cons', fput_cons', forget_nil, forget_cons', hget_nil', hget_cons', hset_nil', hset_cons', gcM, stp, opBox, just, Rd.bind, Rd.run, Rd.opt, upds, acells, zeroCells, tsz, rdCells, fieldOf, aFieldAddr, aLoad, aStore, opStore, fresh, aIndexAddr, aNum, aLen, aBuiltin, aBin, aInt, putC, Nat.reduceAdd, Nat.reduceLT, Nat.reduceBEq, Nat.reduceEqDiff, Nat.reduceLeDiff, Int.reduceNeg, ↓reduceIte, reduceCtorEq, liveBlk_eq, Nat.zero_add, Nat.add_zero, beq_iff_eq, List.nil_append, List.getElem?_toArray, rtX_some, addT_some, drX_some, runT_nil, runT_cons, neat_eq, descF_nil', descF_cons', ascH_nil', ascH_cons', stpT, Rd.foot, writing, touching, Tr.empty, dynPairs, apartT, disj, List.isEmpty_nil, List.isEmpty_cons, List.map_nil, Bool.not_false, Bool.not_true, Bool.true_or, Bool.or_true, Bool.or_false, Bool.and_true, Bool.true_and, Bool.and_self, decide_true, frz, putD_some, putD_none, and_true, Int.natCast_nonneg, Int.ofNat_lt, Int.toNat_natCast, snaps, snap, List.append_nil, List.elem_cons, List.elem_nil, List.length_cons, List.length_nil, List.getElem?_cons_zero, List.getElem?_cons_succ, List.set_cons_zero, List.set_cons_succ, T_3, T_27, T_36, T_44, x13_9, r13_2_l, s13_2_0, s13_2_1, s13_2_2, s13_2_3, x13_11, x13_12, x13_10, x13_8, x13_17, r13_4_l, s13_4_0, s13_4_1, x13_20, r13_5_l, r13_5_dr, r13_5_an, s13_5_0, s13_5_1, s13_5_2, s13_5_3, s13_5_4, s13_5_5, s13_5_6, s13_5_7, s13_5_8, s13_5_9, s13_5_10, s13_5_11, s13_5_12, x13_21, x13_19, x13_22, x13_18, x13_16, x13_24, r13_6_l, s13_6_0, s13_6_1, s13_6_2, s13_6_3, s13_6_4, s13_6_5, s13_6_6, x13_26, r13_7_l, r13_7_dr, r13_7_an, s13_7_0, s13_7_1, s13_7_2, s13_7_3, s13_7_4, s13_7_5, s13_7_6, s13_7_7, s13_7_8, s13_7_9, s13_7_10, s13_7_11, s13_7_12, s13_7_13, s13_7_14, s13_7_15, s13_7_16, s13_7_17, s13_7_18, x13_27, r13_8_l, r13_8_dr, r13_8_an, s13_8_0, s13_8_1, s13_8_2, s13_8_3, s13_8_4, s13_8_5, s13_8_6, s13_8_7, s13_8_8, s13_8_9, s13_8_10, s13_8_11, s13_8_12, s13_8_13, s13_8_14, s13_8_15, s13_8_16, s13_8_17, s13_8_18, x13_25, x13_23, x13_15, x13_14, x13_28, r13_3_l, s13_3_0, s13_3_1, s13_3_2, x13_13, x13_7, hil, hiw, hkl, icells_length, icells_at hws, pcells_length, Nat.mul_one, f1, e0, e1, pcells_at l k t ht, sc, pcells_off l k hkl, w1, w2, w3, w4, w5, w6, w7, w8, wrp_succ (show i < 1000000 by omega)]
      exact ⟨_, rfl, by rfl⟩) (e := .exit 0) (se := ([(14, .bool false), (8, .int .i64 l.length), (7, .int .i64 (momSum l ws (k + 1) (-1))), (6, .int .i64 (momSum l ws (k + 1) 1)), (2, .int .i64 (k + 1 : Nat)), (1, .imm (icells ws) ws.length ex'), (0, .imm (pcells l) l.length ex)], [])) (by
      rw [show k + 1 + (l.length - (k + 1)) = l.length by omega]
      simp only [seqX_normal, seqX_exit, bindR_some, regX_some, condX_bool, run_nil, run_cons, fget_cons', fput_cons', forget_nil, forget_cons', gcM, stp, just, Rd.bind, Rd.run, Rd.opt, upds, aLen, aBuiltin, aBin, aInt, Nat.reduceBEq, Nat.reduceEqDiff, Nat.reduceLeDiff, Int.reduceNeg, ↓reduceIte, reduceCtorEq, List.getElem?_toArray, decide_false, putD_some, List.elem_cons, List.elem_nil, List.getElem?_cons_zero, T_27, x13_9, r13_2_l, s13_2_0, s13_2_1, s13_2_2, s13_2_3, x13_11, x13_12, x13_10, x13_8, x13_7, Int.lt_irrefl, decide_false, Bool.false_eq_true, momSum]) (by simp)
  simp only [seqX_normal, bindR_some, regX_some, blockX_exit, bodyX_ret, run_nil, run_cons, fget_cons', fput_cons', forget_nil, forget_cons', frame0, gcM, resA, resL, Nat.reduceAdd, Nat.reduceBEq, Nat.reduceEqDiff, Nat.reduceLeDiff, Int.reduceNeg, ↓reduceIte, reduceCtorEq, Nat.zero_add, Option.map_some, List.elem_cons, List.elem_nil, x13_1, r13_0_l, s13_0_0, s13_0_1, x13_4, r13_1_l, s13_1_0, s13_1_1, x13_6, x13_5, x13_3, x13_30, r13_9_l, s13_9_0, s13_9_1, s13_9_2, s13_9_3, x13_31, x13_29, x13_2, x13_0, b_13, hloop]

theorem moments_call {d : Nat} {site : Nat → Nat} {seen : List Nat} {l : List Stone} {ws : List Int} {ex ex' : Bool} (h : OkP l) (hw : weighE l ws = 0) {k : Nat} (hk : k < l.length) :
    aBack site true seen (thaw (callA E fg 1000 (d + 1)) 13 [.imm (pcells l) l.length ex, .imm (icells ws) ws.length ex', .int .i64 k] [] 0) = .pure (.tup [.int .i64 (momSum l ws k 1), .int .i64 (leftM l ws k)], []) := by
  cases k with
  | zero => exact aBack_ints (rs_ex (moments_zero (C := callA E fg 1000 d) h hw))
  | succ k => exact aBack_ints (rs_ex (moments_succ (C := callA E fg 1000 d) h hw hk))

/-! Totals -/
def totalF (ws : List Int) : Int := sumF (fun i => ws.getD i 0) 0 ws.length
theorem total_run {C : Callee} {ws : List Int} {ex : Bool} (hl : ws.length ≤ 6) (hb : ∀ (i : Nat) (w : Int), ws[i]? = some w → -1000 ≤ w ∧ w ≤ 1000) :
    rsOf (bodyA E C fg 1000 25 [.imm (icells ws) ws.length ex] [] 0) = some (.int .i64 (totalF ws)) := by
  have hb2 : ∀ i, 0 ≤ i → i < ws.length → -1000 ≤ ws.getD i 0 ∧ ws.getD i 0 ≤ 1000 := fun i _ h2 => by
    obtain ⟨w, hw⟩ := at_ex h2
    have := hb i w hw
    simpa [hw] using this
  have hloop := iter_all (f := execA E C (fg 25) 0 17 [] 1000 c25_9) (hd := headA []) (fun i => ([(8, .int .i64 i), (7, .int .i64 ws.length), (6, .imm (icells ws) ws.length ex), (3, .int .i64 (sumF (fun i => ws.getD i 0) 0 (i - 0)))], [])) ws.length 1000 0
    ([(8, .int .i64 0), (7, .int .i64 ws.length), (6, .imm (icells ws) ws.length ex), (3, .int .i64 0)], []) (by simp [headA_nil, sumF]) (by omega) (fun i h1 h2 => by
      have hiw : i < ws.length := by omega
      obtain ⟨w, hws⟩ := at_ex hiw
      obtain ⟨b1, b2⟩ := sumF_bound (M := 1000) (by omega) hb2 (i - 0) (by omega)
      obtain ⟨b3, b4⟩ := hb i w hws
      have hst := sumF_step (fun i => ws.getD i 0) 0 i (by omega)
      have hg : ws.getD i 0 = w := by simp [hws]
      simp only [hg] at hst
      have w2 : wrp .i64 (sumF (fun i => ws.getD i 0) 0 (i - 0) + w) = sumF (fun i => ws.getD i 0) 0 (i + 1 - 0) := by rw [hst]; exact wrp64 (by omega)
      simp only [seqX_normal, bindR_some, regX_some, condX_bool, blockX_normal, run_nil, run_cons, fget_cons', fput_cons', forget_nil, forget_cons', gcM, stp, just, Rd.bind, Rd.run, Rd.opt, upds, tsz, rdCells, aLoad, aIndexAddr, aNum, aBin, aInt, Nat.reduceLT, Nat.reduceBEq, Nat.reduceEqDiff, Nat.reduceLeDiff, ↓reduceIte, reduceCtorEq, decide_true, putD_some, and_true, Int.natCast_nonneg, Int.ofNat_lt, Int.toNat_natCast, List.elem_cons, List.elem_nil, T_3, T_36, x25_10, r25_3_l, s25_3_0, x25_13, x25_14, x25_12, x25_18, r25_4_l, s25_4_0, s25_4_1, s25_4_2, x25_19, r25_5_l, s25_5_0, s25_5_1, s25_5_2, s25_5_3, x25_17, x25_16, x25_20, r25_6_l, s25_6_0, s25_6_1, x25_15, x25_11, x25_9, hiw, icells_length, icells_at hws, Nat.mul_one, w2, wrp_succ (show i < 1000000 by omega)]
      exact ⟨_, rfl, by simp only [headA_nil]⟩) (e := .exit 0) (se := ([(9, .bool false), (8, .int .i64 ws.length), (7, .int .i64 ws.length), (6, .imm (icells ws) ws.length ex), (3, .int .i64 (totalF ws))], [])) (by
      rw [show 0 + ws.length = ws.length by omega]
      simp only [seqX_normal, seqX_exit, bindR_some, regX_some, condX_bool, run_nil, run_cons, fget_cons', fput_cons', forget_nil, forget_cons', gcM, stp, just, Rd.bind, Rd.run, Rd.opt, upds, aBin, aInt, Nat.reduceEqDiff, Nat.reduceLeDiff, ↓reduceIte, decide_false, putD_some, List.elem_nil, x25_10, r25_3_l, s25_3_0, x25_13, x25_14, x25_12, x25_11, x25_9, Int.lt_irrefl, decide_false, Bool.false_eq_true, totalF, Nat.sub_zero]) (by simp)
  simp only [seqX_normal, bindR_some, regX_some, blockX_exit, bodyX_ret, run_nil, run_cons, fget_cons', fput_nil, fput_cons', forget_nil, forget_cons', frame0, gcM, stp, just, Rd.bind, Rd.run, upds, resA, resL, aLen, aBuiltin, Nat.reduceBEq, Nat.reduceEqDiff, Nat.reduceLeDiff, ↓reduceIte, reduceCtorEq, List.getElem?_toArray, putD_some, Option.map_some, List.elem_cons, List.elem_nil, List.getElem?_cons_zero, T_36, x25_1, r25_0_l, s25_0_0, x25_3, r25_1_l, s25_1_0, x25_6, r25_2_l, s25_2_0, s25_2_1, s25_2_2, x25_8, x25_7, x25_5, x25_22, r25_7_l, s25_7_0, s25_7_1, x25_23, x25_21, x25_4, x25_2, x25_0, b_25, hloop]
theorem total_call {d : Nat} {site : Nat → Nat} {seen : List Nat} {ws : List Int} {ex : Bool} (hl : ws.length ≤ 6) (hb : ∀ (i : Nat) (w : Int), ws[i]? = some w → -1000 ≤ w ∧ w ≤ 1000) :
    aBack site true seen (thaw (callA E fg 1000 (d + 1)) 25 [.imm (icells ws) ws.length ex] [] 0) = .pure (.int .i64 (totalF ws), []) := aBack_int (rs_ex (total_run hl hb))
end Go.AM.Ytikchlfbjdfioaa
