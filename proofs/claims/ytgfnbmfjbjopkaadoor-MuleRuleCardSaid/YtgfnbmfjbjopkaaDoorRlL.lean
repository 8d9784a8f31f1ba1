/- A part of the proof of muleRule_card: HandD, MgB, MgC, MgD, MrA, MrB. Own work of this project; texts printed by own programs among it. -/
import Derived.Carry
import Derived.Test.YtgfnbmfjbjopkaaDoorRlK
section
namespace Go.AM
open Go Go.RowKit Go.ChangeShapes
section
variable {H : Type} {enc : TypeId × Value → H} {P : Program} {w : World} {base : Nat} {spare : Nat → Bool} {held : Bool}
theorem trod_below {t : TypeId} {v : Value} {d : DataW H} {ps : List MemPlace} (h : DataW.Trod enc P w base spare held t v d ps) : ∀ x ∈ ps, x.block < w.heap.size := by
  obtain ⟨n, h⟩ := h
  exact DataW.trod_lt n t _ _ h
theorem _root_.Go.RowKit.Below.trod' {t : TypeId} (hl : laidOutB P = true) (hr : P.readableRec t = true) (hrow : t < P.types.size) {W W' : World} {v : Value} {d : DataW H} {ps : List MemPlace} (hb : Below W.heap.size W W')
    (h : DataW.Trod enc P W 0 (fun _ => true) true t v d ps) : DataW.Trod enc P W' 0 (fun b => decide (b < W.heap.size)) true t v d ps :=
  Below.trod hl hr hrow h hb (trod_below h)
theorem cell_int {t : TypeId} {k : IntKind} {v : Value} {b : Nat} {r : Reach} (ht : P.underlying t = some (.int k)) (hv : Cell.okWide P w r b t v) : ∃ z, v = .int k z ∧ k.has z := by
  simp only [Cell.okWide, ht] at hv
  unfold Cell.ok at hv
  rw [ht] at hv
  cases v <;> simp only at hv <;> try exact hv.elim
  obtain ⟨rfl, h⟩ := hv
  exact ⟨_, rfl, h⟩
/-- A struct, or an array, of integers of any kinds. -/
theorem row_ints {t : TypeId} {ts : List TypeId} {ks : List IntKind} {b : Nat} {r : Reach} (hu : ∀ (i : Nat) (u : TypeId) (k : IntKind), ts[i]? = some u → ks[i]? = some k → P.underlying u = some (.int k)) (hks : ks.length = ts.length) (hc : P.cellTypes P.depth t = some ts) (hn : P.cellsOf t = ts.length) {cs : Array Value} (hs : cs.size = P.cellsOf t) (hr : Row.okWide P w r b t cs) :
    ∃ zs : List Int, cs.toList = List.zipWith Value.int ks zs ∧ zs.length = ts.length ∧ ∀ (i : Nat) (z : Int) (k : IntKind), zs[i]? = some z → ks[i]? = some k → k.has z := by
  obtain ⟨ts', h1, _, h3⟩ := hr
  rw [hc] at h1
  obtain rfl := Option.some.inj h1
  have key : ∀ i (hi : i < ts.length), ∃ z, cs[i]? = some (.int (ks[i]'(by omega)) z) ∧ (ks[i]'(by omega)).has z := by
    intro i hi
    have hv : cs[i]? = some cs[i] := Array.getElem?_eq_getElem (by omega)
    obtain ⟨u', hu', hcell⟩ := h3 i _ hv
    rw [Nat.mod_eq_of_lt hi] at hu'
    obtain ⟨z, hz, hb⟩ := cell_int (hu i u' _ hu' (List.getElem?_eq_getElem (by omega))) hcell
    exact ⟨z, by rw [hv, hz], hb⟩
  refine ⟨(List.range ts.length).map fun i => match (cs[i]? : Option Value) with | some (Value.int _ z) => z | _ => 0, ?_, by simp, ?_⟩
  · apply List.ext_getElem?
    intro i
    by_cases hi : i < ts.length
    · obtain ⟨z, hz, _⟩ := key i hi
      rw [List.getElem?_zipWith, List.getElem?_map, List.getElem?_range hi, List.getElem?_eq_getElem (by omega : i < ks.length)]
      simp [hz]
    · rw [List.getElem?_eq_none (by simp; omega), List.getElem?_eq_none (by simp; omega)]
  · intro i z k hz hk
    have hi : i < ts.length := by have := (List.getElem?_eq_some_iff.1 hz).1; simpa using this
    obtain ⟨y, hy, hb⟩ := key i hi
    rw [List.getElem?_eq_getElem (by omega : i < ks.length)] at hk
    obtain rfl := Option.some.inj hk
    simp [hi, hy] at hz
    subst hz
    exact hb
theorem vr_ints {fz : Nat → Prop} {rf : RFt} (ks : List IntKind) (zs : List Int) {cs : Array Value} (h : cs.toList = List.zipWith Value.int ks zs) : VR fz w (.agg (List.zipWith AV.int ks zs)) rf (.agg cs) := by
  simp only [VR]
  refine ⟨cs, rfl, ?_⟩
  rw [VRo_iff, h]
  refine ⟨by simp, fun i a v h1 h2 => ?_⟩
  rw [List.getElem?_zipWith] at h1 h2
  cases hz : zs[i]? with
  | none => rw [hz] at h1; cases hk : ks[i]? <;> rw [hk] at h1 <;> simp at h1
  | some z =>
    cases hk : ks[i]? with
    | none => rw [hk] at h1; simp at h1
    | some k =>
      rw [hz, hk] at h1 h2
      simp only [Option.some.injEq] at h1 h2
      subst h1; subst h2
      exact ⟨rfl, by simp only [VR]⟩
theorem hand_ints {t : TypeId} {ts : List TypeId} {ks : List IntKind} {v : Value} {b : Nat} {r : Reach} {fs : Array Field} (ht : P.underlying t = some (.struct fs)) (hu : ∀ (i : Nat) (u : TypeId) (k : IntKind), ts[i]? = some u → ks[i]? = some k → P.underlying u = some (.int k)) (hks : ks.length = ts.length) (hc : P.cellTypes P.depth t = some ts) (hn : P.cellsOf t = ts.length) (hv : Value.okWide P w r b t v) :
    ∃ (zs : List Int) (cs : Array Value), v = .agg cs ∧ cs.toList = List.zipWith Value.int ks zs ∧ zs.length = ts.length ∧ ∀ (i : Nat) (z : Int) (k : IntKind), zs[i]? = some z → ks[i]? = some k → k.has z := by
  unfold Value.okWide at hv
  rw [ht] at hv
  obtain ⟨cs, h1, h2, h3⟩ := hv
  obtain ⟨zs, a, b, c⟩ := row_ints hu hks hc hn h2 h3
  exact ⟨zs, cs, h1, a, b, c⟩
theorem len_succ {α : Type} {l : List α} {n : Nat} (h : l.length = n + 1) : ∃ a t, l = a :: t ∧ t.length = n := by
  cases l with
  | nil => simp at h
  | cons a t => exact ⟨a, t, rfl, by simpa using h⟩
end
end Go.AM
namespace Go.AM.YtgfnbmfjbjopkaaDoor
open Go Go.AM Go.RowKit Go.Proofs Go.Proofs.YtgfnbmfjbjopkaaDoor Go.ChangeShapes Go.WideShapes Go.ChangeAt
set_option maxRecDepth 1000000
abbrev dTs : List TypeId := List.replicate 31 5 ++ 55 :: List.replicate 6 5
abbrev dKs : List IntKind := List.replicate 31 .u8 ++ .u16 :: List.replicate 6 .u8
theorem d_kinds : ∀ (i : Nat) (u : TypeId) (k : IntKind), dTs[i]? = some u → dKs[i]? = some k → Tryd.prog.underlying u = some (.int k) := by
  intro i u k h1 h2
  have hi : i < 38 := (List.getElem?_eq_some_iff.1 h1).1
  by_cases e : i = 31
  · subst e
    obtain rfl := Option.some.inj h1; obtain rfl := Option.some.inj h2
    exact Tryd.underlying55
  · have e1 : dTs[i]? = some 5 := by
      rcases Nat.lt_or_ge i 31 with h | h
      · rw [List.getElem?_append_left (by simpa using h), List.getElem?_replicate, if_pos h]
      · rw [List.getElem?_append_right (by simpa using h), List.length_replicate]
        obtain ⟨j, hj⟩ : ∃ j, i - 31 = j + 1 := ⟨i - 32, by omega⟩
        rw [hj, List.getElem?_cons_succ, List.getElem?_replicate, if_pos (by omega)]
    have e2 : dKs[i]? = some .u8 := by
      rcases Nat.lt_or_ge i 31 with h | h
      · rw [List.getElem?_append_left (by simpa using h), List.getElem?_replicate, if_pos h]
      · rw [List.getElem?_append_right (by simpa using h), List.length_replicate]
        obtain ⟨j, hj⟩ : ∃ j, i - 31 = j + 1 := ⟨i - 32, by omega⟩
        rw [hj, List.getElem?_cons_succ, List.getElem?_replicate, if_pos (by omega)]
    rw [e1] at h1; rw [e2] at h2
    obtain rfl := Option.some.inj h1; obtain rfl := Option.some.inj h2
    exact Tryd.underlying5
theorem cellsOf_D : Tryd.prog.cellsOf 58 = 38 := by kernel_rfl
theorem cellTypes_D : Tryd.prog.cellTypes Tryd.prog.depth 58 = some dTs := by kernel_rfl
theorem hand_drove {W : World} {v : Value} {b0 : Nat} {r : Reach} (hv : Value.okWide Tryd.prog W r b0 58 v) : ∃ D : Dro, DOk D ∧ ∀ (fz : Nat → Prop) (rf : RFt), VR fz W (.agg (dcs D)) rf v := by
  obtain ⟨zs, cs, rfl, h1, h2, h3⟩ := hand_ints Tryd.underlying58 d_kinds rfl cellTypes_D cellsOf_D hv
  replace h2 : zs.length = 38 := h2
  obtain ⟨a0, t0, rfl, l0⟩ := len_succ h2
  obtain ⟨a1, t1, rfl, l1⟩ := len_succ l0
  obtain ⟨a2, t2, rfl, l2⟩ := len_succ l1
  obtain ⟨a3, t3, rfl, l3⟩ := len_succ l2
  obtain ⟨a4, t4, rfl, l4⟩ := len_succ l3
  obtain ⟨a5, t5, rfl, l5⟩ := len_succ l4
  obtain ⟨a6, t6, rfl, l6⟩ := len_succ l5
  obtain ⟨a7, t7, rfl, l7⟩ := len_succ l6
  obtain ⟨a8, t8, rfl, l8⟩ := len_succ l7
  obtain ⟨a9, t9, rfl, l9⟩ := len_succ l8
  obtain ⟨a10, t10, rfl, l10⟩ := len_succ l9
  obtain ⟨a11, t11, rfl, l11⟩ := len_succ l10
  obtain ⟨a12, t12, rfl, l12⟩ := len_succ l11
  obtain ⟨a13, t13, rfl, l13⟩ := len_succ l12
  obtain ⟨a14, t14, rfl, l14⟩ := len_succ l13
  obtain ⟨a15, t15, rfl, l15⟩ := len_succ l14
  obtain ⟨a16, t16, rfl, l16⟩ := len_succ l15
  obtain ⟨a17, t17, rfl, l17⟩ := len_succ l16
  obtain ⟨a18, t18, rfl, l18⟩ := len_succ l17
  obtain ⟨a19, t19, rfl, l19⟩ := len_succ l18
  obtain ⟨a20, t20, rfl, l20⟩ := len_succ l19
  obtain ⟨a21, t21, rfl, l21⟩ := len_succ l20
  obtain ⟨a22, t22, rfl, l22⟩ := len_succ l21
  obtain ⟨a23, t23, rfl, l23⟩ := len_succ l22
  obtain ⟨a24, t24, rfl, l24⟩ := len_succ l23
  obtain ⟨a25, t25, rfl, l25⟩ := len_succ l24
  obtain ⟨a26, t26, rfl, l26⟩ := len_succ l25
  obtain ⟨a27, t27, rfl, l27⟩ := len_succ l26
  obtain ⟨a28, t28, rfl, l28⟩ := len_succ l27
  obtain ⟨a29, t29, rfl, l29⟩ := len_succ l28
  obtain ⟨a30, t30, rfl, l30⟩ := len_succ l29
  obtain ⟨a31, t31, rfl, l31⟩ := len_succ l30
  obtain ⟨a32, t32, rfl, l32⟩ := len_succ l31
  obtain ⟨a33, t33, rfl, l33⟩ := len_succ l32
  obtain ⟨a34, t34, rfl, l34⟩ := len_succ l33
  obtain ⟨a35, t35, rfl, l35⟩ := len_succ l34
  obtain ⟨a36, t36, rfl, l36⟩ := len_succ l35
  obtain ⟨a37, t37, rfl, l37⟩ := len_succ l36
  obtain rfl := List.length_eq_zero_iff.1 l37
  have b0 : 0 ≤ a0 ∧ a0 ≤ 255 := h3 0 a0 .u8 rfl rfl
  have b1 : 0 ≤ a1 ∧ a1 ≤ 255 := h3 1 a1 .u8 rfl rfl
  have b2 : 0 ≤ a2 ∧ a2 ≤ 255 := h3 2 a2 .u8 rfl rfl
  have b3 : 0 ≤ a3 ∧ a3 ≤ 255 := h3 3 a3 .u8 rfl rfl
  have b4 : 0 ≤ a4 ∧ a4 ≤ 255 := h3 4 a4 .u8 rfl rfl
  have b5 : 0 ≤ a5 ∧ a5 ≤ 255 := h3 5 a5 .u8 rfl rfl
  have b6 : 0 ≤ a6 ∧ a6 ≤ 255 := h3 6 a6 .u8 rfl rfl
  have b7 : 0 ≤ a7 ∧ a7 ≤ 255 := h3 7 a7 .u8 rfl rfl
  have b8 : 0 ≤ a8 ∧ a8 ≤ 255 := h3 8 a8 .u8 rfl rfl
  have b9 : 0 ≤ a9 ∧ a9 ≤ 255 := h3 9 a9 .u8 rfl rfl
  have b10 : 0 ≤ a10 ∧ a10 ≤ 255 := h3 10 a10 .u8 rfl rfl
  have b11 : 0 ≤ a11 ∧ a11 ≤ 255 := h3 11 a11 .u8 rfl rfl
  have b12 : 0 ≤ a12 ∧ a12 ≤ 255 := h3 12 a12 .u8 rfl rfl
  have b13 : 0 ≤ a13 ∧ a13 ≤ 255 := h3 13 a13 .u8 rfl rfl
  have b14 : 0 ≤ a14 ∧ a14 ≤ 255 := h3 14 a14 .u8 rfl rfl
  have b15 : 0 ≤ a15 ∧ a15 ≤ 255 := h3 15 a15 .u8 rfl rfl
  have b16 : 0 ≤ a16 ∧ a16 ≤ 255 := h3 16 a16 .u8 rfl rfl
  have b17 : 0 ≤ a17 ∧ a17 ≤ 255 := h3 17 a17 .u8 rfl rfl
  have b18 : 0 ≤ a18 ∧ a18 ≤ 255 := h3 18 a18 .u8 rfl rfl
  have b19 : 0 ≤ a19 ∧ a19 ≤ 255 := h3 19 a19 .u8 rfl rfl
  have b20 : 0 ≤ a20 ∧ a20 ≤ 255 := h3 20 a20 .u8 rfl rfl
  have b21 : 0 ≤ a21 ∧ a21 ≤ 255 := h3 21 a21 .u8 rfl rfl
  have b22 : 0 ≤ a22 ∧ a22 ≤ 255 := h3 22 a22 .u8 rfl rfl
  have b23 : 0 ≤ a23 ∧ a23 ≤ 255 := h3 23 a23 .u8 rfl rfl
  have b24 : 0 ≤ a24 ∧ a24 ≤ 255 := h3 24 a24 .u8 rfl rfl
  have b25 : 0 ≤ a25 ∧ a25 ≤ 255 := h3 25 a25 .u8 rfl rfl
  have b26 : 0 ≤ a26 ∧ a26 ≤ 255 := h3 26 a26 .u8 rfl rfl
  have b27 : 0 ≤ a27 ∧ a27 ≤ 255 := h3 27 a27 .u8 rfl rfl
  have b28 : 0 ≤ a28 ∧ a28 ≤ 255 := h3 28 a28 .u8 rfl rfl
  have b29 : 0 ≤ a29 ∧ a29 ≤ 255 := h3 29 a29 .u8 rfl rfl
  have b30 : 0 ≤ a30 ∧ a30 ≤ 255 := h3 30 a30 .u8 rfl rfl
  have b31 : 0 ≤ a31 ∧ a31 ≤ 65535 := h3 31 a31 .u16 rfl rfl
  have b32 : 0 ≤ a32 ∧ a32 ≤ 255 := h3 32 a32 .u8 rfl rfl
  have b33 : 0 ≤ a33 ∧ a33 ≤ 255 := h3 33 a33 .u8 rfl rfl
  have b34 : 0 ≤ a34 ∧ a34 ≤ 255 := h3 34 a34 .u8 rfl rfl
  have b35 : 0 ≤ a35 ∧ a35 ≤ 255 := h3 35 a35 .u8 rfl rfl
  have b36 : 0 ≤ a36 ∧ a36 ≤ 255 := h3 36 a36 .u8 rfl rfl
  have b37 : 0 ≤ a37 ∧ a37 ≤ 255 := h3 37 a37 .u8 rfl rfl
  obtain ⟨p, rfl⟩ : ∃ p : Nat, a31 = (p : Int) := ⟨a31.toNat, by omega⟩
  refine ⟨⟨a0, [⟨a1, a2, a3, a4, a5⟩, ⟨a6, a7, a8, a9, a10⟩, ⟨a11, a12, a13, a14, a15⟩, ⟨a16, a17, a18, a19, a20⟩, ⟨a21, a22, a23, a24, a25⟩, ⟨a26, a27, a28, a29, a30⟩], p, [a32, a33, a34, a35, a36, a37]⟩, ⟨b0, rfl, ?_, by show p < 65536; omega, rfl, ?_⟩, fun _ _ => vr_ints dKs _ h1⟩
  · intro q hq
    simp only [List.mem_cons, List.not_mem_nil, or_false] at hq
    rcases hq with rfl | rfl | rfl | rfl | rfl | rfl
    · exact ⟨b1, b2, b3, b4, b5⟩
    · exact ⟨b6, b7, b8, b9, b10⟩
    · exact ⟨b11, b12, b13, b14, b15⟩
    · exact ⟨b16, b17, b18, b19, b20⟩
    · exact ⟨b21, b22, b23, b24, b25⟩
    · exact ⟨b26, b27, b28, b29, b30⟩
  · intro z hz
    simp only [List.mem_cons, List.not_mem_nil, or_false] at hz
    rcases hz with rfl | rfl | rfl | rfl | rfl | rfl
    · exact b32
    · exact b33
    · exact b34
    · exact b35
    · exact b36
    · exact b37
end Go.AM.YtgfnbmfjbjopkaaDoor
end

section
namespace Go.AM.YtgfnbmfjbjopkaaDoor
open Go Go.AM Go.AM.Mule
set_option maxRecDepth 100000
set_option maxHeartbeats 8000000
/-- A load's place. -/
def plc (D : Dro) (j : Nat) : Int := D.al.getD j 0 * 8 + j
theorem plc_b {D : Dro} (h : DOk D) {j : Nat} (hj : j < 6) : ∃ z, D.al[j]? = some z ∧ 0 ≤ z ∧ z ≤ 255 ∧ plc D j = z * 8 + j := by
  have hx : D.al[j]? = some (D.al.getD j 0) := at_getD (l := D.al) (by rw [h.ll]; exact hj)
  obtain ⟨a, b⟩ := h.al _ (List.mem_of_getElem? hx)
  exact ⟨_, hx, a, b, rfl⟩
theorem plc_run {C : Callee} {D : Dro} (h : DOk D) {j : Nat} (hj : j < 6) : rsOf (bodyA E C fg 1000 111 [.int .i64 (j : Int), .iptr (dcs D) 0] [] 0) = some (.int .i64 (plc D j)) := by
  obtain ⟨z, hz, z1, z2, e⟩ := plc_b h hj
  have hat := dcs_a h hz
  have hlen := dcs_len h
  have g : (j : Int) < 6 := by omega
  have w1 : wrp .i64 z = z := wrp64 (by omega)
  have w2 : wrp .i64 (z * 8) = z * 8 := wrp64 (by omega)
  have w3 : wrp .i64 (z * 8 + j) = z * 8 + j := wrp64 (by omega)
  rw [e]
  generalize dcs D = dc at *
  simp (disch := omega) only [bodyX_ret, run_nil, run_cons, fget_cons', fput_cons', forget_nil, forget_cons', frame0, gcM_c, stp, justO, just, Rd.bind, Rd.run, Rd.opt, upds, tsz, rdCells, fieldOf, aFieldAddr, aLoad, resA, resL, aIndexAddr, aNum, aBin, aInt, Nat.reduceBEq, Nat.reduceEqDiff, Nat.reduceLeDiff, ↓reduceIte, reduceCtorEq, Nat.zero_add, putD_some, true_and, Int.natCast_nonneg, Int.ofNat_lt, Int.toNat_natCast, Option.map_some, List.elem_cons, List.elem_nil, List.getElem?_cons_zero, List.getElem?_cons_succ, seqN, bindN, regN, aConv, Nat.mul_one, beq_self_eq_true, Bool.false_eq_true, T_3, T_5, T_56, T_58, beq_self_eq_true, x111_1, r111_0_l, s111_0_0, x111_3, r111_1_l, s111_1_0, s111_1_1, s111_1_2, s111_1_3, s111_1_4, s111_1_5, s111_1_6, s111_1_7, s111_1_8, x111_4, x111_2, x111_0, b_111, hat, w1, w2, w3, if_pos]
structure MdC (C : Callee) (D : Dro) : Prop where
  plc : ∀ (site : Nat → Nat) seen (j : Nat), j < 6 → aBack site true seen (thaw C 111 [.int .i64 (j : Int), .iptr (dcs D) 0] [] 0) = .pure (.int .i64 (plc D j), [])
theorem mdC {D : Dro} (h : DOk D) (d : Nat) : MdC (callA E fg 1000 (d + 1)) D := ⟨fun _ _ _ hj => aBack_int (rs_ex (plc_run (C := callA E fg 1000 d) h hj))⟩
def pOf (D : Dro) (bit i k : Nat) : List Pr := if D.pairs.testBit bit = true then (if plc D k < plc D i then [((k : Int), (i : Int))] else [((i : Int), (k : Int))]) else []
def mdI (D : Dro) (i b : Nat) : Nat → List Pr
  | 0 => []
  | k + 1 => mdI D i b k ++ pOf D (b + k) i k
def mdE (D : Dro) : Nat → List Pr × Nat
  | 0 => ([], 0)
  | i + 1 => ((mdE D i).1 ++ mdI D i (mdE D i).2 i, (mdE D i).2 + i)
theorem pOf_len (D bit i k) : (pOf D bit i k).length ≤ 1 := by
  unfold pOf; split
  · split <;> simp
  · simp
theorem mdI_len (D i b) : ∀ k, (mdI D i b k).length ≤ k
  | 0 => by simp [mdI]
  | k + 1 => by
    have := mdI_len D i b k
    have := pOf_len D (b + k) i k
    simp only [mdI, List.length_append]; omega
theorem mdE_len (D) : ∀ i, (mdE D i).1.length ≤ (mdE D i).2
  | 0 => by simp [mdE]
  | i + 1 => by
    have := mdE_len D i
    have := mdI_len D i (mdE D i).2 i
    simp only [mdE, List.length_append]; omega
theorem mdE_15 (D) : ∀ i, i ≤ 6 → (mdE D i).2 ≤ 15
  | 0, _ => by simp [mdE]
  | 1, _ => by simp [mdE]
  | 2, _ => by simp [mdE]
  | 3, _ => by simp [mdE]
  | 4, _ => by simp [mdE]
  | 5, _ => by simp [mdE]
  | 6, _ => by simp [mdE]
  | i + 7, h => by omega
theorem shr16 {b i : Nat} (hi : i < 16) : aShift .shr .u16 (b : Int) (i : Int) = some (.int .u16 ((b >>> i : Nat) : Int)) := by
  have h1 : ¬ (i : Int) < 0 := by omega
  simp only [aShift, if_neg h1, pw2, IntKind.bits, Int.toNat_natCast]
  rw [Nat.min_eq_left (by omega), Nat.shiftRight_eq_div_pow]
  congr 2
  exact (Int.fdiv_eq_ediv_of_nonneg _ (Int.natCast_nonneg _)).trans (Int.natCast_ediv _ _).symm
theorem bk16 {a : Nat} (ha : a < 65536) : bk .u16 (bt .u16 (a : Int) &&& bt .u16 1) = .int .u16 ((a &&& 1 : Nat) : Int) := by
  have e : bt .u16 (a : Int) = BitVec.ofNat 16 a := by simp only [bt, IntKind.bits, BitVec.ofInt_natCast]
  have e1 : bt .u16 1 = BitVec.ofNat 16 1 := rfl
  rw [e, e1]
  have h : (BitVec.ofNat 16 a &&& BitVec.ofNat 16 1).toNat = a &&& 1 := by
    rw [BitVec.toNat_and, BitVec.toNat_ofNat, BitVec.toNat_ofNat, Nat.mod_eq_of_lt ha]
  have h2 : a &&& 1 ≤ 1 := Nat.and_le_right
  show AV.int .u16 (wrp .u16 ((BitVec.ofNat 16 a &&& BitVec.ofNat 16 1).toNat : Int)) = _
  rw [h, wrp_id (by simp only [kLo]; omega) (by simp only [kHi]; omega)]
def bV (g m : Nat) : AV := if m = 0 then .nilsl else .ref g 0 m m (m * 2) 2 false
def bH (g : Nat) (es : List Pr) : AHeap := if es.length = 0 then [] else [(g, ⟨.row, cls bc es⟩)]
abbrev mdH (D : Dro) (n g : Nat) (es : List Pr) : AHeap :=
  (2, ⟨.box, dcs D⟩) :: (4, ⟨.box, [.nilsl, .nilsl]⟩) :: (5, ⟨.box, [.ref 60 0 n n (n * 5) 5 false, bV g es.length]⟩) :: (60, ⟨.row, cls lc (mdL D n)⟩) :: bH g es
abbrev m2S (D : Dro) (n g i bit : Nat) (es : List Pr) (k : Nat) : St :=
  ([(72, .int .i64 k), (71, .int .i64 i), (68, .int .i64 i), (67, .int .i64 n), (12, .int .i64 i), (11, .int .i64 bit), (10, .clo 111 [.ptr 2 0 38]), (5, .ptr 5 0 2), (4, .ptr 4 0 2), (2, .ptr 2 0 38)], mdH D n g es)
theorem room64 {n : Nat} (h : n ≤ 1000000) : roomOk E.T 64 n = true := by
  simp only [roomOk, T_64, decide_eq_true_eq]; exact ⟨by decide, rfl, by omega⟩
theorem m2_go {C : Callee} {D : Dro} (hC : MdC C D) (h : DOk D) {n g i bit : Nat} {es : List Pr} (hn : n ≤ 6) (hi : i < n) (k : Nat) (hk : k < i) (hb : bit + k < 15) (hes : es.length ≤ 15) (hg : g = 94 ∨ g = 102) :
    ∃ s', (execA E C (fg 40) 0 109 [] 1000 c40_50) (m2S D n g i (bit + k) es k) = some (.normal, s') ∧ ∃ g2, (g2 = 94 ∨ g2 = 102) ∧ headA [] s' = m2S D n g2 i (bit + (k + 1)) (es ++ pOf D (bit + k) i k) (k + 1) := by
  have hpi := fun site seen => hC.plc site seen i (by omega)
  have hpk := fun site seen => hC.plc site seen k (by omega)
  have hat := dcs_p h
  have hlen := dcs_len h
  have hsn := dcs_snap h (d := 198) (by omega)
  have hsn2 := dcs_snap h (d := 197) (by omega)
  have hsn3 := dcs_snap h (d := 196) (by omega)
  have htk : List.take 38 (dcs D) = dcs D := List.take_of_length_le (by omega)
  have hp := h.pairs
  have hsh := shr16 (b := D.pairs) (i := bit + k) (by omega)
  have hlt : D.pairs >>> (bit + k) < 65536 := by rw [Nat.shiftRight_eq_div_pow]; exact Nat.lt_of_le_of_lt (Nat.div_le_self ..) hp
  have ha := bk16 hlt
  have he := bit_eq D.pairs (bit + k)
  have g1 : (k : Int) < i := by omega
  have w : wrp .i64 (((bit + k : Nat) : Int) + 1) = ((bit + (k + 1) : Nat) : Int) := by rw [wrp64 (by omega)]; omega
  have hm : ∀ caps args, mutV E (.clo 111 caps) args = none := fun _ _ => rfl
  have hec := cls_length bc_len es
  suffices key : ∃ g2, (g2 = 94 ∨ g2 = 102) ∧ ∃ s', (execA E C (fg 40) 0 109 [] 1000 c40_50) (m2S D n g i (bit + k) es k) = some (.normal, s') ∧ headA [] s' = m2S D n g2 i (bit + (k + 1)) (es ++ pOf D (bit + k) i k) (k + 1) by
    obtain ⟨g2, a, s', b, c⟩ := key
    exact ⟨s', b, g2, a, c⟩
  have hne0 : ¬ (1 : Nat) = 0 := by omega
  by_cases hbit : D.pairs.testBit (bit + k) = true
  · by_cases hpl : plc D k < plc D i
    · skip
      have e : pOf D (bit + k) i k = [((k : Int), (i : Int))] := by unfold pOf; rw [if_pos hbit, if_pos hpl]
      rw [e]
      have hsnoc := cls_snoc (f := bc) es ((k : Int), (i : Int))
      have hbc : bc ((k : Int), (i : Int)) = [.int .i64 (k : Int), .int .i64 (i : Int)] := rfl
      rw [hbc] at hsnoc
      by_cases hz : es.length = 0
      · have hes0 : es = [] := List.length_eq_zero_iff.1 hz
        subst hes0
        refine ⟨94, .inl rfl, ?_⟩
        have hone : cls bc ([] ++ [((k : Int), (i : Int))]) = [.int .i64 (k : Int), .int .i64 (i : Int)] := rfl
        simp only [m2S, mdH, bV, bH, List.length_nil, List.nil_append, List.length_singleton, if_pos, hne0, if_false]
        rw [show cls bc [((k : Int), (i : Int))] = [.int .i64 (k : Int), .int .i64 (i : Int)] from rfl]
        simp (disch := omega) only [condX_bool, blockX_normal, run_nil, run_cons, fget_cons', fput_cons', forget_nil, forget_cons', hget_nil', hget_cons', hset_nil', hset_cons', gcM_n, gcM_c, stp, justO, just, Rd.bind, Rd.run, Rd.opt, upds, acells, zeroCells, tsz, elemT, rdCells, fieldOf, aFieldAddr, aLoad, aStore, opStore, fresh, aBuiltin, aBin, aInt, putC, evO, Nat.reduceAdd, Nat.reduceMul, Nat.reduceLT, Nat.reduceGT, Nat.reduceBEq, Nat.reduceEqDiff, Nat.reduceLeDiff, ↓reduceIte, reduceCtorEq, liveBlk_eq, Nat.zero_add, ne_eq, beq_iff_eq, List.nil_append, List.getElem?_toArray, Bool.and_true, decide_true, not_true_eq_false, or_self, aBuildSlice, partsOf, fillA, repC, isSliceT, aAppend, srcOf, window, putD_some, putD_none, and_true, aCall, snaps, List.append_nil, Option.map_some, List.elem_cons, List.elem_nil, List.length_cons, List.length_nil, List.getElem?_cons_zero, List.getElem?_cons_succ, List.drop_zero, List.take_succ_cons, List.take_nil, List.set_cons_zero, List.set_cons_succ, frz_nil, seqN, bindN, regN, snap_int, snap_ref, snap_ptr', aBuild, opCallV, List.cons_append, Nat.le_refl, Nat.mul_one, Nat.zero_mul, beq_self_eq_true, Nat.lt_irrefl, Bool.false_eq_true, T_3, T_23, T_25, T_64, T_55, T_58, beq_self_eq_true, x40_51, r40_16_l, s40_16_0, x40_54, x40_55, x40_53, x40_59, r40_17_l, s40_17_0, s40_17_1, x40_62, r40_18_l, s40_18_0, s40_18_1, s40_18_2, s40_18_3, s40_18_4, s40_18_5, x40_65, r40_19_l, s40_19_0, s40_19_1, s40_19_2, s40_19_3, s40_19_4, s40_19_5, s40_19_6, x40_67, r40_20_l, s40_20_0, s40_20_1, s40_20_2, s40_20_3, s40_20_4, s40_20_5, s40_20_6, s40_20_7, s40_20_8, x40_68, r40_21_l, s40_21_0, s40_21_1, s40_21_2, s40_21_3, s40_21_4, s40_21_5, s40_21_6, s40_21_7, s40_21_8, x40_66, x40_64, x40_69, x40_63, x40_61, x40_70, r40_22_l, s40_22_0, s40_22_1, s40_22_2, x40_60, x40_58, x40_57, x40_71, r40_23_l, s40_23_0, s40_23_1, x40_56, x40_52, x40_50, g1, hat, hlen, hsn2, hsh, ha, he, hbit, w, hpi, hpk, hpl, callV_eq (hm _ _), fi_111, room64 (show 1 ≤ 1000000 by omega), wrp_succ (show k < 1000000 by omega)]
        exact ⟨_, rfl, headA_box (refs_ints _ dcs_int) rfl rfl⟩
      · obtain ⟨m, hml⟩ : ∃ m, es.length = m + 1 := ⟨es.length - 1, by omega⟩
        have hl2 : (es ++ [((k : Int), (i : Int))]).length = m + 1 + 1 := by simp [hml]
        have ev : ∀ g, bV g (m + 1) = .ref g 0 (m + 1) (m + 1) ((m + 1) * 2) 2 false := fun g => if_neg (by omega)
        have ev2 : ∀ g, bV g (m + 1 + 1) = .ref g 0 (m + 1 + 1) (m + 1 + 1) ((m + 1 + 1) * 2) 2 false := fun g => if_neg (by omega)
        have eh : ∀ g, bH g es = [(g, ⟨.row, cls bc es⟩)] := fun g => if_neg hz
        have eh2 : ∀ g, bH g (es ++ [((k : Int), (i : Int))]) = [(g, ⟨.row, cls bc (es ++ [((k : Int), (i : Int))])⟩)] := fun g => if_neg (by omega)
        have hte : List.take ((m + 1) * 2) (cls bc es) = cls bc es := List.take_of_length_le (by omega)
        have nm : ¬ m + 1 + 1 ≤ m + 1 := by omega
        rw [hml] at hec
        refine ⟨g, hg, ?_⟩
        simp only [m2S, mdH, hml, hl2, ev, ev2, eh, eh2]
        generalize cls bc (es ++ [((k : Int), (i : Int))]) = ce2 at *
        generalize cls bc es = ce at *
        rcases hg with rfl | rfl
        · simp (disch := omega) only [condX_bool, blockX_normal, run_nil, run_cons, fget_cons', fput_cons', forget_nil, forget_cons', hget_nil', hget_cons', hset_nil', hset_cons', gcM_n, gcM_c, stp, justO, just, Rd.bind, Rd.run, Rd.opt, upds, acells, zeroCells, tsz, elemT, rdCells, fieldOf, aFieldAddr, aLoad, aStore, opStore, fresh, aBuiltin, aBin, aInt, putC, evO, Nat.reduceAdd, Nat.reduceMul, Nat.reduceLT, Nat.reduceGT, Nat.reduceBEq, Nat.reduceEqDiff, Nat.reduceLeDiff, ↓reduceIte, reduceCtorEq, liveBlk_eq, Nat.zero_add, ne_eq, beq_iff_eq, List.nil_append, List.getElem?_toArray, Bool.and_true, decide_true, not_true_eq_false, or_self, aBuildSlice, partsOf, fillA, repC, isSliceT, aAppend, srcOf, window, putD_some, putD_none, and_true, aCall, snaps, List.append_nil, Option.map_some, List.elem_cons, List.elem_nil, List.length_cons, List.length_nil, List.getElem?_cons_zero, List.getElem?_cons_succ, List.drop_zero, List.take_succ_cons, List.take_nil, List.set_cons_zero, List.set_cons_succ, frz_nil, seqN, bindN, regN, snap_int, snap_ref, snap_ptr', aBuild, opCallV, List.cons_append, Nat.le_refl, Nat.mul_one, Nat.zero_mul, beq_self_eq_true, Nat.lt_irrefl, Bool.false_eq_true, T_3, T_23, T_25, T_64, T_55, T_58, beq_self_eq_true, x40_51, r40_16_l, s40_16_0, x40_54, x40_55, x40_53, x40_59, r40_17_l, s40_17_0, s40_17_1, x40_62, r40_18_l, s40_18_0, s40_18_1, s40_18_2, s40_18_3, s40_18_4, s40_18_5, x40_65, r40_19_l, s40_19_0, s40_19_1, s40_19_2, s40_19_3, s40_19_4, s40_19_5, s40_19_6, x40_67, r40_20_l, s40_20_0, s40_20_1, s40_20_2, s40_20_3, s40_20_4, s40_20_5, s40_20_6, s40_20_7, s40_20_8, x40_68, r40_21_l, s40_21_0, s40_21_1, s40_21_2, s40_21_3, s40_21_4, s40_21_5, s40_21_6, s40_21_7, s40_21_8, x40_66, x40_64, x40_69, x40_63, x40_61, x40_70, r40_22_l, s40_22_0, s40_22_1, s40_22_2, x40_60, x40_58, x40_57, x40_71, r40_23_l, s40_23_0, s40_23_1, x40_56, x40_52, x40_50, g1, hat, hlen, hsn2, hsh, ha, he, hbit, w, hpi, hpk, hpl, callV_eq (hm _ _), fi_111, hec, hte, nm, hsnoc, room64 (show m + 1 + 1 ≤ 1000000 by omega), wrp_succ (show k < 1000000 by omega)]
          exact ⟨_, rfl, headA_box (refs_ints _ dcs_int) rfl rfl⟩
        · simp (disch := omega) only [condX_bool, blockX_normal, run_nil, run_cons, fget_cons', fput_cons', forget_nil, forget_cons', hget_nil', hget_cons', hset_cons', gcM_n, gcM_c, stp, justO, just, Rd.bind, Rd.run, Rd.opt, upds, acells, zeroCells, tsz, elemT, rdCells, fieldOf, aFieldAddr, aLoad, aStore, opStore, fresh, aBuiltin, aBin, aInt, putC, evO, Nat.reduceAdd, Nat.reduceMul, Nat.reduceLT, Nat.reduceGT, Nat.reduceBEq, Nat.reduceEqDiff, Nat.reduceLeDiff, ↓reduceIte, reduceCtorEq, liveBlk_eq, Nat.zero_add, ne_eq, beq_iff_eq, List.nil_append, List.getElem?_toArray, Bool.and_true, decide_true, not_true_eq_false, or_self, aBuildSlice, partsOf, fillA, repC, isSliceT, aAppend, srcOf, window, putD_some, putD_none, and_true, aCall, snaps, List.append_nil, Option.map_some, List.elem_cons, List.elem_nil, List.length_cons, List.length_nil, List.getElem?_cons_zero, List.getElem?_cons_succ, List.drop_zero, List.take_succ_cons, List.take_nil, List.set_cons_zero, List.set_cons_succ, frz_nil, seqN, bindN, regN, snap_int, snap_ref, snap_ptr', aBuild, opCallV, List.cons_append, Nat.le_refl, Nat.mul_one, Nat.zero_mul, beq_self_eq_true, Nat.lt_irrefl, Bool.false_eq_true, T_3, T_23, T_25, T_64, T_55, T_58, beq_self_eq_true, x40_51, r40_16_l, s40_16_0, x40_54, x40_55, x40_53, x40_59, r40_17_l, s40_17_0, s40_17_1, x40_62, r40_18_l, s40_18_0, s40_18_1, s40_18_2, s40_18_3, s40_18_4, s40_18_5, x40_65, r40_19_l, s40_19_0, s40_19_1, s40_19_2, s40_19_3, s40_19_4, s40_19_5, s40_19_6, x40_67, r40_20_l, s40_20_0, s40_20_1, s40_20_2, s40_20_3, s40_20_4, s40_20_5, s40_20_6, s40_20_7, s40_20_8, x40_68, r40_21_l, s40_21_0, s40_21_1, s40_21_2, s40_21_3, s40_21_4, s40_21_5, s40_21_6, s40_21_7, s40_21_8, x40_66, x40_64, x40_69, x40_63, x40_61, x40_70, r40_22_l, s40_22_0, s40_22_1, s40_22_2, x40_60, x40_58, x40_57, x40_71, r40_23_l, s40_23_0, s40_23_1, x40_56, x40_52, x40_50, g1, hat, hlen, hsn2, hsh, ha, he, hbit, w, hpi, hpk, hpl, callV_eq (hm _ _), fi_111, hec, hte, nm, hsnoc, room64 (show m + 1 + 1 ≤ 1000000 by omega), wrp_succ (show k < 1000000 by omega)]
          exact ⟨_, rfl, headA_box (refs_ints _ dcs_int) rfl rfl⟩
    · skip
      have e : pOf D (bit + k) i k = [((i : Int), (k : Int))] := by unfold pOf; rw [if_pos hbit, if_neg hpl]
      rw [e]
      have hsnoc := cls_snoc (f := bc) es ((i : Int), (k : Int))
      have hbc : bc ((i : Int), (k : Int)) = [.int .i64 (i : Int), .int .i64 (k : Int)] := rfl
      rw [hbc] at hsnoc
      by_cases hz : es.length = 0
      · have hes0 : es = [] := List.length_eq_zero_iff.1 hz
        subst hes0
        refine ⟨102, .inr rfl, ?_⟩
        have hone : cls bc ([] ++ [((i : Int), (k : Int))]) = [.int .i64 (i : Int), .int .i64 (k : Int)] := rfl
        simp only [m2S, mdH, bV, bH, List.length_nil, List.nil_append, List.length_singleton, if_pos, hne0, if_false]
        rw [show cls bc [((i : Int), (k : Int))] = [.int .i64 (i : Int), .int .i64 (k : Int)] from rfl]
        simp (disch := omega) only [condX_bool, blockX_normal, run_nil, run_cons, fget_cons', fput_cons', forget_nil, forget_cons', hget_nil', hget_cons', hset_nil', hset_cons', gcM_n, gcM_c, stp, justO, just, Rd.bind, Rd.run, Rd.opt, upds, acells, zeroCells, tsz, elemT, rdCells, fieldOf, aFieldAddr, aLoad, aStore, opStore, fresh, aBuiltin, aBin, aInt, putC, evO, Nat.reduceAdd, Nat.reduceMul, Nat.reduceLT, Nat.reduceGT, Nat.reduceBEq, Nat.reduceEqDiff, Nat.reduceLeDiff, ↓reduceIte, reduceCtorEq, liveBlk_eq, Nat.zero_add, ne_eq, beq_iff_eq, List.nil_append, List.getElem?_toArray, Bool.and_true, decide_true, decide_false, not_true_eq_false, or_self, aBuildSlice, partsOf, fillA, repC, isSliceT, aAppend, srcOf, window, putD_some, putD_none, and_true, aCall, snaps, List.append_nil, Option.map_some, List.elem_cons, List.elem_nil, List.length_cons, List.length_nil, List.getElem?_cons_zero, List.getElem?_cons_succ, List.drop_zero, List.take_succ_cons, List.take_nil, List.set_cons_zero, List.set_cons_succ, frz_nil, seqN, bindN, regN, snap_int, snap_ref, snap_ptr', aBuild, opCallV, List.cons_append, Nat.le_refl, Nat.mul_one, Nat.zero_mul, beq_self_eq_true, Nat.lt_irrefl, Bool.false_eq_true, T_3, T_23, T_25, T_64, T_55, T_58, beq_self_eq_true, x40_51, r40_16_l, s40_16_0, x40_54, x40_55, x40_53, x40_59, r40_17_l, s40_17_0, s40_17_1, x40_62, r40_18_l, s40_18_0, s40_18_1, s40_18_2, s40_18_3, s40_18_4, s40_18_5, x40_65, r40_19_l, s40_19_0, s40_19_1, s40_19_2, s40_19_3, s40_19_4, s40_19_5, s40_19_6, x40_67, r40_20_l, s40_20_0, s40_20_1, s40_20_2, s40_20_3, s40_20_4, s40_20_5, s40_20_6, s40_20_7, s40_20_8, x40_68, r40_21_l, s40_21_0, s40_21_1, s40_21_2, s40_21_3, s40_21_4, s40_21_5, s40_21_6, s40_21_7, s40_21_8, x40_66, x40_64, x40_69, x40_63, x40_61, x40_70, r40_22_l, s40_22_0, s40_22_1, s40_22_2, x40_60, x40_58, x40_57, x40_71, r40_23_l, s40_23_0, s40_23_1, x40_56, x40_52, x40_50, g1, hat, hlen, hsn2, hsh, ha, he, hbit, w, hpi, hpk, hpl, callV_eq (hm _ _), fi_111, room64 (show 1 ≤ 1000000 by omega), wrp_succ (show k < 1000000 by omega)]
        exact ⟨_, rfl, headA_box (refs_ints _ dcs_int) rfl rfl⟩
      · obtain ⟨m, hml⟩ : ∃ m, es.length = m + 1 := ⟨es.length - 1, by omega⟩
        have hl2 : (es ++ [((i : Int), (k : Int))]).length = m + 1 + 1 := by simp [hml]
        have ev : ∀ g, bV g (m + 1) = .ref g 0 (m + 1) (m + 1) ((m + 1) * 2) 2 false := fun g => if_neg (by omega)
        have ev2 : ∀ g, bV g (m + 1 + 1) = .ref g 0 (m + 1 + 1) (m + 1 + 1) ((m + 1 + 1) * 2) 2 false := fun g => if_neg (by omega)
        have eh : ∀ g, bH g es = [(g, ⟨.row, cls bc es⟩)] := fun g => if_neg hz
        have eh2 : ∀ g, bH g (es ++ [((i : Int), (k : Int))]) = [(g, ⟨.row, cls bc (es ++ [((i : Int), (k : Int))])⟩)] := fun g => if_neg (by omega)
        have hte : List.take ((m + 1) * 2) (cls bc es) = cls bc es := List.take_of_length_le (by omega)
        have nm : ¬ m + 1 + 1 ≤ m + 1 := by omega
        rw [hml] at hec
        refine ⟨g, hg, ?_⟩
        simp only [m2S, mdH, hml, hl2, ev, ev2, eh, eh2]
        generalize cls bc (es ++ [((i : Int), (k : Int))]) = ce2 at *
        generalize cls bc es = ce at *
        rcases hg with rfl | rfl
        · simp (disch := omega) only [condX_bool, blockX_normal, run_nil, run_cons, fget_cons', fput_cons', forget_nil, forget_cons', hget_nil', hget_cons', hset_nil', hset_cons', gcM_n, gcM_c, stp, justO, just, Rd.bind, Rd.run, Rd.opt, upds, acells, zeroCells, tsz, elemT, rdCells, fieldOf, aFieldAddr, aLoad, aStore, opStore, fresh, aBuiltin, aBin, aInt, putC, evO, Nat.reduceAdd, Nat.reduceMul, Nat.reduceLT, Nat.reduceGT, Nat.reduceBEq, Nat.reduceEqDiff, Nat.reduceLeDiff, ↓reduceIte, reduceCtorEq, liveBlk_eq, Nat.zero_add, ne_eq, beq_iff_eq, List.nil_append, List.getElem?_toArray, Bool.and_true, decide_true, decide_false, not_true_eq_false, or_self, aBuildSlice, partsOf, fillA, repC, isSliceT, aAppend, srcOf, window, putD_some, putD_none, and_true, aCall, snaps, List.append_nil, Option.map_some, List.elem_cons, List.elem_nil, List.length_cons, List.length_nil, List.getElem?_cons_zero, List.getElem?_cons_succ, List.drop_zero, List.take_succ_cons, List.take_nil, List.set_cons_zero, List.set_cons_succ, frz_nil, seqN, bindN, regN, snap_int, snap_ref, snap_ptr', aBuild, opCallV, List.cons_append, Nat.le_refl, Nat.mul_one, Nat.zero_mul, beq_self_eq_true, Nat.lt_irrefl, Bool.false_eq_true, T_3, T_23, T_25, T_64, T_55, T_58, beq_self_eq_true, x40_51, r40_16_l, s40_16_0, x40_54, x40_55, x40_53, x40_59, r40_17_l, s40_17_0, s40_17_1, x40_62, r40_18_l, s40_18_0, s40_18_1, s40_18_2, s40_18_3, s40_18_4, s40_18_5, x40_65, r40_19_l, s40_19_0, s40_19_1, s40_19_2, s40_19_3, s40_19_4, s40_19_5, s40_19_6, x40_67, r40_20_l, s40_20_0, s40_20_1, s40_20_2, s40_20_3, s40_20_4, s40_20_5, s40_20_6, s40_20_7, s40_20_8, x40_68, r40_21_l, s40_21_0, s40_21_1, s40_21_2, s40_21_3, s40_21_4, s40_21_5, s40_21_6, s40_21_7, s40_21_8, x40_66, x40_64, x40_69, x40_63, x40_61, x40_70, r40_22_l, s40_22_0, s40_22_1, s40_22_2, x40_60, x40_58, x40_57, x40_71, r40_23_l, s40_23_0, s40_23_1, x40_56, x40_52, x40_50, g1, hat, hlen, hsn2, hsh, ha, he, hbit, w, hpi, hpk, hpl, callV_eq (hm _ _), fi_111, hec, hte, nm, hsnoc, room64 (show m + 1 + 1 ≤ 1000000 by omega), wrp_succ (show k < 1000000 by omega)]
          exact ⟨_, rfl, headA_box (refs_ints _ dcs_int) rfl rfl⟩
        · simp (disch := omega) only [condX_bool, blockX_normal, run_nil, run_cons, fget_cons', fput_cons', forget_nil, forget_cons', hget_nil', hget_cons', hset_cons', gcM_n, gcM_c, stp, justO, just, Rd.bind, Rd.run, Rd.opt, upds, acells, zeroCells, tsz, elemT, rdCells, fieldOf, aFieldAddr, aLoad, aStore, opStore, fresh, aBuiltin, aBin, aInt, putC, evO, Nat.reduceAdd, Nat.reduceMul, Nat.reduceLT, Nat.reduceGT, Nat.reduceBEq, Nat.reduceEqDiff, Nat.reduceLeDiff, ↓reduceIte, reduceCtorEq, liveBlk_eq, Nat.zero_add, ne_eq, beq_iff_eq, List.nil_append, List.getElem?_toArray, Bool.and_true, decide_true, decide_false, not_true_eq_false, or_self, aBuildSlice, partsOf, fillA, repC, isSliceT, aAppend, srcOf, window, putD_some, putD_none, and_true, aCall, snaps, List.append_nil, Option.map_some, List.elem_cons, List.elem_nil, List.length_cons, List.length_nil, List.getElem?_cons_zero, List.getElem?_cons_succ, List.drop_zero, List.take_succ_cons, List.take_nil, List.set_cons_zero, List.set_cons_succ, frz_nil, seqN, bindN, regN, snap_int, snap_ref, snap_ptr', aBuild, opCallV, List.cons_append, Nat.le_refl, Nat.mul_one, Nat.zero_mul, beq_self_eq_true, Nat.lt_irrefl, Bool.false_eq_true, T_3, T_23, T_25, T_64, T_55, T_58, beq_self_eq_true, x40_51, r40_16_l, s40_16_0, x40_54, x40_55, x40_53, x40_59, r40_17_l, s40_17_0, s40_17_1, x40_62, r40_18_l, s40_18_0, s40_18_1, s40_18_2, s40_18_3, s40_18_4, s40_18_5, x40_65, r40_19_l, s40_19_0, s40_19_1, s40_19_2, s40_19_3, s40_19_4, s40_19_5, s40_19_6, x40_67, r40_20_l, s40_20_0, s40_20_1, s40_20_2, s40_20_3, s40_20_4, s40_20_5, s40_20_6, s40_20_7, s40_20_8, x40_68, r40_21_l, s40_21_0, s40_21_1, s40_21_2, s40_21_3, s40_21_4, s40_21_5, s40_21_6, s40_21_7, s40_21_8, x40_66, x40_64, x40_69, x40_63, x40_61, x40_70, r40_22_l, s40_22_0, s40_22_1, s40_22_2, x40_60, x40_58, x40_57, x40_71, r40_23_l, s40_23_0, s40_23_1, x40_56, x40_52, x40_50, g1, hat, hlen, hsn2, hsh, ha, he, hbit, w, hpi, hpk, hpl, callV_eq (hm _ _), fi_111, hec, hte, nm, hsnoc, room64 (show m + 1 + 1 ≤ 1000000 by omega), wrp_succ (show k < 1000000 by omega)]
          exact ⟨_, rfl, headA_box (refs_ints _ dcs_int) rfl rfl⟩
  · have e : pOf D (bit + k) i k = [] := by unfold pOf; rw [if_neg hbit]
    have hbit : D.pairs.testBit (bit + k) = false := by simpa using hbit
    rw [e, List.append_nil]
    refine ⟨g, hg, ?_⟩
    by_cases hz : es.length = 0
    · have ev : ∀ g, bV g es.length = .nilsl := fun g => if_pos hz
      have eh : ∀ g, bH g es = [] := fun g => if_pos hz
      simp only [m2S, mdH, ev, eh]
      simp (disch := omega) only [condX_bool, blockX_normal, run_nil, run_cons, fget_cons', fput_cons', forget_nil, forget_cons', hget_cons', gcM_n, gcM_c, stp, just, Rd.bind, Rd.run, Rd.opt, upds, rdCells, fieldOf, aFieldAddr, aLoad, aBin, aInt, Nat.reduceMul, Nat.reduceBEq, Nat.reduceEqDiff, Nat.reduceLeDiff, ↓reduceIte, liveBlk_eq, Nat.zero_add, beq_iff_eq, decide_true, putD_some, List.elem_cons, List.elem_nil, List.getElem?_cons_zero, List.getElem?_cons_succ, seqN, bindN, regN, beq_self_eq_true, Bool.false_eq_true, T_55, T_58, beq_self_eq_true, x40_51, r40_16_l, s40_16_0, x40_54, x40_55, x40_53, x40_59, r40_17_l, s40_17_0, s40_17_1, x40_62, r40_18_l, s40_18_0, s40_18_1, s40_18_2, s40_18_3, s40_18_4, s40_18_5, x40_65, r40_19_l, s40_19_0, s40_19_1, s40_19_2, x40_64, x40_69, x40_63, x40_61, x40_70, r40_22_l, s40_22_0, s40_22_1, s40_22_2, x40_60, x40_58, x40_57, x40_71, r40_23_l, s40_23_0, s40_23_1, x40_56, x40_52, x40_50, g1, hat, hlen, hsh, ha, he, hbit, w, wrp_succ (show k < 1000000 by omega)]
      exact ⟨_, rfl, headA_box (refs_ints _ dcs_int) rfl rfl⟩
    · have ev : ∀ g, bV g es.length = .ref g 0 es.length es.length (es.length * 2) 2 false := fun g => if_neg hz
      have eh : ∀ g, bH g es = [(g, ⟨.row, cls bc es⟩)] := fun g => if_neg hz
      simp only [m2S, mdH, ev, eh]
      simp (disch := omega) only [condX_bool, blockX_normal, run_nil, run_cons, fget_cons', fput_cons', forget_nil, forget_cons', hget_cons', gcM_n, gcM_c, stp, just, Rd.bind, Rd.run, Rd.opt, upds, rdCells, fieldOf, aFieldAddr, aLoad, aBin, aInt, Nat.reduceMul, Nat.reduceBEq, Nat.reduceEqDiff, Nat.reduceLeDiff, ↓reduceIte, liveBlk_eq, Nat.zero_add, beq_iff_eq, decide_true, putD_some, List.elem_cons, List.elem_nil, List.getElem?_cons_zero, List.getElem?_cons_succ, seqN, bindN, regN, beq_self_eq_true, Bool.false_eq_true, T_55, T_58, beq_self_eq_true, x40_51, r40_16_l, s40_16_0, x40_54, x40_55, x40_53, x40_59, r40_17_l, s40_17_0, s40_17_1, x40_62, r40_18_l, s40_18_0, s40_18_1, s40_18_2, s40_18_3, s40_18_4, s40_18_5, x40_65, r40_19_l, s40_19_0, s40_19_1, s40_19_2, x40_64, x40_69, x40_63, x40_61, x40_70, r40_22_l, s40_22_0, s40_22_1, s40_22_2, x40_60, x40_58, x40_57, x40_71, r40_23_l, s40_23_0, s40_23_1, x40_56, x40_52, x40_50, g1, hat, hlen, hsh, ha, he, hbit, w, wrp_succ (show k < 1000000 by omega)]
      rcases hg with rfl | rfl
      · exact ⟨_, rfl, headA_box (refs_ints _ dcs_int) rfl rfl⟩
      · exact ⟨_, rfl, headA_box (refs_ints _ dcs_int) rfl rfl⟩
end Go.AM.YtgfnbmfjbjopkaaDoor
end

section
namespace Go.AM.YtgfnbmfjbjopkaaDoor
open Go Go.AM Go.AM.Mule
set_option maxRecDepth 100000
set_option maxHeartbeats 8000000
abbrev m3S (D : Dro) (n g i bit : Nat) (es : List Pr) : St :=
  ([(68, .int .i64 i), (67, .int .i64 n), (11, .int .i64 bit), (10, .clo 111 [.ptr 2 0 38]), (5, .ptr 5 0 2), (4, .ptr 4 0 2), (2, .ptr 2 0 38)], mdH D n g es)
theorem bVH (g : Nat) (es : List Pr) : (bV g es.length = .nilsl ∧ bH g es = []) ∨ (bV g es.length = .ref g 0 es.length es.length (es.length * 2) 2 false ∧ bH g es = [(g, ⟨.row, cls bc es⟩)]) := by
  by_cases h : es.length = 0
  · exact .inl ⟨if_pos h, if_pos h⟩
  · exact .inr ⟨if_neg h, if_neg h⟩
theorem m2_head {D : Dro} {n g i bit k : Nat} {es : List Pr} (hg : g = 94 ∨ g = 102) : headA [] (m2S D n g i bit es k) = m2S D n g i bit es k := by
  simp only [m2S, mdH]
  rcases bVH g es with ⟨e1, e2⟩ | ⟨e1, e2⟩ <;> rw [e1, e2]
  · exact headA_box (refs_ints _ dcs_int) rfl rfl
  · rcases hg with rfl | rfl <;> exact headA_box (refs_ints _ dcs_int) rfl rfl
theorem m3_go {C : Callee} {D : Dro} (hC : MdC C D) (h : DOk D) {n g i : Nat} (hn : n ≤ 6) (hi : i < n) (hg : g = 94 ∨ g = 102) :
    ∃ s', (execA E C (fg 40) 0 109 [] 1000 c40_36) (m3S D n g i (mdE D i).2 (mdE D i).1) = some (.normal, s') ∧ ∃ g2, (g2 = 94 ∨ g2 = 102) ∧ headA [] s' = m3S D n g2 (i + 1) (mdE D (i + 1)).2 (mdE D (i + 1)).1 := by
  have hb := mdE_15 D (i + 1) (by omega)
  have hel := mdE_len D i
  simp only [mdE] at hb
  obtain ⟨se, hloop, g2, hg2, rfl⟩ := iter_inv (f := (execA E C (fg 40) 0 109 [] 1000 c40_50)) (hd := headA []) (e := .exit 4)
    (P := fun k st => ∃ g, (g = 94 ∨ g = 102) ∧ st = m2S D n g i ((mdE D i).2 + k) ((mdE D i).1 ++ mdI D i (mdE D i).2 k) k)
    (Q := fun st => ∃ g, (g = 94 ∨ g = 102) ∧ st = ([(73, .bool false), (72, .int .i64 i), (71, .int .i64 i), (68, .int .i64 i), (67, .int .i64 n), (12, .int .i64 i), (11, .int .i64 ((mdE D i).2 + i : Nat)), (10, .clo 111 [.ptr 2 0 38]), (5, .ptr 5 0 2), (4, .ptr 4 0 2), (2, .ptr 2 0 38)], mdH D n g (mdE D (i + 1)).1))
    (by simp) i 1000 0 (m2S D n g i (mdE D i).2 (mdE D i).1 0) ⟨g, hg, by rw [m2_head hg]; simp [mdI]⟩ (by omega)
    (fun k st _ hk hP => by
      obtain ⟨g, hg, rfl⟩ := hP
      have hml := mdI_len D i (mdE D i).2 k
      obtain ⟨s', a1, g2, a2, a3⟩ := m2_go (bit := (mdE D i).2) hC h hn hi k (by omega) (by omega) (by rw [List.length_append]; omega) hg (es := (mdE D i).1 ++ mdI D i (mdE D i).2 k)
      refine ⟨s', a1, g2, a2, ?_⟩
      rw [a3, List.append_assoc]
      rfl)
    (fun st hP => by
      obtain ⟨g, hg, rfl⟩ := hP
      rw [Nat.zero_add]
      refine ⟨_, ?_, g, hg, rfl⟩
      rw [show (mdE D i).1 ++ mdI D i (mdE D i).2 i = (mdE D (i + 1)).1 from rfl]
      generalize (mdE D (i + 1)).1 = es2 at *
      generalize (mdE D i).2 + i = b2 at *
      simp only [m2S, mdH]
      rcases bVH g es2 with ⟨e1, e2⟩ | ⟨e1, e2⟩ <;> rw [e1, e2]
      · simp (disch := omega) only [seqX_exit, condX_bool, run_nil, run_cons, fget_cons', fput_cons', forget_nil, forget_cons', gcM_n, stp, just, Rd.bind, Rd.run, Rd.opt, upds, aBin, aInt, Nat.reduceEqDiff, Nat.reduceLeDiff, ↓reduceIte, decide_false, putD_some, List.elem_nil, seqN, bindN, regN, Int.lt_irrefl, Bool.false_eq_true, x40_51, r40_16_l, s40_16_0, x40_54, x40_55, x40_53, x40_52, x40_50]
      · rcases hg with rfl | rfl
        · simp (disch := omega) only [seqX_exit, condX_bool, run_nil, run_cons, fget_cons', fput_cons', forget_nil, forget_cons', gcM_n, stp, just, Rd.bind, Rd.run, Rd.opt, upds, aBin, aInt, Nat.reduceEqDiff, Nat.reduceLeDiff, ↓reduceIte, decide_false, putD_some, List.elem_nil, seqN, bindN, regN, Int.lt_irrefl, Bool.false_eq_true, x40_51, r40_16_l, s40_16_0, x40_54, x40_55, x40_53, x40_52, x40_50]
        · simp (disch := omega) only [seqX_exit, condX_bool, run_nil, run_cons, fget_cons', fput_cons', forget_nil, forget_cons', gcM_n, stp, just, Rd.bind, Rd.run, Rd.opt, upds, aBin, aInt, Nat.reduceEqDiff, Nat.reduceLeDiff, ↓reduceIte, decide_false, putD_some, List.elem_nil, seqN, bindN, regN, Int.lt_irrefl, Bool.false_eq_true, x40_51, r40_16_l, s40_16_0, x40_54, x40_55, x40_53, x40_52, x40_50])
  have e2 : (mdE D (i + 1)).2 = (mdE D i).2 + i := rfl
  suffices key : ∃ s', (execA E C (fg 40) 0 109 [] 1000 c40_36) (m3S D n g i (mdE D i).2 (mdE D i).1) = some (.normal, s') ∧ headA [] s' = m3S D n g2 (i + 1) (mdE D (i + 1)).2 (mdE D (i + 1)).1 by
    obtain ⟨s', b, c⟩ := key
    exact ⟨s', b, g2, hg2, c⟩
  rw [e2]
  have g1 : (i : Int) < n := by omega
  generalize (mdE D (i + 1)).1 = es2 at *
  generalize (mdE D i).2 + i = b2 at *
  generalize (mdE D i).2 = b1 at *
  generalize (mdE D i).1 = es1 at *
  simp only [m3S, m2S, mdH, cl0] at hloop ⊢
  rcases bVH g es1 with ⟨e1, e2⟩ | ⟨e1, e2⟩ <;> rw [e1, e2] at hloop ⊢ <;> rcases bVH g2 es2 with ⟨e3, e4⟩ | ⟨e3, e4⟩ <;> rw [e3, e4] at hloop ⊢
  · simp (disch := omega) only [condX_bool, blockX_exit, blockX_normal, run_nil, run_cons, fget_cons', fput_cons', forget_nil, forget_cons', gcM_n, gcM_c, stp, just, Rd.bind, Rd.run, Rd.opt, upds, aBin, aInt, Nat.reduceBEq, Nat.reduceEqDiff, Nat.reduceLeDiff, ↓reduceIte, decide_true, putD_some, List.elem_cons, List.elem_nil, seqN, bindN, regN, beq_self_eq_true, Bool.false_eq_true, beq_self_eq_true, x40_37, r40_13_l, s40_13_0, x40_40, x40_41, x40_39, x40_45, r40_14_l, s40_14_0, s40_14_1, x40_47, r40_15_l, s40_15_0, s40_15_1, x40_49, x40_48, x40_46, x40_44, x40_43, x40_72, r40_24_l, s40_24_0, s40_24_1, x40_42, x40_38, x40_36, g1, hloop, wrp_succ (show i < 1000000 by omega)]
    exact ⟨_, rfl, headA_box (refs_ints _ dcs_int) rfl rfl⟩
  · simp (disch := omega) only [condX_bool, blockX_exit, blockX_normal, run_nil, run_cons, fget_cons', fput_cons', forget_nil, forget_cons', gcM_n, gcM_c, stp, just, Rd.bind, Rd.run, Rd.opt, upds, aBin, aInt, Nat.reduceBEq, Nat.reduceEqDiff, Nat.reduceLeDiff, ↓reduceIte, decide_true, putD_some, List.elem_cons, List.elem_nil, seqN, bindN, regN, beq_self_eq_true, Bool.false_eq_true, beq_self_eq_true, x40_37, r40_13_l, s40_13_0, x40_40, x40_41, x40_39, x40_45, r40_14_l, s40_14_0, s40_14_1, x40_47, r40_15_l, s40_15_0, s40_15_1, x40_49, x40_48, x40_46, x40_44, x40_43, x40_72, r40_24_l, s40_24_0, s40_24_1, x40_42, x40_38, x40_36, g1, hloop, wrp_succ (show i < 1000000 by omega)]
    rcases hg2 with rfl | rfl <;> exact ⟨_, rfl, headA_box (refs_ints _ dcs_int) rfl rfl⟩
  · simp (disch := omega) only [condX_bool, blockX_exit, blockX_normal, run_nil, run_cons, fget_cons', fput_cons', forget_nil, forget_cons', gcM_n, gcM_c, stp, just, Rd.bind, Rd.run, Rd.opt, upds, aBin, aInt, Nat.reduceBEq, Nat.reduceEqDiff, Nat.reduceLeDiff, ↓reduceIte, decide_true, putD_some, List.elem_cons, List.elem_nil, seqN, bindN, regN, beq_self_eq_true, Bool.false_eq_true, beq_self_eq_true, x40_37, r40_13_l, s40_13_0, x40_40, x40_41, x40_39, x40_45, r40_14_l, s40_14_0, s40_14_1, x40_47, r40_15_l, s40_15_0, s40_15_1, x40_49, x40_48, x40_46, x40_44, x40_43, x40_72, r40_24_l, s40_24_0, s40_24_1, x40_42, x40_38, x40_36, g1, hloop, wrp_succ (show i < 1000000 by omega)]
    exact ⟨_, rfl, headA_box (refs_ints _ dcs_int) rfl rfl⟩
  · simp (disch := omega) only [condX_bool, blockX_exit, blockX_normal, run_nil, run_cons, fget_cons', fput_cons', forget_nil, forget_cons', gcM_n, gcM_c, stp, just, Rd.bind, Rd.run, Rd.opt, upds, aBin, aInt, Nat.reduceBEq, Nat.reduceEqDiff, Nat.reduceLeDiff, ↓reduceIte, decide_true, putD_some, List.elem_cons, List.elem_nil, seqN, bindN, regN, beq_self_eq_true, Bool.false_eq_true, beq_self_eq_true, x40_37, r40_13_l, s40_13_0, x40_40, x40_41, x40_39, x40_45, r40_14_l, s40_14_0, s40_14_1, x40_47, r40_15_l, s40_15_0, s40_15_1, x40_49, x40_48, x40_46, x40_44, x40_43, x40_72, r40_24_l, s40_24_0, s40_24_1, x40_42, x40_38, x40_36, g1, hloop, wrp_succ (show i < 1000000 by omega)]
    rcases hg2 with rfl | rfl <;> exact ⟨_, rfl, headA_box (refs_ints _ dcs_int) rfl rfl⟩
/-- A caravan by numbers. -/
def mdP (D : Dro) (n : Nat) : List Pr := (mdE D n).1
theorem mdP_len {D : Dro} {n : Nat} (hn : n ≤ 6) : (mdP D n).length ≤ 15 := Nat.le_trans (mdE_len D n) (mdE_15 D n hn)
theorem made_run {d : Nat} {D : Dro} (h : DOk D) {many : Int} (hm : many = 5 ∨ many = 6) :
    ∃ g H', (g = 94 ∨ g = 102) ∧ bodyA E (callA E fg 1000 (d + 1)) fg 1000 40 [.agg (dcs D), .int .i64 many] [] 0 = some (.agg [.ref 60 0 (nOf D many) (nOf D many) (nOf D many * 5) 5 false, bV g (mdP D (nOf D many)).length], H') ∧
      hget H' 60 = some ⟨.row, cls lc (mdL D (nOf D many))⟩ ∧ ((mdP D (nOf D many)).length ≠ 0 → hget H' g = some ⟨.row, cls bc (mdP D (nOf D many))⟩) := by
  have hC := mdC h d
  obtain ⟨n1, n2⟩ := nOf_b h hm
  have hn6 : nOf D many ≤ 6 := by rcases hm with rfl | rfl <;> omega
  obtain ⟨m0, m1⟩ := h.many
  have hmany : (dcs D)[0]? = some (.int .u8 D.many) := rfl
  have hlen := dcs_len h
  have wm : wrp .i64 D.many = D.many := wrp64 (by omega)
  have hne : ¬ many = 0 := by omega
  have r1 : D.many.tmod many = D.many % many := Int.tmod_eq_emod_of_nonneg m0
  have wn : wrp .i64 (1 + D.many % many) = (nOf D many : Int) := by
    have e1 := Int.emod_nonneg D.many hne
    have e2 := Int.emod_lt_of_pos D.many (show 0 < many by omega)
    unfold nOf
    rw [wrp64 (by omega)]; omega
  generalize nOf D many = n at *
  generalize callA E fg 1000 (d + 1) = C at *
  have hl1 := loopN (f := (execA E C (fg 40) 0 109 [] 1000 c40_9)) (fun i => m1S D n i) n (fun i hi => m1_go h hn6 i hi) (headA_box (refs_ints _ dcs_int) rfl rfl) (by omega)
    (e := .exit 0) (se := ([(24, .bool false), (23, .int .i64 n), (22, .int .i64 n), (21, .ref 2 1 n 6 38 5 true), (5, .ptr 5 0 2), (4, .ptr 4 0 2), (2, .ptr 2 0 38)],
      [(2, ⟨.box, dcs D⟩), (4, ⟨.box, [.nilsl, .nilsl]⟩), (5, ⟨.box, [.ref 60 0 n n (n * 5) 5 false, .nilsl]⟩), (60, ⟨.row, cls lc (mdL D n)⟩)]))
    (by
      have hoH : oH 60 (cls lc (mdL D n)) = [(60, ⟨.row, cls lc (mdL D n)⟩)] := oH_ne 60 (by rw [cls_length lc_len, mdL_len h hn6]; omega)
      have hov : oV 60 5 n = .ref 60 0 n n (n * 5) 5 false := by
        obtain ⟨m, rfl⟩ : ∃ m, n = m + 1 := ⟨n - 1, by omega⟩
        rfl
      simp only [m1S, hoH, hov]
      simp (disch := omega) only [seqX_exit, condX_bool, run_nil, run_cons, fget_cons', fput_cons', forget_nil, forget_cons', gcM_n, stp, just, Rd.bind, Rd.run, Rd.opt, upds, aBin, aInt, Nat.reduceEqDiff, Nat.reduceLeDiff, ↓reduceIte, decide_false, putD_some, List.elem_nil, seqN, bindN, regN, Int.lt_irrefl, Bool.false_eq_true, x40_10, r40_3_l, s40_3_0, x40_13, x40_14, x40_12, x40_11, x40_9]) (by simp)
  obtain ⟨se, hl2, g, hg, rfl⟩ := iter_inv (f := (execA E C (fg 40) 0 109 [] 1000 c40_36)) (hd := headA []) (e := .exit 2)
    (P := fun i st => ∃ g, (g = 94 ∨ g = 102) ∧ st = m3S D n g i (mdE D i).2 (mdE D i).1)
    (Q := fun st => ∃ g, (g = 94 ∨ g = 102) ∧ st = ([(69, .bool false), (68, .int .i64 n), (67, .int .i64 n), (11, .int .i64 ((mdE D n).2 : Nat)), (10, .clo 111 [.ptr 2 0 38]), (5, .ptr 5 0 2), (4, .ptr 4 0 2), (2, .ptr 2 0 38)], mdH D n g (mdP D n)))
    (by simp) n 1000 0 (m3S D n 94 0 0 []) ⟨94, .inl rfl, by
      show headA [] (m3S D n 94 0 0 []) = m3S D n 94 0 0 []
      exact headA_box (refs_ints _ dcs_int) rfl rfl⟩ (by omega)
    (fun i st _ hi hP => by
      obtain ⟨g, hg, rfl⟩ := hP
      exact m3_go hC h hn6 (by omega) hg)
    (fun st hP => by
      obtain ⟨g, hg, rfl⟩ := hP
      rw [Nat.zero_add]
      refine ⟨_, ?_, g, hg, rfl⟩
      rw [show (mdE D n).1 = mdP D n from rfl]
      generalize mdP D n = es2 at *
      generalize (mdE D n).2 = b2 at *
      simp only [m3S, mdH]
      rcases bVH g es2 with ⟨e1, e2⟩ | ⟨e1, e2⟩ <;> rw [e1, e2]
      · simp (disch := omega) only [seqX_exit, condX_bool, run_nil, run_cons, fget_cons', fput_cons', forget_nil, forget_cons', gcM_n, stp, just, Rd.bind, Rd.run, Rd.opt, upds, aBin, aInt, Nat.reduceEqDiff, Nat.reduceLeDiff, ↓reduceIte, decide_false, putD_some, List.elem_nil, seqN, bindN, regN, Int.lt_irrefl, Bool.false_eq_true, x40_37, r40_13_l, s40_13_0, x40_40, x40_41, x40_39, x40_38, x40_36]
      · rcases hg with rfl | rfl
        · simp (disch := omega) only [seqX_exit, condX_bool, run_nil, run_cons, fget_cons', fput_cons', forget_nil, forget_cons', gcM_n, stp, just, Rd.bind, Rd.run, Rd.opt, upds, aBin, aInt, Nat.reduceEqDiff, Nat.reduceLeDiff, ↓reduceIte, decide_false, putD_some, List.elem_nil, seqN, bindN, regN, Int.lt_irrefl, Bool.false_eq_true, x40_37, r40_13_l, s40_13_0, x40_40, x40_41, x40_39, x40_38, x40_36]
        · simp (disch := omega) only [seqX_exit, condX_bool, run_nil, run_cons, fget_cons', fput_cons', forget_nil, forget_cons', gcM_n, stp, just, Rd.bind, Rd.run, Rd.opt, upds, aBin, aInt, Nat.reduceEqDiff, Nat.reduceLeDiff, ↓reduceIte, decide_false, putD_some, List.elem_nil, seqN, bindN, regN, Int.lt_irrefl, Bool.false_eq_true, x40_37, r40_13_l, s40_13_0, x40_40, x40_41, x40_39, x40_38, x40_36])
  have hll : (cls lc (mdL D n)).length = n * 5 := by rw [cls_length lc_len, mdL_len h hn6]
  have gn : (n : Int) ≤ 6 := by omega
  have gn2 : n ≤ 6 := hn6
  have ho1 : 1 + 30 ≤ 38 := by omega
  rw [show m1S D n 0 = ([(23, .int .i64 0), (22, .int .i64 n), (21, .ref 2 1 n 6 38 5 true), (5, .ptr 5 0 2), (4, .ptr 4 0 2), (2, .ptr 2 0 38)], [(2, ⟨.box, dcs D⟩), (4, ⟨.box, [.nilsl, .nilsl]⟩), (5, ⟨.box, [.nilsl, .nilsl]⟩)]) from rfl] at hl1
  rw [show m3S D n 94 0 0 [] = ([(68, .int .i64 0), (67, .int .i64 n), (11, .int .i64 0), (10, .clo 111 [.ptr 2 0 38]), (5, .ptr 5 0 2), (4, .ptr 4 0 2), (2, .ptr 2 0 38)], [(2, ⟨.box, dcs D⟩), (4, ⟨.box, [.nilsl, .nilsl]⟩), (5, ⟨.box, [.ref 60 0 n n (n * 5) 5 false, .nilsl]⟩), (60, ⟨.row, cls lc (mdL D n)⟩)]) from rfl] at hl2
  refine ⟨g, ?_⟩
  simp only [mdH] at hl2
  rcases bVH g (mdP D n) with ⟨e1, e2⟩ | ⟨e1, e2⟩
  · rw [e1, e2] at hl2
    rw [e1]
    have h0 : (mdP D n).length = 0 := by
      refine Classical.byContradiction fun hc => ?_
      have : bV g (mdP D n).length = .ref g 0 (mdP D n).length (mdP D n).length ((mdP D n).length * 2) 2 false := if_neg hc
      rw [e1] at this
      exact absurd this (by simp)
    generalize dcs D = dc at *
    simp (disch := omega) only [blockX_exit, bodyX_ret, run_nil, run_cons, fget_cons', fput_cons', forget_nil, forget_cons', hget_nil', hget_cons', hset_nil', hset_cons', frame0, gcM_n, gcM_c, stp, opBox, justO, just, Rd.bind, Rd.run, Rd.opt, upds, acells, zeroCells, tsz, rdCells, fieldOf, aFieldAddr, aLoad, aStore, opStore, resA, resL, fresh, aNum, aLen, aBuiltin, aBin, aInt, putC, Nat.reduceAdd, Nat.reduceMul, Nat.reduceLT, Nat.reduceBEq, Nat.reduceEqDiff, Nat.reduceLeDiff, ↓reduceIte, reduceCtorEq, liveBlk_eq, Nat.zero_add, Nat.add_zero, ne_eq, List.getElem?_toArray, Bool.and_true, decide_true, putD_some, putD_none, and_true, true_and, Int.natCast_nonneg, Int.toNat_natCast, snaps, List.append_nil, Option.map_some, List.elem_cons, List.elem_nil, List.length_cons, List.length_nil, List.getElem?_cons_zero, List.getElem?_cons_succ, List.drop_zero, List.take_succ_cons, List.take_nil, List.set_cons_zero, List.set_cons_succ, seqN, bindN, regN, snap_nilsl, snap_ref, aConv, aSlice, aBounds, bMax, bHigh, bLow, Nat.le_refl, Nat.sub_zero, Nat.zero_mul, beq_self_eq_true, Bool.false_eq_true, Option.getD_none, T_3, T_22, T_25, T_5, T_53, T_54, T_58, T_135, beq_self_eq_true, x40_1, r40_0_l, s40_0_0, s40_0_1, x40_3, r40_1_l, s40_1_0, x40_6, r40_2_l, s40_2_0, s40_2_1, s40_2_2, s40_2_3, s40_2_4, s40_2_5, s40_2_6, s40_2_7, s40_2_8, s40_2_9, x40_8, x40_7, x40_5, x40_26, r40_9_l, s40_9_0, s40_9_1, s40_9_2, s40_9_3, x40_28, r40_10_l, s40_10_0, s40_10_1, x40_30, r40_11_l, s40_11_0, x40_33, r40_12_l, s40_12_0, s40_12_1, x40_35, x40_34, x40_32, x40_74, r40_25_l, s40_25_0, s40_25_1, x40_75, x40_73, x40_31, x40_29, x40_27, x40_25, x40_4, x40_2, x40_0, b_40, hmany, hlen, wm, hne, r1, wn, ho1, hl1, hl2, hll, if_pos]
    exact ⟨_, hg, rfl, rfl, fun hc => absurd h0 hc⟩
  · rw [e1, e2] at hl2
    rw [e1]
    generalize dcs D = dc at *
    rcases hg with rfl | rfl
    · simp (disch := omega) only [blockX_exit, bodyX_ret, run_nil, run_cons, fget_cons', fput_cons', forget_nil, forget_cons', hget_nil', hget_cons', hset_nil', hset_cons', frame0, gcM_n, gcM_c, stp, opBox, justO, just, Rd.bind, Rd.run, Rd.opt, upds, acells, zeroCells, tsz, rdCells, fieldOf, aFieldAddr, aLoad, aStore, opStore, resA, resL, fresh, aNum, aLen, aBuiltin, aBin, aInt, putC, Nat.reduceAdd, Nat.reduceMul, Nat.reduceLT, Nat.reduceBEq, Nat.reduceEqDiff, Nat.reduceLeDiff, ↓reduceIte, reduceCtorEq, liveBlk_eq, Nat.zero_add, Nat.add_zero, ne_eq, List.getElem?_toArray, Bool.and_true, decide_true, or_false, putD_some, putD_none, and_true, true_and, Int.natCast_nonneg, Int.toNat_natCast, snaps, List.append_nil, Option.map_some, List.elem_cons, List.elem_nil, List.length_cons, List.length_nil, List.getElem?_cons_zero, List.getElem?_cons_succ, List.drop_zero, List.take_succ_cons, List.take_nil, List.set_cons_zero, List.set_cons_succ, seqN, bindN, regN, snap_ref, aConv, aSlice, aBounds, bMax, bHigh, bLow, Nat.le_refl, Nat.sub_zero, Nat.zero_mul, beq_self_eq_true, Bool.false_eq_true, Option.getD_none, T_3, T_22, T_25, T_5, T_53, T_54, T_58, T_135, beq_self_eq_true, x40_1, r40_0_l, s40_0_0, s40_0_1, x40_3, r40_1_l, s40_1_0, x40_6, r40_2_l, s40_2_0, s40_2_1, s40_2_2, s40_2_3, s40_2_4, s40_2_5, s40_2_6, s40_2_7, s40_2_8, s40_2_9, x40_8, x40_7, x40_5, x40_26, r40_9_l, s40_9_0, s40_9_1, s40_9_2, s40_9_3, x40_28, r40_10_l, s40_10_0, s40_10_1, x40_30, r40_11_l, s40_11_0, x40_33, r40_12_l, s40_12_0, s40_12_1, x40_35, x40_34, x40_32, x40_74, r40_25_l, s40_25_0, s40_25_1, x40_75, x40_73, x40_31, x40_29, x40_27, x40_25, x40_4, x40_2, x40_0, b_40, hmany, hlen, wm, hne, r1, wn, ho1, hl1, hl2, hll, if_pos]
      exact ⟨_, rfl, rfl, fun _ => rfl⟩
    · simp (disch := omega) only [blockX_exit, bodyX_ret, run_nil, run_cons, fget_cons', fput_cons', forget_nil, forget_cons', hget_nil', hget_cons', hset_nil', hset_cons', frame0, gcM_n, gcM_c, stp, opBox, justO, just, Rd.bind, Rd.run, Rd.opt, upds, acells, zeroCells, tsz, rdCells, fieldOf, aFieldAddr, aLoad, aStore, opStore, resA, resL, fresh, aNum, aLen, aBuiltin, aBin, aInt, putC, Nat.reduceAdd, Nat.reduceMul, Nat.reduceLT, Nat.reduceBEq, Nat.reduceEqDiff, Nat.reduceLeDiff, ↓reduceIte, reduceCtorEq, liveBlk_eq, Nat.zero_add, Nat.add_zero, ne_eq, List.getElem?_toArray, Bool.and_true, decide_true, or_true, putD_some, putD_none, and_true, true_and, Int.natCast_nonneg, Int.toNat_natCast, snaps, List.append_nil, Option.map_some, List.elem_cons, List.elem_nil, List.length_cons, List.length_nil, List.getElem?_cons_zero, List.getElem?_cons_succ, List.drop_zero, List.take_succ_cons, List.take_nil, List.set_cons_zero, List.set_cons_succ, seqN, bindN, regN, snap_ref, aConv, aSlice, aBounds, bMax, bHigh, bLow, Nat.le_refl, Nat.sub_zero, Nat.zero_mul, beq_self_eq_true, Bool.false_eq_true, Option.getD_none, T_3, T_22, T_25, T_5, T_53, T_54, T_58, T_135, beq_self_eq_true, x40_1, r40_0_l, s40_0_0, s40_0_1, x40_3, r40_1_l, s40_1_0, x40_6, r40_2_l, s40_2_0, s40_2_1, s40_2_2, s40_2_3, s40_2_4, s40_2_5, s40_2_6, s40_2_7, s40_2_8, s40_2_9, x40_8, x40_7, x40_5, x40_26, r40_9_l, s40_9_0, s40_9_1, s40_9_2, s40_9_3, x40_28, r40_10_l, s40_10_0, s40_10_1, x40_30, r40_11_l, s40_11_0, x40_33, r40_12_l, s40_12_0, s40_12_1, x40_35, x40_34, x40_32, x40_74, r40_25_l, s40_25_0, s40_25_1, x40_75, x40_73, x40_31, x40_29, x40_27, x40_25, x40_4, x40_2, x40_0, b_40, hmany, hlen, wm, hne, r1, wn, ho1, hl1, hl2, hll, if_pos]
      exact ⟨_, rfl, rfl, fun _ => rfl⟩
end Go.AM.YtgfnbmfjbjopkaaDoor
end

section
namespace Go.AM.YtgfnbmfjbjopkaaDoor
open Go Go.AM Go.AM.Mule
set_option maxRecDepth 100000
set_option maxHeartbeats 8000000
theorem mem_pOf {D : Dro} {bit i k : Nat} {p : Pr} (h : p ∈ pOf D bit i k) : (p = ((k : Int), (i : Int)) ∧ plc D k < plc D i) ∨ (p = ((i : Int), (k : Int)) ∧ ¬ plc D k < plc D i) := by
  unfold pOf at h
  split at h
  · split at h
    · rename_i h1; simp at h; exact .inl ⟨h, h1⟩
    · rename_i h1; simp at h; exact .inr ⟨h, h1⟩
  · simp at h
theorem plc_inj {D : Dro} (h : DOk D) {i k : Nat} (hi : i < 6) (hk : k < 6) (e : plc D i = plc D k) : i = k := by
  obtain ⟨z, _, z1, z2, e1⟩ := plc_b h hi
  obtain ⟨y, _, y1, y2, e2⟩ := plc_b h hk
  omega
/-- Of each pair: both numbers, the greater one, and their places. -/
def okP (D : Dro) (i : Nat) (p : Pr) : Prop := ∃ a b : Nat, p = ((a : Int), (b : Int)) ∧ a ≠ b ∧ a < i ∧ b < i ∧ plc D a < plc D b
theorem mem_mdI {D : Dro} (h : DOk D) {i b : Nat} (hi : i < 6) : ∀ k, k ≤ i → ∀ p ∈ mdI D i b k, ∃ x, x < k ∧ (p = ((x : Int), (i : Int)) ∧ plc D x < plc D i ∨ p = ((i : Int), (x : Int)) ∧ plc D i < plc D x)
  | 0, _, p, hp => by simp [mdI] at hp
  | k + 1, hk, p, hp => by
    simp only [mdI, List.mem_append] at hp
    rcases hp with hp | hp
    · obtain ⟨x, x1, x2⟩ := mem_mdI h hi k (by omega) p hp
      exact ⟨x, by omega, x2⟩
    · refine ⟨k, by omega, ?_⟩
      rcases mem_pOf hp with ⟨e, h1⟩ | ⟨e, h1⟩
      · exact .inl ⟨e, h1⟩
      · refine .inr ⟨e, ?_⟩
        have hne : plc D k ≠ plc D i := fun e => by have := plc_inj h (show k < 6 by omega) hi e; omega
        omega
theorem mem_mdP {D : Dro} (h : DOk D) : ∀ i, i ≤ 6 → ∀ p ∈ mdP D i, okP D i p
  | 0, _, p, hp => by simp [mdP, mdE] at hp
  | i + 1, hi, p, hp => by
    simp only [mdP, mdE, List.mem_append] at hp
    rcases hp with hp | hp
    · obtain ⟨a, b, e, h1, h2, h3, h4⟩ := mem_mdP h i (by omega) p hp
      exact ⟨a, b, e, h1, by omega, by omega, h4⟩
    · obtain ⟨x, x1, x2⟩ := mem_mdI h (show i < 6 by omega) i (Nat.le_refl _) p hp
      rcases x2 with ⟨e, h1⟩ | ⟨e, h1⟩
      · exact ⟨x, i, e, by omega, by omega, by omega, h1⟩
      · exact ⟨i, x, e, by omega, by omega, by omega, h1⟩
/-- No pair comes twice. -/
theorem md_nodupI {D : Dro} (h : DOk D) {i b : Nat} (hi : i < 6) : ∀ k, k ≤ i → (mdI D i b k).Nodup
  | 0, _ => by simp [mdI]
  | k + 1, hk => by
    simp only [mdI]
    rw [List.nodup_append]
    refine ⟨md_nodupI h hi k (by omega), ?_, ?_⟩
    · unfold pOf; split
      · split <;> simp
      · simp
    · intro p hp q hq e
      subst e
      obtain ⟨x, x1, x2⟩ := mem_mdI h hi k (by omega) p hp
      rcases mem_pOf hq with ⟨e1, _⟩ | ⟨e1, _⟩ <;> rcases x2 with ⟨e2, _⟩ | ⟨e2, _⟩ <;> rw [e1] at e2 <;> simp only [Prod.mk.injEq] at e2 <;> omega
theorem md_nodup {D : Dro} (h : DOk D) : ∀ i, i ≤ 6 → (mdP D i).Nodup
  | 0, _ => by simp [mdP, mdE]
  | i + 1, hi => by
    simp only [mdP, mdE]
    rw [List.nodup_append]
    refine ⟨md_nodup h i (by omega), md_nodupI h (by omega) i (Nat.le_refl _), ?_⟩
    intro p hp q hq e
    subst e
    obtain ⟨a, b, e, _, h2, h3, _⟩ := mem_mdP h i (by omega) p hp
    obtain ⟨x, x1, x2⟩ := mem_mdI h (show i < 6 by omega) i (Nat.le_refl _) p hq
    rcases x2 with ⟨e2, _⟩ | ⟨e2, _⟩ <;> rw [e] at e2 <;> simp only [Prod.mk.injEq] at e2 <;> omega
theorem plc_reach {D : Dro} {n : Nat} {es : List Pr} (hp : ∀ p ∈ es, okP D n p) {a b : Nat} (hr : Mule.Reach (es.map tN) a b) : plc D a < plc D b := by
  have step : ∀ {a b : Nat}, Mule.Edge (es.map tN) a b → plc D a < plc D b := by
    intro a b he
    obtain ⟨p, hpm, e⟩ := List.mem_map.1 he
    obtain ⟨x, y, rfl, _, _, _, h4⟩ := hp p hpm
    simp only [tN, Int.toNat_natCast, Prod.mk.injEq] at e
    rw [← e.1, ← e.2]; exact h4
  induction hr with
  | single e => exact step e
  | tail _ e ih => exact Int.lt_trans ih (step e)
theorem made_chk {D : Dro} (h : DOk D) {n : Nat} (h1 : 1 ≤ n) (h6 : n ≤ 6) : chk (mdL D n) (mdP D n) = 0 := by
  have hl := mdL_len h h6
  have hpl := mdP_len (D := D) h6
  have hok := mem_mdP h n h6
  have hls : ldsE (mdL D n) = 0 := firstE_zero.2 fun i hi => by
    have : (mdL D n).getD i default ∈ mdL D n := List.mem_of_getElem? (at_getD hi)
    unfold mdL at this
    obtain ⟨q, hq, e⟩ := List.mem_map.1 this
    unfold mdL
    rw [← e]
    exact (mdl_ok (h.xs q (List.mem_of_mem_take hq))).2
  have hps : prsE n (mdP D n) = 0 := firstE_zero.2 fun i hi => by
    have hx := at_getD (l := mdP D n) hi
    obtain ⟨a, b, e, _, h2, h3, _⟩ := hok _ (List.mem_of_getElem? hx)
    unfold prE
    have hnin : (mdP D n).getD i default ∉ (mdP D n).take i := by
      intro hc
      obtain ⟨j, hj, ej⟩ := List.mem_iff_getElem.1 hc
      rw [List.length_take] at hj
      rw [List.getElem_take] at ej
      have hnd := md_nodup h n h6
      have e2 : (mdP D n)[j] = (mdP D n)[i] := by rw [ej]; simp [hi]
      exact (List.pairwise_iff_getElem.1 hnd) j i (by omega) hi (by omega) e2
    rw [if_neg, if_neg hnin]
    rw [e]
    simp only
    omega
  unfold chk
  rw [hl, if_neg (by omega), if_neg (by omega), if_neg (by simp [hls]), if_neg (by simp [hps]), if_neg]
  have hp := prs_ok hps
  intro hc
  obtain ⟨i, hi, hb⟩ := List.any_eq_true.1 hc
  have := (closed_spec hp).2 i i
  have hr := this.1 hb
  have := plc_reach hok hr
  omega
end Go.AM.YtgfnbmfjbjopkaaDoor
end

section
namespace Go.AM.YtgfnbmfjbjopkaaDoor
open Go Go.AM Go.AM.Mule
set_option maxRecDepth 100000
set_option maxHeartbeats 8000000
def memB (s : Nat) (r : Option (AV × AHeap)) : Bool :=
  match r with
  | some (.nilsl, _) => Nat.beq s 0
  | some (.ref 16 0 l c g 1 false, [(16, ⟨.row, cells⟩)]) => !Nat.beq s 0 && Nat.beq l (lst s).length && Nat.beq c (lst s).length && Nat.beq g (lst s).length && (match eqInts .i64 cells (ins (lst s)) with | some true => true | _ => false)
  | _ => false
theorem mem_all (d : Nat) : (List.range 64).all (fun s => memB s (callA E fg 1000 (d + 1) 41 [.int .i64 s] [] 0)) = true := by kernel_rfl
theorem mem_run {d s : Nat} (h : s < 64) : (s = 0 ∧ ∃ H, callA E fg 1000 (d + 1) 41 [.int .i64 s] [] 0 = some (.nilsl, H)) ∨
    (s ≠ 0 ∧ callA E fg 1000 (d + 1) 41 [.int .i64 s] [] 0 = some (.ref 16 0 (lst s).length (lst s).length (lst s).length 1 false, [(16, ⟨.row, ins (lst s)⟩)])) := by
  have := List.all_eq_true.1 (mem_all d) s (List.mem_range.2 h)
  revert this
  generalize callA E fg 1000 (d + 1) 41 [.int .i64 s] [] 0 = r
  intro this
  unfold memB at this
  split at this
  · exact .inl ⟨Nat.eq_of_beq_eq_true this, _, rfl⟩
  · rename_i l c g cells
    simp only [Bool.and_eq_true, Bool.not_eq_true'] at this
    obtain ⟨⟨⟨⟨h1, h2⟩, h3⟩, h4⟩, h5⟩ := this
    refine .inr ⟨Nat.ne_of_beq_eq_false h1, ?_⟩
    rw [Nat.eq_of_beq_eq_true h2, Nat.eq_of_beq_eq_true h3, Nat.eq_of_beq_eq_true h4]
    have : eqInts .i64 cells (ins (lst s)) = some true := by
      split at h5 <;> simp_all
    rw [eqInts_eq this]
  · simp at this
theorem mem_ref {d s : Nat} {site : Nat → Nat} {seen : List Nat} (h : s < 64) (h0 : s ≠ 0) : aBack site true seen (thaw (callA E fg 1000 (d + 1)) 41 [.int .i64 (s : Int)] [] 0) =
    back1 (site 0) seen (fun k => .ref k 0 (lst s).length (lst s).length (lst s).length 1 false) ⟨.row, ins (lst s)⟩ := by
  rcases mem_run (d := d) h with h1 | h1
  · exact absurd h1.1 h0
  · exact aBack_refc h1.2 rfl (ins_length _)
theorem price_run {C : Callee} {l : Ld} {day : Int} (h : LdOk l) (h1 : 0 ≤ day ∧ day ≤ 1000) : rsOf (bodyA E C fg 1000 44 [.agg (lc l), .int .i64 day] [] 0) = some (.int .i64 (ldC l day)) := by
  have hb := ldC_b h h1
  obtain ⟨_, _, hd, hr, hbb⟩ := h
  unfold ldC at hb ⊢
  by_cases hc : day ≤ l.due
  · have e : l.base + l.rate * max 0 (day - l.due) = l.base := by
      rw [show max 0 (day - l.due) = 0 by omega, Int.mul_zero, Int.add_zero]
    rw [e]
    simp (disch := omega) only [seqX_ret, condX_bool, bodyX_ret, run_nil, run_cons, fget_cons', fput_cons', forget_nil, forget_cons', hget_nil', hget_cons', hset_nil', frame0, gcM_c, stp, opBox, just, Rd.bind, Rd.run, Rd.opt, upds, acells, rdCells, fieldOf, aFieldAddr, aLoad, resA, resL, fresh, aBin, aInt, Nat.reduceAdd, Nat.reduceBEq, Nat.reduceEqDiff, Nat.reduceLeDiff, ↓reduceIte, reduceCtorEq, liveBlk_eq, Nat.zero_add, decide_true, putD_some, Option.map_some, List.elem_cons, List.elem_nil, List.length_cons, List.length_nil, List.getElem?_cons_zero, List.getElem?_cons_succ, seqN, bindN, regN, beq_self_eq_true, Bool.false_eq_true, T_3, T_62, beq_self_eq_true, x44_1, r44_0_l, s44_0_0, s44_0_1, x44_4, r44_1_l, s44_1_0, s44_1_1, s44_1_2, s44_1_3, x44_7, r44_2_l, s44_2_0, s44_2_1, s44_2_2, x44_8, x44_6, x44_9, x44_5, x44_3, x44_2, x44_0, b_44, lc, hc]
  · have em : max 0 (day - l.due) = day - l.due := by omega
    rw [em] at hb ⊢
    have h2 : 0 ≤ l.rate * (day - l.due) := Int.mul_nonneg hr.1 (by omega)
    have w1 : wrp .i64 (day - l.due) = day - l.due := wrp64 (by omega)
    have w2 : wrp .i64 (l.rate * (day - l.due)) = l.rate * (day - l.due) := wrp64 (by omega)
    have w3 : wrp .i64 (l.base + l.rate * (day - l.due)) = l.base + l.rate * (day - l.due) := wrp64 (by omega)
    simp (disch := omega) only [condX_bool, bodyX_ret, run_nil, run_cons, fget_cons', fput_cons', forget_nil, forget_cons', hget_nil', hget_cons', hset_nil', frame0, gcM_c, stp, opBox, just, Rd.bind, Rd.run, Rd.opt, upds, acells, rdCells, fieldOf, aFieldAddr, aLoad, resA, resL, fresh, aBin, aInt, Nat.reduceAdd, Nat.reduceBEq, Nat.reduceEqDiff, Nat.reduceLeDiff, ↓reduceIte, reduceCtorEq, liveBlk_eq, Nat.zero_add, decide_false, putD_some, Option.map_some, List.elem_cons, List.elem_nil, List.length_cons, List.length_nil, List.getElem?_cons_zero, List.getElem?_cons_succ, seqN, bindN, regN, beq_self_eq_true, Bool.false_eq_true, T_3, T_62, beq_self_eq_true, x44_1, r44_0_l, s44_0_0, s44_0_1, x44_4, r44_1_l, s44_1_0, s44_1_1, s44_1_2, s44_1_3, x44_7, r44_2_l, s44_2_0, s44_2_1, s44_2_2, x44_8, x44_6, x44_9, x44_5, x44_3, x44_11, r44_3_l, s44_3_0, s44_3_1, s44_3_2, s44_3_3, s44_3_4, s44_3_5, s44_3_6, s44_3_7, s44_3_8, s44_3_9, s44_3_10, x44_12, x44_10, x44_2, x44_0, b_44, lc, hc, w1, w2, w3]
theorem price_call {d : Nat} {site : Nat → Nat} {seen : List Nat} {l : Ld} {day : Int} (h : LdOk l) (h1 : 0 ≤ day ∧ day ≤ 1000) : aBack site true seen (thaw (callA E fg 1000 (d + 1)) 44 [.agg (lc l), .int .i64 day] [] 0) = .pure (.int .i64 (ldC l day), []) :=
  aBack_int (rs_ex (price_run (C := callA E fg 1000 d) h h1))
structure Prd2 (C : Callee) (f : AV) (l : List Pr) (p : Pr → Bool) : Prop where
  mt : ∀ args, mutV E f args = none
  call : ∀ (site : Nat → Nat) q, q ∈ l → opCallV E C site true f [.agg (bc q)] = .pure (.bool (p q), [])
  refs : refsOf f = []
abbrev ipS (l : List Pr) (ex : Bool) (f : AV) (i : Nat) : St := ([(8, .int .i64 i), (7, .int .i64 l.length), (1, f), (0, .imm (cls bc l) l.length ex)], [])
theorem ip_head (l : List Pr) (ex : Bool) (f : AV) (i : Nat) (φ : AFr) (H : AHeap) (hr : refsOf f = []) (h : φ = (ipS l ex f i).1) : headA [] (φ, H) = ipS l ex f i := by
  subst h
  rw [headA_drop]
  simp only [refsF, refsOf, hr, List.append_nil]
theorem ip_run {C : Callee} {f : AV} {l : List Pr} {p : Pr → Bool} {ex : Bool} (h : Prd2 C f l p) (hl : l.length < 900) :
    rsOf (bodyA E C fg 1000 112 [.imm (cls bc l) l.length ex, f] [] 0) = some (.int .i64 (if l.findIdx p < l.length then (l.findIdx p : Int) else -1)) := by
  obtain ⟨hm, hc, hr⟩ := h
  have hlen : (cls bc l).length = l.length * 2 := cls_length bc_len l
  have hle := List.findIdx_le_length (xs := l) (p := p)
  have hlo : ∀ i, i < l.findIdx p → ∃ s', (execA E C (fg 112) 0 19 [] 1000 c112_7) (ipS l ex f i) = some (.normal, s') ∧ headA [] s' = ipS l ex f (i + 1) := by
    intro i hi
    have hil : i < l.length := by omega
    have hp : p l[i] = false := by simpa using List.not_of_lt_findIdx hi
    have hcall := fun site => hc site l[i] (List.getElem_mem hil)
    have hat := cls_at bc_len (List.getElem?_eq_getElem hil)
    generalize l[i] = q at *
    have g1 : (i : Int) < l.length := by omega
    rw [hp] at hcall
    simp only [bc] at hat hcall
    simp only [ipS]
    simp (disch := omega) only [condX_bool, blockX_normal, run_nil, run_cons, fget_cons', fput_cons', forget_nil, forget_cons', gcM_n, gcM_c, stp, just, Rd.bind, Rd.run, Rd.opt, upds, tsz, rdCells, aLoad, aIndexAddr, aNum, aBin, aInt, Nat.reduceMul, Nat.reduceLT, Nat.reduceBEq, Nat.reduceEqDiff, Nat.reduceLeDiff, ↓reduceIte, reduceCtorEq, Nat.zero_add, decide_true, putD_some, and_true, Int.natCast_nonneg, Int.toNat_natCast, List.elem_cons, List.elem_nil, seqN, bindN, regN, beq_self_eq_true, Bool.false_eq_true, T_23, T_64, beq_self_eq_true, x112_8, r112_2_l, s112_2_0, x112_11, x112_12, x112_10, x112_16, r112_3_l, s112_3_0, s112_3_1, x112_18, r112_4_l, s112_4_0, s112_4_1, s112_4_2, s112_4_3, s112_4_4, s112_4_5, x112_21, r112_5_l, s112_5_0, s112_5_1, x112_22, x112_20, x112_23, x112_19, x112_17, x112_15, x112_14, x112_24, r112_6_l, s112_6_0, s112_6_1, x112_13, x112_9, x112_7, g1, hat, hlen, if_pos, wrp_succ (show i < 1000000 by omega), callV_eq (hm _), hcall]
    exact ⟨_, rfl, ip_head _ _ _ _ _ _ hr rfl⟩
  by_cases hlt : l.findIdx p < l.length
  · rw [if_pos hlt]
    have hp := List.findIdx_getElem (xs := l) (p := p) (w := hlt)
    have hcall := fun site => hc site l[l.findIdx p] (List.getElem_mem hlt)
    have hat := cls_at bc_len (List.getElem?_eq_getElem hlt)
    rw [hp] at hcall
    generalize l[l.findIdx p] = q at *
    generalize l.findIdx p = m at *
    have g1 : (m : Int) < l.length := by omega
    simp only [bc] at hat hcall
    have hloop := loopN (f := (execA E C (fg 112) 0 19 [] 1000 c112_7)) (ipS l ex f) m hlo (ip_head _ _ _ _ _ _ hr rfl) (by omega)
      (e := .ret) (se := ([(4, .int .i64 m)], []))
      (by simp (disch := omega) only [seqX_ret, condX_bool, blockX_ret, run_nil, run_cons, fget_cons', fput_cons', forget_nil, forget_cons', gcM_n, gcM_c, stp, just, Rd.bind, Rd.run, Rd.opt, upds, tsz, rdCells, aLoad, aIndexAddr, aNum, aBin, aInt, Nat.reduceMul, Nat.reduceLT, Nat.reduceBEq, Nat.reduceEqDiff, Nat.reduceLeDiff, ↓reduceIte, reduceCtorEq, Nat.zero_add, decide_true, putD_some, and_true, Int.natCast_nonneg, Int.toNat_natCast, List.elem_cons, List.elem_nil, seqN, bindN, regN, beq_self_eq_true, Bool.false_eq_true, T_23, T_64, beq_self_eq_true, x112_8, r112_2_l, s112_2_0, x112_11, x112_12, x112_10, x112_16, r112_3_l, s112_3_0, s112_3_1, x112_18, r112_4_l, s112_4_0, s112_4_1, s112_4_2, s112_4_3, s112_4_4, s112_4_5, x112_21, r112_5_l, s112_5_0, s112_5_1, x112_22, x112_20, x112_23, x112_19, x112_17, x112_15, x112_14, x112_13, x112_9, x112_7, ipS, g1, hat, hlen, if_pos, callV_eq (hm _), hcall]) (by simp)
    simp only [ipS, cl0] at hloop
    simp (disch := omega) only [seqX_ret, blockX_ret, bodyX_ret, run_nil, run_cons, fget_cons', fput_cons', forget_nil, forget_cons', frame0, gcM_c, stp, just, Rd.bind, Rd.run, upds, resA, resL, aLen, aBuiltin, Nat.reduceBEq, Nat.reduceEqDiff, Nat.reduceLeDiff, ↓reduceIte, reduceCtorEq, Nat.zero_add, List.getElem?_toArray, putD_some, Option.map_some, List.elem_cons, List.elem_nil, List.getElem?_cons_zero, seqN, bindN, regN, beq_self_eq_true, Bool.false_eq_true, T_23, beq_self_eq_true, x112_1, r112_0_l, s112_0_0, x112_4, r112_1_l, s112_1_0, s112_1_1, s112_1_2, x112_6, x112_5, x112_3, x112_2, x112_0, b_112, hloop]
  · rw [if_neg hlt]
    have e : l.findIdx p = l.length := by omega
    have hloop := loopN (f := (execA E C (fg 112) 0 19 [] 1000 c112_7)) (ipS l ex f) l.length (fun i hi => hlo i (by omega)) (ip_head _ _ _ _ _ _ hr rfl) (by omega)
      (e := .exit 0) (se := ([(9, .bool false), (8, .int .i64 l.length), (7, .int .i64 l.length), (1, f), (0, .imm (cls bc l) l.length ex)], []))
      (by simp (disch := omega) only [seqX_exit, condX_bool, run_nil, run_cons, fget_cons', fput_cons', forget_nil, forget_cons', gcM_n, stp, just, Rd.bind, Rd.run, Rd.opt, upds, aBin, aInt, Nat.reduceEqDiff, Nat.reduceLeDiff, ↓reduceIte, decide_false, putD_some, List.elem_nil, seqN, bindN, regN, Int.lt_irrefl, Bool.false_eq_true, x112_8, r112_2_l, s112_2_0, x112_11, x112_12, x112_10, x112_9, x112_7, ipS]) (by simp)
    simp only [ipS, cl0] at hloop
    simp (disch := omega) only [blockX_exit, bodyX_ret, run_nil, run_cons, fget_cons', fput_nil, fput_cons', forget_nil, forget_cons', frame0, gcM_n, gcM_c, stp, just, Rd.bind, Rd.run, upds, resA, resL, aLen, aBuiltin, Nat.reduceBEq, Nat.reduceEqDiff, Nat.reduceLeDiff, Int.reduceNeg, ↓reduceIte, reduceCtorEq, Nat.zero_add, List.getElem?_toArray, putD_some, Option.map_some, List.elem_cons, List.elem_nil, List.getElem?_cons_zero, seqN, bindN, regN, beq_self_eq_true, Bool.false_eq_true, T_23, beq_self_eq_true, x112_1, r112_0_l, s112_0_0, x112_4, r112_1_l, s112_1_0, s112_1_1, s112_1_2, x112_6, x112_5, x112_3, x112_26, r112_7_l, s112_7_0, x112_27, x112_25, x112_2, x112_0, b_112, hloop]
theorem ip_nil {C : Callee} {f : AV} (hr : refsOf f = []) :
    rsOf (bodyA E C fg 1000 112 [.nilsl, f] [] 0) = some (.int .i64 (-1)) := by
  have hloop := loop0 (f := (execA E C (fg 112) 0 19 [] 1000 c112_7)) (s0 := ([(8, .int .i64 0), (7, .int .i64 0), (1, f), (0, .nilsl)], [])) (by rw [headA_drop]; simp only [refsF, refsOf, hr, List.append_nil])
      (e := .exit 0) (se := ([(9, .bool false), (8, .int .i64 0), (7, .int .i64 0), (1, f), (0, .nilsl)], []))
      (by simp (disch := omega) only [seqX_exit, condX_bool, run_nil, run_cons, fget_cons', fput_cons', forget_nil, forget_cons', gcM_n, stp, just, Rd.bind, Rd.run, Rd.opt, upds, aBin, aInt, Nat.reduceEqDiff, Nat.reduceLeDiff, ↓reduceIte, decide_false, putD_some, List.elem_nil, seqN, bindN, regN, Int.lt_irrefl, Bool.false_eq_true, x112_8, r112_2_l, s112_2_0, x112_11, x112_12, x112_10, x112_9, x112_7]) (by simp)
  simp (disch := omega) only [blockX_exit, bodyX_ret, run_nil, run_cons, fget_cons', fput_nil, fput_cons', forget_nil, forget_cons', frame0, gcM_n, gcM_c, stp, just, Rd.bind, Rd.run, upds, resA, resL, aLen, aBuiltin, Nat.reduceBEq, Nat.reduceEqDiff, Nat.reduceLeDiff, Int.reduceNeg, ↓reduceIte, reduceCtorEq, Nat.zero_add, List.getElem?_toArray, putD_some, Option.map_some, List.elem_cons, List.elem_nil, List.getElem?_cons_zero, seqN, bindN, regN, beq_self_eq_true, Bool.false_eq_true, T_23, x112_1, r112_0_l, s112_0_0, x112_4, r112_1_l, s112_1_0, s112_1_1, s112_1_2, x112_6, x112_5, x112_3, x112_26, r112_7_l, s112_7_0, x112_27, x112_25, x112_2, x112_0, b_112, hloop]
theorem ip_call {d : Nat} {f a : AV} {l : List Pr} {p : Pr → Bool} {site : Nat → Nat} {seen : List Nat} (h : Prd2 (callA E fg 1000 d) f l p) (ha : SV bc l a) (hl : l.length < 900) :
    aBack site true seen (thaw (callA E fg 1000 (d + 1)) 112 [a, f] [] 0) = .pure (.int .i64 (if l.findIdx p < l.length then (l.findIdx p : Int) else -1), []) := by
  rcases ha with ⟨rfl, rfl⟩ | ⟨ex, rfl⟩
  · exact aBack_int (rs_ex (ip_nil (C := callA E fg 1000 d) h.refs))
  · exact aBack_int (rs_ex (ip_run h hl))
theorem cp_run {d : Nat} {f a : AV} {l : List Pr} {p : Pr → Bool} (h : Prd2 (callA E fg 1000 d) f l p) (hf : ∀ n, snap (n + 100) f = .pure (f, [])) (ha : SV bc l a) (hl : l.length < 900) :
    rsOf (bodyA E (callA E fg 1000 (d + 1)) fg 1000 42 [a, f] [] 0) = some (.bool (l.any p)) := by
  have hc := fun (site : Nat → Nat) seen => ip_call (site := site) (seen := seen) h ha hl
  have e : l.any p = decide ((if l.findIdx p < l.length then (l.findIdx p : Int) else -1) ≥ 0) := by
    have e1 : l.any p = decide (l.findIdx p < l.length) := by
      rw [Bool.eq_iff_iff, decide_eq_true_eq, List.findIdx_lt_length, List.any_eq_true]
    rw [e1]; exact decide_eq_decide.2 (by split <;> omega)
  rw [e]
  generalize (if l.findIdx p < l.length then (l.findIdx p : Int) else -1) = z at *
  have hs := sv_snap ha
  generalize callA E fg 1000 (d + 1) = C at *
  have hf1 := hf 98
  simp only [Nat.reduceAdd] at hf1
  simp (disch := omega) only [bodyX_ret, run_nil, run_cons, fget_cons', fput_cons', forget_nil, forget_cons', frame0, gcM_c, stp, just, Rd.bind, Rd.run, Rd.opt, upds, resA, resL, aBin, aInt, Nat.reduceBEq, Nat.reduceEqDiff, Nat.reduceLeDiff, ↓reduceIte, reduceCtorEq, Nat.zero_add, putD_some, aCall, snaps, List.append_nil, Option.map_some, List.elem_cons, List.elem_nil, seqN, bindN, regN, beq_self_eq_true, Bool.false_eq_true, beq_self_eq_true, x42_1, r42_0_l, s42_0_0, x42_3, r42_1_l, s42_1_0, s42_1_1, s42_1_2, s42_1_3, s42_1_4, x42_4, x42_2, x42_0, b_42, hc, hs 198, hf1]
theorem cp_call {d : Nat} {f a : AV} {l : List Pr} {p : Pr → Bool} {site : Nat → Nat} {seen : List Nat} (h : Prd2 (callA E fg 1000 d) f l p) (hf : ∀ n, snap (n + 100) f = .pure (f, [])) (ha : SV bc l a) (hl : l.length < 900) :
    aBack site true seen (thaw (callA E fg 1000 (d + 2)) 42 [a, f] [] 0) = .pure (.bool (l.any p), []) := aBack_bool (rs_ex (cp_run h hf ha hl))
end Go.AM.YtgfnbmfjbjopkaaDoor
end

section
namespace Go.AM
theorem shrI {b i : Nat} (hi : i < 64) : aShift .shr .i64 (b : Int) (i : Int) = some (.int .i64 ((b >>> i : Nat) : Int)) := by
  have h1 : ¬ (i : Int) < 0 := by omega
  simp only [aShift, if_neg h1, pw2, IntKind.bits, Int.toNat_natCast]
  rw [Nat.min_eq_left (by omega), Nat.shiftRight_eq_div_pow]
  congr 2
  exact (Int.fdiv_eq_ediv_of_nonneg _ (Int.natCast_nonneg _)).trans (Int.natCast_ediv _ _).symm
theorem btI {a : Nat} : bt .i64 (a : Int) = BitVec.ofNat 64 a := by simp only [bt, IntKind.bits, BitVec.ofInt_natCast]
theorem bkI_and1 {a : Nat} (ha : a < 9223372036854775808) : bk .i64 (bt .i64 (a : Int) &&& bt .i64 1) = .int .i64 ((a &&& 1 : Nat) : Int) := by
  have e1 : bt .i64 1 = BitVec.ofNat 64 1 := rfl
  rw [btI, e1]
  have h : (BitVec.ofNat 64 a &&& BitVec.ofNat 64 1).toNat = a &&& 1 := by
    rw [BitVec.toNat_and, BitVec.toNat_ofNat, BitVec.toNat_ofNat, Nat.mod_eq_of_lt (by omega)]
  have h2 : a &&& 1 ≤ 1 := Nat.and_le_right
  show AV.int .i64 (wrp .i64 ((BitVec.ofNat 64 a &&& BitVec.ofNat 64 1).toNat : Int)) = _
  rw [h, wrp64 (by omega)]
theorem bkI_andNot {s t : Nat} (hs : s < 64) (ht : t < 64) : bk .i64 (bt .i64 (s : Int) &&& ~~~(bt .i64 (t : Int))) = .int .i64 ((s &&& (63 - t) : Nat) : Int) := by
  rw [btI, btI]
  have h := andNot64 s hs t ht
  have h2 : s &&& (63 - t) ≤ s := Nat.and_le_left
  show AV.int .i64 (wrp .i64 ((BitVec.ofNat 64 s &&& ~~~(BitVec.ofNat 64 t)).toNat : Int)) = _
  rw [h, wrp64 (by omega)]
theorem shlI {i : Nat} (h : i < 7) : aShift .shl .i64 1 (i : Int) = some (.int .i64 ((1 <<< i : Nat) : Int)) := by
  have : i = 0 ∨ i = 1 ∨ i = 2 ∨ i = 3 ∨ i = 4 ∨ i = 5 ∨ i = 6 := by omega
  rcases this with rfl | rfl | rfl | rfl | rfl | rfl | rfl <;> rfl
theorem shrI_lt {b i : Nat} (h : b < 64) : b >>> i < 64 := by
  rw [Nat.shiftRight_eq_div_pow]; exact Nat.lt_of_le_of_lt (Nat.div_le_self ..) h
end Go.AM
namespace Go.AM.YtgfnbmfjbjopkaaDoor
open Go Go.AM Go.AM.Mule
set_option maxRecDepth 100000
set_option maxHeartbeats 8000000
/-- Does a pair lead from a load to one that is left? -/
def blkP (i left : Nat) (q : Pr) : Bool := decide (q.1 = i) && left.testBit q.2.toNat
theorem blk_run {C : Callee} {q : Pr} {i left : Nat} (hl : left < 64) (hq : ∃ a b : Nat, q = ((a : Int), (b : Int)) ∧ b < 6) :
    rsOf (bodyA E C fg 1000 43 [.agg (bc q), .iptr [.int .i64 (i : Int)] 0, .iptr [.int .i64 (left : Int)] 0] [] 0) = some (.bool (blkP i left q)) := by
  obtain ⟨a, b, rfl, hb⟩ := hq
  have hsh := shrI (b := left) (i := b) (by omega)
  have hlt := shrI_lt (i := b) hl
  have ha := bkI_and1 (a := left >>> b) (by omega)
  have he := bit_beq left b
  unfold blkP
  simp only [bc, Int.toNat_natCast]
  by_cases h1 : (a : Int) = (i : Int)
  · rw [decide_eq_true h1, Bool.true_and]
    simp (disch := omega) only [↓gd, fset_cons, bodyX_ret, run_nil, run_cons, fget_cons', fput_cons', forget_nil, forget_cons', hget_nil', hget_cons', hset_nil', frame0, gcM_c, stp, opPick, opBox, just, Rd.bind, Rd.run, Rd.opt, upds, acells, tsz, rdCells, aLoad, resA, resL, fresh, aIndexAddr, aNum, aBin, aInt, Nat.reduceAdd, Nat.reduceBEq, Nat.reduceEqDiff, Nat.reduceLeDiff, ↓reduceIte, reduceCtorEq, liveBlk_eq, Nat.zero_add, Nat.add_zero, beq_iff_eq, putD_some, true_and, Option.map_some, List.elem_cons, List.elem_nil, List.length_cons, List.length_nil, List.getElem?_cons_zero, List.getElem?_cons_succ, seqN, bindN, regN, Int.reduceLE, Int.reduceToNat, Nat.mul_one, beq_self_eq_true, Bool.false_eq_true, T_3, T_64, beq_self_eq_true, x43_1, r43_0_l, s43_0_0, s43_0_1, x43_3, r43_1_l, s43_1_0, s43_1_1, s43_1_2, s43_1_3, s43_1_4, s43_1_5, s43_1_6, s43_1_7, s43_1_8, s43_1_9, s43_1_10, s43_1_11, s43_1_12, x43_4, x43_2, x43_0, b_43, eq_true h1, hsh, ha, he, beq_iff_eq, if_pos]
  · rw [decide_eq_false h1, Bool.false_and]
    have h2 : ((a : Int) == (i : Int)) = false := by rw [beq_eq_false_iff_ne]; exact h1
    simp (disch := omega) only [↓gd, fset_cons, Bool.not_true, bodyX_ret, run_nil, run_cons, fget_cons', fput_cons', forget_nil, forget_cons', hget_nil', hget_cons', hset_nil', frame0, gcM_c, stp, opPick, opBox, just, Rd.bind, Rd.run, Rd.opt, upds, acells, tsz, rdCells, aLoad, resA, resL, fresh, aIndexAddr, aNum, aBin, aInt, Nat.reduceAdd, Nat.reduceBEq, Nat.reduceEqDiff, Nat.reduceLeDiff, ↓reduceIte, reduceCtorEq, liveBlk_eq, Nat.zero_add, Nat.add_zero, Bool.not_true, putD_some, true_and, Option.map_some, List.elem_cons, List.elem_nil, List.length_cons, List.length_nil, List.getElem?_cons_zero, seqN, bindN, regN, Int.reduceLE, Int.reduceToNat, Nat.mul_one, beq_self_eq_true, Bool.false_eq_true, T_3, T_64, beq_self_eq_true, x43_1, r43_0_l, s43_0_0, s43_0_1, x43_3, r43_1_l, s43_1_0, s43_1_1, s43_1_2, s43_1_3, s43_1_4, s43_1_5, s43_1_6, s43_1_7, s43_1_8, s43_1_9, s43_1_10, s43_1_11, s43_1_12, x43_4, x43_2, x43_0, b_43, h2, if_pos]
theorem pick_snoc (f : Nat → Int) : ∀ (l : List Nat) (k : Nat), l ≠ [] → pick f (l ++ [k]) = if f k ≤ f (pick f l) then k else pick f l
  | [], k, h => absurd rfl h
  | [i], k, _ => by
    have e1 : pick f ([i] ++ [k]) = if f i < f k then i else k := rfl
    have e2 : pick f [i] = i := rfl
    rw [e1, e2]
    by_cases h : f i < f k
    · rw [if_pos h, if_neg (by omega)]
    · rw [if_neg h, if_pos (by omega)]
  | i :: j :: l, k, _ => by
    have ih := pick_snoc f (j :: l) k (by simp)
    have e : pick f ((i :: j :: l) ++ [k]) = if f i < f (pick f ((j :: l) ++ [k])) then i else pick f ((j :: l) ++ [k]) := by
      simp only [List.cons_append, pick]
    rw [e, ih]
    have e2 : pick f (i :: j :: l) = if f i < f (pick f (j :: l)) then i else pick f (j :: l) := by simp only [pick]
    rw [e2]
    by_cases h1 : f k ≤ f (pick f (j :: l))
    · rw [if_pos h1]
      by_cases h2 : f i < f k
      · rw [if_pos h2]
        by_cases h3 : f i < f (pick f (j :: l))
        · rw [if_pos h3, if_neg (by omega)]
        · omega
      · rw [if_neg h2]
        by_cases h3 : f i < f (pick f (j :: l))
        · rw [if_pos h3, if_pos (by omega)]
        · rw [if_neg h3, if_pos h1]
    · rw [if_neg h1]
      by_cases h3 : f i < f (pick f (j :: l))
      · rw [if_pos h3, if_neg (by omega)]
      · rw [if_neg h3, if_neg h1]
/-- What is wanted, and its cost, of the first ones. -/
def selW (l : List Nat) (f : Nat → Int) : Int := if l = [] then -1 else (pick f l : Nat)
def selC (l : List Nat) (f : Nat → Int) : Int := if l = [] then 0 else f (pick f l)
theorem sel_snoc (l : List Nat) (k : Nat) (f : Nat → Int) : selW (l ++ [k]) f = (if selW l f < 0 ∨ f k ≤ selC l f then (k : Int) else selW l f) ∧ selC (l ++ [k]) f = (if selW l f < 0 ∨ f k ≤ selC l f then f k else selC l f) := by
  have hne : l ++ [k] ≠ [] := by simp
  have e1 : selW (l ++ [k]) f = (pick f (l ++ [k]) : Nat) := if_neg hne
  have e2 : selC (l ++ [k]) f = f (pick f (l ++ [k])) := if_neg hne
  rw [e1, e2]
  by_cases h : l = []
  · subst h
    have z1 : selW [] f = -1 := rfl
    rw [z1, if_pos (.inl (by omega)), if_pos (.inl (by omega))]; exact ⟨rfl, rfl⟩
  · have z1 : selW l f = (pick f l : Nat) := if_neg h
    have z2 : selC l f = f (pick f l) := if_neg h
    rw [z1, z2, pick_snoc f l k h]
    have : ¬ ((pick f l : Nat) : Int) < 0 := by omega
    by_cases h2 : f k ≤ f (pick f l)
    · rw [if_pos h2, if_pos (.inr h2), if_pos (.inr h2)]; exact ⟨rfl, rfl⟩
    · rw [if_neg h2, if_neg (by omega), if_neg (by omega)]; exact ⟨rfl, rfl⟩
/-- A caravan by numbers, where it lies. -/
abbrev caB (n m : Nat) : AV := if m = 0 then .nilsl else .ref 117 0 m m (m * 2) 2 false
def caH (es : List Pr) : AHeap := if es.length = 0 then [] else [(117, ⟨.froz, cls bc es⟩)]
theorem caV (n : Nat) (es : List Pr) : (caB n es.length = .nilsl ∧ caH es = []) ∨ (caB n es.length = .ref 117 0 es.length es.length (es.length * 2) 2 false ∧ caH es = [(117, ⟨.froz, cls bc es⟩)]) := by
  by_cases h : es.length = 0
  · exact .inl ⟨if_pos h, if_pos h⟩
  · exact .inr ⟨if_neg h, if_neg h⟩
abbrev rdS (ls : List Ld) (es : List Pr) (n : Nat) (ro : List AV) (at_ : Int) (left : Nat) (l : List Nat) (i : Nat) : St :=
  ([(47, .int .i64 i), (46, .int .i64 l.length), (45, .ref 45 0 l.length l.length l.length 1 false), (9, .int .i64 (days (hiF ls) (l.take i))), (8, .int .i64 at_), (7, .ptr 7 0 1), (5, .ref 24 0 n n n 1 false), (3, .ptr 3 0 2)],
    (3, ⟨.box, [.ref 18 0 n n (n * 5) 5 false, caB n es.length]⟩) :: (7, ⟨.box, [.int .i64 (left : Int)]⟩) :: (18, ⟨.froz, cls lc ls⟩) :: (24, ⟨.row, ro⟩) :: (45, ⟨.row, ins l⟩) :: caH es)
theorem rd_go {C : Callee} {ls : List Ld} {B : List Nat} {es : List Pr} {n : Nat} {ro : List AV} {at_ : Int} {left : Nat} {l : List Nat} (h : TrOk ls B n) (hl : ∀ i ∈ l, i < n) (h6 : l.length ≤ 6) (i : Nat) (hi : i < l.length) :
    ∃ s', (execA E C (fg 6) 0 99 [] 1000 c6_38) (rdS ls es n ro at_ left l i) = some (.normal, s') ∧ headA [] s' = rdS ls es n ro at_ left l (i + 1) := by
  have hk : l[i]? = some l[i] := List.getElem?_eq_getElem hi
  have hkn := hl _ (List.getElem_mem hi)
  obtain ⟨x, hx, hx2, hx3⟩ := hiF_b h hkn
  have e : days (hiF ls) (l.take (i + 1)) = days (hiF ls) (l.take i) + x.hi := by
    rw [List.take_add_one, hk, Option.toList_some, days_snoc, hx3]
  have b := days_b h (l := l.take i) fun k hk => hl k (List.mem_of_mem_take hk)
  rw [List.length_take] at b
  have hb := hx2.hi
  generalize l[i] = k at *
  have hf : (cls lc ls)[k * 5 + 1]? = some (.int .i64 x.hi) := cls_field lc_len hx (by omega)
  have hlen : (cls lc ls).length = n * 5 := by rw [cls_length lc_len, h.l]
  have g1 : (i : Int) < l.length := by omega
  have g2 : (k : Int) < n := by omega
  have w : wrp .i64 (days (hiF ls) (l.take i) + x.hi) = days (hiF ls) (l.take i) + x.hi := wrp64 (by omega)
  have hin := ins_length l
  have hat := ins_at hk
  simp only [rdS, e]
  rcases caV n es with ⟨e1, e2⟩ | ⟨e1, e2⟩ <;> rw [e1, e2]
  · simp (disch := omega) only [condX_bool, blockX_normal, run_nil, run_cons, fget_cons', fput_cons', forget_nil, forget_cons', hget_cons', gcM_n, gcM_c, stp, just, Rd.bind, Rd.run, Rd.opt, upds, tsz, rdCells, fieldOf, aFieldAddr, aLoad, aIndexAddr, aNum, aBin, aInt, Nat.reduceAdd, Nat.reduceLT, Nat.reduceBEq, Nat.reduceEqDiff, Nat.reduceLeDiff, ↓reduceIte, liveBlk_eq, Nat.zero_add, Nat.add_zero, decide_true, putD_some, and_true, Int.natCast_nonneg, Int.toNat_natCast, List.elem_cons, List.elem_nil, List.length_cons, List.length_nil, List.getElem?_cons_zero, List.getElem?_cons_succ, seqN, bindN, regN, Nat.mul_one, beq_self_eq_true, Bool.false_eq_true, T_3, T_22, T_25, T_36, T_62, beq_self_eq_true, x6_39, r6_12_l, s6_12_0, x6_42, x6_43, x6_41, x6_47, r6_13_l, s6_13_0, s6_13_1, s6_13_2, x6_48, r6_14_l, s6_14_0, s6_14_1, s6_14_2, s6_14_3, s6_14_4, s6_14_5, s6_14_6, s6_14_7, s6_14_8, x6_46, x6_45, x6_49, r6_15_l, s6_15_0, s6_15_1, x6_44, x6_40, x6_38, g1, g2, hat, hf, hlen, hin, w, wrp_succ (show i < 1000000 by omega)]
    exact ⟨_, rfl, rfl⟩
  · simp (disch := omega) only [condX_bool, blockX_normal, run_nil, run_cons, fget_cons', fput_cons', forget_nil, forget_cons', hget_cons', gcM_n, gcM_c, stp, just, Rd.bind, Rd.run, Rd.opt, upds, tsz, rdCells, fieldOf, aFieldAddr, aLoad, aIndexAddr, aNum, aBin, aInt, Nat.reduceAdd, Nat.reduceLT, Nat.reduceBEq, Nat.reduceEqDiff, Nat.reduceLeDiff, ↓reduceIte, liveBlk_eq, Nat.zero_add, Nat.add_zero, decide_true, putD_some, and_true, Int.natCast_nonneg, Int.toNat_natCast, List.elem_cons, List.elem_nil, List.length_cons, List.length_nil, List.getElem?_cons_zero, List.getElem?_cons_succ, seqN, bindN, regN, Nat.mul_one, beq_self_eq_true, Bool.false_eq_true, T_3, T_22, T_25, T_36, T_62, beq_self_eq_true, x6_39, r6_12_l, s6_12_0, x6_42, x6_43, x6_41, x6_47, r6_13_l, s6_13_0, s6_13_1, s6_13_2, x6_48, r6_14_l, s6_14_0, s6_14_1, s6_14_2, s6_14_3, s6_14_4, s6_14_5, s6_14_6, s6_14_7, s6_14_8, x6_46, x6_45, x6_49, r6_15_l, s6_15_0, s6_15_1, x6_44, x6_40, x6_38, g1, g2, hat, hf, hlen, hin, w, wrp_succ (show i < 1000000 by omega)]
    exact ⟨_, rfl, rfl⟩
end Go.AM.YtgfnbmfjbjopkaaDoor
end
