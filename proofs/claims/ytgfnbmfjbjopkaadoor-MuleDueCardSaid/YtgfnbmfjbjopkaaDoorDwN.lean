/- A part of the proof of muleDue_card: DuO, DuP. Own work of this project; texts printed by own programs among it. -/
import Derived.Carry
import Derived.KernelRfl
import Derived.Test.YtgfnbmfjbjopkaaDoorDwM
set_option maxRecDepth 1000000
set_option maxHeartbeats 16000000
noncomputable section
noncomputable section
namespace Go.AM
open Go Go.RowKit Go.ChangeShapes
noncomputable section
variable {H : Type} {enc : TypeId × Value → H} {P : Program} {w : World} {base : Nat} {spare : Nat → Bool} {held : Bool}
theorem Z0dd {t : TypeId} {v : Value} {d : DataW H} {ps : List MemPlace} (h : DataW.Trod enc P w base spare held t v d ps) : ∀ x ∈ ps, x.block < w.heap.size := by
 obtain ⟨n, h⟩ := h
 exact DataW.trod_lt n t _ _ h
theorem _root_.Go.RowKit.Below.trod' {t : TypeId} (hl : laidOutB P = true) (hr : P.readableRec t = true) (hrow : t < P.types.size) {W W' : World} {v : Value} {d : DataW H} {ps : List MemPlace} (hb : Below W.heap.size W W')
   (h : DataW.Trod enc P W 0 (fun _ => true) true t v d ps) : DataW.Trod enc P W' 0 (fun b => decide (b < W.heap.size)) true t v d ps :=
 Below.trod hl hr hrow h hb (Z0dd h)
theorem Z0mP {t : TypeId} {k : IntKind} {v : Value} {b : Nat} {r : Reach} (ht : P.underlying t = some (.int k)) (hv : Cell.okWide P w r b t v) : ∃ z, v = .int k z ∧ k.has z := by
 simp only [Cell.okWide, ht] at hv
 unfold Cell.ok at hv
 rw [ht] at hv
 cases v <;> simp only at hv <;> try exact hv.elim
 obtain ⟨rfl, h⟩ := hv
 exact ⟨_, rfl, h⟩
theorem Z0pl {t : TypeId} {ts : List TypeId} {ks : List IntKind} {b : Nat} {r : Reach} (hu : ∀ (i : Nat) (u : TypeId) (k : IntKind), ts[i]? = some u → ks[i]? = some k → P.underlying u = some (.int k)) (hks : ks.length = ts.length) (hc : P.cellTypes P.depth t = some ts) (hn : P.cellsOf t = ts.length) {cs : Array Value} (hs : cs.size = P.cellsOf t) (hr : Row.okWide P w r b t cs) :
   ∃ zs : List Int, cs.toList = List.zipWith Value.int ks zs ∧ zs.length = ts.length ∧ ∀ (i : Nat) (z : Int) (k : IntKind), zs[i]? = some z → ks[i]? = some k → k.has z := by
 obtain ⟨ts', h1, _, h3⟩ := hr
 rw [hc] at h1
 obtain rfl := Option.some.inj h1
 have key : ∀ i (hi : i < ts.length), ∃ z, cs[i]? = some (.int (ks[i]'(by omega)) z) ∧ (ks[i]'(by omega)).has z := by
   intro i hi
   have hv : cs[i]? = some cs[i] := Array.getElem?_eq_getElem (by omega)
   obtain ⟨u', hu', hcell⟩ := h3 i _ hv
   rw [Nat.mod_eq_of_lt hi] at hu'
   obtain ⟨z, hz, hb⟩ := Z0mP (hu i u' _ hu' (List.getElem?_eq_getElem (by omega))) hcell
   exact ⟨z, by rw [hv, hz], hb⟩
 refine ⟨(List.range ts.length).map fun i => match (cs[i]? : Option Value) with | some (Value.int _ z) => z | _ => 0, ?_, by simp, ?_⟩
 · apply List.ext_getElem?
   intro i
   by_cases hi : i < ts.length
   · obtain ⟨z, hz, _⟩ := key i hi
     rw [List.getElem?_zipWith, List.getElem?_map, List.getElem?_range hi, List.getElem?_eq_getElem (by omega : i < ks.length)]
     simp [hz]
   · rw [List.getElem?_eq_none (by simp; omega), List.getElem?_eq_none (by simp; omega)]
 · intro i z k hz hk
   have hi : i < ts.length := by have := (List.getElem?_eq_some_iff.1 hz).1; simpa using this
   obtain ⟨y, hy, hb⟩ := key i hi
   rw [List.getElem?_eq_getElem (by omega : i < ks.length)] at hk
   obtain rfl := Option.some.inj hk
   simp [hi, hy] at hz
   subst hz
   exact hb
theorem Z0AF {fz : Nat → Prop} {rf : RFt} (ks : List IntKind) (zs : List Int) {cs : Array Value} (h : cs.toList = List.zipWith Value.int ks zs) : VR fz w (.agg (List.zipWith AV.int ks zs)) rf (.agg cs) := by
 simp only [VR]
 refine ⟨cs, rfl, ?_⟩
 rw [Z0z, h]
 refine ⟨by simp, fun i a v h1 h2 => ?_⟩
 rw [List.getElem?_zipWith] at h1 h2
 cases hz : zs[i]? with
 | none => rw [hz] at h1; cases hk : ks[i]? <;> rw [hk] at h1 <;> simp at h1
 | some z =>
   cases hk : ks[i]? with
   | none => rw [hk] at h1; simp at h1
   | some k =>
     rw [hz, hk] at h1 h2
     simp only [Option.some.injEq] at h1 h2
     subst h1; subst h2
     exact ⟨rfl, by simp only [VR]⟩
theorem Z0gu {t : TypeId} {ts : List TypeId} {ks : List IntKind} {v : Value} {b : Nat} {r : Reach} {fs : Array Field} (ht : P.underlying t = some (.struct fs)) (hu : ∀ (i : Nat) (u : TypeId) (k : IntKind), ts[i]? = some u → ks[i]? = some k → P.underlying u = some (.int k)) (hks : ks.length = ts.length) (hc : P.cellTypes P.depth t = some ts) (hn : P.cellsOf t = ts.length) (hv : Value.okWide P w r b t v) :
   ∃ (zs : List Int) (cs : Array Value), v = .agg cs ∧ cs.toList = List.zipWith Value.int ks zs ∧ zs.length = ts.length ∧ ∀ (i : Nat) (z : Int) (k : IntKind), zs[i]? = some z → ks[i]? = some k → k.has z := by
 unfold Value.okWide at hv
 rw [ht] at hv
 obtain ⟨cs, h1, h2, h3⟩ := hv
 obtain ⟨zs, a, b, c⟩ := Z0pl hu hks hc hn h2 h3
 exact ⟨zs, cs, h1, a, b, c⟩
theorem ZY {α : Type} {l : List α} {n : Nat} (h : l.length = n + 1) : ∃ a t, l = a :: t ∧ t.length = n := by
 cases l with
 | nil => simp at h
 | cons a t => exact ⟨a, t, rfl, by simpa using h⟩
end
end Go.AM
namespace Go.AM.YtgfnbmfjbjopkaaDoor
open Go Go.AM Go.RowKit Go.Proofs Go.Proofs.YtgfnbmfjbjopkaaDoor Go.ChangeShapes Go.WideShapes Go.ChangeAt
abbrev dTs : List TypeId := List.replicate 31 5 ++ 55 :: List.replicate 6 5
abbrev dKs : List IntKind := List.replicate 31 .u8 ++ .u16 :: List.replicate 6 .u8
theorem Z0uk : ∀ (i : Nat) (u : TypeId) (k : IntKind), dTs[i]? = some u → dKs[i]? = some k → Tryd.prog.underlying u = some (.int k) := by
 intro i u k h1 h2
 have hi : i < 38 := (List.getElem?_eq_some_iff.1 h1).1
 by_cases e : i = 31
 · subst e
   obtain rfl := Option.some.inj h1; obtain rfl := Option.some.inj h2
   exact Tryd.underlying55
 · have e1 : dTs[i]? = some 5 := by
     rcases Nat.lt_or_ge i 31 with h | h
     · rw [List.getElem?_append_left (by simpa using h), List.getElem?_replicate, if_pos h]
     · rw [List.getElem?_append_right (by simpa using h), List.length_replicate]
       obtain ⟨j, hj⟩ : ∃ j, i - 31 = j + 1 := ⟨i - 32, by omega⟩
       rw [hj, List.getElem?_cons_succ, List.getElem?_replicate, if_pos (by omega)]
   have e2 : dKs[i]? = some .u8 := by
     rcases Nat.lt_or_ge i 31 with h | h
     · rw [List.getElem?_append_left (by simpa using h), List.getElem?_replicate, if_pos h]
     · rw [List.getElem?_append_right (by simpa using h), List.length_replicate]
       obtain ⟨j, hj⟩ : ∃ j, i - 31 = j + 1 := ⟨i - 32, by omega⟩
       rw [hj, List.getElem?_cons_succ, List.getElem?_replicate, if_pos (by omega)]
   rw [e1] at h1; rw [e2] at h2
   obtain rfl := Option.some.inj h1; obtain rfl := Option.some.inj h2
   exact Tryd.underlying5
theorem Z0hL : Tryd.prog.cellsOf 58 = 38 := by kernel_rfl
theorem ZXJ : Tryd.prog.cellTypes Tryd.prog.depth 58 = some dTs := by kernel_rfl
theorem Z0dE {W : World} {v : Value} {b0 : Nat} {r : Reach} (hv : Value.okWide Tryd.prog W r b0 58 v) : ∃ D : Dro, DOk D ∧ ∀ (fz : Nat → Prop) (rf : RFt), VR fz W (.agg (dcs D)) rf v := by
 obtain ⟨zs, cs, rfl, h1, h2, h3⟩ := Z0gu Tryd.underlying58 Z0uk rfl ZXJ Z0hL hv
 replace h2 : zs.length = 38 := h2
 obtain ⟨a0, t0, rfl, l0⟩ := ZY h2
 obtain ⟨a1, t1, rfl, l1⟩ := ZY l0
 obtain ⟨a2, t2, rfl, l2⟩ := ZY l1
 obtain ⟨a3, t3, rfl, l3⟩ := ZY l2
 obtain ⟨a4, t4, rfl, l4⟩ := ZY l3
 obtain ⟨a5, t5, rfl, l5⟩ := ZY l4
 obtain ⟨a6, t6, rfl, l6⟩ := ZY l5
 obtain ⟨a7, t7, rfl, l7⟩ := ZY l6
 obtain ⟨a8, t8, rfl, l8⟩ := ZY l7
 obtain ⟨a9, t9, rfl, l9⟩ := ZY l8
 obtain ⟨a10, t10, rfl, l10⟩ := ZY l9
 obtain ⟨a11, t11, rfl, l11⟩ := ZY l10
 obtain ⟨a12, t12, rfl, l12⟩ := ZY l11
 obtain ⟨a13, t13, rfl, l13⟩ := ZY l12
 obtain ⟨a14, t14, rfl, l14⟩ := ZY l13
 obtain ⟨a15, t15, rfl, l15⟩ := ZY l14
 obtain ⟨a16, t16, rfl, l16⟩ := ZY l15
 obtain ⟨a17, t17, rfl, l17⟩ := ZY l16
 obtain ⟨a18, t18, rfl, l18⟩ := ZY l17
 obtain ⟨a19, t19, rfl, l19⟩ := ZY l18
 obtain ⟨a20, t20, rfl, l20⟩ := ZY l19
 obtain ⟨a21, t21, rfl, l21⟩ := ZY l20
 obtain ⟨a22, t22, rfl, l22⟩ := ZY l21
 obtain ⟨a23, t23, rfl, l23⟩ := ZY l22
 obtain ⟨a24, t24, rfl, l24⟩ := ZY l23
 obtain ⟨a25, t25, rfl, l25⟩ := ZY l24
 obtain ⟨a26, t26, rfl, l26⟩ := ZY l25
 obtain ⟨a27, t27, rfl, l27⟩ := ZY l26
 obtain ⟨a28, t28, rfl, l28⟩ := ZY l27
 obtain ⟨a29, t29, rfl, l29⟩ := ZY l28
 obtain ⟨a30, t30, rfl, l30⟩ := ZY l29
 obtain ⟨a31, t31, rfl, l31⟩ := ZY l30
 obtain ⟨a32, t32, rfl, l32⟩ := ZY l31
 obtain ⟨a33, t33, rfl, l33⟩ := ZY l32
 obtain ⟨a34, t34, rfl, l34⟩ := ZY l33
 obtain ⟨a35, t35, rfl, l35⟩ := ZY l34
 obtain ⟨a36, t36, rfl, l36⟩ := ZY l35
 obtain ⟨a37, t37, rfl, l37⟩ := ZY l36
 obtain rfl := List.length_eq_zero_iff.1 l37
 have b0 : 0 ≤ a0 ∧ a0 ≤ 255 := h3 0 a0 .u8 rfl rfl
 have b1 : 0 ≤ a1 ∧ a1 ≤ 255 := h3 1 a1 .u8 rfl rfl
 have b2 : 0 ≤ a2 ∧ a2 ≤ 255 := h3 2 a2 .u8 rfl rfl
 have b3 : 0 ≤ a3 ∧ a3 ≤ 255 := h3 3 a3 .u8 rfl rfl
 have b4 : 0 ≤ a4 ∧ a4 ≤ 255 := h3 4 a4 .u8 rfl rfl
 have b5 : 0 ≤ a5 ∧ a5 ≤ 255 := h3 5 a5 .u8 rfl rfl
 have b6 : 0 ≤ a6 ∧ a6 ≤ 255 := h3 6 a6 .u8 rfl rfl
 have b7 : 0 ≤ a7 ∧ a7 ≤ 255 := h3 7 a7 .u8 rfl rfl
 have b8 : 0 ≤ a8 ∧ a8 ≤ 255 := h3 8 a8 .u8 rfl rfl
 have b9 : 0 ≤ a9 ∧ a9 ≤ 255 := h3 9 a9 .u8 rfl rfl
 have b10 : 0 ≤ a10 ∧ a10 ≤ 255 := h3 10 a10 .u8 rfl rfl
 have b11 : 0 ≤ a11 ∧ a11 ≤ 255 := h3 11 a11 .u8 rfl rfl
 have b12 : 0 ≤ a12 ∧ a12 ≤ 255 := h3 12 a12 .u8 rfl rfl
 have b13 : 0 ≤ a13 ∧ a13 ≤ 255 := h3 13 a13 .u8 rfl rfl
 have b14 : 0 ≤ a14 ∧ a14 ≤ 255 := h3 14 a14 .u8 rfl rfl
 have b15 : 0 ≤ a15 ∧ a15 ≤ 255 := h3 15 a15 .u8 rfl rfl
 have b16 : 0 ≤ a16 ∧ a16 ≤ 255 := h3 16 a16 .u8 rfl rfl
 have b17 : 0 ≤ a17 ∧ a17 ≤ 255 := h3 17 a17 .u8 rfl rfl
 have b18 : 0 ≤ a18 ∧ a18 ≤ 255 := h3 18 a18 .u8 rfl rfl
 have b19 : 0 ≤ a19 ∧ a19 ≤ 255 := h3 19 a19 .u8 rfl rfl
 have b20 : 0 ≤ a20 ∧ a20 ≤ 255 := h3 20 a20 .u8 rfl rfl
 have b21 : 0 ≤ a21 ∧ a21 ≤ 255 := h3 21 a21 .u8 rfl rfl
 have b22 : 0 ≤ a22 ∧ a22 ≤ 255 := h3 22 a22 .u8 rfl rfl
 have b23 : 0 ≤ a23 ∧ a23 ≤ 255 := h3 23 a23 .u8 rfl rfl
 have b24 : 0 ≤ a24 ∧ a24 ≤ 255 := h3 24 a24 .u8 rfl rfl
 have b25 : 0 ≤ a25 ∧ a25 ≤ 255 := h3 25 a25 .u8 rfl rfl
 have b26 : 0 ≤ a26 ∧ a26 ≤ 255 := h3 26 a26 .u8 rfl rfl
 have b27 : 0 ≤ a27 ∧ a27 ≤ 255 := h3 27 a27 .u8 rfl rfl
 have b28 : 0 ≤ a28 ∧ a28 ≤ 255 := h3 28 a28 .u8 rfl rfl
 have b29 : 0 ≤ a29 ∧ a29 ≤ 255 := h3 29 a29 .u8 rfl rfl
 have b30 : 0 ≤ a30 ∧ a30 ≤ 255 := h3 30 a30 .u8 rfl rfl
 have b31 : 0 ≤ a31 ∧ a31 ≤ 65535 := h3 31 a31 .u16 rfl rfl
 have b32 : 0 ≤ a32 ∧ a32 ≤ 255 := h3 32 a32 .u8 rfl rfl
 have b33 : 0 ≤ a33 ∧ a33 ≤ 255 := h3 33 a33 .u8 rfl rfl
 have b34 : 0 ≤ a34 ∧ a34 ≤ 255 := h3 34 a34 .u8 rfl rfl
 have b35 : 0 ≤ a35 ∧ a35 ≤ 255 := h3 35 a35 .u8 rfl rfl
 have b36 : 0 ≤ a36 ∧ a36 ≤ 255 := h3 36 a36 .u8 rfl rfl
 have b37 : 0 ≤ a37 ∧ a37 ≤ 255 := h3 37 a37 .u8 rfl rfl
 obtain ⟨p, rfl⟩ : ∃ p : Nat, a31 = (p : Int) := ⟨a31.toNat, by omega⟩
 refine ⟨⟨a0, [⟨a1, a2, a3, a4, a5⟩, ⟨a6, a7, a8, a9, a10⟩, ⟨a11, a12, a13, a14, a15⟩, ⟨a16, a17, a18, a19, a20⟩, ⟨a21, a22, a23, a24, a25⟩, ⟨a26, a27, a28, a29, a30⟩], p, [a32, a33, a34, a35, a36, a37]⟩, ⟨b0, rfl, ?_, by show p < 65536; omega, rfl, ?_⟩, fun _ _ => Z0AF dKs _ h1⟩
 · intro q hq
   simp only [List.mem_cons, List.not_mem_nil, or_false] at hq
   rcases hq with rfl | rfl | rfl | rfl | rfl | rfl
   · exact ⟨b1, b2, b3, b4, b5⟩
   · exact ⟨b6, b7, b8, b9, b10⟩
   · exact ⟨b11, b12, b13, b14, b15⟩
   · exact ⟨b16, b17, b18, b19, b20⟩
   · exact ⟨b21, b22, b23, b24, b25⟩
   · exact ⟨b26, b27, b28, b29, b30⟩
 · intro z hz
   simp only [List.mem_cons, List.not_mem_nil, or_false] at hz
   rcases hz with rfl | rfl | rfl | rfl | rfl | rfl
   · exact b32
   · exact b33
   · exact b34
   · exact b35
   · exact b36
   · exact b37
end Go.AM.YtgfnbmfjbjopkaaDoor
end
noncomputable section
namespace Go.AM.YtgfnbmfjbjopkaaDoor
open Go Go.AM Go.AM.Mule
def plc (D : Dro) (j : Nat) : Int := D.al.getD j 0 * 8 + j
theorem Z0GE {D : Dro} (h : DOk D) {j : Nat} (hj : j < 6) : ∃ z, D.al[j]? = some z ∧ 0 ≤ z ∧ z ≤ 255 ∧ plc D j = z * 8 + j := by
 have hx : D.al[j]? = some (D.al.getD j 0) := Z09 (l := D.al) (by rw [h.ll]; exact hj)
 obtain ⟨a, b⟩ := h.al _ (List.mem_of_getElem? hx)
 exact ⟨_, hx, a, b, rfl⟩
theorem Z0B5 {C : Callee} {D : Dro} (h : DOk D) {j : Nat} (hj : j < 6) : rsOf (bodyA E C fg 1000 111 [.int .i64 (j : Int), .iptr (dcs D) 0] [] 0) = some (.int .i64 (plc D j)) := by
 obtain ⟨z, hz, z1, z2, e⟩ := Z0GE h hj
 have hat := Z0F9 h hz
 have hlen := ZaJ h
 have g : (j : Int) < 6 := by omega
 have w1 : wrp .i64 z = z := Z0q (by omega)
 have w2 : wrp .i64 (z * 8) = z * 8 := Z0q (by omega)
 have w3 : wrp .i64 (z * 8 + j) = z * 8 + j := Z0q (by omega)
 rw [e]
 generalize dcs D = dc at *
 simp (disch := omega) only [Zp, Zc, Za, Z4, Z2, Z3, Z0, Zm, Zj, stp, justO, just, Rd.bind, Rd.run, Rd.opt, upds, tsz, rdCells, fieldOf, Zb, aLoad, resA, resL, Z6, aNum, aBin, aInt, Nat.reduceBEq, Nat.reduceEqDiff, Nat.reduceLeDiff, ↓reduceIte, reduceCtorEq, Nat.zero_add, Z5, true_and, Int.natCast_nonneg, Int.ofNat_lt, Int.toNat_natCast, Option.map_some, List.elem_cons, List.elem_nil, List.getElem?_cons_zero, List.getElem?_cons_succ, seqN, bindN, regN, aConv, Nat.mul_one, beq_self_eq_true, Bool.false_eq_true, T_3, T_5, T_56, T_58, beq_self_eq_true, Z0BV, Z0px, Z0q0, Z0D5, Z0qS, Z0nP, Z0oR, Z0pM, Z0qG, Z0mU, Z0mF, Z0q4, Z0ov, Z0qa, Z0Bo, Z0CR, Z0Eo, Z0H9, hat, w1, w2, w3, if_pos]
structure MdC (C : Callee) (D : Dro) : Prop where
 plc : ∀ (site : Nat → Nat) seen (j : Nat), j < 6 → aBack site true seen (thaw C 111 [.int .i64 (j : Int), .iptr (dcs D) 0] [] 0) = .pure (.int .i64 (plc D j), [])
theorem mdC {D : Dro} (h : DOk D) (d : Nat) : MdC (callA E fg 1000 (d + 1)) D := ⟨fun _ _ _ hj => Z0J (Z0O (Z0B5 (C := callA E fg 1000 d) h hj))⟩
def pOf (D : Dro) (bit i k : Nat) : List Pr := if D.pairs.testBit bit = true then (if plc D k < plc D i then [((k : Int), (i : Int))] else [((i : Int), (k : Int))]) else []
def mdI (D : Dro) (i b : Nat) : Nat → List Pr
 | 0 => []
 | k + 1 => mdI D i b k ++ pOf D (b + k) i k
def mdE (D : Dro) : Nat → List Pr × Nat
 | 0 => ([], 0)
 | i + 1 => ((mdE D i).1 ++ mdI D i (mdE D i).2 i, (mdE D i).2 + i)
theorem Z0uf (D bit i k) : (pOf D bit i k).length ≤ 1 := by
 unfold pOf; split
 · split <;> simp
 · simp
theorem Zvf (D i b) : ∀ k, (mdI D i b k).length ≤ k
 | 0 => by simp [mdI]
 | k + 1 => by
   have := Zvf D i b k
   have := Z0uf D (b + k) i k
   simp only [mdI, List.length_append]; omega
theorem Z01J (D) : ∀ i, (mdE D i).1.length ≤ (mdE D i).2
 | 0 => by simp [mdE]
 | i + 1 => by
   have := Z01J D i
   have := Zvf D i (mdE D i).2 i
   simp only [mdE, List.length_append]; omega
theorem Z0Df (D) : ∀ i, i ≤ 6 → (mdE D i).2 ≤ 15
 | 0, _ => by simp [mdE]
 | 1, _ => by simp [mdE]
 | 2, _ => by simp [mdE]
 | 3, _ => by simp [mdE]
 | 4, _ => by simp [mdE]
 | 5, _ => by simp [mdE]
 | 6, _ => by simp [mdE]
 | i + 7, h => by omega
theorem Z0Fs {b i : Nat} (hi : i < 16) : aShift .shr .u16 (b : Int) (i : Int) = some (.int .u16 ((b >>> i : Nat) : Int)) := by
 have h1 : ¬ (i : Int) < 0 := by omega
 simp only [aShift, if_neg h1, pw2, IntKind.bits, Int.toNat_natCast]
 rw [Nat.min_eq_left (by omega), Nat.shiftRight_eq_div_pow]
 congr 2
 exact (Int.fdiv_eq_ediv_of_nonneg _ (Int.natCast_nonneg _)).trans (Int.natCast_ediv _ _).symm
theorem bk16 {a : Nat} (ha : a < 65536) : bk .u16 (bt .u16 (a : Int) &&& bt .u16 1) = .int .u16 ((a &&& 1 : Nat) : Int) := by
 have e : bt .u16 (a : Int) = BitVec.ofNat 16 a := by simp only [bt, IntKind.bits, BitVec.ofInt_natCast]
 have e1 : bt .u16 1 = BitVec.ofNat 16 1 := rfl
 rw [e, e1]
 have h : (BitVec.ofNat 16 a &&& BitVec.ofNat 16 1).toNat = a &&& 1 := by
   rw [BitVec.toNat_and, BitVec.toNat_ofNat, BitVec.toNat_ofNat, Nat.mod_eq_of_lt ha]
 have h2 : a &&& 1 ≤ 1 := Nat.and_le_right
 show AV.int .u16 (wrp .u16 ((BitVec.ofNat 16 a &&& BitVec.ofNat 16 1).toNat : Int)) = _
 rw [h, ZJ4 (by simp only [kLo]; omega) (by simp only [kHi]; omega)]
def bV (g m : Nat) : AV := if m = 0 then .nilsl else .ref g 0 m m (m * 2) 2 false
def bH (g : Nat) (es : List Pr) : AHeap := if es.length = 0 then [] else [(g, ⟨.row, cls bc es⟩)]
abbrev mdH (D : Dro) (n g : Nat) (es : List Pr) : AHeap :=
 (2, ⟨.box, dcs D⟩) :: (4, ⟨.box, [.nilsl, .nilsl]⟩) :: (5, ⟨.box, [.ref 60 0 n n (n * 5) 5 false, bV g es.length]⟩) :: (60, ⟨.row, cls lc (mdL D n)⟩) :: bH g es
abbrev m2S (D : Dro) (n g i bit : Nat) (es : List Pr) (k : Nat) : St :=
 ([(72, .int .i64 k), (71, .int .i64 i), (68, .int .i64 i), (67, .int .i64 n), (12, .int .i64 i), (11, .int .i64 bit), (10, .clo 111 [.ptr 2 0 38]), (5, .ptr 5 0 2), (4, .ptr 4 0 2), (2, .ptr 2 0 38)], mdH D n g es)
theorem ZdG {n : Nat} (h : n ≤ 1000000) : roomOk E.T 64 n = true := by
 simp only [roomOk, T_64, decide_eq_true_eq]; exact ⟨by decide, rfl, by omega⟩
theorem Z0HI {C : Callee} {D : Dro} (hC : MdC C D) (h : DOk D) {n g i bit : Nat} {es : List Pr} (hn : n ≤ 6) (hi : i < n) (k : Nat) (hk : k < i) (hb : bit + k < 15) (hes : es.length ≤ 15) (hg : g = 94 ∨ g = 102) :
   ∃ s', (execA E C (fg 40) 0 109 [] 1000 ZbO) (m2S D n g i (bit + k) es k) = some (.normal, s') ∧ ∃ g2, (g2 = 94 ∨ g2 = 102) ∧ headA [] s' = m2S D n g2 i (bit + (k + 1)) (es ++ pOf D (bit + k) i k) (k + 1) := by
 have hpi := fun site seen => hC.plc site seen i (by omega)
 have hpk := fun site seen => hC.plc site seen k (by omega)
 have hat := Z0Hh h
 have hlen := ZaJ h
 have hsn := Zga h (d := 198) (by omega)
 have hsn2 := Zga h (d := 197) (by omega)
 have hsn3 := Zga h (d := 196) (by omega)
 have htk : List.take 38 (dcs D) = dcs D := List.take_of_length_le (by omega)
 have hp := h.pairs
 have hsh := Z0Fs (b := D.pairs) (i := bit + k) (by omega)
 have hlt : D.pairs >>> (bit + k) < 65536 := by rw [Nat.shiftRight_eq_div_pow]; exact Nat.lt_of_le_of_lt (Nat.div_le_self ..) hp
 have ha := bk16 hlt
 have he := ZdC D.pairs (bit + k)
 have g1 : (k : Int) < i := by omega
 have w : wrp .i64 (((bit + k : Nat) : Int) + 1) = ((bit + (k + 1) : Nat) : Int) := by rw [Z0q (by omega)]; omega
 have hm : ∀ caps args, mutV E (.clo 111 caps) args = none := fun _ _ => rfl
 have hec := Zv Z2U es
 suffices key : ∃ g2, (g2 = 94 ∨ g2 = 102) ∧ ∃ s', (execA E C (fg 40) 0 109 [] 1000 ZbO) (m2S D n g i (bit + k) es k) = some (.normal, s') ∧ headA [] s' = m2S D n g2 i (bit + (k + 1)) (es ++ pOf D (bit + k) i k) (k + 1) by
   obtain ⟨g2, a, s', b, c⟩ := key
   exact ⟨s', b, g2, a, c⟩
 have hne0 : ¬ (1 : Nat) = 0 := by omega
 by_cases hbit : D.pairs.testBit (bit + k) = true
 · by_cases hpl : plc D k < plc D i
   · skip
     have e : pOf D (bit + k) i k = [((k : Int), (i : Int))] := by unfold pOf; rw [if_pos hbit, if_pos hpl]
     rw [e]
     have hsnoc := Zg9 (f := bc) es ((k : Int), (i : Int))
     have hbc : bc ((k : Int), (i : Int)) = [.int .i64 (k : Int), .int .i64 (i : Int)] := rfl
     rw [hbc] at hsnoc
     by_cases hz : es.length = 0
     · have hes0 : es = [] := List.length_eq_zero_iff.1 hz
       subst hes0
       refine ⟨94, .inl rfl, ?_⟩
       have hone : cls bc ([] ++ [((k : Int), (i : Int))]) = [.int .i64 (k : Int), .int .i64 (i : Int)] := rfl
       simp only [m2S, mdH, bV, bH, List.length_nil, List.nil_append, List.length_singleton, if_pos, hne0, if_false]
       rw [show cls bc [((k : Int), (i : Int))] = [.int .i64 (k : Int), .int .i64 (i : Int)] from rfl]
       simp (disch := omega) only [Z9, Zh, Zc, Za, Z4, Z2, Z3, Z0, Zk, Zd, Zq, Zi, Zo, Zj, stp, justO, just, Rd.bind, Rd.run, Rd.opt, upds, acells, zeroCells, tsz, elemT, rdCells, fieldOf, Zb, aLoad, aStore, opStore, fresh, Zf, aBin, aInt, putC, evO, Nat.reduceAdd, Nat.reduceMul, Nat.reduceLT, Nat.reduceGT, Nat.reduceBEq, Nat.reduceEqDiff, Nat.reduceLeDiff, ↓reduceIte, reduceCtorEq, Ze, Nat.zero_add, Nat.add_zero, ne_eq, beq_iff_eq, List.nil_append, List.getElem?_toArray, Bool.and_true, decide_true, not_true_eq_false, or_self, ZZ, Z0Q, fo6, fo5, partsOf, fillA, repC, Z0I, aAppend, srcOf, window, Z5, Zl, and_true, aCall, snaps, List.append_nil, Option.map_some, List.elem_cons, List.elem_nil, List.length_cons, List.length_nil, List.getElem?_cons_zero, List.getElem?_cons_succ, List.drop_zero, List.take_succ_cons, List.take_nil, List.set_cons_zero, List.set_cons_succ, Zs, seqN, bindN, regN, Zw, ZH, Z0l, aBuild, opCallV, List.cons_append, Nat.le_refl, Nat.mul_one, Nat.zero_mul, beq_self_eq_true, Nat.lt_irrefl, Bool.false_eq_true, T_3, T_23, T_25, T_64, T_55, T_58, beq_self_eq_true, Z3x, Z1L, Z1M, Z3B, Z3P, Z3F, Z9G, Z3E, Z3q, Z3Q, Za9, Z3W, Z3H, Z3G, Z3k, Z3M, Z3w, Z3R, Z9v, Z3T, Z3K, Z3o, Z3y, Z94, Z72, Z90, Z69, ZcV, Z7H, Z8a, Z6a, Z5K, Z7j, Z6f, Z7X, Z6u, Z5B, Z5O, ZdP, Z7w, Z6I, Z8H, Z8t, Z6V, Z85, Z7h, Z6k, Z7i, Z7B, Zdo, Za0, Z9r, Z9F, Zah, Z9R, Z3u, Z3V, Z3t, Z3n, Z9V, Z9L, Za8, Z9I, Z3r, Z3Y, Z3l, Zag, Z3N, Z3v, g1, hat, hlen, hsn2, hsh, ha, he, hbit, w, hpi, hpk, hpl, Z1v (hm _ _), Zbm, ZdG (show 1 ≤ 1000000 by omega), ZK (show k < 1000000 by omega)]
       exact ⟨_, rfl, Z0t (Z0f _ Z0H) rfl rfl⟩
     · obtain ⟨m, hml⟩ : ∃ m, es.length = m + 1 := ⟨es.length - 1, by omega⟩
       have hl2 : (es ++ [((k : Int), (i : Int))]).length = m + 1 + 1 := by simp [hml]
       have ev : ∀ g, bV g (m + 1) = .ref g 0 (m + 1) (m + 1) ((m + 1) * 2) 2 false := fun g => if_neg (by omega)
       have ev2 : ∀ g, bV g (m + 1 + 1) = .ref g 0 (m + 1 + 1) (m + 1 + 1) ((m + 1 + 1) * 2) 2 false := fun g => if_neg (by omega)
       have eh : ∀ g, bH g es = [(g, ⟨.row, cls bc es⟩)] := fun g => if_neg hz
       have eh2 : ∀ g, bH g (es ++ [((k : Int), (i : Int))]) = [(g, ⟨.row, cls bc (es ++ [((k : Int), (i : Int))])⟩)] := fun g => if_neg (by omega)
       have hte : List.take ((m + 1) * 2) (cls bc es) = cls bc es := List.take_of_length_le (by omega)
       have nm : ¬ m + 1 + 1 ≤ m + 1 := by omega
       rw [hml] at hec
       refine ⟨g, hg, ?_⟩
       simp only [m2S, mdH, hml, hl2, ev, ev2, eh, eh2]
       generalize cls bc (es ++ [((k : Int), (i : Int))]) = ce2 at *
       generalize cls bc es = ce at *
       rcases hg with rfl | rfl
       · simp (disch := omega) only [Z9, Zh, Zc, Za, Z4, Z2, Z3, Z0, Zk, Zd, Zq, Zi, Zo, Zj, stp, justO, just, Rd.bind, Rd.run, Rd.opt, upds, acells, zeroCells, tsz, elemT, rdCells, fieldOf, Zb, aLoad, aStore, opStore, fresh, Zf, aBin, aInt, putC, evO, Nat.reduceAdd, Nat.reduceMul, Nat.reduceLT, Nat.reduceGT, Nat.reduceBEq, Nat.reduceEqDiff, Nat.reduceLeDiff, ↓reduceIte, reduceCtorEq, Ze, Nat.zero_add, Nat.add_zero, ne_eq, beq_iff_eq, List.nil_append, List.getElem?_toArray, Bool.and_true, decide_true, not_true_eq_false, or_self, ZZ, Z0Q, fo6, fo5, partsOf, fillA, repC, Z0I, aAppend, srcOf, window, Z5, Zl, and_true, aCall, snaps, List.append_nil, Option.map_some, List.elem_cons, List.elem_nil, List.length_cons, List.length_nil, List.getElem?_cons_zero, List.getElem?_cons_succ, List.drop_zero, List.take_succ_cons, List.take_nil, List.set_cons_zero, List.set_cons_succ, Zs, seqN, bindN, regN, Zw, ZH, Z0l, aBuild, opCallV, List.cons_append, Nat.le_refl, Nat.mul_one, Nat.zero_mul, beq_self_eq_true, Nat.lt_irrefl, Bool.false_eq_true, T_3, T_23, T_25, T_64, T_55, T_58, beq_self_eq_true, Z3x, Z1L, Z1M, Z3B, Z3P, Z3F, Z9G, Z3E, Z3q, Z3Q, Za9, Z3W, Z3H, Z3G, Z3k, Z3M, Z3w, Z3R, Z9v, Z3T, Z3K, Z3o, Z3y, Z94, Z72, Z90, Z69, ZcV, Z7H, Z8a, Z6a, Z5K, Z7j, Z6f, Z7X, Z6u, Z5B, Z5O, ZdP, Z7w, Z6I, Z8H, Z8t, Z6V, Z85, Z7h, Z6k, Z7i, Z7B, Zdo, Za0, Z9r, Z9F, Zah, Z9R, Z3u, Z3V, Z3t, Z3n, Z9V, Z9L, Za8, Z9I, Z3r, Z3Y, Z3l, Zag, Z3N, Z3v, g1, hat, hlen, hsn2, hsh, ha, he, hbit, w, hpi, hpk, hpl, Z1v (hm _ _), Zbm, hec, hte, nm, hsnoc, ZdG (show m + 1 + 1 ≤ 1000000 by omega), ZK (show k < 1000000 by omega)]
         exact ⟨_, rfl, Z0t (Z0f _ Z0H) rfl rfl⟩
       · simp (disch := omega) only [Z9, Zh, Zc, Za, Z4, Z2, Z3, Z0, Zk, Zd, Zi, Zo, Zj, stp, justO, just, Rd.bind, Rd.run, Rd.opt, upds, acells, zeroCells, tsz, elemT, rdCells, fieldOf, Zb, aLoad, aStore, opStore, fresh, Zf, aBin, aInt, putC, evO, Nat.reduceAdd, Nat.reduceMul, Nat.reduceLT, Nat.reduceGT, Nat.reduceBEq, Nat.reduceEqDiff, Nat.reduceLeDiff, ↓reduceIte, reduceCtorEq, Ze, Nat.zero_add, Nat.add_zero, ne_eq, beq_iff_eq, List.nil_append, List.getElem?_toArray, Bool.and_true, decide_true, not_true_eq_false, or_self, ZZ, Z0Q, fo6, fo5, partsOf, fillA, repC, Z0I, aAppend, srcOf, window, Z5, Zl, and_true, aCall, snaps, List.append_nil, Option.map_some, List.elem_cons, List.elem_nil, List.length_cons, List.length_nil, List.getElem?_cons_zero, List.getElem?_cons_succ, List.drop_zero, List.take_succ_cons, List.take_nil, List.set_cons_zero, List.set_cons_succ, Zs, seqN, bindN, regN, Zw, ZH, Z0l, aBuild, opCallV, List.cons_append, Nat.le_refl, Nat.mul_one, Nat.zero_mul, beq_self_eq_true, Nat.lt_irrefl, Bool.false_eq_true, T_3, T_23, T_25, T_64, T_55, T_58, beq_self_eq_true, Z3x, Z1L, Z1M, Z3B, Z3P, Z3F, Z9G, Z3E, Z3q, Z3Q, Za9, Z3W, Z3H, Z3G, Z3k, Z3M, Z3w, Z3R, Z9v, Z3T, Z3K, Z3o, Z3y, Z94, Z72, Z90, Z69, ZcV, Z7H, Z8a, Z6a, Z5K, Z7j, Z6f, Z7X, Z6u, Z5B, Z5O, ZdP, Z7w, Z6I, Z8H, Z8t, Z6V, Z85, Z7h, Z6k, Z7i, Z7B, Zdo, Za0, Z9r, Z9F, Zah, Z9R, Z3u, Z3V, Z3t, Z3n, Z9V, Z9L, Za8, Z9I, Z3r, Z3Y, Z3l, Zag, Z3N, Z3v, g1, hat, hlen, hsn2, hsh, ha, he, hbit, w, hpi, hpk, hpl, Z1v (hm _ _), Zbm, hec, hte, nm, hsnoc, ZdG (show m + 1 + 1 ≤ 1000000 by omega), ZK (show k < 1000000 by omega)]
         exact ⟨_, rfl, Z0t (Z0f _ Z0H) rfl rfl⟩
   · skip
     have e : pOf D (bit + k) i k = [((i : Int), (k : Int))] := by unfold pOf; rw [if_pos hbit, if_neg hpl]
     rw [e]
     have hsnoc := Zg9 (f := bc) es ((i : Int), (k : Int))
     have hbc : bc ((i : Int), (k : Int)) = [.int .i64 (i : Int), .int .i64 (k : Int)] := rfl
     rw [hbc] at hsnoc
     by_cases hz : es.length = 0
     · have hes0 : es = [] := List.length_eq_zero_iff.1 hz
       subst hes0
       refine ⟨102, .inr rfl, ?_⟩
       have hone : cls bc ([] ++ [((i : Int), (k : Int))]) = [.int .i64 (i : Int), .int .i64 (k : Int)] := rfl
       simp only [m2S, mdH, bV, bH, List.length_nil, List.nil_append, List.length_singleton, if_pos, hne0, if_false]
       rw [show cls bc [((i : Int), (k : Int))] = [.int .i64 (i : Int), .int .i64 (k : Int)] from rfl]
       simp (disch := omega) only [Z9, Zh, Zc, Za, Z4, Z2, Z3, Z0, Zk, Zd, Zq, Zi, Zo, Zj, stp, justO, just, Rd.bind, Rd.run, Rd.opt, upds, acells, zeroCells, tsz, elemT, rdCells, fieldOf, Zb, aLoad, aStore, opStore, fresh, Zf, aBin, aInt, putC, evO, Nat.reduceAdd, Nat.reduceMul, Nat.reduceLT, Nat.reduceGT, Nat.reduceBEq, Nat.reduceEqDiff, Nat.reduceLeDiff, ↓reduceIte, reduceCtorEq, Ze, Nat.zero_add, Nat.add_zero, ne_eq, beq_iff_eq, List.nil_append, List.getElem?_toArray, Bool.and_true, decide_true, decide_false, not_true_eq_false, or_self, ZZ, Z0Q, fo6, fo5, partsOf, fillA, repC, Z0I, aAppend, srcOf, window, Z5, Zl, and_true, aCall, snaps, List.append_nil, Option.map_some, List.elem_cons, List.elem_nil, List.length_cons, List.length_nil, List.getElem?_cons_zero, List.getElem?_cons_succ, List.drop_zero, List.take_succ_cons, List.take_nil, List.set_cons_zero, List.set_cons_succ, Zs, seqN, bindN, regN, Zw, ZH, Z0l, aBuild, opCallV, List.cons_append, Nat.le_refl, Nat.mul_one, Nat.zero_mul, beq_self_eq_true, Nat.lt_irrefl, Bool.false_eq_true, T_3, T_23, T_25, T_64, T_55, T_58, beq_self_eq_true, Z3x, Z1L, Z1M, Z3B, Z3P, Z3F, Z9G, Z3E, Z3q, Z3Q, Za9, Z3W, Z3H, Z3G, Z3k, Z3M, Z3w, Z3R, Z9v, Z3T, Z3K, Z3o, Z3y, Z94, Z72, Z90, Z69, ZcV, Z7H, Z8a, Z6a, Z5K, Z7j, Z6f, Z7X, Z6u, Z5B, Z5O, ZdP, Z7w, Z6I, Z8H, Z8t, Z6V, Z85, Z7h, Z6k, Z7i, Z7B, Zdo, Za0, Z9r, Z9F, Zah, Z9R, Z3u, Z3V, Z3t, Z3n, Z9V, Z9L, Za8, Z9I, Z3r, Z3Y, Z3l, Zag, Z3N, Z3v, g1, hat, hlen, hsn2, hsh, ha, he, hbit, w, hpi, hpk, hpl, Z1v (hm _ _), Zbm, ZdG (show 1 ≤ 1000000 by omega), ZK (show k < 1000000 by omega)]
       exact ⟨_, rfl, Z0t (Z0f _ Z0H) rfl rfl⟩
     · obtain ⟨m, hml⟩ : ∃ m, es.length = m + 1 := ⟨es.length - 1, by omega⟩
       have hl2 : (es ++ [((i : Int), (k : Int))]).length = m + 1 + 1 := by simp [hml]
       have ev : ∀ g, bV g (m + 1) = .ref g 0 (m + 1) (m + 1) ((m + 1) * 2) 2 false := fun g => if_neg (by omega)
       have ev2 : ∀ g, bV g (m + 1 + 1) = .ref g 0 (m + 1 + 1) (m + 1 + 1) ((m + 1 + 1) * 2) 2 false := fun g => if_neg (by omega)
       have eh : ∀ g, bH g es = [(g, ⟨.row, cls bc es⟩)] := fun g => if_neg hz
       have eh2 : ∀ g, bH g (es ++ [((i : Int), (k : Int))]) = [(g, ⟨.row, cls bc (es ++ [((i : Int), (k : Int))])⟩)] := fun g => if_neg (by omega)
       have hte : List.take ((m + 1) * 2) (cls bc es) = cls bc es := List.take_of_length_le (by omega)
       have nm : ¬ m + 1 + 1 ≤ m + 1 := by omega
       rw [hml] at hec
       refine ⟨g, hg, ?_⟩
       simp only [m2S, mdH, hml, hl2, ev, ev2, eh, eh2]
       generalize cls bc (es ++ [((i : Int), (k : Int))]) = ce2 at *
       generalize cls bc es = ce at *
       rcases hg with rfl | rfl
       · simp (disch := omega) only [Z9, Zh, Zc, Za, Z4, Z2, Z3, Z0, Zk, Zd, Zq, Zi, Zo, Zj, stp, justO, just, Rd.bind, Rd.run, Rd.opt, upds, acells, zeroCells, tsz, elemT, rdCells, fieldOf, Zb, aLoad, aStore, opStore, fresh, Zf, aBin, aInt, putC, evO, Nat.reduceAdd, Nat.reduceMul, Nat.reduceLT, Nat.reduceGT, Nat.reduceBEq, Nat.reduceEqDiff, Nat.reduceLeDiff, ↓reduceIte, reduceCtorEq, Ze, Nat.zero_add, Nat.add_zero, ne_eq, beq_iff_eq, List.nil_append, List.getElem?_toArray, Bool.and_true, decide_true, decide_false, not_true_eq_false, or_self, ZZ, Z0Q, fo6, fo5, partsOf, fillA, repC, Z0I, aAppend, srcOf, window, Z5, Zl, and_true, aCall, snaps, List.append_nil, Option.map_some, List.elem_cons, List.elem_nil, List.length_cons, List.length_nil, List.getElem?_cons_zero, List.getElem?_cons_succ, List.drop_zero, List.take_succ_cons, List.take_nil, List.set_cons_zero, List.set_cons_succ, Zs, seqN, bindN, regN, Zw, ZH, Z0l, aBuild, opCallV, List.cons_append, Nat.le_refl, Nat.mul_one, Nat.zero_mul, beq_self_eq_true, Nat.lt_irrefl, Bool.false_eq_true, T_3, T_23, T_25, T_64, T_55, T_58, beq_self_eq_true, Z3x, Z1L, Z1M, Z3B, Z3P, Z3F, Z9G, Z3E, Z3q, Z3Q, Za9, Z3W, Z3H, Z3G, Z3k, Z3M, Z3w, Z3R, Z9v, Z3T, Z3K, Z3o, Z3y, Z94, Z72, Z90, Z69, ZcV, Z7H, Z8a, Z6a, Z5K, Z7j, Z6f, Z7X, Z6u, Z5B, Z5O, ZdP, Z7w, Z6I, Z8H, Z8t, Z6V, Z85, Z7h, Z6k, Z7i, Z7B, Zdo, Za0, Z9r, Z9F, Zah, Z9R, Z3u, Z3V, Z3t, Z3n, Z9V, Z9L, Za8, Z9I, Z3r, Z3Y, Z3l, Zag, Z3N, Z3v, g1, hat, hlen, hsn2, hsh, ha, he, hbit, w, hpi, hpk, hpl, Z1v (hm _ _), Zbm, hec, hte, nm, hsnoc, ZdG (show m + 1 + 1 ≤ 1000000 by omega), ZK (show k < 1000000 by omega)]
         exact ⟨_, rfl, Z0t (Z0f _ Z0H) rfl rfl⟩
       · simp (disch := omega) only [Z9, Zh, Zc, Za, Z4, Z2, Z3, Z0, Zk, Zd, Zi, Zo, Zj, stp, justO, just, Rd.bind, Rd.run, Rd.opt, upds, acells, zeroCells, tsz, elemT, rdCells, fieldOf, Zb, aLoad, aStore, opStore, fresh, Zf, aBin, aInt, putC, evO, Nat.reduceAdd, Nat.reduceMul, Nat.reduceLT, Nat.reduceGT, Nat.reduceBEq, Nat.reduceEqDiff, Nat.reduceLeDiff, ↓reduceIte, reduceCtorEq, Ze, Nat.zero_add, Nat.add_zero, ne_eq, beq_iff_eq, List.nil_append, List.getElem?_toArray, Bool.and_true, decide_true, decide_false, not_true_eq_false, or_self, ZZ, Z0Q, fo6, fo5, partsOf, fillA, repC, Z0I, aAppend, srcOf, window, Z5, Zl, and_true, aCall, snaps, List.append_nil, Option.map_some, List.elem_cons, List.elem_nil, List.length_cons, List.length_nil, List.getElem?_cons_zero, List.getElem?_cons_succ, List.drop_zero, List.take_succ_cons, List.take_nil, List.set_cons_zero, List.set_cons_succ, Zs, seqN, bindN, regN, Zw, ZH, Z0l, aBuild, opCallV, List.cons_append, Nat.le_refl, Nat.mul_one, Nat.zero_mul, beq_self_eq_true, Nat.lt_irrefl, Bool.false_eq_true, T_3, T_23, T_25, T_64, T_55, T_58, beq_self_eq_true, Z3x, Z1L, Z1M, Z3B, Z3P, Z3F, Z9G, Z3E, Z3q, Z3Q, Za9, Z3W, Z3H, Z3G, Z3k, Z3M, Z3w, Z3R, Z9v, Z3T, Z3K, Z3o, Z3y, Z94, Z72, Z90, Z69, ZcV, Z7H, Z8a, Z6a, Z5K, Z7j, Z6f, Z7X, Z6u, Z5B, Z5O, ZdP, Z7w, Z6I, Z8H, Z8t, Z6V, Z85, Z7h, Z6k, Z7i, Z7B, Zdo, Za0, Z9r, Z9F, Zah, Z9R, Z3u, Z3V, Z3t, Z3n, Z9V, Z9L, Za8, Z9I, Z3r, Z3Y, Z3l, Zag, Z3N, Z3v, g1, hat, hlen, hsn2, hsh, ha, he, hbit, w, hpi, hpk, hpl, Z1v (hm _ _), Zbm, hec, hte, nm, hsnoc, ZdG (show m + 1 + 1 ≤ 1000000 by omega), ZK (show k < 1000000 by omega)]
         exact ⟨_, rfl, Z0t (Z0f _ Z0H) rfl rfl⟩
 · have e : pOf D (bit + k) i k = [] := by unfold pOf; rw [if_neg hbit]
   have hbit : D.pairs.testBit (bit + k) = false := by simpa using hbit
   rw [e, List.append_nil]
   refine ⟨g, hg, ?_⟩
   by_cases hz : es.length = 0
   · have ev : ∀ g, bV g es.length = .nilsl := fun g => if_pos hz
     have eh : ∀ g, bH g es = [] := fun g => if_pos hz
     simp only [m2S, mdH, ev, eh]
     simp (disch := omega) only [Z9, Zh, Zc, Za, Z4, Z2, Z3, Z0, Zd, Zo, Zj, stp, just, Rd.bind, Rd.run, Rd.opt, upds, rdCells, fieldOf, Zb, aLoad, aBin, aInt, Nat.reduceMul, Nat.reduceBEq, Nat.reduceEqDiff, Nat.reduceLeDiff, ↓reduceIte, Ze, Nat.zero_add, beq_iff_eq, decide_true, Z5, List.elem_cons, List.elem_nil, List.getElem?_cons_zero, List.getElem?_cons_succ, seqN, bindN, regN, beq_self_eq_true, Bool.false_eq_true, T_55, T_58, beq_self_eq_true, Z3x, Z1L, Z1M, Z3B, Z3P, Z3F, Z9G, Z3E, Z3q, Z3Q, Za9, Z3W, Z3H, Z3G, Z3k, Z3M, Z3w, Z3R, Z9v, Z3T, Z3K, Z3o, Z3y, Za0, Z9r, Z9F, Zah, Z9R, Z3u, Z3V, Z3t, Z3n, Z9V, Z9L, Za8, Z9I, Z3r, Z3Y, Z3l, Zag, Z3N, Z3v, g1, hat, hlen, hsh, ha, he, hbit, w, ZK (show k < 1000000 by omega)]
     exact ⟨_, rfl, Z0t (Z0f _ Z0H) rfl rfl⟩
   · have ev : ∀ g, bV g es.length = .ref g 0 es.length es.length (es.length * 2) 2 false := fun g => if_neg hz
     have eh : ∀ g, bH g es = [(g, ⟨.row, cls bc es⟩)] := fun g => if_neg hz
     simp only [m2S, mdH, ev, eh]
     simp (disch := omega) only [Z9, Zh, Zc, Za, Z4, Z2, Z3, Z0, Zd, Zo, Zj, stp, just, Rd.bind, Rd.run, Rd.opt, upds, rdCells, fieldOf, Zb, aLoad, aBin, aInt, Nat.reduceMul, Nat.reduceBEq, Nat.reduceEqDiff, Nat.reduceLeDiff, ↓reduceIte, Ze, Nat.zero_add, beq_iff_eq, decide_true, Z5, List.elem_cons, List.elem_nil, List.getElem?_cons_zero, List.getElem?_cons_succ, seqN, bindN, regN, beq_self_eq_true, Bool.false_eq_true, T_55, T_58, beq_self_eq_true, Z3x, Z1L, Z1M, Z3B, Z3P, Z3F, Z9G, Z3E, Z3q, Z3Q, Za9, Z3W, Z3H, Z3G, Z3k, Z3M, Z3w, Z3R, Z9v, Z3T, Z3K, Z3o, Z3y, Za0, Z9r, Z9F, Zah, Z9R, Z3u, Z3V, Z3t, Z3n, Z9V, Z9L, Za8, Z9I, Z3r, Z3Y, Z3l, Zag, Z3N, Z3v, g1, hat, hlen, hsh, ha, he, hbit, w, ZK (show k < 1000000 by omega)]
     rcases hg with rfl | rfl
     · exact ⟨_, rfl, Z0t (Z0f _ Z0H) rfl rfl⟩
     · exact ⟨_, rfl, Z0t (Z0f _ Z0H) rfl rfl⟩
end Go.AM.YtgfnbmfjbjopkaaDoor
end
noncomputable section
namespace Go.AM.YtgfnbmfjbjopkaaDoor
open Go Go.AM Go.AM.Mule
abbrev m3S (D : Dro) (n g i bit : Nat) (es : List Pr) : St :=
 ([(68, .int .i64 i), (67, .int .i64 n), (11, .int .i64 bit), (10, .clo 111 [.ptr 2 0 38]), (5, .ptr 5 0 2), (4, .ptr 4 0 2), (2, .ptr 2 0 38)], mdH D n g es)
theorem bVH (g : Nat) (es : List Pr) : (bV g es.length = .nilsl ∧ bH g es = []) ∨ (bV g es.length = .ref g 0 es.length es.length (es.length * 2) 2 false ∧ bH g es = [(g, ⟨.row, cls bc es⟩)]) := by
 by_cases h : es.length = 0
 · exact .inl ⟨if_pos h, if_pos h⟩
 · exact .inr ⟨if_neg h, if_neg h⟩
theorem Z0wI {D : Dro} {n g i bit k : Nat} {es : List Pr} (hg : g = 94 ∨ g = 102) : headA [] (m2S D n g i bit es k) = m2S D n g i bit es k := by
 simp only [m2S, mdH]
 rcases bVH g es with ⟨e1, e2⟩ | ⟨e1, e2⟩ <;> rw [e1, e2]
 · exact Z0t (Z0f _ Z0H) rfl rfl
 · rcases hg with rfl | rfl <;> exact Z0t (Z0f _ Z0H) rfl rfl
theorem Z0I5 {C : Callee} {D : Dro} (hC : MdC C D) (h : DOk D) {n g i : Nat} (hn : n ≤ 6) (hi : i < n) (hg : g = 94 ∨ g = 102) :
   ∃ s', (execA E C (fg 40) 0 109 [] 1000 Zbi) (m3S D n g i (mdE D i).2 (mdE D i).1) = some (.normal, s') ∧ ∃ g2, (g2 = 94 ∨ g2 = 102) ∧ headA [] s' = m3S D n g2 (i + 1) (mdE D (i + 1)).2 (mdE D (i + 1)).1 := by
 have hb := Z0Df D (i + 1) (by omega)
 have hel := Z01J D i
 simp only [mdE] at hb
 obtain ⟨se, hloop, g2, hg2, rfl⟩ := ZbF (f := (execA E C (fg 40) 0 109 [] 1000 ZbO)) (hd := headA []) (e := .exit 4)
   (P := fun k st => ∃ g, (g = 94 ∨ g = 102) ∧ st = m2S D n g i ((mdE D i).2 + k) ((mdE D i).1 ++ mdI D i (mdE D i).2 k) k)
   (Q := fun st => ∃ g, (g = 94 ∨ g = 102) ∧ st = ([(73, .bool false), (72, .int .i64 i), (71, .int .i64 i), (68, .int .i64 i), (67, .int .i64 n), (12, .int .i64 i), (11, .int .i64 ((mdE D i).2 + i : Nat)), (10, .clo 111 [.ptr 2 0 38]), (5, .ptr 5 0 2), (4, .ptr 4 0 2), (2, .ptr 2 0 38)], mdH D n g (mdE D (i + 1)).1))
   (by simp) i 1000 0 (m2S D n g i (mdE D i).2 (mdE D i).1 0) ⟨g, hg, by rw [Z0wI hg]; simp [mdI]⟩ (by omega)
   (fun k st _ hk hP => by
     obtain ⟨g, hg, rfl⟩ := hP
     have hml := Zvf D i (mdE D i).2 k
     obtain ⟨s', a1, g2, a2, a3⟩ := Z0HI (bit := (mdE D i).2) hC h hn hi k (by omega) (by omega) (by rw [List.length_append]; omega) hg (es := (mdE D i).1 ++ mdI D i (mdE D i).2 k)
     refine ⟨s', a1, g2, a2, ?_⟩
     rw [a3, List.append_assoc]
     rfl)
   (fun st hP => by
     obtain ⟨g, hg, rfl⟩ := hP
     rw [Nat.zero_add]
     refine ⟨_, ?_, g, hg, rfl⟩
     rw [show (mdE D i).1 ++ mdI D i (mdE D i).2 i = (mdE D (i + 1)).1 from rfl]
     generalize (mdE D (i + 1)).1 = es2 at *
     generalize (mdE D i).2 + i = b2 at *
     simp only [m2S, mdH]
     rcases bVH g es2 with ⟨e1, e2⟩ | ⟨e1, e2⟩ <;> rw [e1, e2]
     · simp (disch := omega) only [ZG, Z9, Zc, Za, Z4, Z2, Z3, Z0, Zo, stp, just, Rd.bind, Rd.run, Rd.opt, upds, aBin, aInt, Nat.reduceEqDiff, Nat.reduceLeDiff, ↓reduceIte, decide_false, Z5, List.elem_nil, seqN, bindN, regN, Int.lt_irrefl, Bool.false_eq_true, Z3x, Z1L, Z1M, Z3B, Z3P, Z3F, Z3N, Z3v]
     · rcases hg with rfl | rfl
       · simp (disch := omega) only [ZG, Z9, Zc, Za, Z4, Z2, Z3, Z0, Zo, stp, just, Rd.bind, Rd.run, Rd.opt, upds, aBin, aInt, Nat.reduceEqDiff, Nat.reduceLeDiff, ↓reduceIte, decide_false, Z5, List.elem_nil, seqN, bindN, regN, Int.lt_irrefl, Bool.false_eq_true, Z3x, Z1L, Z1M, Z3B, Z3P, Z3F, Z3N, Z3v]
       · simp (disch := omega) only [ZG, Z9, Zc, Za, Z4, Z2, Z3, Z0, Zo, stp, just, Rd.bind, Rd.run, Rd.opt, upds, aBin, aInt, Nat.reduceEqDiff, Nat.reduceLeDiff, ↓reduceIte, decide_false, Z5, List.elem_nil, seqN, bindN, regN, Int.lt_irrefl, Bool.false_eq_true, Z3x, Z1L, Z1M, Z3B, Z3P, Z3F, Z3N, Z3v])
 have e2 : (mdE D (i + 1)).2 = (mdE D i).2 + i := rfl
 suffices key : ∃ s', (execA E C (fg 40) 0 109 [] 1000 Zbi) (m3S D n g i (mdE D i).2 (mdE D i).1) = some (.normal, s') ∧ headA [] s' = m3S D n g2 (i + 1) (mdE D (i + 1)).2 (mdE D (i + 1)).1 by
   obtain ⟨s', b, c⟩ := key
   exact ⟨s', b, g2, hg2, c⟩
 rw [e2]
 have g1 : (i : Int) < n := by omega
 generalize (mdE D (i + 1)).1 = es2 at *
 generalize (mdE D i).2 + i = b2 at *
 generalize (mdE D i).2 = b1 at *
 generalize (mdE D i).1 = es1 at *
 simp only [m3S, m2S, mdH, cl0] at hloop ⊢
 rcases bVH g es1 with ⟨e1, e2⟩ | ⟨e1, e2⟩ <;> rw [e1, e2] at hloop ⊢ <;> rcases bVH g2 es2 with ⟨e3, e4⟩ | ⟨e3, e4⟩ <;> rw [e3, e4] at hloop ⊢
 · simp (disch := omega) only [Z9, Zz, Zh, Zc, Za, Z4, Z2, Z3, Z0, Zo, Zj, stp, just, Rd.bind, Rd.run, Rd.opt, upds, aBin, aInt, Nat.reduceBEq, Nat.reduceEqDiff, Nat.reduceLeDiff, ↓reduceIte, decide_true, Z5, List.elem_cons, List.elem_nil, seqN, bindN, regN, beq_self_eq_true, Bool.false_eq_true, beq_self_eq_true, ZbK, Z4J, Z4H, Zbo, ZbD, ZbH, Zqw, ZfO, Zf5, Zfw, Zro, Zfm, Zfx, Zg1, ZoH, Zsd, ZqD, ZpQ, ZqY, ZmV, ZfF, ZfQ, ZfC, ZoE, Zbq, ZbV, g1, hloop, ZK (show i < 1000000 by omega)]
   exact ⟨_, rfl, Z0t (Z0f _ Z0H) rfl rfl⟩
 · simp (disch := omega) only [Z9, Zz, Zh, Zc, Za, Z4, Z2, Z3, Z0, Zo, Zj, stp, just, Rd.bind, Rd.run, Rd.opt, upds, aBin, aInt, Nat.reduceBEq, Nat.reduceEqDiff, Nat.reduceLeDiff, ↓reduceIte, decide_true, Z5, List.elem_cons, List.elem_nil, seqN, bindN, regN, beq_self_eq_true, Bool.false_eq_true, beq_self_eq_true, ZbK, Z4J, Z4H, Zbo, ZbD, ZbH, Zqw, ZfO, Zf5, Zfw, Zro, Zfm, Zfx, Zg1, ZoH, Zsd, ZqD, ZpQ, ZqY, ZmV, ZfF, ZfQ, ZfC, ZoE, Zbq, ZbV, g1, hloop, ZK (show i < 1000000 by omega)]
   rcases hg2 with rfl | rfl <;> exact ⟨_, rfl, Z0t (Z0f _ Z0H) rfl rfl⟩
 · simp (disch := omega) only [Z9, Zz, Zh, Zc, Za, Z4, Z2, Z3, Z0, Zo, Zj, stp, just, Rd.bind, Rd.run, Rd.opt, upds, aBin, aInt, Nat.reduceBEq, Nat.reduceEqDiff, Nat.reduceLeDiff, ↓reduceIte, decide_true, Z5, List.elem_cons, List.elem_nil, seqN, bindN, regN, beq_self_eq_true, Bool.false_eq_true, beq_self_eq_true, ZbK, Z4J, Z4H, Zbo, ZbD, ZbH, Zqw, ZfO, Zf5, Zfw, Zro, Zfm, Zfx, Zg1, ZoH, Zsd, ZqD, ZpQ, ZqY, ZmV, ZfF, ZfQ, ZfC, ZoE, Zbq, ZbV, g1, hloop, ZK (show i < 1000000 by omega)]
   exact ⟨_, rfl, Z0t (Z0f _ Z0H) rfl rfl⟩
 · simp (disch := omega) only [Z9, Zz, Zh, Zc, Za, Z4, Z2, Z3, Z0, Zo, Zj, stp, just, Rd.bind, Rd.run, Rd.opt, upds, aBin, aInt, Nat.reduceBEq, Nat.reduceEqDiff, Nat.reduceLeDiff, ↓reduceIte, decide_true, Z5, List.elem_cons, List.elem_nil, seqN, bindN, regN, beq_self_eq_true, Bool.false_eq_true, beq_self_eq_true, ZbK, Z4J, Z4H, Zbo, ZbD, ZbH, Zqw, ZfO, Zf5, Zfw, Zro, Zfm, Zfx, Zg1, ZoH, Zsd, ZqD, ZpQ, ZqY, ZmV, ZfF, ZfQ, ZfC, ZoE, Zbq, ZbV, g1, hloop, ZK (show i < 1000000 by omega)]
   rcases hg2 with rfl | rfl <;> exact ⟨_, rfl, Z0t (Z0f _ Z0H) rfl rfl⟩
def mdP (D : Dro) (n : Nat) : List Pr := (mdE D n).1
theorem ZR7 {d : Nat} {D : Dro} (h : DOk D) {many : Int} (hm : many = 5 ∨ many = 6) :
   ∃ g H', (g = 94 ∨ g = 102) ∧ bodyA E (callA E fg 1000 (d + 1)) fg 1000 40 [.agg (dcs D), .int .i64 many] [] 0 = some (.agg [.ref 60 0 (nOf D many) (nOf D many) (nOf D many * 5) 5 false, bV g (mdP D (nOf D many)).length], H') ∧
     hget H' 60 = some ⟨.row, cls lc (mdL D (nOf D many))⟩ ∧ ((mdP D (nOf D many)).length ≠ 0 → hget H' g = some ⟨.row, cls bc (mdP D (nOf D many))⟩) := by
 have hC := mdC h d
 obtain ⟨n1, n2⟩ := ZBW h hm
 have hn6 : nOf D many ≤ 6 := by rcases hm with rfl | rfl <;> omega
 obtain ⟨m0, m1⟩ := h.many
 have hmany : (dcs D)[0]? = some (.int .u8 D.many) := rfl
 have hlen := ZaJ h
 have wm : wrp .i64 D.many = D.many := Z0q (by omega)
 have hne : ¬ many = 0 := by omega
 have r1 : D.many.tmod many = D.many % many := Int.tmod_eq_emod_of_nonneg m0
 have wn : wrp .i64 (1 + D.many % many) = (nOf D many : Int) := by
   have e1 := Int.emod_nonneg D.many hne
   have e2 := Int.emod_lt_of_pos D.many (show 0 < many by omega)
   unfold nOf
   rw [Z0q (by omega)]; omega
 generalize nOf D many = n at *
 generalize callA E fg 1000 (d + 1) = C at *
 have hl1 := loopN (f := (execA E C (fg 40) 0 109 [] 1000 Zka)) (fun i => m1S D n i) n (fun i hi => Z0Hx h hn6 i hi) (Z0t (Z0f _ Z0H) rfl rfl) (by omega)
   (e := .exit 0) (se := ([(24, .bool false), (23, .int .i64 n), (22, .int .i64 n), (21, .ref 2 1 n 6 38 5 true), (5, .ptr 5 0 2), (4, .ptr 4 0 2), (2, .ptr 2 0 38)],
     [(2, ⟨.box, dcs D⟩), (4, ⟨.box, [.nilsl, .nilsl]⟩), (5, ⟨.box, [.ref 60 0 n n (n * 5) 5 false, .nilsl]⟩), (60, ⟨.row, cls lc (mdL D n)⟩)]))
   (by
     have hoH : oH 60 (cls lc (mdL D n)) = [(60, ⟨.row, cls lc (mdL D n)⟩)] := Zfg 60 (by rw [Zv ZJ, ZaP h hn6]; omega)
     have hov : oV 60 5 n = .ref 60 0 n n (n * 5) 5 false := by
       obtain ⟨m, rfl⟩ : ∃ m, n = m + 1 := ⟨n - 1, by omega⟩
       rfl
     simp only [m1S, hoH, hov]
     simp (disch := omega) only [ZG, Z9, Zc, Za, Z4, Z2, Z3, Z0, Zo, stp, just, Rd.bind, Rd.run, Rd.opt, upds, aBin, aInt, Nat.reduceEqDiff, Nat.reduceLeDiff, ↓reduceIte, decide_false, Z5, List.elem_nil, seqN, bindN, regN, Int.lt_irrefl, Bool.false_eq_true, ZPs, Zwd, ZtQ, ZJJ, ZQp, ZJC, ZUf, Z0dl]) (by simp)
 obtain ⟨se, hl2, g, hg, rfl⟩ := ZbF (f := (execA E C (fg 40) 0 109 [] 1000 Zbi)) (hd := headA []) (e := .exit 2)
   (P := fun i st => ∃ g, (g = 94 ∨ g = 102) ∧ st = m3S D n g i (mdE D i).2 (mdE D i).1)
   (Q := fun st => ∃ g, (g = 94 ∨ g = 102) ∧ st = ([(69, .bool false), (68, .int .i64 n), (67, .int .i64 n), (11, .int .i64 ((mdE D n).2 : Nat)), (10, .clo 111 [.ptr 2 0 38]), (5, .ptr 5 0 2), (4, .ptr 4 0 2), (2, .ptr 2 0 38)], mdH D n g (mdP D n)))
   (by simp) n 1000 0 (m3S D n 94 0 0 []) ⟨94, .inl rfl, by
     show headA [] (m3S D n 94 0 0 []) = m3S D n 94 0 0 []
     exact Z0t (Z0f _ Z0H) rfl rfl⟩ (by omega)
   (fun i st _ hi hP => by
     obtain ⟨g, hg, rfl⟩ := hP
     exact Z0I5 hC h hn6 (by omega) hg)
   (fun st hP => by
     obtain ⟨g, hg, rfl⟩ := hP
     rw [Nat.zero_add]
     refine ⟨_, ?_, g, hg, rfl⟩
     rw [show (mdE D n).1 = mdP D n from rfl]
     generalize mdP D n = es2 at *
     generalize (mdE D n).2 = b2 at *
     simp only [m3S, mdH]
     rcases bVH g es2 with ⟨e1, e2⟩ | ⟨e1, e2⟩ <;> rw [e1, e2]
     · simp (disch := omega) only [ZG, Z9, Zc, Za, Z4, Z2, Z3, Z0, Zo, stp, just, Rd.bind, Rd.run, Rd.opt, upds, aBin, aInt, Nat.reduceEqDiff, Nat.reduceLeDiff, ↓reduceIte, decide_false, Z5, List.elem_nil, seqN, bindN, regN, Int.lt_irrefl, Bool.false_eq_true, ZbK, Z4J, Z4H, Zbo, ZbD, ZbH, Zbq, ZbV]
     · rcases hg with rfl | rfl
       · simp (disch := omega) only [ZG, Z9, Zc, Za, Z4, Z2, Z3, Z0, Zo, stp, just, Rd.bind, Rd.run, Rd.opt, upds, aBin, aInt, Nat.reduceEqDiff, Nat.reduceLeDiff, ↓reduceIte, decide_false, Z5, List.elem_nil, seqN, bindN, regN, Int.lt_irrefl, Bool.false_eq_true, ZbK, Z4J, Z4H, Zbo, ZbD, ZbH, Zbq, ZbV]
       · simp (disch := omega) only [ZG, Z9, Zc, Za, Z4, Z2, Z3, Z0, Zo, stp, just, Rd.bind, Rd.run, Rd.opt, upds, aBin, aInt, Nat.reduceEqDiff, Nat.reduceLeDiff, ↓reduceIte, decide_false, Z5, List.elem_nil, seqN, bindN, regN, Int.lt_irrefl, Bool.false_eq_true, ZbK, Z4J, Z4H, Zbo, ZbD, ZbH, Zbq, ZbV])
 have hll : (cls lc (mdL D n)).length = n * 5 := by rw [Zv ZJ, ZaP h hn6]
 have gn : (n : Int) ≤ 6 := by omega
 have gn2 : n ≤ 6 := hn6
 have ho1 : 1 + 30 ≤ 38 := by omega
 rw [show m1S D n 0 = ([(23, .int .i64 0), (22, .int .i64 n), (21, .ref 2 1 n 6 38 5 true), (5, .ptr 5 0 2), (4, .ptr 4 0 2), (2, .ptr 2 0 38)], [(2, ⟨.box, dcs D⟩), (4, ⟨.box, [.nilsl, .nilsl]⟩), (5, ⟨.box, [.nilsl, .nilsl]⟩)]) from rfl] at hl1
 rw [show m3S D n 94 0 0 [] = ([(68, .int .i64 0), (67, .int .i64 n), (11, .int .i64 0), (10, .clo 111 [.ptr 2 0 38]), (5, .ptr 5 0 2), (4, .ptr 4 0 2), (2, .ptr 2 0 38)], [(2, ⟨.box, dcs D⟩), (4, ⟨.box, [.nilsl, .nilsl]⟩), (5, ⟨.box, [.ref 60 0 n n (n * 5) 5 false, .nilsl]⟩), (60, ⟨.row, cls lc (mdL D n)⟩)]) from rfl] at hl2
 refine ⟨g, ?_⟩
 simp only [mdH] at hl2
 rcases bVH g (mdP D n) with ⟨e1, e2⟩ | ⟨e1, e2⟩
 · rw [e1, e2] at hl2
   rw [e1]
   have h0 : (mdP D n).length = 0 := by
     refine Classical.byContradiction fun hc => ?_
     have : bV g (mdP D n).length = .ref g 0 (mdP D n).length (mdP D n).length ((mdP D n).length * 2) 2 false := if_neg hc
     rw [e1] at this
     exact absurd this (by simp)
   generalize dcs D = dc at *
   simp (disch := omega) only [Zz, Zp, Zc, Za, Z4, Z2, Z3, Z0, Zk, Zd, Zq, Zi, Zm, Zo, Zj, stp, opBox, justO, just, Rd.bind, Rd.run, Rd.opt, upds, acells, zeroCells, tsz, rdCells, fieldOf, Zb, aLoad, aStore, opStore, resA, resL, fresh, aNum, aLen, Zf, aBin, aInt, putC, Nat.reduceAdd, Nat.reduceMul, Nat.reduceLT, Nat.reduceBEq, Nat.reduceEqDiff, Nat.reduceLeDiff, ↓reduceIte, reduceCtorEq, Ze, Nat.zero_add, Nat.add_zero, ne_eq, List.getElem?_toArray, Bool.and_true, decide_true, Z5, Zl, and_true, true_and, Int.natCast_nonneg, Int.toNat_natCast, snaps, List.append_nil, Option.map_some, List.elem_cons, List.elem_nil, List.length_cons, List.length_nil, List.getElem?_cons_zero, List.getElem?_cons_succ, List.drop_zero, List.take_succ_cons, List.take_nil, List.set_cons_zero, List.set_cons_succ, seqN, bindN, regN, ZU, ZH, aConv, aSlice, aBounds, bMax, bHigh, bLow, Nat.le_refl, Nat.sub_zero, Nat.zero_mul, beq_self_eq_true, Bool.false_eq_true, Option.getD_none, T_3, T_22, T_25, T_5, T_53, T_54, T_58, Zp4, beq_self_eq_true, Z0eC, ZwD, ZuZ, ZsG, Z0eg, ZuL, Zw3, Z0dQ, Zti, Zw0, Zwf, Zvb, ZtJ, Zt0, ZuW, ZuN, ZsI, ZuS, Ztr, Z0eo, Z0f1, Z0eR, ZNP, ZsK, Zuh, Zub, Zve, Zu3, ZRp, ZlZ, ZmQ, ZmH, ZUc, Zm9, Zmi, ZRj, ZmK, ZlR, Zm6, ZWl, ZCR, ZUk, ZCD, ZmN, Zma, ZmL, ZFh, ZEI, ZKt, ZED, ZFe, ZD7, Z0dm, Z0e4, Z0dK, b_40, hmany, hlen, wm, hne, r1, wn, ho1, hl1, hl2, hll, if_pos]
   exact ⟨_, hg, rfl, rfl, fun hc => absurd h0 hc⟩
 · rw [e1, e2] at hl2
   rw [e1]
   generalize dcs D = dc at *
   rcases hg with rfl | rfl
   · simp (disch := omega) only [Zz, Zp, Zc, Za, Z4, Z2, Z3, Z0, Zk, Zd, Zq, Zi, Zm, Zo, Zj, stp, opBox, justO, just, Rd.bind, Rd.run, Rd.opt, upds, acells, zeroCells, tsz, rdCells, fieldOf, Zb, aLoad, aStore, opStore, resA, resL, fresh, aNum, aLen, Zf, aBin, aInt, putC, Nat.reduceAdd, Nat.reduceMul, Nat.reduceLT, Nat.reduceBEq, Nat.reduceEqDiff, Nat.reduceLeDiff, ↓reduceIte, reduceCtorEq, Ze, Nat.zero_add, Nat.add_zero, ne_eq, List.getElem?_toArray, Bool.and_true, decide_true, or_false, Z5, Zl, and_true, true_and, Int.natCast_nonneg, Int.toNat_natCast, snaps, List.append_nil, Option.map_some, List.elem_cons, List.elem_nil, List.length_cons, List.length_nil, List.getElem?_cons_zero, List.getElem?_cons_succ, List.drop_zero, List.take_succ_cons, List.take_nil, List.set_cons_zero, List.set_cons_succ, seqN, bindN, regN, ZH, aConv, aSlice, aBounds, bMax, bHigh, bLow, Nat.le_refl, Nat.sub_zero, Nat.zero_mul, beq_self_eq_true, Bool.false_eq_true, Option.getD_none, T_3, T_22, T_25, T_5, T_53, T_54, T_58, Zp4, beq_self_eq_true, Z0eC, ZwD, ZuZ, ZsG, Z0eg, ZuL, Zw3, Z0dQ, Zti, Zw0, Zwf, Zvb, ZtJ, Zt0, ZuW, ZuN, ZsI, ZuS, Ztr, Z0eo, Z0f1, Z0eR, ZNP, ZsK, Zuh, Zub, Zve, Zu3, ZRp, ZlZ, ZmQ, ZmH, ZUc, Zm9, Zmi, ZRj, ZmK, ZlR, Zm6, ZWl, ZCR, ZUk, ZCD, ZmN, Zma, ZmL, ZFh, ZEI, ZKt, ZED, ZFe, ZD7, Z0dm, Z0e4, Z0dK, b_40, hmany, hlen, wm, hne, r1, wn, ho1, hl1, hl2, hll, if_pos]
     exact ⟨_, rfl, rfl, fun _ => rfl⟩
   · simp (disch := omega) only [Zz, Zp, Zc, Za, Z4, Z2, Z3, Z0, Zk, Zd, Zq, Zi, Zm, Zo, Zj, stp, opBox, justO, just, Rd.bind, Rd.run, Rd.opt, upds, acells, zeroCells, tsz, rdCells, fieldOf, Zb, aLoad, aStore, opStore, resA, resL, fresh, aNum, aLen, Zf, aBin, aInt, putC, Nat.reduceAdd, Nat.reduceMul, Nat.reduceLT, Nat.reduceBEq, Nat.reduceEqDiff, Nat.reduceLeDiff, ↓reduceIte, reduceCtorEq, Ze, Nat.zero_add, Nat.add_zero, ne_eq, List.getElem?_toArray, Bool.and_true, decide_true, or_true, Z5, Zl, and_true, true_and, Int.natCast_nonneg, Int.toNat_natCast, snaps, List.append_nil, Option.map_some, List.elem_cons, List.elem_nil, List.length_cons, List.length_nil, List.getElem?_cons_zero, List.getElem?_cons_succ, List.drop_zero, List.take_succ_cons, List.take_nil, List.set_cons_zero, List.set_cons_succ, seqN, bindN, regN, ZH, aConv, aSlice, aBounds, bMax, bHigh, bLow, Nat.le_refl, Nat.sub_zero, Nat.zero_mul, beq_self_eq_true, Bool.false_eq_true, Option.getD_none, T_3, T_22, T_25, T_5, T_53, T_54, T_58, Zp4, beq_self_eq_true, Z0eC, ZwD, ZuZ, ZsG, Z0eg, ZuL, Zw3, Z0dQ, Zti, Zw0, Zwf, Zvb, ZtJ, Zt0, ZuW, ZuN, ZsI, ZuS, Ztr, Z0eo, Z0f1, Z0eR, ZNP, ZsK, Zuh, Zub, Zve, Zu3, ZRp, ZlZ, ZmQ, ZmH, ZUc, Zm9, Zmi, ZRj, ZmK, ZlR, Zm6, ZWl, ZCR, ZUk, ZCD, ZmN, Zma, ZmL, ZFh, ZEI, ZKt, ZED, ZFe, ZD7, Z0dm, Z0e4, Z0dK, b_40, hmany, hlen, wm, hne, r1, wn, ho1, hl1, hl2, hll, if_pos]
     exact ⟨_, rfl, rfl, fun _ => rfl⟩
end Go.AM.YtgfnbmfjbjopkaaDoor
end
noncomputable section
namespace Go.AM.YtgfnbmfjbjopkaaDoor
open Go Go.AM Go.AM.Mule
def memB (s : Nat) (r : Option (AV × AHeap)) : Bool :=
 match r with
 | some (.nilsl, _) => Nat.beq s 0
 | some (.ref 16 0 l c g 1 false, [(16, ⟨.row, cells⟩)]) => !Nat.beq s 0 && Nat.beq l (lst s).length && Nat.beq c (lst s).length && Nat.beq g (lst s).length && (match eqInts .i64 cells (ins (lst s)) with | some true => true | _ => false)
 | _ => false
theorem Z0yA (d : Nat) : (List.range 64).all (fun s => memB s (callA E fg 1000 (d + 1) 41 [.int .i64 s] [] 0)) = true := by kernel_rfl
theorem Z0zO {d s : Nat} (h : s < 64) : (s = 0 ∧ ∃ H, callA E fg 1000 (d + 1) 41 [.int .i64 s] [] 0 = some (.nilsl, H)) ∨
   (s ≠ 0 ∧ callA E fg 1000 (d + 1) 41 [.int .i64 s] [] 0 = some (.ref 16 0 (lst s).length (lst s).length (lst s).length 1 false, [(16, ⟨.row, ins (lst s)⟩)])) := by
 have := List.all_eq_true.1 (Z0yA d) s (List.mem_range.2 h)
 revert this
 generalize callA E fg 1000 (d + 1) 41 [.int .i64 s] [] 0 = r
 intro this
 unfold memB at this
 split at this
 · exact .inl ⟨Nat.eq_of_beq_eq_true this, _, rfl⟩
 · rename_i l c g cells
   simp only [Bool.and_eq_true, Bool.not_eq_true'] at this
   obtain ⟨⟨⟨⟨h1, h2⟩, h3⟩, h4⟩, h5⟩ := this
   refine .inr ⟨Nat.ne_of_beq_eq_false h1, ?_⟩
   rw [Nat.eq_of_beq_eq_true h2, Nat.eq_of_beq_eq_true h3, Nat.eq_of_beq_eq_true h4]
   have : eqInts .i64 cells (ins (lst s)) = some true := by
     split at h5 <;> simp_all
   rw [Zi8 this]
 · simp at this
theorem Z0z4 {d s : Nat} {site : Nat → Nat} {seen : List Nat} (h : s < 64) (h0 : s ≠ 0) : aBack site true seen (thaw (callA E fg 1000 (d + 1)) 41 [.int .i64 (s : Int)] [] 0) =
   back1 (site 0) seen (fun k => .ref k 0 (lst s).length (lst s).length (lst s).length 1 false) ⟨.row, ins (lst s)⟩ := by
 rcases Z0zO (d := d) h with h1 | h1
 · exact absurd h1.1 h0
 · exact Z5k h1.2 rfl (Zn _)
theorem Z0fc {C : Callee} {l : Ld} {day : Int} (h : LdOk l) (h1 : 0 ≤ day ∧ day ≤ 1000) : rsOf (bodyA E C fg 1000 44 [.agg (lc l), .int .i64 day] [] 0) = some (.int .i64 (ldC l day)) := by
 have hb := Zkh h h1
 obtain ⟨_, _, hd, hr, hbb⟩ := h
 unfold ldC at hb ⊢
 by_cases hc : day ≤ l.due
 · have e : l.base + l.rate * max 0 (day - l.due) = l.base := by
     rw [show max 0 (day - l.due) = 0 by omega, Int.mul_zero, Int.add_zero]
   rw [e]
   simp (disch := omega) only [Z01, Z9, Zp, Zc, Za, Z4, Z2, Z3, Z0, Zk, Zd, Zq, Zm, Zj, stp, opBox, just, Rd.bind, Rd.run, Rd.opt, upds, acells, rdCells, fieldOf, Zb, aLoad, resA, resL, fresh, aBin, aInt, Nat.reduceAdd, Nat.reduceBEq, Nat.reduceEqDiff, Nat.reduceLeDiff, ↓reduceIte, reduceCtorEq, Ze, Nat.zero_add, decide_true, Z5, Option.map_some, List.elem_cons, List.elem_nil, List.length_cons, List.length_nil, List.getElem?_cons_zero, List.getElem?_cons_succ, seqN, bindN, regN, beq_self_eq_true, Bool.false_eq_true, T_3, T_62, beq_self_eq_true, Z0rz, Z00n, Z0cx, Z07c, Z0rF, Z03b, ZZc, Z07d, ZZ1, Z0aq, Z0ru, ZZm, Z03m, Z07y, Z091, Z0rQ, Z0rU, Z0rT, Z0rO, Z0rx, Z0s6, Z0rp, b_44, lc, hc]
 · have em : max 0 (day - l.due) = day - l.due := by omega
   rw [em] at hb ⊢
   have h2 : 0 ≤ l.rate * (day - l.due) := Int.mul_nonneg hr.1 (by omega)
   have w1 : wrp .i64 (day - l.due) = day - l.due := Z0q (by omega)
   have w2 : wrp .i64 (l.rate * (day - l.due)) = l.rate * (day - l.due) := Z0q (by omega)
   have w3 : wrp .i64 (l.base + l.rate * (day - l.due)) = l.base + l.rate * (day - l.due) := Z0q (by omega)
   simp (disch := omega) only [Z9, Zp, Zc, Za, Z4, Z2, Z3, Z0, Zk, Zd, Zq, Zm, Zj, stp, opBox, just, Rd.bind, Rd.run, Rd.opt, upds, acells, rdCells, fieldOf, Zb, aLoad, resA, resL, fresh, aBin, aInt, Nat.reduceAdd, Nat.reduceBEq, Nat.reduceEqDiff, Nat.reduceLeDiff, ↓reduceIte, reduceCtorEq, Ze, Nat.zero_add, decide_false, Z5, Option.map_some, List.elem_cons, List.elem_nil, List.length_cons, List.length_nil, List.getElem?_cons_zero, List.getElem?_cons_succ, seqN, bindN, regN, beq_self_eq_true, Bool.false_eq_true, T_3, T_62, beq_self_eq_true, Z0rz, Z00n, Z0cx, Z07c, Z0rF, Z03b, ZZc, Z07d, ZZ1, Z0aq, Z0ru, ZZm, Z03m, Z07y, Z091, Z0rQ, Z0rU, Z0rT, Z0rO, Z0rx, Z0Cz, Z0sO, Z0u2, Z0tn, Z0ue, Z0AU, Z0Ak, Z0yi, Z0zH, Z0tW, Z0uw, Z0vT, Z0mN, Z0C5, Z0Dc, Z0s6, Z0rp, b_44, lc, hc, w1, w2, w3]
theorem Z0es {d : Nat} {site : Nat → Nat} {seen : List Nat} {l : Ld} {day : Int} (h : LdOk l) (h1 : 0 ≤ day ∧ day ≤ 1000) : aBack site true seen (thaw (callA E fg 1000 (d + 1)) 44 [.agg (lc l), .int .i64 day] [] 0) = .pure (.int .i64 (ldC l day), []) :=
 Z0J (Z0O (Z0fc (C := callA E fg 1000 d) h h1))
end Go.AM.YtgfnbmfjbjopkaaDoor
end
end
noncomputable section
noncomputable section
namespace Go.AM.YtgfnbmfjbjopkaaDoor
open Go Go.AM
variable {C : Callee} {B N : Nat} {E0 : AHeap} (φ : AFr) (H : AHeap) (s : St)
def Zoq := kBody Proofs.Tryd.f15
def Z0dZ := kL Zoq
def Zki := kO Z0dZ
def Z08z := opN Zki 0
def ZZU := opN Zki 1
theorem Z0s3 : XG 15 96 Z0dZ Zki [0, 2] := Z7 (by rfl) (by rfl) _
theorem Z00y : Zki.toList = [Z08z, ZZU] := nf
theorem Z034 : stepA E C B 96 Zki Z08z (φ, H) = stp (some 1) φ H (opBox (B + 1) (acells (fget φ 0))) := nf
theorem Z05J : stepA E C B 96 Zki ZZU (φ, H) = some (fput φ 2 (.bool false), H) := nf
def ZCc := kR Zoq
def Z0dz := kL ZCc
def Z9h := kO Z0dz
def Z06T := opN Z9h 0
def Z07a := opN Z9h 1
def Z00u := opN Z9h 2
def ZXZ := opN Z9h 3
theorem Z0rw : XG 15 96 Z0dz Z9h [1, 13, 14] := Z7 (by rfl) (by rfl) _
theorem Z05A : Z9h.toList = [Z06T, Z07a, Z00u, ZXZ] := nf
theorem ZZS : stepA E C B 96 Z9h Z06T (φ, H) = stp (some 13) φ H (just (aLoad E.T 58 (fget φ 1))) := nf
theorem Z03W : stepA E C B 96 Z9h Z07a (φ, H) = stp (some 14) φ H (aCall C (fun j => B + j * 96 + 14) true 40 [(fget φ 13), (.int .i64 6)]) := nf
theorem Z0bo : stepA E C B 96 Z9h Z00u (φ, H) = stp (some 3) φ H (opBox (B + 3) (zeroCells E.T 25)) := nf
theorem ZYY : stepA E C B 96 Z9h ZXZ (φ, H) = stp none φ H (opStore E.T 25 (fget φ 3) (fget φ 14)) := nf
def ZAz := kR ZCc
def Z0eM := kL ZAz
def Zlv := kO Z0eM
def Z07Y := opN Zlv 0
def ZYz := opN Zlv 1
theorem Z0rY : XG 15 96 Z0eM Zlv [15] := Z7 (by rfl) (by rfl) _
theorem ZZj : Zlv.toList = [Z07Y, ZYz] := nf
theorem Z05k : stepA E C B 96 Zlv Z07Y (φ, H) = stp (some 15) φ H (just (Zb E.T 25 (fget φ 3) 1)) := nf
theorem Z09R : stepA E C B 96 Zlv ZYz (φ, H) = stp none φ H (opStore E.T 23 (fget φ 15) (.nilsl)) := nf
def ZBe := kR ZAz
def Z0d0 := kL ZBe
def ZC1 := kO Z0d0
def ZYi := opN ZC1 0
theorem Z0rr : XG 15 96 Z0d0 ZC1 [] := Z7 (by rfl) (by rfl) _
theorem Z02b : ZC1.toList = [ZYi] := nf
theorem Z04C : stepA E C B 96 ZC1 ZYi (φ, H) = some (fput φ 4 (.int .i64 1), H) := nf
def ZBH := kR ZBe
def ZAC := kL ZBH
def ZTF := kL ZAC
def Z9n := kO ZTF
def Z0bg := opN Z9n 0
def Z09j := opN Z9n 1
def Z003 := opN Z9n 2
def Z05e := opN Z9n 3
theorem Z0jP : XG 15 96 ZTF Z9n [16, 17] := Z7 (by rfl) (by rfl) _
theorem Z03P : Z9n.toList = [Z0bg, Z09j, Z003, Z05e] := nf
theorem ZYA : stepA E C B 96 Z9n Z0bg (φ, H) = stp (some 16) φ H (just (Zb E.T 25 (fget φ 3) 0)) := nf
theorem ZZo : stepA E C B 96 Z9n Z09j (φ, H) = stp (some 17) φ H (just (aLoad E.T 22 (fget φ 16))) := nf
theorem Z01t : stepA E C B 96 Z9n Z003 (φ, H) = stp (some 18) φ H (Zf E.T (B + 18) .len #[22] [(fget φ 17)]) := nf
theorem ZYs : stepA E C B 96 Z9n Z05e (φ, H) = some (fput φ 19 (.int .i64 0), H) := nf
def ZS1 := kR ZAC
def ZI0 := kB ZS1
def Zem := kB ZI0
def ZU6 := kL Zem
def ZAH := kO ZU6
def Z02I := opN ZAH 0
theorem Z0ku : XG 15 96 ZU6 ZAH [] := Z7 (by rfl) (by rfl) _
theorem Z027 : ZAH.toList = [Z02I] := nf
theorem Z062 : stepA E C B 96 ZAH Z02I (φ, H) = stp (some 20) φ H (just (aBin E.T .lss 3 (fget φ 19) (fget φ 18))) := nf
def Zpn := kR Zem
def ZqZ := kL Zpn
def Z0jE := kT ZqZ
theorem Z0k0 : execA E C (fg 15) B 96 E0 N Z0jE s = some (.normal, s) := ZQ (by rfl) s
def Z0h7 := kE ZqZ
theorem Z0jM : execA E C (fg 15) B 96 E0 N Z0h7 s = some (.exit 0, s) := Z0i (by rfl) s
theorem Z0fo : XC 15 96 ZqZ 20 Z0jE Z0h7 := ZF (by rfl) _
def ZoG := kR Zpn
def ZJO := kL ZoG
def ZnO := kB ZJO
def ZHJ := kL ZnO
def Zj5 := kO ZHJ
def Z08g := opN Zj5 0
def ZYW := opN Zj5 1
theorem Z0Ds : XG 15 96 ZHJ Zj5 [20, 21] := Z7 (by rfl) (by rfl) _
theorem Z0zJ : Zj5.toList = [Z08g, ZYW] := nf
theorem Z0zB : stepA E C B 96 Zj5 Z08g (φ, H) = some (fput φ 21 (fget φ 19), H) := nf
theorem Z0wg : stepA E C B 96 Zj5 ZYW (φ, H) = some (fput φ 5 (fget φ 21), H) := nf
def ZoQ := kR ZnO
def ZM6 := kL ZoQ
def Z4v := kO ZM6
def Z077 := opN Z4v 0
def Z02G := opN Z4v 1
def Z04s := opN Z4v 2
def Z07I := opN Z4v 3
def Z03Y := opN Z4v 4
theorem Z0Bu : XG 15 96 ZM6 Z4v [22, 23, 24, 25] := Z7 (by rfl) (by rfl) _
theorem Z0vY : Z4v.toList = [Z077, Z02G, Z04s, Z07I, Z03Y] := nf
theorem Z0sl : stepA E C B 96 Z4v Z077 (φ, H) = some (fput φ 22 (fget φ 4), H) := nf
theorem Z0ss : stepA E C B 96 Z4v Z02G (φ, H) = some (fput φ 23 (fget φ 5), H) := nf
theorem Z0w1 : stepA E C B 96 Z4v Z04s (φ, H) = stp (some 24) φ H (just (aBin E.T .add 3 (fget φ 23) (.int .i64 1))) := nf
theorem Z0ut : stepA E C B 96 Z4v Z07I (φ, H) = stp (some 25) φ H (just (aBin E.T .mul 3 (fget φ 22) (fget φ 24))) := nf
theorem Z0yd : stepA E C B 96 Z4v Z03Y (φ, H) = some (fput φ 4 (fget φ 25), H) := nf
def ZIA := kR ZoQ
def Z0B := kO ZIA
def Z02Z := opN Z0B 0
def Z032 := opN Z0B 1
def Z03w := opN Z0B 2
def Z02j := opN Z0B 3
def Z0as := opN Z0B 4
def Z09O := opN Z0B 5
def Z0al := opN Z0B 6
def Z04B := opN Z0B 7
def Z0aN := opN Z0B 8
def Z0cC := opN Z0B 9
def ZQb := opN Z0B 10
def ZTS := opN Z0B 11
theorem Z0E8 : XD 15 96 ZIA Z0B [5, 26, 27, 28, 29, 30, 31, 32, 33, 34, 35] := Z0L (by rfl) (by rfl) _
theorem Z0wv : Z0B.toList = [Z02Z, Z032, Z03w, Z02j, Z0as, Z09O, Z0al, Z04B, Z0aN, Z0cC, ZQb, ZTS] := nf
theorem Z0rd : statOk Z0B = true := by kernel_rfl
theorem Z0oP : drawA E C B 96 Z0B s = if neat 96 s = true then drX Z0B (runT E C B 96 Z0B Z0B.toList 0 s) else none := Z0w Z0rd s
theorem Z0q8 (l : List (Nat × Tr)) : dynOk Z0B l = (!writing l || Zu [[], [0], [], [], [3], [], [0, 1, 2], [0, 1, 2, 6], [0, 1, 2, 6, 7], [0, 1, 2, 3, 4, 5, 6, 7, 8], [0, 1, 2, 3, 4, 5, 6, 7, 8, 9], [0, 1, 2, 3, 4, 5, 6, 7, 8, 9, 10]] (Zr l)) := Z0g (by kernel_rfl) l
theorem Z0xD : stepT E C B 96 Z0B Z02Z (φ, H) = stpT (some 26) φ H (just (Zb E.T 25 (fget φ 3) 0)) := Z8 rfl (Zg rfl rfl)
theorem Z0uZ : stepT E C B 96 Z0B Z032 (φ, H) = stpT (some 27) φ H (just (aLoad E.T 22 (fget φ 26))) := Z8 rfl (Zg rfl rfl)
theorem Z0ye : stepT E C B 96 Z0B Z03w (φ, H) = some ((fput φ 28 (fget φ 5), H), ⟨false, [], []⟩) := Z8 rfl (Zt rfl rfl)
theorem Z0AC : stepT E C B 96 Z0B Z02j (φ, H) = stpT (some 29) φ H (just (Zb E.T 25 (fget φ 3) 0)) := Z8 rfl (Zg rfl rfl)
theorem Z0si : stepT E C B 96 Z0B Z0as (φ, H) = stpT (some 30) φ H (just (aLoad E.T 22 (fget φ 29))) := Z8 rfl (Zg rfl rfl)
theorem Z0z6 : stepT E C B 96 Z0B Z09O (φ, H) = some ((fput φ 31 (fget φ 5), H), ⟨false, [], []⟩) := Z8 rfl (Zt rfl rfl)
theorem Z0uo : stepT E C B 96 Z0B Z0al (φ, H) = stpT (some 32) φ H (just (Z6 E.T 22 (fget φ 27) (fget φ 28))) := Z8 rfl (Zg rfl rfl)
theorem Z0vj : stepT E C B 96 Z0B Z04B (φ, H) = stpT (some 33) φ H (just (Zb E.T 62 (fget φ 32) 3)) := Z8 rfl (Zg rfl rfl)
theorem Z0xd : stepT E C B 96 Z0B Z0aN (φ, H) = stpT none φ H (opStore E.T 3 (fget φ 33) (.int .i64 1)) := Z8 rfl (Zg rfl rfl)
theorem Z0so : stepT E C B 96 Z0B Z0cC (φ, H) = stpT (some 34) φ H (just (Z6 E.T 22 (fget φ 30) (fget φ 31))) := Z8 rfl (Zg rfl rfl)
theorem Z0me : stepT E C B 96 Z0B ZQb (φ, H) = stpT (some 35) φ H (just (Zb E.T 62 (fget φ 34) 4)) := Z8 rfl (Zg rfl rfl)
theorem Z0pp : stepT E C B 96 Z0B ZTS (φ, H) = stpT none φ H (opStore E.T 3 (fget φ 35) (.int .i64 0)) := Z8 rfl (Zg rfl rfl)
theorem Z0Eg : XQ 15 96 ZoQ ZM6 ZIA := Z1 (by rfl) _
theorem Z0Dw : XQ 15 96 ZnO ZHJ ZoQ := Z1 (by rfl) _
theorem Z0Dm : execA E C (fg 15) B 96 E0 N ZJO s = blockX 1 (fun s => (forget s.1 [], s.2)) (execA E C (fg 15) B 96 E0 N ZnO s) := Zy (by rfl) (by rfl) s
def ZVI := kR ZoG
def Zkm := kO ZVI
def ZYF := opN Zkm 0
def Z06s := opN Zkm 1
theorem Z0DA : XG 15 96 ZVI Zkm [36] := Z7 (by rfl) (by rfl) _
theorem Z0AX : Zkm.toList = [ZYF, Z06s] := nf
theorem Z0wt : stepA E C B 96 Zkm ZYF (φ, H) = stp (some 36) φ H (just (aBin E.T .add 3 (fget φ 19) (.int .i64 1))) := nf
theorem Z0zr : stepA E C B 96 Zkm Z06s (φ, H) = some (fput φ 19 (fget φ 36), H) := nf
theorem Z0Er : XQ 15 96 ZoG ZJO ZVI := Z1 (by rfl) _
theorem Z0g4 : XQ 15 96 Zpn ZqZ ZoG := Z1 (by rfl) _
theorem Z0hR : XQ 15 96 Zem ZU6 Zpn := Z1 (by rfl) _
theorem Z0fi : execA E C (fg 15) B 96 E0 N ZI0 s = iterA (execA E C (fg 15) B 96 E0 N Zem) (headA E0) N s := Z0h (by rfl) s
theorem Z0f8 : execA E C (fg 15) B 96 E0 N ZS1 s = blockX 0 (fun s => (forget s.1 [18, 19, 20], s.2)) (execA E C (fg 15) B 96 E0 N ZI0 s) := Zy (by rfl) (by rfl) s
theorem Z0rv : XQ 15 96 ZAC ZTF ZS1 := Z1 (by rfl) _
def Zrf := kR ZBH
def ZDV := kL Zrf
def Z1z := kO ZDV
def ZSv := opN Z1z 0
def ZRs := opN Z1z 1
def ZQP := opN Z1z 2
def ZV8 := opN Z1z 3
def ZRm := opN Z1z 4
def ZWK := opN Z1z 5
def ZIM := opN Z1z 6
theorem Z0jy : XG 15 96 ZDV Z1z [37, 38, 39, 40, 41, 42] := Z7 (by rfl) (by rfl) _
theorem ZGF : Z1z.toList = [ZSv, ZRs, ZQP, ZV8, ZRm, ZWK, ZIM] := nf
theorem ZWf : stepA E C B 96 Z1z ZSv (φ, H) = stp (some 37) φ H (just (Zb E.T 25 (fget φ 3) 0)) := nf
theorem ZH3 : stepA E C B 96 Z1z ZRs (φ, H) = stp (some 38) φ H (just (aLoad E.T 22 (fget φ 37))) := nf
theorem ZRC : stepA E C B 96 Z1z ZQP (φ, H) = stp (some 39) φ H (Zf E.T (B + 39) .len #[22] [(fget φ 38)]) := nf
theorem ZHA : stepA E C B 96 Z1z ZV8 (φ, H) = stp (some 40) φ H (just (aBin E.T .shl 3 (.int .i64 1) (fget φ 39))) := nf
theorem ZTp : stepA E C B 96 Z1z ZRm (φ, H) = stp (some 41) φ H (just (aBin E.T .sub 3 (fget φ 40) (.int .i64 1))) := nf
theorem ZOs : stepA E C B 96 Z1z ZWK (φ, H) = stp (some 42) φ H (aCall C (fun j => B + j * 96 + 42) true 41 [(fget φ 41)]) := nf
theorem ZFI : stepA E C B 96 Z1z ZIM (φ, H) = some (fput φ 6 (fget φ 42), H) := nf
def Zpj := kR Zrf
def ZIp := kL Zpj
def Za5 := kO ZIp
def ZH7 := opN Za5 0
def ZLO := opN Za5 1
def ZVo := opN Za5 2
theorem Z0id : XG 15 96 ZIp Za5 [43, 44, 45] := Z7 (by rfl) (by rfl) _
theorem ZKA : Za5.toList = [ZH7, ZLO, ZVo] := nf
theorem ZPE : stepA E C B 96 Za5 ZH7 (φ, H) = some (fput φ 43 (fget φ 6), H) := nf
theorem ZS6 : stepA E C B 96 Za5 ZLO (φ, H) = stp (some 44) φ H (.pure (.clo 84 [(fget φ 3)], [])) := nf
theorem ZOS : stepA E C B 96 Za5 ZVo (φ, H) = mutX (some 45) φ (C 83 [(fget φ 43), (fget φ 44)] H (B + 96 * 8)) := nf
def Zsm := kR Zpj
def ZIB := kL Zsm
def Z1y := kO ZIB
def ZCY := opN Z1y 0
def ZLJ := opN Z1y 1
def ZUp := opN Z1y 2
def ZMO := opN Z1y 3
def ZFj := opN Z1y 4
def ZHC := opN Z1y 5
def ZWk := opN Z1y 6
theorem Z0h6 : XG 15 96 ZIB Z1y [46, 47, 48, 49, 50] := Z7 (by rfl) (by rfl) _
theorem ZFJ : Z1y.toList = [ZCY, ZLJ, ZUp, ZMO, ZFj, ZHC, ZWk] := nf
theorem ZKK : stepA E C B 96 Z1y ZCY (φ, H) = stp (some 47) φ H (just (aLoad E.T 25 (fget φ 3))) := nf
theorem ZOP : stepA E C B 96 Z1y ZLJ (φ, H) = stp (some 48) φ H (aCall C (fun j => B + j * 96 + 48) true 61 [(fget φ 47)]) := nf
theorem ZIF : stepA E C B 96 Z1y ZUp (φ, H) = some (fput φ 46 (fget φ 48), H) := nf
theorem ZRo : stepA E C B 96 Z1y ZMO (φ, H) = stp (some 49) φ H (Zx (fget φ 46) 0) := nf
theorem ZMp : stepA E C B 96 Z1y ZFj (φ, H) = stp (some 50) φ H (Zx (fget φ 46) 1) := nf
theorem ZMy : stepA E C B 96 Z1y ZHC (φ, H) = some (fput φ 7 (fget φ 49), H) := nf
theorem ZTo : stepA E C B 96 Z1y ZWk (φ, H) = some (fput φ 8 (fget φ 50), H) := nf
def Zr7 := kR Zsm
def ZUa := kL Zr7
def Z1F := kO ZUa
def ZG1 := opN Z1F 0
def ZGy := opN Z1F 1
def ZSz := opN Z1F 2
def ZTW := opN Z1F 3
def ZMD := opN Z1F 4
def ZNi := opN Z1F 5
def ZHP := opN Z1F 6
theorem Z0kV : XG 15 96 ZUa Z1F [51, 52, 53, 54, 55] := Z7 (by rfl) (by rfl) _
theorem ZUS : Z1F.toList = [ZG1, ZGy, ZSz, ZTW, ZMD, ZNi, ZHP] := nf
theorem ZKS : stepA E C B 96 Z1F ZG1 (φ, H) = stp (some 52) φ H (just (aLoad E.T 25 (fget φ 3))) := nf
theorem ZSA : stepA E C B 96 Z1F ZGy (φ, H) = stp (some 53) φ H (aCall C (fun j => B + j * 96 + 53) true 19 [(fget φ 52)]) := nf
theorem ZXm : stepA E C B 96 Z1F ZSz (φ, H) = some (fput φ 51 (fget φ 53), H) := nf
theorem ZVs : stepA E C B 96 Z1F ZTW (φ, H) = stp (some 54) φ H (Zx (fget φ 51) 0) := nf
theorem ZGw : stepA E C B 96 Z1F ZMD (φ, H) = stp (some 55) φ H (Zx (fget φ 51) 1) := nf
theorem ZGJ : stepA E C B 96 Z1F ZNi (φ, H) = some (fput φ 9 (fget φ 54), H) := nf
theorem ZTa : stepA E C B 96 Z1F ZHP (φ, H) = some (fput φ 10 (fget φ 55), H) := nf
def Zsc := kR Zr7
def ZGO := kL Zsc
def Z0x := kO ZGO
def ZOh := opN Z0x 0
def ZKC := opN Z0x 1
def ZNk := opN Z0x 2
def ZE2 := opN Z0x 3
def ZT1 := opN Z0x 4
def ZFl := opN Z0x 5
def ZIL := opN Z0x 6
def ZHg := opN Z0x 7
def ZIN := opN Z0x 8
def ZL1 := opN Z0x 9
theorem Z0ky : XD 15 96 ZGO Z0x [56, 57, 58, 59, 60, 61, 62, 63] := Z0L (by rfl) (by rfl) _
theorem ZJT : Z0x.toList = [ZOh, ZKC, ZNk, ZE2, ZT1, ZFl, ZIL, ZHg, ZIN, ZL1] := nf
theorem Z0gk : statOk Z0x = true := by kernel_rfl
theorem ZyR : drawA E C B 96 Z0x s = if neat 96 s = true then drX Z0x (runT E C B 96 Z0x Z0x.toList 0 s) else none := Z0w Z0gk s
theorem ZzG (l : List (Nat × Tr)) : dynOk Z0x l = (!writing l || Zu [[], [], [], [2], [0, 1, 2, 3], [0, 1, 2, 3, 4], [0, 1, 2, 3, 4, 5], [0, 1, 2, 3, 4, 5], [0, 1, 2, 3, 4, 5, 6], [0, 1, 2, 3, 4, 5, 6, 7, 8]] (Zr l)) := Z0g (by kernel_rfl) l
theorem ZQK : stepT E C B 96 Z0x ZOh (φ, H) = stpT (some 57) φ H (just (aLoad E.T 25 (fget φ 3))) := Z8 rfl (Zg rfl rfl)
theorem ZX6 : stepT E C B 96 Z0x ZKC (φ, H) = some ((fput φ 58 (fget φ 6), H), ⟨false, [], []⟩) := Z8 rfl (Zt rfl rfl)
theorem ZNq : stepT E C B 96 Z0x ZNk (φ, H) = stpT (some 59) φ H (just (aLoad E.T 25 (fget φ 3))) := Z8 rfl (Zg rfl rfl)
theorem ZVh : stepT E C B 96 Z0x ZE2 (φ, H) = stpT (some 60) φ H (aCall C (fun j => B + j * 96 + 60) true 53 [(fget φ 59)]) := Z8 rfl (Zg rfl rfl)
theorem ZM2 : stepT E C B 96 Z0x ZT1 (φ, H) = stpT (some 61) φ H (aCall C (fun j => B + j * 96 + 61) true 49 [(fget φ 57), (fget φ 58), (fget φ 60)]) := Z8 rfl (Zg rfl rfl)
theorem ZW7 : stepT E C B 96 Z0x ZFl (φ, H) = some ((fput φ 56 (fget φ 61), H), ⟨false, [], []⟩) := Z8 rfl (Zt rfl rfl)
theorem ZL6 : stepT E C B 96 Z0x ZIL (φ, H) = stpT (some 62) φ H (Zx (fget φ 56) 0) := Z8 rfl (Zg rfl rfl)
theorem ZCx : stepT E C B 96 Z0x ZHg (φ, H) = stpT (some 63) φ H (Zx (fget φ 56) 1) := Z8 rfl (Zg rfl rfl)
theorem ZQF : stepT E C B 96 Z0x ZIN (φ, H) = some ((fput φ 11 (fget φ 62), H), ⟨false, [], []⟩) := Z8 rfl (Zt rfl rfl)
theorem ZK2 : stepT E C B 96 Z0x ZL1 (φ, H) = some ((fput φ 12 (fget φ 63), H), ⟨false, [], []⟩) := Z8 rfl (Zt rfl rfl)
def Zs9 := kR Zsc
def ZUl := kL Zs9
def ZB := kO ZUl
def ZWD := opN ZB 0
def ZM7 := opN ZB 1
def Zgp := opN ZB 2
def ZK4 := opN ZB 3
def ZOO := opN ZB 4
def ZQo := opN ZB 5
def Zgg := opN ZB 6
def ZIC := opN ZB 7
def ZTs := opN ZB 8
def ZNS := opN ZB 9
def Za6 := opN ZB 10
def ZyP := opN ZB 11
def Zz6 := opN ZB 12
def ZwR := opN ZB 13
def Zya := opN ZB 14
def Z9S := opN ZB 15
def Zxl := opN ZB 16
def Zzm := opN ZB 17
def ZAd := opN ZB 18
def ZzB := opN ZB 19
def Z20 := opN ZB 20
def ZxL := opN ZB 21
def Zz4 := opN ZB 22
def Zxd := opN ZB 23
def Zz3 := opN ZB 24
def Zyd := opN ZB 25
def ZyW := opN ZB 26
def Zzu := opN ZB 27
def ZxF := opN ZB 28
def Zhu := opN ZB 29
def ZyD := opN ZB 30
def ZyN := opN ZB 31
def ZA6 := opN ZB 32
theorem Z0l7 : XD 15 96 ZUl ZB [3, 4, 6, 7, 8, 9, 10, 11, 12, 64, 65, 66, 67, 68, 69, 70, 71, 72, 73, 74, 75, 76, 77, 78, 79, 80, 81, 82, 83, 84, 85, 86, 87, 88, 89, 90, 91, 92, 93, 94, 95] := Z0L (by rfl) (by rfl) _
theorem ZHE : ZB.toList = [ZWD, ZM7, Zgp, ZK4, ZOO, ZQo, Zgg, ZIC, ZTs, ZNS, Za6, ZyP, Zz6, ZwR, Zya, Z9S, Zxl, Zzm, ZAd, ZzB, Z20, ZxL, Zz4, Zxd, Zz3, Zyd, ZyW, Zzu, ZxF, Zhu, ZyD, ZyN, ZA6] := nf
theorem Z0iv : statOk ZB = true := by kernel_rfl
theorem Zzf : drawA E C B 96 ZB s = if neat 96 s = true then drX ZB (runT E C B 96 ZB ZB.toList 0 s) else none := Z0w Z0iv s
theorem Zx4 (l : List (Nat × Tr)) : dynOk ZB l = (!writing l || Zu [[], [0], [0, 1], [0, 1, 2], [0, 1, 2, 3], [0, 1, 2, 3, 4], [0, 1, 2, 3, 4, 5], [0, 1, 2, 3, 4, 5, 6], [0, 1, 2, 3, 4, 5, 6, 7], [0, 1, 2, 3, 4, 5, 6, 7, 8], [0, 1, 2, 3, 4, 5, 6, 7, 8, 9], [0, 1, 2, 3, 4, 5, 6, 7, 8, 9, 10], [0, 1, 2, 3, 4, 5, 6, 7, 8, 9, 10], [0, 1, 2, 3, 4, 5, 6, 7, 8, 9, 10, 11, 12], [0, 1, 2, 3, 4, 5, 6, 7, 8, 9, 10, 11, 12, 13], [0, 1, 2, 3, 4, 5, 6, 7, 8, 9, 10, 11, 12, 13, 14], [0, 1, 2, 3, 4, 5, 6, 7, 8, 9, 10, 11, 12, 13, 14, 15], [0, 1, 2, 3, 4, 5, 6, 7, 8, 9, 10, 11, 12, 13, 14, 15], [0, 1, 2, 3, 4, 5, 6, 7, 8, 9, 10, 11, 12, 13, 14, 15, 16, 17], [0, 1, 2, 3, 4, 5, 6, 7, 8, 9, 10, 11, 12, 13, 14, 15, 16, 17, 18], [0, 1, 2, 3, 4, 5, 6, 7, 8, 9, 10, 11, 12, 13, 14, 15, 16, 17, 18, 19], [0, 1, 2, 3, 4, 5, 6, 7, 8, 9, 10, 11, 12, 13, 14, 15, 16, 17, 18, 19, 20], [0, 1, 2, 3, 4, 5, 6, 7, 8, 9, 10, 11, 12, 13, 14, 15, 16, 17, 18, 19, 20], [0, 1, 2, 3, 4, 5, 6, 7, 8, 9, 10, 11, 12, 13, 14, 15, 16, 17, 18, 19, 20], [0, 1, 2, 3, 4, 5, 6, 7, 8, 9, 10, 11, 12, 13, 14, 15, 16, 17, 18, 19, 20], [0, 1, 2, 3, 4, 5, 6, 7, 8, 9, 10, 11, 12, 13, 14, 15, 16, 17, 18, 19, 20, 24], [0, 1, 2, 3, 4, 5, 6, 7, 8, 9, 10, 11, 12, 13, 14, 15, 16, 17, 18, 19, 20, 22, 23, 24, 25], [0, 1, 2, 3, 4, 5, 6, 7, 8, 9, 10, 11, 12, 13, 14, 15, 16, 17, 18, 19, 20, 21, 22, 23, 24, 25, 26], [0, 1, 2, 3, 4, 5, 6, 7, 8, 9, 10, 11, 12, 13, 14, 15, 16, 17, 18, 19, 20, 21, 22, 23, 24, 25, 26, 27], [0, 1, 2, 3, 4, 5, 6, 7, 8, 9, 10, 11, 12, 13, 14, 15, 16, 17, 18, 19, 20, 21, 22, 23, 24, 25, 26, 27, 28], [0, 1, 2, 3, 4, 5, 6, 7, 8, 9, 10, 11, 12, 13, 14, 15, 16, 17, 18, 19, 20, 21, 22, 23, 24, 25, 26, 27, 28, 29], [0, 1, 2, 3, 4, 5, 6, 7, 8, 9, 10, 11, 12, 13, 14, 15, 16, 17, 18, 19, 20, 21, 22, 23, 24, 25, 26, 27, 28, 29, 30], [0, 1, 2, 3, 4, 5, 6, 7, 8, 9, 10, 11, 12, 13, 14, 15, 16, 17, 18, 19, 20, 21, 22, 23, 24, 25, 26, 27, 28, 29, 30, 31]] (Zr l)) := Z0g (by kernel_rfl) l
theorem ZNh : stepT E C B 96 ZB ZWD (φ, H) = some ((fput φ 64 (fget φ 8), H), ⟨false, [], []⟩) := Z8 rfl (Zt rfl rfl)
theorem ZSu : stepT E C B 96 ZB ZM7 (φ, H) = stpT (some 65) φ H (just (aBin E.T .eql 32 (fget φ 64) (.int .i64 0))) := Z8 rfl (Zg rfl rfl)
theorem ZRV : stepT E C B 96 ZB Zgp (φ, H) = some ((fput φ 66 (fget φ 65), H), ⟨false, [], []⟩) := Z8 rfl (Zt rfl rfl)
theorem ZDC : stepT E C B 96 ZB ZK4 (φ, H) = gdT φ 66 true (fun φ => (some (fput φ 67 (.tup []), H)).map fun s => (s, ⟨false, [], []⟩)) (fun φ => some ((fput φ 67 (fget φ 10), H), ⟨false, [], []⟩)) := Z0m (j := 2) (oj := Zgp) rfl rfl rfl (fun _ => rfl) (fun _ => Zt rfl rfl)
theorem ZIu : stepT E C B 96 ZB ZOO (φ, H) = gdT φ 66 true (fun φ => (some (fput φ 68 (.tup []), H)).map fun s => (s, ⟨false, [], []⟩)) (fun φ => stpT (some 68) φ H (just (aBin E.T .eql 32 (fget φ 67) (.int .i64 0)))) := Z0m (j := 2) (oj := Zgp) rfl rfl rfl (fun _ => rfl) (fun _ => Zg rfl rfl)
theorem ZSa : stepT E C B 96 ZB ZQo (φ, H) = stpT (some 69) φ H (opPick (fget φ 66) (fget φ 68) (.bool false)) := Z8 rfl (Zg rfl rfl)
theorem ZEj : stepT E C B 96 ZB Zgg (φ, H) = some ((fput φ 70 (fget φ 69), H), ⟨false, [], []⟩) := Z8 rfl (Zt rfl rfl)
theorem ZTh : stepT E C B 96 ZB ZIC (φ, H) = gdT φ 70 true (fun φ => (some (fput φ 71 (.tup []), H)).map fun s => (s, ⟨false, [], []⟩)) (fun φ => some ((fput φ 71 (fget φ 12), H), ⟨false, [], []⟩)) := Z0m (j := 6) (oj := Zgg) rfl rfl rfl (fun _ => rfl) (fun _ => Zt rfl rfl)
theorem ZTn : stepT E C B 96 ZB ZTs (φ, H) = gdT φ 70 true (fun φ => (some (fput φ 72 (.tup []), H)).map fun s => (s, ⟨false, [], []⟩)) (fun φ => stpT (some 72) φ H (just (aBin E.T .eql 32 (fget φ 71) (.int .i64 0)))) := Z0m (j := 6) (oj := Zgg) rfl rfl rfl (fun _ => rfl) (fun _ => Zg rfl rfl)
theorem ZU7 : stepT E C B 96 ZB ZNS (φ, H) = stpT (some 73) φ H (opPick (fget φ 70) (fget φ 72) (.bool false)) := Z8 rfl (Zg rfl rfl)
theorem ZzM : stepT E C B 96 ZB Za6 (φ, H) = some ((fput φ 74 (fget φ 73), H), ⟨false, [], []⟩) := Z8 rfl (Zt rfl rfl)
theorem Zy2 : stepT E C B 96 ZB ZyP (φ, H) = gdT φ 74 true (fun φ => (some (fput φ 75 (.tup []), H)).map fun s => (s, ⟨false, [], []⟩)) (fun φ => some ((fput φ 75 (fget φ 7), H), ⟨false, [], []⟩)) := Z0m (j := 10) (oj := Za6) rfl rfl rfl (fun _ => rfl) (fun _ => Zt rfl rfl)
theorem Zzj : stepT E C B 96 ZB Zz6 (φ, H) = gdT φ 74 true (fun φ => (some (fput φ 76 (.tup []), H)).map fun s => (s, ⟨false, [], []⟩)) (fun φ => some ((fput φ 76 (fget φ 4), H), ⟨false, [], []⟩)) := Z0m (j := 10) (oj := Za6) rfl rfl rfl (fun _ => rfl) (fun _ => Zt rfl rfl)
theorem Zyw : stepT E C B 96 ZB ZwR (φ, H) = gdT φ 74 true (fun φ => (some (fput φ 77 (.tup []), H)).map fun s => (s, ⟨false, [], []⟩)) (fun φ => stpT (some 77) φ H (just (aBin E.T .eql 3 (fget φ 75) (fget φ 76)))) := Z0m (j := 10) (oj := Za6) rfl rfl rfl (fun _ => rfl) (fun _ => Zg rfl rfl)
theorem ZAj : stepT E C B 96 ZB Zya (φ, H) = stpT (some 78) φ H (opPick (fget φ 74) (fget φ 77) (.bool false)) := Z8 rfl (Zg rfl rfl)
theorem Zx0 : stepT E C B 96 ZB Z9S (φ, H) = some ((fput φ 79 (fget φ 78), H), ⟨false, [], []⟩) := Z8 rfl (Zt rfl rfl)
theorem ZzS : stepT E C B 96 ZB Zxl (φ, H) = gdT φ 79 true (fun φ => (some (fput φ 80 (.tup []), H)).map fun s => (s, ⟨false, [], []⟩)) (fun φ => some ((fput φ 80 (fget φ 11), H), ⟨false, [], []⟩)) := Z0m (j := 15) (oj := Z9S) rfl rfl rfl (fun _ => rfl) (fun _ => Zt rfl rfl)
theorem ZxP : stepT E C B 96 ZB Zzm (φ, H) = gdT φ 79 true (fun φ => (some (fput φ 81 (.tup []), H)).map fun s => (s, ⟨false, [], []⟩)) (fun φ => some ((fput φ 81 (fget φ 9), H), ⟨false, [], []⟩)) := Z0m (j := 15) (oj := Z9S) rfl rfl rfl (fun _ => rfl) (fun _ => Zt rfl rfl)
theorem ZyG : stepT E C B 96 ZB ZAd (φ, H) = gdT φ 79 true (fun φ => (some (fput φ 82 (.tup []), H)).map fun s => (s, ⟨false, [], []⟩)) (fun φ => stpT (some 82) φ H (just (aBin E.T .eql 3 (fget φ 80) (fget φ 81)))) := Z0m (j := 15) (oj := Z9S) rfl rfl rfl (fun _ => rfl) (fun _ => Zg rfl rfl)
theorem ZA3 : stepT E C B 96 ZB ZzB (φ, H) = stpT (some 83) φ H (opPick (fget φ 79) (fget φ 82) (.bool false)) := Z8 rfl (Zg rfl rfl)
theorem ZAk : stepT E C B 96 ZB Z20 (φ, H) = some ((fput φ 84 (fget φ 83), H), ⟨false, [], []⟩) := Z8 rfl (Zt rfl rfl)
theorem Zzq : stepT E C B 96 ZB ZxL (φ, H) = gdT φ 84 true (fun φ => (some (fput φ 85 (.tup []), H)).map fun s => (s, ⟨false, [], []⟩)) (fun φ => some ((fput φ 85 (fget φ 9), H), ⟨false, [], []⟩)) := Z0m (j := 20) (oj := Z20) rfl rfl rfl (fun _ => rfl) (fun _ => Zt rfl rfl)
theorem ZzP : stepT E C B 96 ZB Zz4 (φ, H) = gdT φ 84 true (fun φ => (some (fput φ 86 (.tup []), H)).map fun s => (s, ⟨false, [], []⟩)) (fun φ => stpT (some 86) φ H (just (aLoad E.T 25 (fget φ 3)))) := Z0m (j := 20) (oj := Z20) rfl rfl rfl (fun _ => rfl) (fun _ => Zg rfl rfl)
theorem Zxj : stepT E C B 96 ZB Zxd (φ, H) = gdT φ 84 true (fun φ => (some (fput φ 87 (.tup []), H)).map fun s => (s, ⟨false, [], []⟩)) (fun φ => some ((fput φ 87 (fget φ 6), H), ⟨false, [], []⟩)) := Z0m (j := 20) (oj := Z20) rfl rfl rfl (fun _ => rfl) (fun _ => Zt rfl rfl)
theorem ZxQ : stepT E C B 96 ZB Zz3 (φ, H) = gdT φ 84 true (fun φ => (some (fput φ 88 (.tup []), H)).map fun s => (s, ⟨false, [], []⟩)) (fun φ => stpT (some 88) φ H (just (aLoad E.T 25 (fget φ 3)))) := Z0m (j := 20) (oj := Z20) rfl rfl rfl (fun _ => rfl) (fun _ => Zg rfl rfl)
theorem Zzv : stepT E C B 96 ZB Zyd (φ, H) = gdT φ 84 true (fun φ => (some (fput φ 89 (.tup []), H)).map fun s => (s, ⟨false, [], []⟩)) (fun φ => stpT (some 89) φ H (aCall C (fun j => B + j * 96 + 89) true 53 [(fget φ 88)])) := Z0m (j := 20) (oj := Z20) rfl rfl rfl (fun _ => rfl) (fun _ => Zg rfl rfl)
theorem ZxS : stepT E C B 96 ZB ZyW (φ, H) = gdT φ 84 true (fun φ => (some (fput φ 90 (.tup []), H)).map fun s => (s, ⟨false, [], []⟩)) (fun φ => stpT (some 90) φ H (aCall C (fun j => B + j * 96 + 90) true 52 [(fget φ 86), (fget φ 87), (fget φ 89)])) := Z0m (j := 20) (oj := Z20) rfl rfl rfl (fun _ => rfl) (fun _ => Zg rfl rfl)
theorem Zz7 : stepT E C B 96 ZB Zzu (φ, H) = gdT φ 84 true (fun φ => (some (fput φ 91 (.tup []), H)).map fun s => (s, ⟨false, [], []⟩)) (fun φ => stpT (some 91) φ H (just (aBin E.T .eql 3 (fget φ 85) (fget φ 90)))) := Z0m (j := 20) (oj := Z20) rfl rfl rfl (fun _ => rfl) (fun _ => Zg rfl rfl)
theorem Zyr : stepT E C B 96 ZB ZxF (φ, H) = stpT (some 92) φ H (opPick (fget φ 84) (fget φ 91) (.bool false)) := Z8 rfl (Zg rfl rfl)
theorem Zzr : stepT E C B 96 ZB Zhu (φ, H) = some ((fput φ 93 (fget φ 92), H), ⟨false, [], []⟩) := Z8 rfl (Zt rfl rfl)
theorem Zxv : stepT E C B 96 ZB ZyD (φ, H) = gdT φ 93 true (fun φ => (some (fput φ 94 (.tup []), H)).map fun s => (s, ⟨false, [], []⟩)) (fun φ => stpT (some 94) φ H (aCall C (fun j => B + j * 96 + 94) true 17 [])) := Z0m (j := 29) (oj := Zhu) rfl rfl rfl (fun _ => rfl) (fun _ => Zg rfl rfl)
theorem ZAh : stepT E C B 96 ZB ZyN (φ, H) = stpT (some 95) φ H (opPick (fget φ 93) (fget φ 94) (.bool false)) := Z8 rfl (Zg rfl rfl)
theorem ZyM : stepT E C B 96 ZB ZA6 (φ, H) = some ((fput φ 2 (fget φ 95), H), ⟨false, [], []⟩) := Z8 rfl (Zt rfl rfl)
def Z0iw := kR Zs9
theorem Z0jT : execA E C (fg 15) B 96 E0 N Z0iw s = some (.ret, s) := Z00 (by rfl) s
theorem Z0hB : XQ 15 96 Zs9 ZUl Z0iw := Z1 (by rfl) _
theorem Z0gn : XQ 15 96 Zsc ZGO Zs9 := Z1 (by rfl) _
theorem Z0jv : XQ 15 96 Zr7 ZUa Zsc := Z1 (by rfl) _
theorem Z0ia : XQ 15 96 Zsm ZIB Zr7 := Z1 (by rfl) _
theorem Z0h9 : XQ 15 96 Zpj ZIp Zsm := Z1 (by rfl) _
theorem Z0kr : XQ 15 96 Zrf ZDV Zpj := Z1 (by rfl) _
theorem Z0rN : XQ 15 96 ZBH ZAC Zrf := Z1 (by rfl) _
theorem Z0s7 : XQ 15 96 ZBe Z0d0 ZBH := Z1 (by rfl) _
theorem Z0rS : XQ 15 96 ZAz Z0eM ZBe := Z1 (by rfl) _
theorem Z0rm : XQ 15 96 ZCc Z0dz ZAz := Z1 (by rfl) _
theorem Z0rL : XQ 15 96 Zoq Z0dZ ZCc := Z1 (by rfl) _
theorem Z0Gz : fInfo E 15 = some ⟨96, #[.tmp 2], Zoq⟩ := nf
theorem b_15 (args : List AV) : bodyA E C fg N 15 args H B = bodyX E [.tmp 2] (execA E C (fg 15) B 96 H N Zoq (Zm args 0 [], H)) := ZV Z0Gz args H
def ZrU := kBody Proofs.Tryd.f84
def Z0cG := kL ZrU
def ZBy := kO Z0cG
def Z06Y := opN ZBy 0
theorem Z0HM : XG 84 19 Z0cG ZBy [5] := Z7 (by rfl) (by rfl) _
theorem Z0Ap : ZBy.toList = [Z06Y] := nf
theorem Z0zK : stepA E C B 19 ZBy Z06Y (φ, H) = some (fput φ 5 (.int .i64 0), H) := nf
def ZBg := kR ZrU
def Z0er := kL ZBg
def Z0r := kO Z0er
def Z04t := opN Z0r 0
def Z0aM := opN Z0r 1
def Z07K := opN Z0r 2
def Z06a := opN Z0r 3
def Z033 := opN Z0r 4
def Z07b := opN Z0r 5
def ZZK := opN Z0r 6
def Z035 := opN Z0r 7
def Z0bh := opN Z0r 8
def Z070 := opN Z0r 9
def ZFX := opN Z0r 10
def ZII := opN Z0r 11
def ZWi := opN Z0r 12
def ZVr := opN Z0r 13
theorem Z0GU : XD 84 19 Z0er Z0r [0, 1, 2, 6, 7, 8, 9, 10, 11, 12, 13, 14, 15, 16, 17, 18] := Z0L (by rfl) (by rfl) _
theorem Z0sA : Z0r.toList = [Z04t, Z0aM, Z07K, Z06a, Z033, Z07b, ZZK, Z035, Z0bh, Z070, ZFX, ZII, ZWi, ZVr] := nf
theorem Z0lH : statOk Z0r = true := by kernel_rfl
theorem Z0oS : drawA E C B 19 Z0r s = if neat 19 s = true then drX Z0r (runT E C B 19 Z0r Z0r.toList 0 s) else none := Z0w Z0lH s
theorem Z0mL (l : List (Nat × Tr)) : dynOk Z0r l = (!writing l || Zu [[], [0], [], [0, 1, 2], [0, 1, 2, 3], [0, 1, 2, 3, 4], [], [6], [], [6, 7, 8], [6, 7, 8, 9], [6, 7, 8, 9, 10], [0, 1, 2, 3, 4, 5, 6, 7, 8, 9, 10, 11], [0, 1, 2, 3, 4, 5, 6, 7, 8, 9, 10, 11, 12]] (Zr l)) := Z0g (by kernel_rfl) l
theorem Z0sX : stepT E C B 19 Z0r Z04t (φ, H) = stpT (some 6) φ H (just (Zb E.T 25 (fget φ 2) 0)) := Z8 rfl (Zg rfl rfl)
theorem Z0AZ : stepT E C B 19 Z0r Z0aM (φ, H) = stpT (some 7) φ H (just (aLoad E.T 22 (fget φ 6))) := Z8 rfl (Zg rfl rfl)
theorem Z0y6 : stepT E C B 19 Z0r Z07K (φ, H) = some ((fput φ 8 (fget φ 0), H), ⟨false, [], []⟩) := Z8 rfl (Zt rfl rfl)
theorem Z0wY : stepT E C B 19 Z0r Z06a (φ, H) = stpT (some 9) φ H (just (Z6 E.T 22 (fget φ 7) (fget φ 8))) := Z8 rfl (Zg rfl rfl)
theorem Z0sV : stepT E C B 19 Z0r Z033 (φ, H) = stpT (some 10) φ H (just (Zb E.T 62 (fget φ 9) 2)) := Z8 rfl (Zg rfl rfl)
theorem Z0tL : stepT E C B 19 Z0r Z07b (φ, H) = stpT (some 11) φ H (just (aLoad E.T 3 (fget φ 10))) := Z8 rfl (Zg rfl rfl)
theorem Z0xJ : stepT E C B 19 Z0r ZZK (φ, H) = stpT (some 12) φ H (just (Zb E.T 25 (fget φ 2) 0)) := Z8 rfl (Zg rfl rfl)
theorem Z0td : stepT E C B 19 Z0r Z035 (φ, H) = stpT (some 13) φ H (just (aLoad E.T 22 (fget φ 12))) := Z8 rfl (Zg rfl rfl)
theorem Z0sF : stepT E C B 19 Z0r Z0bh (φ, H) = some ((fput φ 14 (fget φ 1), H), ⟨false, [], []⟩) := Z8 rfl (Zt rfl rfl)
theorem Z0tE : stepT E C B 19 Z0r Z070 (φ, H) = stpT (some 15) φ H (just (Z6 E.T 22 (fget φ 13) (fget φ 14))) := Z8 rfl (Zg rfl rfl)
theorem Z0mj : stepT E C B 19 Z0r ZFX (φ, H) = stpT (some 16) φ H (just (Zb E.T 62 (fget φ 15) 2)) := Z8 rfl (Zg rfl rfl)
theorem Z0qN : stepT E C B 19 Z0r ZII (φ, H) = stpT (some 17) φ H (just (aLoad E.T 3 (fget φ 16))) := Z8 rfl (Zg rfl rfl)
theorem Z0mq : stepT E C B 19 Z0r ZWi (φ, H) = stpT (some 18) φ H (just (aBin E.T .sub 3 (fget φ 11) (fget φ 17))) := Z8 rfl (Zg rfl rfl)
theorem Z0po : stepT E C B 19 Z0r ZVr (φ, H) = some ((fput φ 5 (fget φ 18), H), ⟨false, [], []⟩) := Z8 rfl (Zt rfl rfl)
def Z0rZ := kR ZBg
theorem Z0HW : execA E C (fg 84) B 19 E0 N Z0rZ s = some (.ret, s) := Z00 (by rfl) s
theorem Z0HB : XQ 84 19 ZBg Z0er Z0rZ := Z1 (by rfl) _
theorem Z0Hn : XQ 84 19 ZrU Z0cG ZBg := Z1 (by rfl) _
theorem Z0eQ : fInfo E 84 = some ⟨19, #[.tmp 5], ZrU⟩ := nf
theorem b_84 (args : List AV) : bodyA E C fg N 84 args H B = bodyX E [.tmp 5] (execA E C (fg 84) B 19 H N ZrU (Zm args 0 [], H)) := ZV Z0eQ args H
def ZBj := kBody Proofs.Tryd.f83
def Z4z := kO ZBj
def Z09d := opN Z4z 0
def Z05Y := opN Z4z 1
def ZXQ := opN Z4z 2
def Z04l := opN Z4z 3
def Z0b1 := opN Z4z 4
theorem Z0G5 : XG 83 9 ZBj Z4z [0, 1, 4, 5, 6, 7, 8] := Z7 (by rfl) (by rfl) _
theorem Z0v0 : Z4z.toList = [Z09d, Z05Y, ZXQ, Z04l, Z0b1] := nf
theorem Z0zZ : stepA E C B 9 Z4z Z09d (φ, H) = some (fput φ 4 (fget φ 0), H) := nf
theorem Z0xI : stepA E C B 9 Z4z Z05Y (φ, H) = some (fput φ 5 (fget φ 0), H) := nf
theorem Z0zN : stepA E C B 9 Z4z ZXQ (φ, H) = stp (some 6) φ H (Zf E.T (B + 6) .len #[36] [(fget φ 5)]) := nf
theorem Z0w2 : stepA E C B 9 Z4z Z04l (φ, H) = some (fput φ 7 (fget φ 1), H) := nf
theorem Z0vi : stepA E C B 9 Z4z Z0b1 (φ, H) = mutX (some 8) φ (C 124 [(fget φ 4), (fget φ 6), (fget φ 7)] H (B + 9 * 8)) := nf
theorem Z0G6 : fInfo E 83 = some ⟨9, #[], ZBj⟩ := nf
theorem b_83 (args : List AV) : bodyA E C fg N 83 args H B = bodyX E [] (execA E C (fg 83) B 9 H N ZBj (Zm args 0 [], H)) := ZV Z0G6 args H
def Zhj := kBody Proofs.Tryd.f124
def ZHV := kL Zhj
def Zq7 := kO ZHV
def ZQr := opN Zq7 0
theorem Z0Cl : XG 124 63 ZHV Zq7 [] := Z7 (by rfl) (by rfl) _
theorem Z0r6 : Zq7.toList = [ZQr] := nf
theorem Z0mu : stepA E C B 63 Zq7 ZQr (φ, H) = some (fput φ 6 (.int .i64 20), H) := nf
def Zq5 := kR Zhj
def ZMb := kL Zq5
def Z9U := kO ZMb
def ZUQ := opN Z9U 0
def ZJy := opN Z9U 1
def ZPB := opN Z9U 2
theorem Z0Dq : XG 124 63 ZMb Z9U [10] := Z7 (by rfl) (by rfl) _
theorem Z0py : Z9U.toList = [ZUQ, ZJy, ZPB] := nf
theorem Z0ny : stepA E C B 63 Z9U ZUQ (φ, H) = some (fput φ 10 (fget φ 6), H) := nf
theorem Z0r7 : stepA E C B 63 Z9U ZJy (φ, H) = some (fput φ 7 (.int .i64 0), H) := nf
theorem Z0nM : stepA E C B 63 Z9U ZPB (φ, H) = some (fput φ 8 (fget φ 10), H) := nf
def ZmZ := kR Zq5
def ZPZ := kL ZmZ
def ZU4 := kB ZPZ
def ZnE := kB ZU4
def Zsf := kL ZnE
def ZW1 := kL Zsf
def Za3 := kO ZW1
def ZTX := opN Za3 0
def ZMh := opN Za3 1
def ZRv := opN Za3 2
theorem Z0BZ : XG 124 63 ZW1 Za3 [11, 12] := Z7 (by rfl) (by rfl) _
theorem Z0qc : Za3.toList = [ZTX, ZMh, ZRv] := nf
theorem Z0lG : stepA E C B 63 Za3 ZTX (φ, H) = some (fput φ 11 (fget φ 8), H) := nf
theorem Z0nL : stepA E C B 63 Za3 ZMh (φ, H) = some (fput φ 12 (fget φ 1), H) := nf
theorem Z0lE : stepA E C B 63 Za3 ZRv (φ, H) = stp (some 13) φ H (just (aBin E.T .leq 3 (fget φ 11) (fget φ 12))) := nf
def Zk6 := kR Zsf
def Z05H := kT Zk6
theorem Z0zk : execA E C (fg 124) B 63 E0 N Z05H s = some (.normal, s) := ZQ (by rfl) s
def Z0a5 := kE Zk6
theorem Z0wV : execA E C (fg 124) B 63 E0 N Z0a5 s = some (.exit 0, s) := Z0i (by rfl) s
theorem Z0xj : XC 124 63 Zk6 13 Z05H Z0a5 := ZF (by rfl) _
theorem Z0En : XQ 124 63 Zsf ZW1 Zk6 := Z1 (by rfl) _
def Z0tS := kR ZnE
theorem Z0CD : XQ 124 63 ZnE Zsf Z0tS := Z1 (by rfl) _
theorem Z0C6 : execA E C (fg 124) B 63 E0 N ZU4 s = iterA (execA E C (fg 124) B 63 E0 N ZnE) (headA E0) N s := Z0h (by rfl) s
theorem Z0EV : execA E C (fg 124) B 63 E0 N ZPZ s = blockX 0 (fun s => (forget s.1 [8, 13], s.2)) (execA E C (fg 124) B 63 E0 N ZU4 s) := Zy (by rfl) (by rfl) s
def ZkI := kR ZmZ
def Zvq := kL ZkI
def Z32 := kO Zvq
def ZIX := opN Z32 0
def ZUg := opN Z32 1
def ZUZ := opN Z32 2
def ZJL := opN Z32 3
def ZUe := opN Z32 4
theorem Z0tA : XG 124 63 Zvq Z32 [7, 23, 24, 25, 26, 27] := Z7 (by rfl) (by rfl) _
theorem Z0lI : Z32.toList = [ZIX, ZUg, ZUZ, ZJL, ZUe] := nf
theorem Z0nA : stepA E C B 63 Z32 ZIX (φ, H) = some (fput φ 23 (fget φ 0), H) := nf
theorem Z0oU : stepA E C B 63 Z32 ZUg (φ, H) = some (fput φ 24 (fget φ 7), H) := nf
theorem Z0pP : stepA E C B 63 Z32 ZUZ (φ, H) = some (fput φ 25 (fget φ 1), H) := nf
theorem Z0mb : stepA E C B 63 Z32 ZJL (φ, H) = some (fput φ 26 (fget φ 2), H) := nf
theorem Z0ng : stepA E C B 63 Z32 ZUe (φ, H) = mutX (some 27) φ (C 138 [(fget φ 23), (fget φ 24), (fget φ 25), (fget φ 26)] H (B + 63 * 8)) := nf
def Zvd := kR ZkI
def Zwc := kB Zvd
def ZjA := kB Zwc
def Zl7 := kL ZjA
def ZvN := kL Zl7
def Z9M := kO ZvN
def ZLW := opN Z9M 0
def ZEv := opN Z9M 1
def ZMl := opN Z9M 2
theorem Z0xk : XG 124 63 ZvN Z9M [28, 29] := Z7 (by rfl) (by rfl) _
theorem Z0nK : Z9M.toList = [ZLW, ZEv, ZMl] := nf
theorem Z0ms : stepA E C B 63 Z9M ZLW (φ, H) = some (fput φ 28 (fget φ 6), H) := nf
theorem Z0nv : stepA E C B 63 Z9M ZEv (φ, H) = some (fput φ 29 (fget φ 1), H) := nf
theorem Z0nx : stepA E C B 63 Z9M ZMl (φ, H) = stp (some 30) φ H (just (aBin E.T .lss 3 (fget φ 28) (fget φ 29))) := nf
def ZjG := kR Zl7
def Z01I := kT ZjG
theorem Z0vA : execA E C (fg 124) B 63 E0 N Z01I s = some (.normal, s) := ZQ (by rfl) s
def Z01q := kE ZjG
theorem Z0tw : execA E C (fg 124) B 63 E0 N Z01q s = some (.exit 2, s) := Z0i (by rfl) s
theorem Z0zz : XC 124 63 ZjG 30 Z01I Z01q := ZF (by rfl) _
theorem Z0xm : XQ 124 63 Zl7 ZvN ZjG := Z1 (by rfl) _
def Z0yy := kR ZjA
theorem Z0w7 : XQ 124 63 ZjA Zl7 Z0yy := Z1 (by rfl) _
theorem Z0zF : execA E C (fg 124) B 63 E0 N Zwc s = iterA (execA E C (fg 124) B 63 E0 N ZjA) (headA E0) N s := Z0h (by rfl) s
theorem Z0wA : execA E C (fg 124) B 63 E0 N Zvd s = blockX 2 (fun s => (forget s.1 [0, 1, 2, 6, 30], s.2)) (execA E C (fg 124) B 63 E0 N Zwc s) := Zy (by rfl) (by rfl) s
theorem Z0ya : XQ 124 63 ZkI Zvq Zvd := Z1 (by rfl) _
theorem Z0EG : XQ 124 63 ZmZ ZPZ ZkI := Z1 (by rfl) _
theorem Z0Bz : XQ 124 63 Zq5 ZMb ZmZ := Z1 (by rfl) _
theorem Z0Dk : XQ 124 63 Zhj ZHV Zq5 := Z1 (by rfl) _
theorem Z0BQ : fInfo E 124 = some ⟨63, #[], Zhj⟩ := nf
theorem Z0FC (args : List AV) : bodyA E C fg N 124 args H B = bodyX E [] (execA E C (fg 124) B 63 H N Zhj (Zm args 0 [], H)) := ZV Z0BQ args H
def Zhv := kBody Proofs.Tryd.f138
def ZTJ := kL Zhv
def Z9w := kO ZTJ
def ZH8 := opN Z9w 0
def ZXe := opN Z9w 1
def ZHa := opN Z9w 2
theorem Z0E2 : XG 138 53 ZTJ Z9w [10, 11] := Z7 (by rfl) (by rfl) _
theorem Z0n7 : Z9w.toList = [ZH8, ZXe, ZHa] := nf
theorem Z0m6 : stepA E C B 53 Z9w ZH8 (φ, H) = some (fput φ 10 (fget φ 1), H) := nf
theorem Z0qM : stepA E C B 53 Z9w ZXe (φ, H) = stp (some 11) φ H (just (aBin E.T .add 3 (fget φ 10) (.int .i64 1))) := nf
theorem Z0ow : stepA E C B 53 Z9w ZHa (φ, H) = some (fput φ 8 (fget φ 11), H) := nf
def ZT6 := kR Zhv
def ZJx := kB ZT6
def Ze6 := kB ZJx
def Zs8 := kL Ze6
def ZMK := kL Zs8
def Za1 := kO ZMK
def ZWo := opN Za1 0
def ZVS := opN Za1 1
def ZDB := opN Za1 2
theorem Z0iu : XG 138 53 ZMK Za1 [12, 13] := Z7 (by rfl) (by rfl) _
theorem ZSy : Za1.toList = [ZWo, ZVS, ZDB] := nf
theorem ZLG : stepA E C B 53 Za1 ZWo (φ, H) = some (fput φ 12 (fget φ 8), H) := nf
theorem ZTC : stepA E C B 53 Za1 ZVS (φ, H) = some (fput φ 13 (fget φ 2), H) := nf
theorem ZS7 : stepA E C B 53 Za1 ZDB (φ, H) = stp (some 14) φ H (just (aBin E.T .lss 3 (fget φ 12) (fget φ 13))) := nf
def Zra := kR Zs8
def Z0ka := kT Zra
theorem Z0g6 : execA E C (fg 138) B 53 E0 N Z0ka s = some (.normal, s) := ZQ (by rfl) s
def Z0gl := kE Zra
theorem Z0ip : execA E C (fg 138) B 53 E0 N Z0gl s = some (.exit 0, s) := Z0i (by rfl) s
theorem Z0jG : XC 138 53 Zra 14 Z0ka Z0gl := ZF (by rfl) _
theorem Z0fM : XQ 138 53 Zs8 ZMK Zra := Z1 (by rfl) _
def Zj8 := kR Ze6
def ZtC := kL Zj8
def Zkr := kB ZtC
def Zw2 := kL Zkr
def ZcT := kO Zw2
def ZSn := opN ZcT 0
def ZM4 := opN ZcT 1
theorem Z0u5 : XG 138 53 Zw2 ZcT [14, 17] := Z7 (by rfl) (by rfl) _
theorem Z0lz : ZcT.toList = [ZSn, ZM4] := nf
theorem Z0qC : stepA E C B 53 ZcT ZSn (φ, H) = some (fput φ 17 (fget φ 8), H) := nf
theorem Z0oc : stepA E C B 53 ZcT ZM4 (φ, H) = some (fput φ 9 (fget φ 17), H) := nf
def Zwi := kR Zkr
def Ztz := kB Zwi
def Z56 := kB Ztz
def ZlA := kL Z56
def Zvx := kL ZlA
def Z06 := kO Zvx
def ZSK := opN Z06 0
def ZV7 := opN Z06 1
def ZDi := opN Z06 2
def Z1f := opN Z06 3
def ZRT := opN Z06 4
def ZIv := opN Z06 5
def ZCn := opN Z06 6
def ZCm := opN Z06 7
def ZHm := opN Z06 8
def ZQi := opN Z06 9
def ZzJ := opN Z06 10
def Zz2 := opN Z06 11
def Zzk := opN Z06 12
def ZzD := opN Z06 13
def Zy1 := opN Z06 14
def ZyF := opN Z06 15
def ZA7 := opN Z06 16
theorem Ztu : XD 138 53 Zvx Z06 [18, 19, 20, 21, 22, 23, 24, 25, 26, 27, 28, 29, 30, 31, 32, 33] := Z0L (by rfl) (by rfl) _
theorem ZmO : Z06.toList = [ZSK, ZV7, ZDi, Z1f, ZRT, ZIv, ZCn, ZCm, ZHm, ZQi, ZzJ, Zz2, Zzk, ZzD, Zy1, ZyF, ZA7] := nf
theorem Z0fb : statOk Z06 = true := by kernel_rfl
theorem Zhy : drawA E C B 53 Z06 s = if neat 53 s = true then drX Z06 (runT E C B 53 Z06 Z06.toList 0 s) else none := Z0w Z0fb s
theorem Zhs (l : List (Nat × Tr)) : dynOk Z06 l = (!writing l || Zu [[], [], [0, 1], [0, 1, 2], [0, 1, 2, 3], [0, 1, 2, 3], [0, 1, 2, 3], [0, 1, 2, 3, 5, 6], [0, 1, 2, 3, 5, 6, 7], [0, 1, 2, 3], [0, 1, 2, 3], [0, 1, 2, 3, 10], [0, 1, 2, 3, 9, 10, 11], [0, 1, 2, 3, 9, 10, 11, 12], [0, 1, 2, 3, 4, 5, 6, 7, 8, 9, 10, 11, 12, 13], [0, 1, 2, 3, 4, 5, 6, 7, 8, 9, 10, 11, 12, 13, 14], [0, 1, 2, 3, 4, 5, 6, 7, 8, 9, 10, 11, 12, 13, 14, 15]] (Zr l)) := Z0g (by kernel_rfl) l
theorem Zmx : stepT E C B 53 Z06 ZSK (φ, H) = some ((fput φ 18 (fget φ 9), H), ⟨false, [], []⟩) := Z8 rfl (Zt rfl rfl)
theorem Zmq : stepT E C B 53 Z06 ZV7 (φ, H) = some ((fput φ 19 (fget φ 1), H), ⟨false, [], []⟩) := Z8 rfl (Zt rfl rfl)
theorem ZmF : stepT E C B 53 Z06 ZDi (φ, H) = stpT (some 20) φ H (just (aBin E.T .gtr 3 (fget φ 18) (fget φ 19))) := Z8 rfl (Zg rfl rfl)
theorem Zm2 : stepT E C B 53 Z06 Z1f (φ, H) = some ((fput φ 21 (fget φ 20), H), ⟨false, [], []⟩) := Z8 rfl (Zt rfl rfl)
theorem ZmJ : stepT E C B 53 Z06 ZRT (φ, H) = gdT φ 21 true (fun φ => (some (fput φ 22 (.tup []), H)).map fun s => (s, ⟨false, [], []⟩)) (fun φ => some ((fput φ 22 (fget φ 3), H), ⟨false, [], []⟩)) := Z0m (j := 3) (oj := Z1f) rfl rfl rfl (fun _ => rfl) (fun _ => Zt rfl rfl)
theorem Zmv : stepT E C B 53 Z06 ZIv (φ, H) = gdT φ 21 true (fun φ => (some (fput φ 23 (.tup []), H)).map fun s => (s, ⟨false, [], []⟩)) (fun φ => some ((fput φ 23 (fget φ 0), H), ⟨false, [], []⟩)) := Z0m (j := 3) (oj := Z1f) rfl rfl rfl (fun _ => rfl) (fun _ => Zt rfl rfl)
theorem ZmA : stepT E C B 53 Z06 ZCn (φ, H) = gdT φ 21 true (fun φ => (some (fput φ 24 (.tup []), H)).map fun s => (s, ⟨false, [], []⟩)) (fun φ => some ((fput φ 24 (fget φ 9), H), ⟨false, [], []⟩)) := Z0m (j := 3) (oj := Z1f) rfl rfl rfl (fun _ => rfl) (fun _ => Zt rfl rfl)
theorem Zmm : stepT E C B 53 Z06 ZCm (φ, H) = gdT φ 21 true (fun φ => (some (fput φ 25 (.tup []), H)).map fun s => (s, ⟨false, [], []⟩)) (fun φ => stpT (some 25) φ H (just (Z6 E.T 36 (fget φ 23) (fget φ 24)))) := Z0m (j := 3) (oj := Z1f) rfl rfl rfl (fun _ => rfl) (fun _ => Zg rfl rfl)
theorem ZmE : stepT E C B 53 Z06 ZHm (φ, H) = gdT φ 21 true (fun φ => (some (fput φ 26 (.tup []), H)).map fun s => (s, ⟨false, [], []⟩)) (fun φ => stpT (some 26) φ H (just (aLoad E.T 3 (fget φ 25)))) := Z0m (j := 3) (oj := Z1f) rfl rfl rfl (fun _ => rfl) (fun _ => Zg rfl rfl)
theorem ZmB : stepT E C B 53 Z06 ZQi (φ, H) = gdT φ 21 true (fun φ => (some (fput φ 27 (.tup []), H)).map fun s => (s, ⟨false, [], []⟩)) (fun φ => some ((fput φ 27 (fget φ 0), H), ⟨false, [], []⟩)) := Z0m (j := 3) (oj := Z1f) rfl rfl rfl (fun _ => rfl) (fun _ => Zt rfl rfl)
theorem ZhO : stepT E C B 53 Z06 ZzJ (φ, H) = gdT φ 21 true (fun φ => (some (fput φ 28 (.tup []), H)).map fun s => (s, ⟨false, [], []⟩)) (fun φ => some ((fput φ 28 (fget φ 9), H), ⟨false, [], []⟩)) := Z0m (j := 3) (oj := Z1f) rfl rfl rfl (fun _ => rfl) (fun _ => Zt rfl rfl)
theorem ZgF : stepT E C B 53 Z06 Zz2 (φ, H) = gdT φ 21 true (fun φ => (some (fput φ 29 (.tup []), H)).map fun s => (s, ⟨false, [], []⟩)) (fun φ => stpT (some 29) φ H (just (aBin E.T .sub 3 (fget φ 28) (.int .i64 1)))) := Z0m (j := 3) (oj := Z1f) rfl rfl rfl (fun _ => rfl) (fun _ => Zg rfl rfl)
theorem ZhC : stepT E C B 53 Z06 Zzk (φ, H) = gdT φ 21 true (fun φ => (some (fput φ 30 (.tup []), H)).map fun s => (s, ⟨false, [], []⟩)) (fun φ => stpT (some 30) φ H (just (Z6 E.T 36 (fget φ 27) (fget φ 29)))) := Z0m (j := 3) (oj := Z1f) rfl rfl rfl (fun _ => rfl) (fun _ => Zg rfl rfl)
theorem ZgS : stepT E C B 53 Z06 ZzD (φ, H) = gdT φ 21 true (fun φ => (some (fput φ 31 (.tup []), H)).map fun s => (s, ⟨false, [], []⟩)) (fun φ => stpT (some 31) φ H (just (aLoad E.T 3 (fget φ 30)))) := Z0m (j := 3) (oj := Z1f) rfl rfl rfl (fun _ => rfl) (fun _ => Zg rfl rfl)
theorem Zi6 : stepT E C B 53 Z06 Zy1 (φ, H) = gdT φ 21 true (fun φ => (some (fput φ 32 (.tup []), H)).map fun s => (s, ⟨false, [], []⟩)) (fun φ => callVT E C (B + 53 * 8) (some 32) (fun j => B + j * 53 + 32) φ H (fget φ 22) [(fget φ 26), (fget φ 31)] true) := Z0m (j := 3) (oj := Z1f) rfl rfl rfl (fun _ => rfl) (fun _ => Z0Gk rfl rfl)
theorem ZhG : stepT E C B 53 Z06 ZyF (φ, H) = gdT φ 21 true (fun φ => (some (fput φ 33 (.tup []), H)).map fun s => (s, ⟨false, [], []⟩)) (fun φ => stpT (some 33) φ H (just (aBin E.T .lss 3 (fget φ 32) (.int .i64 0)))) := Z0m (j := 3) (oj := Z1f) rfl rfl rfl (fun _ => rfl) (fun _ => Zg rfl rfl)
theorem Zhk : stepT E C B 53 Z06 ZA7 (φ, H) = stpT (some 34) φ H (opPick (fget φ 21) (fget φ 33) (.bool false)) := Z8 rfl (Zg rfl rfl)
def Zjd := kR ZlA
def Z01a := kT Zjd
theorem Zwr : execA E C (fg 138) B 53 E0 N Z01a s = some (.normal, s) := ZQ (by rfl) s
def Z03O := kE Zjd
theorem ZtB : execA E C (fg 138) B 53 E0 N Z03O s = some (.exit 2, s) := Z0i (by rfl) s
theorem ZsH : XC 138 53 Zjd 34 Z01a Z03O := ZF (by rfl) _
theorem Zvm : XQ 138 53 ZlA Zvx Zjd := Z1 (by rfl) _
def Zid := kR Z56
def ZwJ := kL Zid
def ZvR := kB ZwJ
def Z04 := kO ZvR
def ZRd := opN Z04 0
def ZMr := opN Z04 1
def ZCU := opN Z04 2
def ZNz := opN Z04 3
def ZVX := opN Z04 4
def ZGh := opN Z04 5
def ZHp := opN Z04 6
def ZXB := opN Z04 7
def ZKN := opN Z04 8
def ZO8 := opN Z04 9
def ZxO := opN Z04 10
def Zyu := opN Z04 11
def ZAc := opN Z04 12
def Zxe := opN Z04 13
def Zy5 := opN Z04 14
def Zxq := opN Z04 15
def ZzV := opN Z04 16
def ZzN := opN Z04 17
theorem Z0AT : XD 138 53 ZvR Z04 [34, 37, 38, 39, 40, 41, 42, 43, 44, 45, 46, 47, 48, 49, 50, 51, 52] := Z0L (by rfl) (by rfl) _
theorem Z0qO : Z04.toList = [ZRd, ZMr, ZCU, ZNz, ZVX, ZGh, ZHp, ZXB, ZKN, ZO8, ZxO, Zyu, ZAc, Zxe, Zy5, Zxq, ZzV, ZzN] := nf
theorem Z0fz : statOk Z04 = true := by kernel_rfl
theorem Z0l0 : drawA E C B 53 Z04 s = if neat 53 s = true then drX Z04 (runT E C B 53 Z04 Z04.toList 0 s) else none := Z0w Z0fz s
theorem Z0fh (l : List (Nat × Tr)) : dynOk Z04 l = (!writing l || Zu [[], [], [], [], [3], [], [], [6], [5, 6, 7], [5, 6, 7, 8], [], [], [10, 11], [10, 11, 12], [0, 1, 5, 6, 7, 8, 9, 10, 11, 12, 13], [0, 1, 5, 6, 7, 8, 9, 10, 11, 12, 13, 14], [0, 1, 2, 3, 4, 5, 6, 7, 8, 9, 10, 11, 12, 13, 14, 15], [0, 1, 2, 3, 4, 5, 6, 7, 8, 9, 10, 11, 12, 13, 14, 15, 16]] (Zr l)) := Z0g (by kernel_rfl) l
theorem Z0nz : stepT E C B 53 Z04 ZRd (φ, H) = some ((fput φ 37 (fget φ 0), H), ⟨false, [], []⟩) := Z8 rfl (Zt rfl rfl)
theorem Z0lS : stepT E C B 53 Z04 ZMr (φ, H) = some ((fput φ 38 (fget φ 9), H), ⟨false, [], []⟩) := Z8 rfl (Zt rfl rfl)
theorem Z0qb : stepT E C B 53 Z04 ZCU (φ, H) = some ((fput φ 39 (fget φ 0), H), ⟨false, [], []⟩) := Z8 rfl (Zt rfl rfl)
theorem Z0nn : stepT E C B 53 Z04 ZNz (φ, H) = some ((fput φ 40 (fget φ 9), H), ⟨false, [], []⟩) := Z8 rfl (Zt rfl rfl)
theorem Z0pt : stepT E C B 53 Z04 ZVX (φ, H) = stpT (some 41) φ H (just (aBin E.T .sub 3 (fget φ 40) (.int .i64 1))) := Z8 rfl (Zg rfl rfl)
theorem Z0pQ : stepT E C B 53 Z04 ZGh (φ, H) = some ((fput φ 42 (fget φ 0), H), ⟨false, [], []⟩) := Z8 rfl (Zt rfl rfl)
theorem Z0qx : stepT E C B 53 Z04 ZHp (φ, H) = some ((fput φ 43 (fget φ 9), H), ⟨false, [], []⟩) := Z8 rfl (Zt rfl rfl)
theorem Z0o6 : stepT E C B 53 Z04 ZXB (φ, H) = stpT (some 44) φ H (just (aBin E.T .sub 3 (fget φ 43) (.int .i64 1))) := Z8 rfl (Zg rfl rfl)
theorem Z0nj : stepT E C B 53 Z04 ZKN (φ, H) = stpT (some 45) φ H (just (Z6 E.T 36 (fget φ 42) (fget φ 44))) := Z8 rfl (Zg rfl rfl)
theorem Z0m9 : stepT E C B 53 Z04 ZO8 (φ, H) = stpT (some 46) φ H (just (aLoad E.T 3 (fget φ 45))) := Z8 rfl (Zg rfl rfl)
theorem Z0i9 : stepT E C B 53 Z04 ZxO (φ, H) = some ((fput φ 47 (fget φ 0), H), ⟨false, [], []⟩) := Z8 rfl (Zt rfl rfl)
theorem Z0i8 : stepT E C B 53 Z04 Zyu (φ, H) = some ((fput φ 48 (fget φ 9), H), ⟨false, [], []⟩) := Z8 rfl (Zt rfl rfl)
theorem Z0jh : stepT E C B 53 Z04 ZAc (φ, H) = stpT (some 49) φ H (just (Z6 E.T 36 (fget φ 47) (fget φ 48))) := Z8 rfl (Zg rfl rfl)
theorem Z0hr : stepT E C B 53 Z04 Zxe (φ, H) = stpT (some 50) φ H (just (aLoad E.T 3 (fget φ 49))) := Z8 rfl (Zg rfl rfl)
theorem Z0gq : stepT E C B 53 Z04 Zy5 (φ, H) = stpT (some 51) φ H (just (Z6 E.T 36 (fget φ 37) (fget φ 38))) := Z8 rfl (Zg rfl rfl)
theorem Z0fg : stepT E C B 53 Z04 Zxq (φ, H) = stpT none φ H (opStore E.T 3 (fget φ 51) (fget φ 46)) := Z8 rfl (Zg rfl rfl)
theorem Z0i0 : stepT E C B 53 Z04 ZzV (φ, H) = stpT (some 52) φ H (just (Z6 E.T 36 (fget φ 39) (fget φ 41))) := Z8 rfl (Zg rfl rfl)
theorem Z0hT : stepT E C B 53 Z04 ZzN (φ, H) = stpT none φ H (opStore E.T 3 (fget φ 52) (fget φ 50)) := Z8 rfl (Zg rfl rfl)
theorem Z0xf : execA E C (fg 138) B 53 E0 N ZwJ s = blockX 3 (fun s => (forget s.1 [], s.2)) (execA E C (fg 138) B 53 E0 N ZvR s) := Zy (by rfl) (by rfl) s
def Zuv := kR Zid
def Z9Z := kO Zuv
def ZRx := opN Z9Z 0
def ZCf := opN Z9Z 1
def ZSk := opN Z9Z 2
theorem Z0xa : XG 138 53 Zuv Z9Z [35, 36] := Z7 (by rfl) (by rfl) _
theorem Z0o9 : Z9Z.toList = [ZRx, ZCf, ZSk] := nf
theorem Z0qo : stepA E C B 53 Z9Z ZRx (φ, H) = some (fput φ 35 (fget φ 9), H) := nf
theorem Z0op : stepA E C B 53 Z9Z ZCf (φ, H) = stp (some 36) φ H (just (aBin E.T .sub 3 (fget φ 35) (.int .i64 1))) := nf
theorem Z0pZ : stepA E C B 53 Z9Z ZSk (φ, H) = some (fput φ 9 (fget φ 36), H) := nf
theorem Z0uq : XQ 138 53 Zid ZwJ Zuv := Z1 (by rfl) _
theorem ZsN : XQ 138 53 Z56 ZlA Zid := Z1 (by rfl) _
theorem Z0th : execA E C (fg 138) B 53 E0 N Ztz s = iterA (execA E C (fg 138) B 53 E0 N Z56) (headA E0) N s := Z0h (by rfl) s
theorem Z0tJ : execA E C (fg 138) B 53 E0 N Zwi s = blockX 2 (fun s => (forget s.1 [9, 34], s.2)) (execA E C (fg 138) B 53 E0 N Ztz s) := Zy (by rfl) (by rfl) s
theorem Z0tY : XQ 138 53 Zkr Zw2 Zwi := Z1 (by rfl) _
theorem Z0wN : execA E C (fg 138) B 53 E0 N ZtC s = blockX 1 (fun s => (forget s.1 [], s.2)) (execA E C (fg 138) B 53 E0 N Zkr s) := Zy (by rfl) (by rfl) s
def Zum := kR Zj8
def Z9Y := kO Zum
def ZSt := opN Z9Y 0
def ZCS := opN Z9Y 1
def ZSQ := opN Z9Y 2
theorem Z0vD : XG 138 53 Zum Z9Y [15, 16] := Z7 (by rfl) (by rfl) _
theorem Z0ok : Z9Y.toList = [ZSt, ZCS, ZSQ] := nf
theorem Z0mB : stepA E C B 53 Z9Y ZSt (φ, H) = some (fput φ 15 (fget φ 8), H) := nf
theorem Z0lh : stepA E C B 53 Z9Y ZCS (φ, H) = stp (some 16) φ H (just (aBin E.T .add 3 (fget φ 15) (.int .i64 1))) := nf
theorem Z0o5 : stepA E C B 53 Z9Y ZSQ (φ, H) = some (fput φ 8 (fget φ 16), H) := nf
theorem Z0uG : XQ 138 53 Zj8 ZtC Zum := Z1 (by rfl) _
theorem Z0k4 : XQ 138 53 Ze6 Zs8 Zj8 := Z1 (by rfl) _
theorem Z0BS : execA E C (fg 138) B 53 E0 N ZJx s = iterA (execA E C (fg 138) B 53 E0 N Ze6) (headA E0) N s := Z0h (by rfl) s
theorem Z0Ea : execA E C (fg 138) B 53 E0 N ZT6 s = blockX 0 (fun s => (forget s.1 [0, 1, 2, 3, 8, 14], s.2)) (execA E C (fg 138) B 53 E0 N ZJx s) := Zy (by rfl) (by rfl) s
theorem Z0CN : XQ 138 53 Zhv ZTJ ZT6 := Z1 (by rfl) _
theorem Z0Co : fInfo E 138 = some ⟨53, #[], Zhv⟩ := nf
theorem Z0HF (args : List AV) : bodyA E C fg N 138 args H B = bodyX E [] (execA E C (fg 138) B 53 H N Zhv (Zm args 0 [], H)) := ZV Z0Co args H
end Go.AM.YtgfnbmfjbjopkaaDoor
end
noncomputable section
namespace Go.AM.Mule
def swpI (l : List Nat) (j : Nat) : List Nat := (l.set (j + 1) (l.getD j 0)).set j (l.getD (j + 1) 0)
def insI (F : Nat → Int) (l : List Nat) : Nat → List Nat
 | 0 => l
 | j + 1 => if F (l.getD (j + 1) 0) < F (l.getD j 0) then insI F (swpI l j) j else l
def srtN (F : Nat → Int) (l : List Nat) : Nat → List Nat
 | 0 => l
 | i + 1 => insI F (srtN F l i) (i + 1)
def srtI (F : Nat → Int) (l : List Nat) : List Nat := srtN F l (l.length - 1)
theorem ZcH (l : List Nat) (j : Nat) : (swpI l j).length = l.length := by simp [swpI]
theorem ZlJ (F : Nat → Int) : ∀ (j : Nat) (l : List Nat), (insI F l j).length = l.length
 | 0, l => rfl
 | j + 1, l => by
   rw [insI]
   split
   · rw [ZlJ F j, ZcH]
   · rfl
theorem ZcG (F : Nat → Int) (l : List Nat) : ∀ i, (srtN F l i).length = l.length
 | 0 => rfl
 | i + 1 => by rw [srtN, ZlJ, ZcG F l i]
theorem Z0iO (x : Nat) (l : List Nat) (j : Nat) : swpI (x :: l) (j + 1) = x :: swpI l j := by simp [swpI]
theorem ZTL : ∀ (p : List Nat) (a b : Nat) (r : List Nat), swpI (p ++ a :: b :: r) p.length = p ++ b :: a :: r
 | [], a, b, r => by simp [swpI]
 | x :: p, a, b, r => by rw [List.cons_append, List.length_cons, Z0iO, ZTL p a b r, List.cons_append]
theorem Zxh (p : List Nat) (a : Nat) (r : List Nat) : (p ++ a :: r).getD p.length 0 = a := by simp
theorem Zpq (F : Nat → Int) : ∀ (n : Nat) (p : List Nat) (x : Nat) (r : List Nat), p.length = n →
   ∃ a b, p = a ++ b ∧ insI F (p ++ x :: r) p.length = a ++ x :: b ++ r ∧ (∀ t ∈ b, F x < F t) ∧ (∀ t q, a = q ++ [t] → ¬ F x < F t)
 | 0, p, x, r, hp => by
   obtain rfl := List.length_eq_zero_iff.1 hp
   exact ⟨[], [], rfl, by simp [insI], by simp, by simp⟩
 | n + 1, p, x, r, hp => by
   obtain ⟨q, y, rfl⟩ : ∃ q y, p = q ++ [y] := by
     rcases List.eq_nil_or_concat p with h | ⟨q, y, h⟩
     · rw [h] at hp; simp at hp
     · exact ⟨q, y, by simpa using h⟩
   have hq : q.length = n := by simpa using hp
   have e0 : (q ++ [y] ++ x :: r) = q ++ y :: x :: r := by simp
   have gx : (q ++ [y] ++ x :: r).getD (q.length + 1) 0 = x := by
     have := Zxh (q ++ [y]) x r
     rwa [show (q ++ [y]).length = q.length + 1 by simp] at this
   have gy : (q ++ [y] ++ x :: r).getD q.length 0 = y := by rw [e0]; exact Zxh q y _
   rw [show (q ++ [y]).length = q.length + 1 by simp, insI, gx, gy]
   by_cases h : F x < F y
   · obtain ⟨a, b, e1, e2, e3, e4⟩ := Zpq F n q x (y :: r) hq
     refine ⟨a, b ++ [y], by rw [e1]; simp, ?_, ?_, e4⟩
     · rw [if_pos h, e0, ZTL, e2]; simp
     · intro t ht
       rcases List.mem_append.1 ht with ht | ht
       · exact e3 t ht
       · obtain rfl : t = y := by simpa using ht
         exact h
   · refine ⟨q ++ [y], [], by simp, by rw [if_neg h]; simp, by simp, ?_⟩
     intro t q' e
     have := List.append_inj_right' e rfl
     obtain rfl : y = t := by simpa using this
     exact h
def AscF (F : Nat → Int) (l : List Nat) : Prop := l.Pairwise (fun t s => F t ≤ F s)
theorem Z0p8 {F : Nat → Int} {a b : List Nat} {x : Nat} (h : AscF F (a ++ b)) (h1 : ∀ t ∈ b, F x < F t) (h2 : ∀ t q, a = q ++ [t] → ¬ F x < F t) : AscF F (a ++ x :: b) := by
 obtain ⟨ha, hb, hab⟩ := List.pairwise_append.1 h
 have hax : ∀ t ∈ a, F t ≤ F x := by
   rcases List.eq_nil_or_concat a with e | ⟨q, y, e⟩
   · subst e; simp
   · have e : a = q ++ [y] := by simpa using e
     have hy := h2 y q e
     intro t ht
     rw [e] at ht ha
     obtain ⟨_, _, hqy⟩ := List.pairwise_append.1 ha
     rcases List.mem_append.1 ht with ht | ht
     · have := hqy t ht y (by simp); omega
     · obtain rfl : t = y := by simpa using ht
       omega
 refine List.pairwise_append.2 ⟨ha, List.pairwise_cons.2 ⟨fun t ht => ?_, hb⟩, fun t ht s hs => ?_⟩
 · have := h1 t ht; omega
 · rcases List.mem_cons.1 hs with rfl | hs
   · exact hax t ht
   · exact hab t ht s hs
theorem Zn7 (F : Nat → Int) (l : List Nat) : ∀ i, i < l.length → ∃ p, p.length = i + 1 ∧ srtN F l i = p ++ l.drop (i + 1) ∧ p.Perm (l.take (i + 1)) ∧ AscF F p
 | 0, h => by
   match l, h with
   | a :: l, _ => exact ⟨[a], rfl, by simp [srtN], by simp, List.pairwise_singleton ..⟩
 | i + 1, h => by
   obtain ⟨p, e1, e2, e3, e4⟩ := Zn7 F l i (by omega)
   have hd : l.drop (i + 1) = l[i + 1] :: l.drop (i + 1 + 1) := List.drop_eq_getElem_cons h
   obtain ⟨a, b, f1, f2, f3, f4⟩ := Zpq F p.length p l[i + 1] (l.drop (i + 1 + 1)) rfl
   refine ⟨a ++ l[i + 1] :: b, ?_, ?_, ?_, ?_⟩
   · have := congrArg List.length f1
     simp at this ⊢; omega
   · rw [e1] at f2
     rw [srtN, e2, hd, f2]
   · have ht : l.take (i + 1 + 1) = l.take (i + 1) ++ [l[i + 1]] := by rw [List.take_succ_eq_append_getElem h]
     rw [ht]
     refine List.perm_middle.trans ?_
     refine (List.Perm.cons _ (f1 ▸ e3 : (a ++ b).Perm (l.take (i + 1)))).trans ?_
     exact (List.perm_append_singleton _ _).symm
   · rw [f1] at e4
     exact Z0p8 e4 f3 f4
theorem Z0fk {F : Nat → Int} {l : List Nat} (h : 0 < l.length) : (srtI F l).Perm l ∧ AscF F (srtI F l) := by
 obtain ⟨p, e1, e2, e3, e4⟩ := Zn7 F l (l.length - 1) (by omega)
 have hd : l.drop (l.length - 1 + 1) = [] := List.drop_eq_nil_of_le (by omega)
 have ht : l.take (l.length - 1 + 1) = l := List.take_of_length_le (by omega)
 rw [hd, List.append_nil] at e2
 rw [ht] at e3
 unfold srtI
 rw [e2]
 exact ⟨e3, e4⟩
end Go.AM.Mule
end
noncomputable section
namespace Go.AM.Mule
theorem Z0qs {T : Nat → Nat → Bool} (hT : Ord T) (h0 : ∀ i k, T i k = false) {d : Nat → Int} {c : Nat → Int → Int} (hd : ∀ i, 0 ≤ d i) (hc : ∀ i x y, x ≤ y → c i x ≤ c i y) {o p : List Nat} (hs : o.Pairwise fun a b => ∀ x, c b x ≤ c a x) (hn : o.Nodup) (hp : p.Perm o) :
   mc d c 0 o ≤ mc d c 0 p := by
 have hg : Good T p := by
   unfold Good
   exact List.pairwise_of_forall fun a b => h0 b a
 have key : ∀ (q pre : List Nat), o = pre ++ q → mc d c (days d pre) q ≤ mc d c 0 p := by
   intro q
   induction q with
   | nil => intro pre _; simp only [mc]; exact Z2N _ _
   | cons i q ih =>
     intro pre e
     have e2 : o = (pre ++ [i]) ++ q := by rw [e]; simp
     have h1 := ih (pre ++ [i]) e2
     have ed : days d (pre ++ [i]) = days d pre + d i := by rw [Z4t]; simp [days]
     rw [ed] at h1
     obtain ⟨k, hk, hck⟩ := ZR0 hT (d := d) (c := c) hd hc hg (S := pre ++ [i]) (by rw [e2] at hn; exact (List.nodup_append.1 hn).1) (by simp) (fun x hx => hp.mem_iff.2 (by rw [e2]; exact List.mem_append_left _ hx))
     have hkS := (Z9P.1 hk).1
     have hle : c i (days d (pre ++ [i])) ≤ c k (days d (pre ++ [i])) := by
       rcases List.mem_append.1 hkS with hx | hx
       · rw [e] at hs
         exact (List.pairwise_append.1 hs).2.2 k hx i (by simp) _
       · have : k = i := by simpa using hx
         rw [this]; exact Int.le_refl _
     rw [ed] at hle hck
     simp only [mc]; omega
 have := key o [] rfl
 simpa [days] using this
def factN : Nat → Nat
 | 0 => 1
 | n + 1 => factN n * (n + 1)
theorem Zyj {α : Type} (f : α → Nat) (x : Nat) : ∀ l : List α, (∀ a ∈ l, f a = x) → (l.map f).sum = l.length * x
 | [], _ => by simp
 | a :: l, h => by
   rw [List.map_cons, List.sum_cons, h a (by simp), Zyj f x l fun b hb => h b (by simp [hb]), List.length_cons, Nat.succ_mul]; omega
theorem ZTi {T : Nat → Nat → Bool} (h0 : ∀ i k, T i k = false) {d : Nat → Int} {c : Nat → Int → Int} {lim X : Int} (hd : ∀ i, 0 ≤ d i) (hl : ∀ i x, x ≤ X → c i x ≤ lim) : ∀ (m : Nat) (S : List Nat), S.length = m → days d S ≤ X → cntD T d c lim m S = factN m
 | 0, _, _, _ => rfl
 | m + 1, [], h, _ => by simp at h
 | m + 1, x :: r, h, hx => by
   have e1 : lastsL T (x :: r) = x :: r := by
     unfold lastsL
     rw [List.filter_eq_self]
     intro a _
     rw [List.all_eq_true]
     intro b _
     rw [h0]; rfl
   have e2 : (x :: r).filter (fun i => decide (c i (days d (x :: r)) ≤ lim)) = x :: r := by
     rw [List.filter_eq_self]
     intro a _
     exact decide_eq_true (hl a _ hx)
   simp only [cntD]
   rw [e1, e2, Zyj _ (factN m)]
   · rw [h, factN, Nat.mul_comm]
   · intro i hi
     have hlen := List.length_erase_of_mem hi
     have hp := Z9A (d := d) (List.perm_cons_erase hi)
     have := hd i
     refine ZTi h0 hd hl m _ (by omega) ?_
     simp only [days] at hp hx ⊢
     omega
end Go.AM.Mule
end
noncomputable section
namespace Go.AM.YtgfnbmfjbjopkaaDoor
open Go Go.AM Go.AM.Mule
def dueF (ls : List Ld) (i : Nat) : Int := (ls.getD i default).due
theorem Zlt {l : List Nat} {i : Nat} (h : i < l.length) : l.getD i 0 = l[i] := by simp [h]
structure DuOk (ls : List Ld) (n : Nat) : Prop where
 l : ls.length = n
 ne : 0 < n
 le : n ≤ 6
 ok : ∀ x ∈ ls, LdOk x
theorem Z0jI {ls : List Ld} {n : Nat} (h : DuOk ls n) {i : Nat} (hi : i < n) : ∃ x, ls[i]? = some x ∧ dueF ls i = x.due ∧ 0 ≤ x.due ∧ x.due ≤ 54 := by
 have hx := Z09 (l := ls) (i := i) (by rw [h.l]; exact hi)
 have := (h.ok _ (List.mem_of_getElem? hx)).due
 exact ⟨_, hx, rfl, this.1, this.2⟩
theorem Z0vm {C : Callee} {ls : List Ld} {n a b : Nat} {ex : Bool} (h : DuOk ls n) (ha : a < n) (hb : b < n) :
   rsOf (bodyA E C fg 1000 84 [.int .i64 (a : Int), .int .i64 (b : Int), .iptr [.imm (cls lc ls) n ex, .nilsl] 0] [] 0) = some (.int .i64 (dueF ls a - dueF ls b)) := by
 obtain ⟨x, x1, x2, x3, x4⟩ := Z0jI h ha
 obtain ⟨y, y1, y2, y3, y4⟩ := Z0jI h hb
 have fx : (cls lc ls)[a * 5 + 2]? = some (.int .i64 x.due) := Z3C ZJ x1 (by omega)
 have fy : (cls lc ls)[b * 5 + 2]? = some (.int .i64 y.due) := Z3C ZJ y1 (by omega)
 have hlen : (cls lc ls).length = n * 5 := by rw [Zv ZJ, h.l]
 have g1 : (a : Int) < n := by omega
 have g2 : (b : Int) < n := by omega
 rw [x2, y2]
 simp (disch := omega) only [Bool.not_true, Bool.not_false, Zp, Zc, Za, Z4, Z2, Z3, Z0, Zm, Zj, just, Rd.bind, Rd.run, Rd.opt, upds, tsz, rdCells, fieldOf, Zb, aLoad, resA, resL, Z6, aNum, aBin, aInt, Nat.reduceAdd, Nat.reduceLT, Nat.reduceBEq, Nat.reduceEqDiff, Nat.reduceLeDiff, ↓reduceIte, reduceCtorEq, Nat.zero_add, Nat.add_zero, ZS, ZR, ZX, ZW, ZM, Z02, ZD, ZA, ZP, stpT, Rd.foot, writing, Zr, Tr.empty, Zu, List.isEmpty_nil, List.map_nil, Bool.not_false, Bool.not_true, Bool.or_true, Bool.or_false, Bool.and_self, decide_true, Z5, and_true, Int.natCast_nonneg, Int.toNat_natCast, Option.map_some, List.elem_cons, List.elem_nil, List.getElem?_cons_zero, List.getElem?_cons_succ, seqN, bindN, regN, Nat.le_refl, beq_self_eq_true, Bool.false_eq_true, T_3, T_22, T_25, T_62, beq_self_eq_true, Z0HM, Z0Ap, Z0zK, Z0GU, Z0sA, Z0oS, Z0mL, Z0sX, Z0AZ, Z0y6, Z0wY, Z0sV, Z0tL, Z0xJ, Z0td, Z0sF, Z0tE, Z0mj, Z0qN, Z0mq, Z0po, Z0HW, Z0HB, Z0Hn, b_84, g1, g2, fx, fy, hlen, Z0q]
theorem Z0ot {d : Nat} {site : Nat → Nat} {seen : List Nat} {ls : List Ld} {n a b : Nat} {ex : Bool} (h : DuOk ls n) (ha : a < n) (hb : b < n) :
   aBack site true seen (thaw (callA E fg 1000 (d + 1)) 84 [.int .i64 (a : Int), .int .i64 (b : Int), .iptr [.imm (cls lc ls) n ex, .nilsl] 0] [] 0) = .pure (.int .i64 (dueF ls a - dueF ls b), []) :=
 Z0J (Z0O (Z0vm h ha hb))
abbrev dH (ls : List Ld) (n : Nat) (l : List Nat) : AHeap := [(3, ⟨.box, [.ref 14 0 n n (n * 5) 5 false, .nilsl]⟩), (14, ⟨.row, cls lc ls⟩), (42, ⟨.row, ins l⟩)]
abbrev dinS (ls : List Ld) (n i j : Nat) (l : List Nat) : St := ([(9, .int .i64 j), (8, .int .i64 i), (3, .clo 84 [.ptr 3 0 2]), (2, .int .i64 n), (1, .int .i64 0), (0, .ref 42 0 n n n 1 false)], dH ls n l)
abbrev dinE (ls : List Ld) (n i j : Nat) (l : List Nat) : St := ([(34, .bool false), (9, .int .i64 j), (8, .int .i64 i), (3, .clo 84 [.ptr 3 0 2]), (2, .int .i64 n), (1, .int .i64 0), (0, .ref 42 0 n n n 1 false)], dH ls n l)
abbrev DuC (C : Callee) (ls : List Ld) (n : Nat) : Prop := ∀ (site : Nat → Nat) seen a b ex, a < n → b < n → aBack site true seen (thaw C 84 [.int .i64 (a : Int), .int .i64 (b : Int), .iptr [.imm (cls lc ls) n ex, .nilsl] 0] [] 0) = .pure (.int .i64 (dueF ls a - dueF ls b), [])
theorem ZGA (caps args : List AV) : mutV E (.clo 84 caps) args = none := rfl
theorem Z0Hv {C : Callee} {B : Nat} {ls : List Ld} {n i j x y : Nat} {l l0 : List Nat} (cc : DuC C ls n) (hd : (cls lc ls).length = n * 5) (hn : n ≤ 6) (hl : l.length = n) (hj : j + 1 < n) (hx : l[j]? = some x) (hy : l[j + 1]? = some y) (hxn : x < n) (hyn : y < n) (hc : dueF ls y < dueF ls x) :
   ∃ s', execA E C (fg 138) B 53 (dH ls n l0) 1000 Z56 (dinS ls n i (j + 1) l) = some (.normal, s') ∧ headA (dH ls n l0) s' = dinS ls n i j (swpI l j) := by
 have e : swpI l j = (l.set (j + 1) x).set j y := by simp [swpI, hx, hy]
 have w1 : wrp .i64 (((j + 1 : Nat) : Int) - 1) = (j : Int) := by rw [Z0q (by omega)]; omega
 have g : ((j + 1 : Nat) : Int) > 0 := by omega
 have a1 := Z0P hx
 have a2 := Z0P hy
 have hjl : (j : Int) < n := by omega
 have hjl1 : ((j + 1 : Nat) : Int) < n := by omega
 have hil : (ins l).length = n := by rw [Zn, hl]
 have hil2 : (ins (l.set (j + 1) x)).length = n := by rw [Zn, List.length_set, hl]
 have cc := fun site seen ex => cc site seen y x ex hyn hxn
 have hc2 : dueF ls y - dueF ls x < 0 := by omega
 have p1 := Z8U l (j + 1) x
 have p2 := Z8U (l.set (j + 1) x) j y
 have td : List.take (n * 5) (cls lc ls) = cls lc ls := List.take_of_length_le (by omega)
 rw [e]
 generalize dueF ls y - dueF ls x = q at *
 simp (disch := omega) only [Z9, Zh, ZN, Bool.not_true, Bool.not_false, Zc, Za, Z4, Z2, Z3, Z0, Zd, Zi, Zj, stp, opPick, just, Rd.bind, Rd.run, Rd.opt, upds, acells, tsz, rdCells, aLoad, aStore, opStore, Z6, aNum, aBin, aInt, putC, Nat.reduceAdd, Nat.reduceMul, Nat.reduceLT, Nat.reduceBEq, Nat.reduceEqDiff, Nat.reduceLeDiff, ↓reduceIte, reduceCtorEq, Ze, Nat.zero_add, List.nil_append, ZS, ZR, ZX, ZW, ZM, Z02, ZD, ZA, ZP, ZL, stpT, ↓gdT, Rd.foot, writing, Zr, Tr.empty, Zu, apartT, disj, List.isEmpty_nil, List.isEmpty_cons, List.map_nil, List.map_cons, Bool.not_false, Bool.not_true, Bool.true_or, Bool.or_true, Bool.or_false, Bool.and_true, Bool.true_and, Bool.and_self, decide_true, Z5, Zl, and_true, true_and, Int.natCast_nonneg, Int.toNat_natCast, aCall, snaps, List.append_nil, List.elem_cons, List.elem_nil, List.length_cons, List.length_nil, List.drop_zero, Zs, seqN, bindN, regN, Zw, ZU, ZH, Z0l, List.all_cons, List.all_nil, opCallV, List.cons_append, Nat.le_refl, Nat.mul_one, List.not_mem_nil, beq_self_eq_true, Bool.false_eq_true, T_3, T_36, Ztu, ZmO, Zhy, Zhs, Zmx, Zmq, ZmF, Zm2, ZmJ, Zmv, ZmA, Zmm, ZmE, ZmB, ZhO, ZgF, ZhC, ZgS, Zi6, ZhG, Zhk, Zwr, ZtB, ZsH, Zvm, Z0AT, Z0qO, Z0l0, Z0fh, Z0nz, Z0lS, Z0qb, Z0nn, Z0pt, Z0pQ, Z0qx, Z0o6, Z0nj, Z0m9, Z0i9, Z0i8, Z0jh, Z0hr, Z0gq, Z0fg, Z0i0, Z0hT, Z0xf, Z0xa, Z0o9, Z0qo, Z0op, Z0pZ, Z0uq, ZsN, List.all_cons, List.all_nil, List.getD_cons_zero, List.getD_cons_succ, beq_self_eq_true, w1, g, a1, a2, hjl, hjl1, hil, hil2, cc, hc2, p1, p2, td, hd, Zye (ZGA _ _), Z0eQ, if_pos]
 exact ⟨_, rfl, rfl⟩
theorem Z0wk {C : Callee} {B : Nat} {ls : List Ld} {n i j x y : Nat} {l l0 : List Nat} (cc : DuC C ls n) (hd : (cls lc ls).length = n * 5) (hn : n ≤ 6) (hl : l.length = n) (hj : j + 1 < n) (hx : l[j]? = some x) (hy : l[j + 1]? = some y) (hxn : x < n) (hyn : y < n) (hc : ¬ dueF ls y < dueF ls x) :
   execA E C (fg 138) B 53 (dH ls n l0) 1000 Z56 (dinS ls n i (j + 1) l) = some (.exit 2, dinE ls n i (j + 1) l) := by
 have w1 : wrp .i64 (((j + 1 : Nat) : Int) - 1) = (j : Int) := by rw [Z0q (by omega)]; omega
 have g : ((j + 1 : Nat) : Int) > 0 := by omega
 have a1 := Z0P hx
 have a2 := Z0P hy
 have hjl : (j : Int) < n := by omega
 have hjl1 : ((j + 1 : Nat) : Int) < n := by omega
 have hil : (ins l).length = n := by rw [Zn, hl]
 have cc := fun site seen ex => cc site seen y x ex hyn hxn
 have hc2 : ¬ dueF ls y - dueF ls x < 0 := by omega
 have td : List.take (n * 5) (cls lc ls) = cls lc ls := List.take_of_length_le (by omega)
 generalize dueF ls y - dueF ls x = q at *
 simp (disch := omega) only [ZG, Z9, ZN, Bool.not_true, Bool.not_false, Z4, Z2, Z3, Z0, Zd, Zj, opPick, just, Rd.bind, Rd.run, Rd.opt, upds, tsz, rdCells, aLoad, Z6, aNum, aBin, aInt, Nat.reduceAdd, Nat.reduceMul, Nat.reduceLT, Nat.reduceBEq, Nat.reduceEqDiff, Nat.reduceLeDiff, ↓reduceIte, reduceCtorEq, Ze, Nat.zero_add, List.nil_append, ZS, ZR, ZX, ZW, ZM, Z02, ZD, ZA, ZP, ZL, stpT, ↓gdT, Rd.foot, writing, Zr, Tr.empty, Zu, apartT, disj, List.isEmpty_nil, List.isEmpty_cons, List.map_nil, Bool.not_false, Bool.not_true, Bool.true_or, Bool.or_true, Bool.or_false, Bool.and_true, Bool.true_and, Bool.and_self, decide_true, decide_false, Z5, and_true, Int.natCast_nonneg, Int.toNat_natCast, aCall, snaps, List.append_nil, List.elem_cons, List.elem_nil, List.length_cons, List.length_nil, List.drop_zero, seqN, regN, Zw, ZU, ZH, Z0l, List.all_cons, List.all_nil, opCallV, List.cons_append, Nat.le_refl, Nat.mul_one, beq_self_eq_true, Bool.false_eq_true, T_3, T_36, Ztu, ZmO, Zhy, Zhs, Zmx, Zmq, ZmF, Zm2, ZmJ, Zmv, ZmA, Zmm, ZmE, ZmB, ZhO, ZgF, ZhC, ZgS, Zi6, ZhG, Zhk, Zwr, ZtB, ZsH, Zvm, ZsN, List.all_cons, List.all_nil, List.getD_cons_zero, List.getD_cons_succ, beq_self_eq_true, w1, g, a1, a2, hjl, hjl1, hil, cc, hc2, td, hd, Zye (ZGA _ _), Z0eQ]
theorem Z0tq {C : Callee} {B : Nat} {ls : List Ld} {n i : Nat} {l l0 : List Nat} :
   execA E C (fg 138) B 53 (dH ls n l0) 1000 Z56 (dinS ls n i 0 l) = some (.exit 2, dinE ls n i 0 l) := by
 have g : ¬ (0 : Int) > 0 := by omega
 simp (disch := omega) only [ZG, Z9, ZN, Bool.not_true, Bool.not_false, Z4, Z2, Z3, Z0, Zj, opPick, just, Rd.bind, Rd.run, Rd.opt, upds, aBin, aInt, Nat.reduceAdd, Nat.reduceBEq, Nat.reduceEqDiff, Nat.reduceLeDiff, ↓reduceIte, Nat.zero_add, ZS, ZR, ZX, ZW, ZM, Z02, ZD, ZA, ZP, ZL, stpT, ↓gdT, Rd.foot, writing, Zr, Tr.empty, Zu, List.isEmpty_nil, List.map_nil, Bool.not_false, Bool.not_true, Bool.or_true, Bool.or_false, Bool.and_self, decide_true, decide_false, Z5, Option.map_some, List.elem_cons, List.elem_nil, seqN, regN, Nat.le_refl, beq_self_eq_true, Bool.false_eq_true, Ztu, ZmO, Zhy, Zhs, Zmx, Zmq, ZmF, Zm2, ZmJ, Zmv, ZmA, Zmm, ZmE, ZmB, ZhO, ZgF, ZhC, ZgS, Zi6, ZhG, Zhk, Zwr, ZtB, ZsH, Zvm, ZsN, beq_self_eq_true, dinS, dinE, dH, g, Int.natCast_zero]
theorem ZYR {l : List Nat} {n j : Nat} (hl : l.length = n) (hj : j + 1 < n) (h : ∀ x ∈ l, x < n) : ∀ x ∈ swpI l j, x < n := by
 intro x hx
 unfold swpI at hx
 rcases List.mem_or_eq_of_mem_set hx with hx | rfl
 · rcases List.mem_or_eq_of_mem_set hx with hx | rfl
   · exact h x hx
   · rw [Zlt (by omega)]; exact h _ (List.getElem_mem _)
 · rw [Zlt (by omega)]; exact h _ (List.getElem_mem _)
theorem Z0s9 {C : Callee} {B : Nat} {ls : List Ld} {n i : Nat} {l0 : List Nat} (cc : DuC C ls n) (hd : (cls lc ls).length = n * 5) (hn : n ≤ 6) : ∀ (j F : Nat) (l : List Nat) (s : St), headA (dH ls n l0) s = dinS ls n i j l → l.length = n → (∀ x ∈ l, x < n) → j < n → j < F →
   ∃ j', iterA (execA E C (fg 138) B 53 (dH ls n l0) 1000 Z56) (headA (dH ls n l0)) F s = some (.exit 2, dinE ls n i j' (insI (dueF ls) l j)) := by
 intro j
 induction j with
 | zero =>
   intro F l s hs0 hl hm hj hF
   obtain ⟨F, rfl⟩ : ∃ G, F = G + 1 := ⟨F - 1, by omega⟩
   exact ⟨0, by rw [Z2T, hs0, Z0tq, ZG, insI]⟩
 | succ j ih =>
   intro F l s hs0 hl hm hj hF
   obtain ⟨F, rfl⟩ : ∃ G, F = G + 1 := ⟨F - 1, by omega⟩
   have hx : l[j]? = some l[j] := List.getElem?_eq_getElem (by omega)
   have hy : l[j + 1]? = some l[j + 1] := List.getElem?_eq_getElem (by omega)
   have gx : l.getD j 0 = l[j] := Zlt (by omega)
   have gy : l.getD (j + 1) 0 = l[j + 1] := Zlt (by omega)
   have mx := hm _ (List.mem_of_getElem? hx)
   have my := hm _ (List.mem_of_getElem? hy)
   rw [Z2T, hs0, insI, gx, gy]
   by_cases hc : dueF ls l[j + 1] < dueF ls l[j]
   · obtain ⟨s', e1, e2⟩ := Z0Hv (B := B) (i := i) (l0 := l0) cc hd hn hl hj hx hy mx my hc
     rw [if_pos hc, e1, seqN]
     exact ih F (swpI l j) s' e2 (by rw [ZcH, hl]) (ZYR hl hj hm) (by omega) (by omega)
   · rw [if_neg hc, Z0wk (B := B) (i := i) (l0 := l0) cc hd hn hl hj hx hy mx my hc]
     exact ⟨j + 1, by rw [ZG]⟩
abbrev douS (ls : List Ld) (n i : Nat) (l : List Nat) : St := ([(8, .int .i64 i), (3, .clo 84 [.ptr 3 0 2]), (2, .int .i64 n), (1, .int .i64 0), (0, .ref 42 0 n n n 1 false)], dH ls n l)
theorem Z0Ff {C : Callee} {B : Nat} {ls : List Ld} {n i : Nat} {l l0 : List Nat} (cc : DuC C ls n) (hd : (cls lc ls).length = n * 5) (hn : n ≤ 6) (hl : l.length = n) (hm : ∀ x ∈ l, x < n) (hi : i < n) :
   ∃ s', execA E C (fg 138) B 53 (dH ls n l0) 1000 Ze6 (douS ls n i l) = some (.normal, s') ∧ headA (dH ls n l0) s' = douS ls n (i + 1) (insI (dueF ls) l i) := by
 obtain ⟨j', hloop⟩ := Z0s9 (B := B) (l0 := l0) (i := i) cc hd hn i 1000 l (dinS ls n i i l) (by rfl) hl hm hi (by omega)
 have g : (i : Int) < n := by omega
 simp only [dinS, dinE, dH] at hloop
 simp (disch := omega) only [Z9, Zz, Zh, Zc, Za, Z4, Z2, Z3, Z0, Zj, stp, just, Rd.bind, Rd.run, Rd.opt, upds, aBin, aInt, Nat.reduceBEq, Nat.reduceEqDiff, Nat.reduceLeDiff, ↓reduceIte, decide_true, Z5, List.elem_cons, List.elem_nil, seqN, bindN, regN, beq_self_eq_true, Bool.false_eq_true, Z0iu, ZSy, ZLG, ZTC, ZS7, Z0g6, Z0ip, Z0jG, Z0fM, Z0u5, Z0lz, Z0qC, Z0oc, Z0th, Z0tJ, Z0tY, Z0wN, Z0vD, Z0ok, Z0mB, Z0lh, Z0o5, Z0uG, Z0k4, beq_self_eq_true, g, hloop, ZK (show i < 1000000 by omega)]
 exact ⟨_, rfl, rfl⟩
theorem Z01B {F : Nat → Int} {n : Nat} : ∀ (j : Nat) (l : List Nat), l.length = n → j < n → (∀ x ∈ l, x < n) → ∀ x ∈ insI F l j, x < n
 | 0, l, _, _, h => h
 | j + 1, l, hl, hj, h => by
   rw [insI]
   split
   · exact Z01B j _ (by rw [ZcH, hl]) (by omega) (ZYR hl hj h)
   · exact h
theorem Z085 {F : Nat → Int} {n : Nat} {l : List Nat} (hl : l.length = n) (h : ∀ x ∈ l, x < n) : ∀ i, i < n → ∀ x ∈ srtN F l i, x < n
 | 0, _ => h
 | i + 1, hi => Z01B (i + 1) _ (by rw [ZcG, hl]) hi (Z085 hl h i (by omega))
theorem Z0Bw {C : Callee} {B : Nat} {ls : List Ld} {n : Nat} {l : List Nat} (cc : DuC C ls n) (hd : (cls lc ls).length = n * 5) (hn : n ≤ 6) (h0 : 0 < n) (hl : l.length = n) (hm : ∀ x ∈ l, x < n) :
   bodyA E C fg 1000 138 [.ref 42 0 n n n 1 false, .int .i64 0, .int .i64 n, .clo 84 [.ptr 3 0 2]] (dH ls n l) B = some (.tup [], dH ls n (srtI (dueF ls) l)) := by
 have hloop := Z0K (f := execA E C (fg 138) B 53 (dH ls n l) 1000 Ze6) (hd := headA (dH ls n l)) (fun k => douS ls n (k + 1) (srtN (dueF ls) l k)) (n - 1) 1000 0
   (douS ls n 1 l) (by rfl) (by omega) (fun k h1 h2 => by
     exact Z0Ff (B := B) (l0 := l) (i := k + 1) cc hd hn (by rw [ZcG, hl]) (Z085 hl hm k (by omega)) (by omega)) (e := .exit 0) (se := ([(14, .bool false), (8, .int .i64 n), (3, .clo 84 [.ptr 3 0 2]), (2, .int .i64 n), (1, .int .i64 0), (0, .ref 42 0 n n n 1 false)], dH ls n (srtI (dueF ls) l))) (by
     rw [Nat.zero_add, show n - 1 + 1 = n by omega]
     have e : srtN (dueF ls) l (n - 1) = srtI (dueF ls) l := by unfold srtI; rw [hl]
     simp only [e]
     simp (disch := omega) only [ZG, Z9, Zc, Za, Z4, Z2, Z3, Z0, Zj, stp, just, Rd.bind, Rd.run, Rd.opt, upds, aBin, aInt, Nat.reduceBEq, Nat.reduceEqDiff, Nat.reduceLeDiff, ↓reduceIte, decide_false, Z5, List.elem_cons, List.elem_nil, seqN, bindN, regN, beq_self_eq_true, Int.lt_irrefl, Bool.false_eq_true, Z0iu, ZSy, ZLG, ZTC, ZS7, Z0g6, Z0ip, Z0jG, Z0fM, Z0k4, beq_self_eq_true]) (by simp)
 simp only [douS, dH, cl1] at hloop
 have w : wrp .i64 (0 + 1) = 1 := by decide
 simp (disch := omega) only [Zz, Z5n, Zc, Za, Z4, Z2, Z3, Z0, Zm, Zj, stp, just, Rd.bind, Rd.run, Rd.opt, upds, resA, resL, aBin, aInt, Nat.reduceAdd, Nat.reduceBEq, Nat.reduceEqDiff, Nat.reduceLeDiff, ↓reduceIte, Nat.zero_add, Z5, Option.map_some, List.elem_cons, List.elem_nil, seqN, bindN, regN, beq_self_eq_true, Bool.false_eq_true, Z0E2, Z0n7, Z0m6, Z0qM, Z0ow, Z0BS, Z0Ea, Z0CN, Z0HF, beq_self_eq_true, w, hloop]
theorem Z0Cc {f : AFr} {c d d2 : List AV} {k : Nat} : headA [(3, ⟨.box, [.ref 14 0 k k (k * 5) 5 false, .nilsl]⟩), (14, ⟨.row, c⟩), (42, ⟨.row, d⟩)] (f, [(3, ⟨.box, [.ref 14 0 k k (k * 5) 5 false, .nilsl]⟩), (14, ⟨.row, c⟩), (42, ⟨.row, d2⟩)]) = (f, [(3, ⟨.box, [.ref 14 0 k k (k * 5) 5 false, .nilsl]⟩), (14, ⟨.row, c⟩), (42, ⟨.row, d2⟩)]) := Zn8 _ fun p hp => by
 simp only [List.mem_cons, List.not_mem_nil, or_false] at hp
 rcases hp with rfl | rfl | rfl <;> rfl
theorem Z0C2 {d B : Nat} {ls : List Ld} {n : Nat} {l : List Nat} (h : DuOk ls n) (hl : l.length = n) (hm : ∀ x ∈ l, x < n) :
   callA E fg 1000 (d + 3) 124 [.ref 42 0 n n n 1 false, .int .i64 n, .clo 84 [.ptr 3 0 2]] (dH ls n l) B = some (.tup [], dH ls n (srtI (dueF ls) l)) := by
 change bodyA E (callA E fg 1000 (d + 2)) fg 1000 124 _ _ _ = _
 have hd : (cls lc ls).length = n * 5 := by rw [Zv ZJ, h.l]
 have hi := fun B => show callA E fg 1000 (d + 2) 138 _ _ B = _ from Z0Bw (C := callA E fg 1000 (d + 1)) (B := B) (fun _ _ _ _ _ ha hb => Z0ot h ha hb) hd h.le h.ne hl hm
 have hn := h.le
 simp only [dH] at hi
 have g1 : ¬ (20 : Int) ≤ n := by omega
 have g2 : ¬ (20 : Int) < n := by omega
 generalize callA E fg 1000 (d + 2) = C at *
 simp (disch := omega) only [ZG, Z9, Zz, Z5n, Zc, Za, Z4, Z2, Z3, Z0, Zm, Zo, Zj, stp, just, Rd.bind, Rd.run, Rd.opt, upds, resA, resL, aBin, aInt, Nat.reduceAdd, Nat.reduceMul, Nat.reduceBEq, Nat.reduceEqDiff, Nat.reduceLeDiff, ↓reduceIte, reduceCtorEq, Nat.zero_add, decide_false, Z5, mutX, Option.map_some, List.elem_cons, List.elem_nil, seqN, bindN, regN, beq_self_eq_true, Bool.false_eq_true, Z0Cl, Z0r6, Z0mu, Z0Dq, Z0py, Z0ny, Z0r7, Z0nM, Z0BZ, Z0qc, Z0lG, Z0nL, Z0lE, Z0zk, Z0wV, Z0xj, Z0En, Z0CD, Z0C6, Z0EV, Z0tA, Z0lI, Z0nA, Z0oU, Z0pP, Z0mb, Z0ng, Z0xk, Z0nK, Z0ms, Z0nv, Z0nx, Z0vA, Z0tw, Z0zz, Z0xm, Z0w7, Z0zF, Z0wA, Z0ya, Z0EG, Z0Bz, Z0Dk, Z0FC, beq_self_eq_true, Z2T, Z0Cc, hi, g1, g2]
theorem dsort {d B : Nat} {ls : List Ld} {n : Nat} {l : List Nat} (h : DuOk ls n) (hl : l.length = n) (hm : ∀ x ∈ l, x < n) :
   callA E fg 1000 (d + 4) 83 [.ref 42 0 n n n 1 false, .clo 84 [.ptr 3 0 2]] (dH ls n l) B = some (.tup [], dH ls n (srtI (dueF ls) l)) := by
 change bodyA E (callA E fg 1000 (d + 3)) fg 1000 83 _ _ _ = _
 have hi := fun B => Z0C2 (d := d) (B := B) h hl hm
 simp only [dH] at hi
 have hil : (ins l).length = n := by rw [Zn, hl]
 generalize callA E fg 1000 (d + 3) = C at *
 simp (disch := omega) only [Z5n, Zc, Za, Z4, Z2, Z3, Z0, Zd, Zm, Zj, stp, just, Rd.bind, Rd.run, upds, resA, resL, aLen, Zf, Nat.reduceMul, Nat.reduceBEq, Nat.reduceEqDiff, Nat.reduceLeDiff, ↓reduceIte, reduceCtorEq, Ze, Nat.zero_add, List.getElem?_toArray, Z5, mutX, Option.map_some, List.elem_cons, List.getElem?_cons_zero, bindN, regN, beq_self_eq_true, T_36, Z0G5, Z0v0, Z0zZ, Z0xI, Z0zN, Z0w2, Z0vi, b_83, beq_self_eq_true, hi, hil]
end Go.AM.YtgfnbmfjbjopkaaDoor
end
noncomputable section
namespace Go.AM.YtgfnbmfjbjopkaaDoor
open Go Go.AM Go.AM.Mule
theorem ZfK {ls : List Ld} {i : Nat} (h : ls.length ≤ i) : ls.getD i default = default := by
 rw [List.getD_eq_getElem?_getD, List.getElem?_eq_none h]; rfl
theorem ZoP {ls : List Ld} {B : List Nat} {n : Nat} (h : TrOk ls B n) (i : Nat) : 0 ≤ hiF ls i := by
 by_cases hi : i < n
 · obtain ⟨l, _, h2, e⟩ := ZkB h hi
   have := h2.hi
   omega
 · unfold hiF
   rw [ZfK (by rw [h.l]; omega)]
   exact Int.le_refl _
theorem ZZd {ls : List Ld} {B : List Nat} {n : Nat} (h : TrOk ls B n) (i : Nat) (x y : Int) (hxy : x ≤ y) : cF ls i x ≤ cF ls i y := by
 have hr : 0 ≤ (ls.getD i default).rate := by
   by_cases hi : i < n
   · have hx := Z09 (l := ls) (i := i) (by rw [h.l]; exact hi)
     exact (h.ld _ (List.mem_of_getElem? hx)).rate.1
   · rw [ZfK (by rw [h.l]; omega)]; exact Int.le_refl _
 unfold cF ldC
 have := Int.mul_le_mul_of_nonneg_left (show max 0 (x - (ls.getD i default).due) ≤ max 0 (y - (ls.getD i default).due) by omega) hr
 omega
structure IsO (B : List Nat) (n : Nat) (o : List Nat) : Prop where
 pm : o.Perm (List.range n)
 gd' : Mule.Good (bit B) o
theorem IsO.nd {B : List Nat} {n : Nat} {o : List Nat} (h : IsO B n o) : o.Nodup := h.pm.nodup_iff.2 List.nodup_range
theorem IsO.len {B : List Nat} {n : Nat} {o : List Nat} (h : IsO B n o) : o.length = n := by rw [h.pm.length_eq, List.length_range]
theorem IsO.lt {B : List Nat} {n : Nat} {o : List Nat} (h : IsO B n o) {i : Nat} (hi : i ∈ o) : i < n := List.mem_range.1 (h.pm.mem_iff.1 hi)
abbrev mcO (ls : List Ld) (o : List Nat) : Int := mc (hiF ls) (cF ls) 0 o
theorem Z0CZ {ls : List Ld} {B : List Nat} {n : Nat} (hT : Ord (bit B)) : IsO B n (ruO ls B n) := by
 obtain ⟨a, b, _⟩ := Zap hT (d := hiF ls) (c := cF ls) n (List.range n) List.nodup_range (by rw [List.length_range]; exact Nat.le_refl _)
 exact ⟨a, b⟩
theorem Z0lZ {ls : List Ld} {B : List Nat} {n : Nat} (h : TrOk ls B n) (hT : Ord (bit B)) {o : List Nat} (ho : IsO B n o) : ruC ls B n ≤ mcO ls o := by
 have := Z0fy hT (ZoP h) (ZZd h) (S := List.range n) List.nodup_range ho.gd' ho.pm
 rw [List.length_range] at this
 exact this
theorem Z0BF {ls : List Ld} {B : List Nat} {n : Nat} (h : TrOk ls B n) (i : Nat) (x : Int) (hx : x ≤ 54) : cF ls i x ≤ 100000 := by
 unfold cF ldC
 by_cases hi : i < n
 · have hy := h.ld _ (List.mem_of_getElem? (Z09 (l := ls) (i := i) (by rw [h.l]; exact hi)))
   have h1 := Int.mul_le_mul_of_nonneg_left (show max 0 (x - (ls.getD i default).due) ≤ 54 by have := hy.due; omega) hy.rate.1
   have := hy.rate; have := hy.base
   omega
 · rw [ZfK (by rw [h.l]; omega)]
   show (0 : Int) + 0 * _ ≤ _
   omega
end Go.AM.YtgfnbmfjbjopkaaDoor
end
noncomputable section
namespace Go.AM.YtgfnbmfjbjopkaaDoor
open Go Go.AM Go.AM.Mule
abbrev hisL (ls : List Ld) : List Int := ls.map Ld.hi
theorem ZvV (ls : List Ld) (i : Nat) : (hisL ls).getD i 0 = hiF ls i := by
 unfold hiF hisL
 rw [List.getD_eq_getElem?_getD, List.getD_eq_getElem?_getD, List.getElem?_map]
 cases ls[i]? <;> rfl
abbrev moS (ls : List Ld) (n : Nat) (ex : Bool) (i : Nat) : St := ([(9, .int .i64 i), (8, .int .i64 n), (7, .imm (cls lc ls) n ex), (3, oV 17 1 i)], oH 17 (ics ((hisL ls).take i)))
theorem Z0Id {C : Callee} {ls : List Ld} {n : Nat} {ex : Bool} (hl : ls.length = n) (hn : n ≤ 100) (i : Nat) (hi : i < n) :
   ∃ s', (execA E C (fg 53) 0 20 [] 1000 ZiL) (moS ls n ex i) = some (.normal, s') ∧ headA [] s' = moS ls n ex (i + 1) := by
 have hx := Z09 (l := ls) (i := i) (by omega)
 have hat := Z1D ZJ hx
 have hlen : (cls lc ls).length = n * 5 := by rw [Zv ZJ, hl]
 have g1 : (i : Int) < n := by omega
 have e : (hisL ls).take (i + 1) = (hisL ls).take i ++ [(ls.getD i default).hi] := by
   rw [List.take_add_one, List.getElem?_map, hx]; rfl
 have hll : ((hisL ls).take i).length = i := by rw [List.length_take, List.length_map]; omega
 have hsn := Z0oK ((hisL ls).take i) (ls.getD i default).hi
 have hne : oH 17 (ics ((hisL ls).take i ++ [(ls.getD i default).hi])) = [(17, ⟨.row, ics ((hisL ls).take i ++ [(ls.getD i default).hi])⟩)] := Zfg _ (by rw [ZC]; simp)
 have hil : (ics ((hisL ls).take i)).length = i := by rw [ZC, hll]
 have htk : List.take i (ics ((hisL ls).take i)) = ics ((hisL ls).take i) := List.take_of_length_le (by omega)
 simp only [lc] at hat
 simp only [moS]
 rw [e, hne, ← hsn]
 generalize ls.getD i default = x at *
 cases i with
 | zero =>
   rw [List.take_zero] at *
   simp only [Nat.zero_mul, List.drop_zero] at hat
   have w1 : wrp .i64 (0 + 1) = 1 := rfl
   have z1 : ((0 : Nat) : Int) = 0 := rfl
   have z2 : ((0 + 1 : Nat) : Int) = 1 := rfl
   have l0 : ics ([] : List Int) = [] := rfl
   simp only [oV, oH, z1, z2, l0, List.nil_append] at g1 ⊢
   simp (disch := omega) only [Z9, Zh, Zc, Za, Z4, Z2, Z3, Z0, Zk, Zd, Zq, Zi, Zo, Zj, stp, opBox, just, Rd.bind, Rd.run, Rd.opt, upds, acells, zeroCells, tsz, elemT, rdCells, fieldOf, Zb, aLoad, aStore, opStore, fresh, Z6, aNum, Zf, aBin, aInt, putC, evO, Nat.reduceAdd, Nat.reduceLT, Nat.reduceBEq, Nat.reduceEqDiff, Nat.reduceLeDiff, ↓reduceIte, reduceCtorEq, Ze, Nat.zero_add, Nat.add_zero, ne_eq, List.nil_append, List.getElem?_toArray, decide_true, not_true_eq_false, or_self, ZZ, Z0Q, fo6, fo5, partsOf, fillA, repC, Z0I, aAppend, srcOf, window, Z5, Zl, and_true, snaps, List.append_nil, List.elem_cons, List.elem_nil, List.length_cons, List.length_nil, List.getElem?_cons_zero, List.getElem?_cons_succ, List.drop_zero, List.take_succ_cons, List.take_nil, List.set_cons_zero, List.set_cons_succ, Zs, seqN, bindN, regN, Zw, Nat.le_refl, Int.reduceLE, Int.reduceToNat, Nat.mul_one, Nat.zero_mul, List.not_mem_nil, beq_self_eq_true, Nat.lt_irrefl, Bool.false_eq_true, T_3, T_22, T_36, T_62, beq_self_eq_true, ZID, ZvH, ZtE, ZLE, ZQa, ZMa, Z0gr, Z09o, ZZs, Z00o, ZYf, Z014, Z0g3, Z06J, Z03B, Z09v, Z080, ZXP, Z08m, Z01M, Z0kK, Z0ig, Z0k3, Z09n, Z0aW, Z0c7, Z0gg, ZXf, Z0f2, g1, hat, hlen, w1, if_pos, ZBc (show 1 ≤ 1000000 by omega)]
   exact ⟨_, rfl, rfl⟩
 | succ i =>
   have hno : ¬ i + 1 + 1 ≤ i + 1 := by omega
   have h1 : oH 17 (ics ((hisL ls).take (i + 1))) = [(17, ⟨.row, ics ((hisL ls).take (i + 1))⟩)] := Zfg _ (by omega)
   rw [h1]
   generalize ics ((hisL ls).take (i + 1)) = L at *
   simp only [oV]
   simp (disch := omega) only [Z9, Zh, Zc, Za, Z4, Z2, Z3, Z0, Zk, Zd, Zi, Zo, Zj, stp, opBox, just, Rd.bind, Rd.run, Rd.opt, upds, acells, zeroCells, tsz, elemT, rdCells, fieldOf, Zb, aLoad, aStore, opStore, fresh, Z6, aNum, Zf, aBin, aInt, putC, evO, Nat.reduceAdd, Nat.reduceLT, Nat.reduceBEq, Nat.reduceEqDiff, Nat.reduceLeDiff, ↓reduceIte, reduceCtorEq, Ze, Nat.zero_add, Nat.add_zero, ne_eq, List.nil_append, List.getElem?_toArray, decide_true, not_true_eq_false, or_self, ZZ, Z0Q, fo6, fo5, partsOf, fillA, repC, Z0I, aAppend, srcOf, window, Z5, Zl, and_true, Int.natCast_nonneg, Int.toNat_natCast, snaps, List.append_nil, List.elem_cons, List.elem_nil, List.length_cons, List.length_nil, List.getElem?_cons_zero, List.getElem?_cons_succ, List.drop_zero, List.take_succ_cons, List.take_nil, List.set_cons_zero, List.set_cons_succ, Zs, seqN, bindN, regN, Zw, Nat.le_refl, Nat.mul_one, List.not_mem_nil, beq_self_eq_true, Nat.lt_irrefl, Bool.false_eq_true, T_3, T_22, T_36, T_62, beq_self_eq_true, ZID, ZvH, ZtE, ZLE, ZQa, ZMa, Z0gr, Z09o, ZZs, Z00o, ZYf, Z014, Z0g3, Z06J, Z03B, Z09v, Z080, ZXP, Z08m, Z01M, Z0kK, Z0ig, Z0k3, Z09n, Z0aW, Z0c7, Z0gg, ZXf, Z0f2, g1, hat, hlen, hil, htk, hno, if_pos, ZBc (show i + 1 + 1 ≤ 1000000 by omega), ZK (show i + 1 < 1000000 by omega)]
   exact ⟨_, rfl, rfl⟩
theorem Z0n5 {C : Callee} {ls : List Ld} {n : Nat} {ex : Bool} {b : AV} (hl : ls.length = n) (hn : n ≤ 100) (h0 : 0 < n) :
   ∃ H', bodyA E C fg 1000 53 [.agg [.imm (cls lc ls) n ex, b]] [] 0 = some (.ref 17 0 n n n 1 false, H') ∧ hget H' 17 = some ⟨.row, ics (hisL ls)⟩ := by
 have hll : (ics (hisL ls)).length = n := by rw [ZC, List.length_map, hl]
 have hne : oH 17 (ics (hisL ls)) = [(17, ⟨.row, ics (hisL ls)⟩)] := Zfg _ (by omega)
 have hov : oV 17 1 n = .ref 17 0 n n n 1 false := by obtain ⟨m, rfl⟩ : ∃ m, n = m + 1 := ⟨n - 1, by omega⟩; simp only [oV, Nat.mul_one]
 have ht : (hisL ls).take n = hisL ls := List.take_of_length_le (by rw [List.length_map]; omega)
 have hloop := Z0K (f := (execA E C (fg 53) 0 20 [] 1000 ZiL)) (hd := headA []) (moS ls n ex) n 1000 0
   ([(9, .int .i64 0), (8, .int .i64 n), (7, .imm (cls lc ls) n ex), (3, .nilsl)], [(1, ⟨.box, [.imm (cls lc ls) n ex, b]⟩)])
   rfl (by omega) (fun i _ hi => Z0Id hl hn i (by omega))
   (e := .exit 0) (se := ([(10, .bool false), (9, .int .i64 n), (8, .int .i64 n), (7, .imm (cls lc ls) n ex), (3, .ref 17 0 n n n 1 false)], [(17, ⟨.row, ics (hisL ls)⟩)]))
   (by
     rw [Nat.zero_add]
     simp only [moS, ht, hne, hov]
     simp (disch := omega) only [ZG, Z9, Zc, Za, Z4, Z2, Z3, Z0, Zo, stp, just, Rd.bind, Rd.run, Rd.opt, upds, aBin, aInt, Nat.reduceEqDiff, Nat.reduceLeDiff, ↓reduceIte, decide_false, Z5, List.elem_nil, seqN, bindN, regN, Int.lt_irrefl, Bool.false_eq_true, ZID, ZvH, ZtE, ZLE, ZQa, ZMa, ZXf, Z0f2]) (by simp)
 refine ⟨[(17, ⟨.row, ics (hisL ls)⟩)], ?_, rfl⟩
 simp (disch := omega) only [Zz, Zp, Zc, Za, Z4, Z0e, Z2, Z3, Z0, Zk, Zd, Zq, Zm, Zo, Zj, stp, opBox, just, Rd.bind, Rd.run, Rd.opt, upds, acells, rdCells, fieldOf, Zb, aLoad, resA, resL, fresh, aLen, Zf, Nat.reduceAdd, Nat.reduceBEq, Nat.reduceEqDiff, Nat.reduceLeDiff, ↓reduceIte, reduceCtorEq, Ze, Nat.zero_add, Nat.add_zero, List.getElem?_toArray, Z5, Option.map_some, List.elem_cons, List.elem_nil, List.length_cons, List.length_nil, List.getElem?_cons_zero, seqN, bindN, regN, beq_self_eq_true, Bool.false_eq_true, T_22, T_25, beq_self_eq_true, Z0HS, Z0x8, Z0y2, Z0tb, Z0HR, Z0uH, Z0xZ, Z0Fx, Z0yw, Z0yQ, Z0zt, Z0yz, Z0zy, Z0I3, Z0H1, Z0I7, Z0DZ, Z0tX, Z0v9, Z0sx, Z0Dy, Z0CL, Z0Gt, Z0GL, Z0H0, b_53, hloop]
theorem Z0kF {d : Nat} {site : Nat → Nat} {seen : List Nat} {ls : List Ld} {n : Nat} {ex : Bool} {b : AV} (hl : ls.length = n) (hn : n ≤ 100) (h0 : 0 < n) :
   aBack site true seen (thaw (callA E fg 1000 (d + 1)) 53 [.agg [.imm (cls lc ls) n ex, b]] [] 0) = back1 (site 0) seen (fun k => .ref k 0 n n n 1 false) ⟨.row, ics (hisL ls)⟩ := by
 obtain ⟨H', h1, h2⟩ := Z0n5 (C := callA E fg 1000 d) (ex := ex) (b := b) hl hn h0
 exact Z5k h1 h2 (by rw [ZC, List.length_map, hl])
abbrev avS (os : List Nat) (ds : List Int) (x1 x2 : Bool) (i : Nat) : St :=
 ([(14, .int .i64 i), (13, .int .i64 os.length), (12, .imm (ins os) os.length x1), (6, .int .i64 (arrF ds os.length (os.take i)).1), (5, .ref 11 0 os.length os.length os.length 1 false), (1, .imm (ics ds) ds.length x2)], [(11, ⟨.row, ics (arrF ds os.length (os.take i)).2⟩)])
theorem Z0H8 {C : Callee} {os : List Nat} {ds : List Int} {x1 x2 : Bool} (hl : ds.length = os.length) (h9 : os.length < 900) (ho : ∀ i ∈ os, i < os.length) (hb : ∀ i, 0 ≤ ds.getD i 0 ∧ ds.getD i 0 ≤ 1000) (i : Nat) (hi : i < os.length) :
   ∃ s', (execA E C (fg 51) 0 30 [] 1000 Zdb) (avS os ds x1 x2 i) = some (.normal, s') ∧ headA [] s' = avS os ds x1 x2 (i + 1) := by
 have hk : os[i]? = some os[i] := List.getElem?_eq_getElem hi
 have hkn := ho _ (List.getElem_mem hi)
 have ht : os.take (i + 1) = os.take i ++ [os[i]] := by rw [List.take_add_one, hk]; rfl
 have b := Z0ga (n := os.length) hb (os.take i)
 have hl2 := Z1e ds os.length (os.take i)
 have hlt : (os.take i).length ≤ 900 := by rw [List.length_take]; omega
 have bb := hb os[i]
 have had := Z38 (Z09 (l := ds) (show os[i] < ds.length by omega))
 rw [show ds.getD os[i] default = ds.getD os[i] 0 from rfl] at had
 have hat := Z0P hk
 have hil := Zn os
 have hdl := ZC ds
 simp only [avS, ht, ZzK, arrSt]
 generalize arrF ds os.length (os.take i) = p at *
 obtain ⟨now, out⟩ := p
 simp only at b hl2 ⊢
 generalize os[i] = k at *
 generalize ds.getD k 0 = d at *
 have hol : (ics out).length = os.length := by rw [ZC, hl2]
 have hset := ZjS out k (now + d)
 have w : wrp .i64 (now + d) = now + d := Z0q (by omega)
 have g1 : (i : Int) < os.length := by omega
 have g2 : (k : Int) < os.length := by omega
 have g3 : (k : Int) < ds.length := by omega
 simp (disch := omega) only [Z9, Zh, Zc, Za, Z4, Z2, Z3, Z0, Zd, Zi, Zo, Zj, stp, just, Rd.bind, Rd.run, Rd.opt, upds, acells, tsz, rdCells, aLoad, aStore, opStore, Z6, aNum, aBin, aInt, putC, Nat.reduceLT, Nat.reduceBEq, Nat.reduceEqDiff, Nat.reduceLeDiff, ↓reduceIte, Ze, Nat.zero_add, List.nil_append, decide_true, Z5, Zl, and_true, true_and, Int.natCast_nonneg, Int.toNat_natCast, snaps, List.append_nil, List.elem_cons, List.elem_nil, List.length_cons, List.length_nil, Zs, seqN, bindN, regN, Zw, Nat.mul_one, List.not_mem_nil, beq_self_eq_true, Bool.false_eq_true, T_3, T_36, beq_self_eq_true, Z0kd, ZY0, Z064, Z0gU, Z0ht, Z0jJ, Z0Cn, Z0AO, Z0u3, Z0wb, Z0vr, Z0CC, Z0v1, Z0vS, Z0vJ, Z0zT, Z0x4, Z0v7, Z0AQ, Z0yr, Z0C0, Z0xe, Z0B2, Z0tK, Z0tV, Z0s8, Z0vL, Z0EY, Z0CW, Z0C4, Z0Db, Z0zm, Z0sH, Z0uF, Z0Cs, Z0iU, Z0ho, g1, g2, g3, hat, had, hil, hdl, hol, hset, w, if_pos, ZK (show i < 1000000 by omega)]
 exact ⟨_, rfl, rfl⟩
theorem Z0dk {C : Callee} {os : List Nat} {ds : List Int} {x1 x2 : Bool} (hl : ds.length = os.length) (h9 : os.length < 900) (ho : ∀ i ∈ os, i < os.length) (hb : ∀ i, 0 ≤ ds.getD i 0 ∧ ds.getD i 0 ≤ 1000):
   ∃ H', bodyA E C fg 1000 51 [.imm (ins os) os.length x1, .imm (ics ds) ds.length x2] [] 0 = some (.ref 11 0 os.length os.length os.length 1 false, H') ∧ hget H' 11 = some ⟨.row, ics (arrL ds os)⟩ := by
 have hloop := Z0K (f := (execA E C (fg 51) 0 30 [] 1000 Zdb)) (hd := headA []) (avS os ds x1 x2) os.length 1000 0
   ([(14, .int .i64 0), (13, .int .i64 os.length), (12, .imm (ins os) os.length x1), (6, .int .i64 0), (5, .ref 11 0 os.length os.length os.length 1 false), (1, .imm (ics ds) ds.length x2)], [(11, ⟨.row, ics (List.replicate os.length 0)⟩)])
   rfl (by omega) (fun i _ hi => Z0H8 (x1 := x1) (x2 := x2) hl h9 ho hb i (by omega))
   (e := .exit 0) (se := ([(15, .bool false), (14, .int .i64 os.length), (13, .int .i64 os.length), (12, .imm (ins os) os.length x1), (6, .int .i64 (arrF ds os.length os).1), (5, .ref 11 0 os.length os.length os.length 1 false), (1, .imm (ics ds) ds.length x2)], [(11, ⟨.row, ics (arrL ds os)⟩)]))
   (by
     rw [Nat.zero_add]
     simp only [avS, List.take_length, arrL]
     simp (disch := omega) only [ZG, Z9, Zc, Za, Z4, Z2, Z3, Z0, Zo, stp, just, Rd.bind, Rd.run, Rd.opt, upds, aBin, aInt, Nat.reduceEqDiff, Nat.reduceLeDiff, ↓reduceIte, decide_false, Z5, List.elem_nil, seqN, bindN, regN, Int.lt_irrefl, Bool.false_eq_true, Z0kd, ZY0, Z064, Z0gU, Z0ht, Z0jJ, Z0iU, Z0ho]) (by simp)
 have rep := Zmf os.length
 have hflat : [AV.int .i64 0].all AV.flat = true := rfl
 have hk : ((os.length : Nat) : Int) ≤ kHi .i64 := by simp only [kHi]; omega
 have hby : ((8 : Nat) : Int) * ((os.length : Nat) : Int) ≤ 281474976710656 := by omega
 have hil : (ics (List.replicate os.length 0)).length = os.length := by rw [ZC, List.length_replicate]
 have hil2 := Zn os
 have hil3 : (ics (arrL ds os)).length = os.length := by rw [ZC]; exact Z1e ds os.length os
 refine ⟨[(11, ⟨.row, ics (arrL ds os)⟩)], ?_, rfl⟩
 simp (disch := omega) only [Zz, Zp, Zc, Za, Z4, Z0e, Z2, Z3, Z0, Zk, Zq, Zm, Zo, Zj, stp, just, Rd.bind, Rd.run, upds, zeroCells, elemT, resA, resL, fresh, aNum, aLen, Zf, Nat.reduceLT, Nat.reduceBEq, Nat.reduceEqDiff, Nat.reduceLeDiff, ↓reduceIte, reduceCtorEq, Nat.zero_add, List.getElem?_toArray, Z5, and_true, true_and, Int.natCast_nonneg, Int.toNat_natCast, Option.map_some, List.elem_cons, List.elem_nil, List.length_cons, List.length_nil, List.getElem?_cons_zero, seqN, bindN, regN, Nat.mul_one, beq_self_eq_true, Bool.false_eq_true, T_3, T_36, beq_self_eq_true, Z0HN, Z0B1, Z0sv, Z0I2, Z0xg, Z0ww, Z0tx, Z0xS, Z0w0, Z0Gh, Z0uC, Z0ty, Z0HL, Z0uu, Z0xu, Z0zU, Z0zq, Z0DK, Z0Fc, Z0Fg, Z0Bk, Z0vo, Z0te, Z0u0, Z0Ce, Z0E3, Z0FQ, Z0GY, Z0FL, Z0Gy, b_51, aMake, rep, hflat, hk, hby, hloop, if_pos]
theorem ZXK {d : Nat} {site : Nat → Nat} {seen : List Nat} {os : List Nat} {ds : List Int} {x1 x2 : Bool} (hl : ds.length = os.length) (h9 : os.length < 900) (ho : ∀ i ∈ os, i < os.length) (hb : ∀ i, 0 ≤ ds.getD i 0 ∧ ds.getD i 0 ≤ 1000) :
   aBack site true seen (thaw (callA E fg 1000 (d + 1)) 51 [.imm (ins os) os.length x1, .imm (ics ds) ds.length x2] [] 0) = back1 (site 0) seen (fun k => .ref k 0 os.length os.length os.length 1 false) ⟨.row, ics (arrL ds os)⟩ := by
 obtain ⟨H', h1, h2⟩ := Z0dk (C := callA E fg 1000 d) (x1 := x1) (x2 := x2) hl h9 ho hb
 exact Z5k h1 h2 (by rw [ZC]; exact Z1e ds os.length os)
theorem ZWu (x y : Int) : (y > x ∧ mxv x y = y) ∨ (¬ y > x ∧ mxv x y = x) := by
 by_cases h : y > x
 · exact .inl ⟨h, if_pos h⟩
 · exact .inr ⟨h, if_neg h⟩
def dearI (ls : List Ld) (l : List Int) : Nat → Int
 | 0 => 0
 | i + 1 => mxv (dearI ls l i) (cF ls i (l.getD i 0))
structure DeC (C : Callee) : Prop where
 price : ∀ (site : Nat → Nat) seen l day, LdOk l → 0 ≤ day ∧ day ≤ 1000 → aBack site true seen (thaw C 44 [.agg (lc l), .int .i64 day] [] 0) = .pure (.int .i64 (ldC l day), [])
theorem deC (d : Nat) : DeC (callA E fg 1000 (d + 1)) := ⟨fun _ _ _ _ h h1 => Z0es h h1⟩
abbrev deS (ls : List Ld) (n : Nat) (b : AV) (ex : Bool) (l : List Int) (i : Nat) : St :=
 ([(14, .int .i64 i), (13, .int .i64 n), (12, .ref 12 0 n n n 1 false), (7, .int .i64 (dearI ls l i)), (3, .ptr 3 0 2)], [(3, ⟨.box, [.imm (cls lc ls) n ex, b]⟩), (12, ⟨.row, ics l⟩)])
theorem Z0Gj {C : Callee} (hC : DeC C) {ls : List Ld} {B : List Nat} {n : Nat} {b : AV} {ex : Bool} {l : List Int} (h : TrOk ls B n) (hb : b = .nilsl ∨ ∃ c m ex, b = .imm c m ex) (hll : l.length = n) (hl : ∀ i, 0 ≤ l.getD i 0 ∧ l.getD i 0 ≤ 1000) (i : Nat) (hi : i < n) :
   ∃ s', (execA E C (fg 52) 0 30 [] 1000 Zif) (deS ls n b ex l i) = some (.normal, s') ∧ headA [] s' = deS ls n b ex l (i + 1) := by
 have hx := Z09 (l := ls) (i := i) (by rw [h.l]; exact hi)
 have hok := h.ld _ (List.mem_of_getElem? hx)
 have hat := Z1D ZJ hx
 have hlen : (cls lc ls).length = n * 5 := by rw [Zv ZJ, h.l]
 have had := Z38 (Z09 (l := l) (show i < l.length by omega))
 rw [show l.getD i default = l.getD i 0 from rfl] at had
 have hpr := fun site seen => hC.price site seen _ _ hok (hl i)
 have g1 : (i : Int) < n := by omega
 have hil : (ics l).length = n := by rw [ZC, hll]
 simp only [lc] at hat hpr
 have hmx := ZWu (dearI ls l i) (ldC (ls.getD i default) (l.getD i 0))
 have hde : dearI ls l (i + 1) = mxv (dearI ls l i) (ldC (ls.getD i default) (l.getD i 0)) := rfl
 simp only [deS, hde]
 generalize ldC (ls.getD i default) (l.getD i 0) = q at *
 generalize l.getD i 0 = z at *
 generalize dearI ls l i = w at *
 have h6 := h.le
 rcases hmx with ⟨hq, e⟩ | ⟨hq, e⟩ <;> rw [e]
 · simp (disch := omega) only [Z9, Zh, Zc, Za, Z4, Z2, Z3, Z0, Zd, Zo, Zj, stp, justO, just, Rd.bind, Rd.run, Rd.opt, upds, tsz, rdCells, fieldOf, Zb, aLoad, Z6, aNum, Zf, aMax, aBin, aInt, Nat.reduceAdd, Nat.reduceLT, Nat.reduceBEq, Nat.reduceEqDiff, Nat.reduceLeDiff, ↓reduceIte, Ze, Nat.zero_add, Nat.add_zero, decide_true, Z5, and_true, Int.natCast_nonneg, Int.toNat_natCast, aCall, snaps, List.append_nil, List.elem_cons, List.elem_nil, List.length_cons, List.length_nil, List.getElem?_cons_zero, seqN, bindN, regN, Zw, ZE, Nat.mul_one, beq_self_eq_true, Bool.false_eq_true, T_3, T_22, T_25, T_36, T_62, beq_self_eq_true, ZVm, Zwq, ZsT, ZGK, ZGB, ZXq, Z0gN, Z05t, Z05v, ZYc, Z02Y, Z06Q, Z00p, Z0gd, Z03s, Z01w, Z02U, Z04d, Z0aT, Z0cw, Z03y, Z00g, Z05O, Z0an, Z08U, Z0iV, Z0hD, Z0j7, Z09Y, Z06c, ZXM, Z0jV, ZTz, Z0el, g1, hat, hlen, had, hil, hpr, hq, if_pos, ZK (show i < 1000000 by omega)]
   rcases hb with rfl | ⟨_, _, _, rfl⟩ <;> exact ⟨_, rfl, rfl⟩
 · simp (disch := omega) only [Z9, Zh, Zc, Za, Z4, Z2, Z3, Z0, Zd, Zo, Zj, stp, justO, just, Rd.bind, Rd.run, Rd.opt, upds, tsz, rdCells, fieldOf, Zb, aLoad, Z6, aNum, Zf, aMax, aBin, aInt, Nat.reduceAdd, Nat.reduceLT, Nat.reduceBEq, Nat.reduceEqDiff, Nat.reduceLeDiff, ↓reduceIte, Ze, Nat.zero_add, Nat.add_zero, decide_true, Z5, and_true, Int.natCast_nonneg, Int.toNat_natCast, aCall, snaps, List.append_nil, List.elem_cons, List.elem_nil, List.length_cons, List.length_nil, List.getElem?_cons_zero, seqN, bindN, regN, Zw, ZE, Nat.mul_one, beq_self_eq_true, Bool.false_eq_true, T_3, T_22, T_25, T_36, T_62, beq_self_eq_true, ZVm, Zwq, ZsT, ZGK, ZGB, ZXq, Z0gN, Z05t, Z05v, ZYc, Z02Y, Z06Q, Z00p, Z0gd, Z03s, Z01w, Z02U, Z04d, Z0aT, Z0cw, Z03y, Z00g, Z05O, Z0an, Z08U, Z0iV, Z0hD, Z0j7, Z09Y, Z06c, ZXM, Z0jV, ZTz, Z0el, g1, hat, hlen, had, hil, hpr, hq, if_pos, ZK (show i < 1000000 by omega)]
   rcases hb with rfl | ⟨_, _, _, rfl⟩ <;> exact ⟨_, rfl, rfl⟩
def dearV (ls : List Ld) (os : List Nat) (ds : List Int) : Int := dearI ls (arrL ds os) os.length
theorem Z0oX {d : Nat} {ls : List Ld} {B : List Nat} {n : Nat} {b : AV} {ex x1 x2 : Bool} {os : List Nat} {ds : List Int} (h : TrOk ls B n) (hb : b = .nilsl ∨ ∃ c m ex, b = .imm c m ex) (hol : os.length = n) (hl : ds.length = n) (ho : ∀ i ∈ os, i < n) (hd : ∀ i, 0 ≤ ds.getD i 0 ∧ ds.getD i 0 ≤ 9) :
   rsOf (bodyA E (callA E fg 1000 (d + 1)) fg 1000 52 [.agg [.imm (cls lc ls) n ex, b], .imm (ins os) os.length x1, .imm (ics ds) ds.length x2] [] 0) = some (.int .i64 (dearV ls os ds)) := by
 have h6 := h.le
 have hb9 := Z0kI hd (os := os) (by omega)
 have hll : (arrL ds os).length = n := by rw [← hol]; exact Z1e ds os.length os
 have hb1 : ∀ i, 0 ≤ (arrL ds os).getD i 0 ∧ (arrL ds os).getD i 0 ≤ 1000 := fun i => by
   by_cases hi : i < (arrL ds os).length
   · exact hb9 _ (List.mem_of_getElem? (Z09 (l := arrL ds os) hi))
   · rw [List.getD_eq_getElem?_getD, List.getElem?_eq_none (by omega)]; simp
 have har := fun (site : Nat → Nat) seen => ZXK (d := d) (site := site) (seen := seen) (x1 := x1) (x2 := x2) (os := os) (ds := ds) (by omega) (by omega) (fun i hi => by have := ho i hi; omega) (fun i => by have := hd i; omega)
 have hgo := fun i hi => Z0Gj (deC d) (ex := ex) h hb hll hb1 i hi
 unfold dearV
 rw [hol] at har ⊢
 have hil : (ics (arrL ds os)).length = n := by rw [ZC, hll]
 generalize arrL ds os = l at *
 generalize callA E fg 1000 (d + 1) = C at *
 have hloop := loopN (f := (execA E C (fg 52) 0 30 [] 1000 Zif)) (deS ls n b ex l) n hgo (by rcases hb with rfl | ⟨_, _, _, rfl⟩ <;> rfl) (by omega)
   (e := .exit 0) (se := ([(15, .bool false), (14, .int .i64 n), (13, .int .i64 n), (12, .ref 12 0 n n n 1 false), (7, .int .i64 (dearI ls l n)), (3, .ptr 3 0 2)], [(3, ⟨.box, [.imm (cls lc ls) n ex, b]⟩), (12, ⟨.row, ics l⟩)]))
   (by simp only [deS]; simp (disch := omega) only [ZG, Z9, Zc, Za, Z4, Z2, Z3, Z0, Zo, stp, just, Rd.bind, Rd.run, Rd.opt, upds, aBin, aInt, Nat.reduceEqDiff, Nat.reduceLeDiff, ↓reduceIte, decide_false, Z5, List.elem_nil, seqN, bindN, regN, Int.lt_irrefl, Bool.false_eq_true, ZVm, Zwq, ZsT, ZGK, ZGB, ZXq, ZTz, Z0el]) (by simp)
 simp only [deS, dearI, cl0] at hloop
 simp (disch := omega) only [Zz, Zp, Zc, Za, Z4, Z0e, Z2, Z3, Z0, Zk, Zd, Zq, Zi, Zm, Zo, Zj, stp, opBox, just, Rd.bind, Rd.run, upds, acells, resA, resL, fresh, aLen, Zf, Nat.reduceAdd, Nat.reduceBEq, Nat.reduceEqDiff, Nat.reduceLeDiff, ↓reduceIte, reduceCtorEq, Ze, Nat.zero_add, List.nil_append, List.getElem?_toArray, Z5, aCall, snaps, List.append_nil, Option.map_some, List.elem_cons, List.elem_nil, List.length_cons, List.length_nil, List.getElem?_cons_zero, Zs, seqN, bindN, regN, Z0a, Z0Z, Nat.zero_mul, beq_self_eq_true, Bool.false_eq_true, T_36, beq_self_eq_true, Z0GF, Z0zu, Z0Aa, Z0Aq, Z0Hz, Z0y7, Z0vK, Z0HA, Z0xW, Z0yR, Z0Ad, Z0un, Z0ua, Z0wm, Z0Hk, Z0I0, Z0Gf, Z0BG, Z0zX, Z0vZ, Z0vc, Z0De, Z0DH, Z0GA, Z0If, Z0F6, b_52, har, hloop, hil]
theorem Z0hK {d : Nat} {site : Nat → Nat} {seen : List Nat} {ls : List Ld} {B : List Nat} {n : Nat} {b : AV} {ex x1 x2 : Bool} {os : List Nat} {ds : List Int} (h : TrOk ls B n) (hb : b = .nilsl ∨ ∃ c m ex, b = .imm c m ex) (hol : os.length = n) (hl : ds.length = n) (ho : ∀ i ∈ os, i < n) (hd : ∀ i, 0 ≤ ds.getD i 0 ∧ ds.getD i 0 ≤ 9) :
   aBack site true seen (thaw (callA E fg 1000 (d + 2)) 52 [.agg [.imm (cls lc ls) n ex, b], .imm (ins os) os.length x1, .imm (ics ds) ds.length x2] [] 0) = .pure (.int .i64 (dearV ls os ds), []) :=
 Z0J (Z0O (Z0oX h hb hol hl ho hd))
theorem ZGf (ds : List Int) {i : Nat} : ∀ (o : List Nat) (p : Int × List Int), i ∉ o → (o.foldl (arrSt ds) p).2.getD i 0 = p.2.getD i 0
 | [], _, _ => rfl
 | k :: o, p, h => by
   rw [List.foldl_cons, ZGf ds o _ fun hc => h (by simp [hc])]
   have hne : k ≠ i := fun e => h (by simp [e])
   simp [arrSt, hne]
theorem Zft {ls : List Ld} {l : List Int} {m : Int} : ∀ k, dearI ls l k ≤ m ↔ 0 ≤ m ∧ ∀ i, i < k → cF ls i (l.getD i 0) ≤ m
 | 0 => by simp [dearI]
 | k + 1 => by
   have ih := Zft (ls := ls) (l := l) (m := m) k
   have hmx := ZWu (dearI ls l k) (cF ls k (l.getD k 0))
   simp only [dearI]
   constructor
   · intro h
     have h1 : dearI ls l k ≤ m ∧ cF ls k (l.getD k 0) ≤ m := by rcases hmx with ⟨_, e⟩ | ⟨_, e⟩ <;> rw [e] at h <;> omega
     refine ⟨(ih.1 h1.1).1, fun i hi => ?_⟩
     by_cases e : i = k
     · subst e; exact h1.2
     · exact (ih.1 h1.1).2 i (by omega)
   · rintro ⟨h1, h2⟩
     have a := ih.2 ⟨h1, fun i hi => h2 i (by omega)⟩
     have b := h2 k (by omega)
     rcases hmx with ⟨_, e⟩ | ⟨_, e⟩ <;> rw [e] <;> omega
theorem Z0jr {ls : List Ld} {ds : List Int} (m : Int) (h0 : 0 ≤ m) : ∀ (o : List Nat) (p : Int × List Int), o.Nodup → (∀ i ∈ o, i < p.2.length) → (mc (fun i => ds.getD i 0) (cF ls) p.1 o ≤ m ↔ ∀ i ∈ o, cF ls i ((o.foldl (arrSt ds) p).2.getD i 0) ≤ m)
 | [], p, _, _ => by simp [mc, h0]
 | k :: o, p, hn, hl => by
   obtain ⟨n1, n2⟩ := List.nodup_cons.1 hn
   have ih := Z0jr (ls := ls) (ds := ds) m h0 o (arrSt ds p k) n2 (fun i hi => by simp only [arrSt, List.length_set]; exact hl i (by simp [hi]))
   have hk : ((o.foldl (arrSt ds) (arrSt ds p k)).2).getD k 0 = p.1 + ds.getD k 0 := by
     rw [ZGf ds o _ n1]
     simp only [arrSt]
     have := hl k (by simp)
     simp [this]
   rw [List.foldl_cons]
   simp only [mc, List.mem_cons, forall_eq_or_imp, hk]
   rw [← ih]
   show max _ (mc _ _ (p.1 + ds.getD k 0) o) ≤ m ↔ _
   constructor
   · intro h; exact ⟨by omega, by simp only [arrSt]; omega⟩
   · rintro ⟨a, b⟩; simp only [arrSt] at b; omega
theorem Z0tf {ls : List Ld} {os : List Nat} {ds : List Int} (hn : os.Nodup) (hp : ∀ i, i < os.length ↔ i ∈ os) : dearV ls os ds = mc (fun i => ds.getD i 0) (cF ls) 0 os := by
 have key : ∀ m, 0 ≤ m → (dearV ls os ds ≤ m ↔ mc (fun i => ds.getD i 0) (cF ls) 0 os ≤ m) := by
   intro m h0
   have h := Z0jr (ls := ls) (ds := ds) m h0 os (0, List.replicate os.length 0) hn (fun i hi => by rw [List.length_replicate]; exact (hp i).2 hi)
   unfold dearV
   rw [Zft, h]
   exact ⟨fun a i hi => a.2 i ((hp i).2 hi), fun a => ⟨h0, fun i hi => a i ((hp i).1 hi)⟩⟩
 have n1 : 0 ≤ dearV ls os ds := by
   unfold dearV
   generalize os.length = k
   generalize arrL ds os = l
   induction k with
   | zero => simp [dearI]
   | succ k ih => rcases ZWu (dearI ls l k) (cF ls k (l.getD k 0)) with ⟨_, e⟩ | ⟨_, e⟩ <;> simp only [dearI, e] <;> omega
 have n2 := Z2N (d := fun i => ds.getD i 0) (c := cF ls) 0 os
 have a := (key _ n2).2 (Int.le_refl _)
 have b := (key _ n1).1 (Int.le_refl _)
 omega
end Go.AM.YtgfnbmfjbjopkaaDoor
end
noncomputable section
namespace Go.AM.YtgfnbmfjbjopkaaDoor
open Go Go.AM Go.AM.Mule
theorem Z0DD {ls : List Ld} {es : List Pr} (h0 : 0 < ls.length) (h6 : ls.length ≤ 6) (h15 : es.length ≤ 15) (hl : ∀ x ∈ ls, ldE x = 0) (hp : ∀ p ∈ es, ∃ a b : Nat, p = ((a : Int), (b : Int)) ∧ a < ls.length ∧ b < ls.length) (hnd : es.Nodup) (hc : ∀ i, ¬ Mule.Reach (es.map tN) i i) : chk ls es = 0 := by
 have hls : ldsE ls = 0 := Z11.2 fun i hi => hl _ (List.mem_of_getElem? (Z09 hi))
 have hps : prsE ls.length es = 0 := Z11.2 fun i hi => by
   have hx := Z09 (l := es) hi
   obtain ⟨a, b, e, h2, h3⟩ := hp _ (List.mem_of_getElem? hx)
   unfold prE
   have hnin : es.getD i default ∉ es.take i := by
     intro hc
     obtain ⟨j, hj, ej⟩ := List.mem_iff_getElem.1 hc
     rw [List.length_take] at hj
     rw [List.getElem_take] at ej
     have e2 : es[j] = es[i] := by rw [ej]; simp [hi]
     exact (List.pairwise_iff_getElem.1 hnd) j i (by omega) hi (by omega) e2
   rw [if_neg, if_neg hnin]
   rw [e]
   simp only
   omega
 unfold chk
 rw [if_neg (by omega), if_neg (by omega), if_neg (by simp [hls]), if_neg (by simp [hps]), if_neg]
 intro hcl
 obtain ⟨i, hi, hb⟩ := List.any_eq_true.1 hcl
 exact hc i (((Z9j (Zox hps)).2 i i).1 hb)
structure Ren (ls ls' : List Ld) (E E' : List (Nat × Nat)) (n : Nat) (to fr : Nat → Nat) : Prop where
 t : ∀ i, i < n → to i < n ∧ fr (to i) = i
 f : ∀ i, i < n → fr i < n ∧ to (fr i) = i
 r : ∀ p ∈ E, p.1 < n ∧ p.2 < n
 r' : ∀ p ∈ E', p.1 < n ∧ p.2 < n
 e : ∀ a b, a < n → b < n → ((to a, to b) ∈ E' ↔ (a, b) ∈ E)
 l : ∀ i, i < n → ls'.getD (to i) default = ls.getD i default
theorem Ren.symm {ls ls' : List Ld} {E E' : List (Nat × Nat)} {n : Nat} {to fr : Nat → Nat} (h : Ren ls ls' E E' n to fr) : Ren ls' ls E' E n fr to := by
 refine ⟨h.f, h.t, h.r', h.r, fun a b ha hb => ?_, fun i hi => ?_⟩
 · have := h.e (fr a) (fr b) (h.f a ha).1 (h.f b hb).1
   rw [(h.f a ha).2, (h.f b hb).2] at this
   exact this.symm
 · have := h.l (fr i) (h.f i hi).1
   rw [(h.f i hi).2] at this
   exact this.symm
theorem Ren.up {ls ls' : List Ld} {E E' : List (Nat × Nat)} {n : Nat} {to fr : Nat → Nat} (h : Ren ls ls' E E' n to fr) {a b : Nat} (hr : Mule.Reach E a b) : Mule.Reach E' (to a) (to b) := by
 induction hr with
 | single e => exact .single ((h.e _ _ (h.r _ e).1 (h.r _ e).2).2 e)
 | tail _ e ih => exact ih.tail ((h.e _ _ (h.r _ e).1 (h.r _ e).2).2 e)
noncomputable section
variable {ls ls' : List Ld} {E E' : List (Nat × Nat)} {B B' : List Nat} {n : Nat} {to fr : Nat → Nat}
end
noncomputable section
variable {ls ls' : List Ld} {B B' : List Nat} {n : Nat}
end
end Go.AM.YtgfnbmfjbjopkaaDoor
end
noncomputable section
namespace Go.AM
theorem shlI {i : Nat} (h : i < 7) : aShift .shl .i64 1 (i : Int) = some (.int .i64 ((1 <<< i : Nat) : Int)) := by
 have : i = 0 ∨ i = 1 ∨ i = 2 ∨ i = 3 ∨ i = 4 ∨ i = 5 ∨ i = 6 := by omega
 rcases this with rfl | rfl | rfl | rfl | rfl | rfl | rfl <;> rfl
end Go.AM
namespace Go.AM.YtgfnbmfjbjopkaaDoor
open Go Go.AM Go.AM.Mule
end Go.AM.YtgfnbmfjbjopkaaDoor
end
noncomputable section
namespace Go.AM.YtgfnbmfjbjopkaaDoor
open Go Go.AM Go.AM.Mule
theorem loopS {f : St → XR} (st : Nat → St) (n : Nat) (s0 : St) (h : ∀ i, i < n → ∃ s', f (st i) = some (.normal, s') ∧ headA [] s' = st (i + 1)) (h0 : headA [] s0 = st 0) (hn : n < 1000) {e : Ex} {se : St} (he : f (st n) = some (e, se)) (hne : e ≠ .normal) : iterA f (headA []) 1000 s0 = some (e, se) :=
 Z0K st n 1000 0 s0 h0 hn (fun i _ hi => h i (by omega)) (by rw [Nat.zero_add]; exact he) hne
end Go.AM.YtgfnbmfjbjopkaaDoor
end
noncomputable section
namespace Go.AM.YtgfnbmfjbjopkaaDoor
open Go Go.AM Go.AM.Mule
theorem Z0d3 {C : Callee} {site : Nat → Nat} {seen : List Nat} {f : FuncId} {args : List AV} {id n g sz : Nat} {cells : List AV} {H' : AHeap} (h : C f args [] 0 = some (.agg [.ref id 0 n n g sz false, .nilsl], H')) (hg : hget H' id = some ⟨.row, cells⟩) (e1 : cells.length = g) :
   aBack site true seen (thaw C f args [] 0) = back1 (site 0) seen (fun k0 => .agg [.ref k0 0 n n g sz false, .nilsl]) ⟨.row, cells⟩ := by
 subst e1
 simp only [thaw, h, frzRet, aBack, sitesB, aBackAt, imp, imps, hg, List.length_nil, List.not_mem_nil, not_false_eq_true, and_true, if_true, List.map_cons, List.map_nil, AM.apart, List.elem_nil, Bool.not_false, Bool.and_true, AV.leads, AV.leads.leadsL, Bool.or_false, back1]
theorem Z0cL {C : Callee} {site : Nat → Nat} {seen : List Nat} {f : FuncId} {args : List AV} {id id' n n' g g' sz sz' : Nat} {cells cells' : List AV} {H' : AHeap} (h : C f args [] 0 = some (.agg [.ref id 0 n n g sz false, .ref id' 0 n' n' g' sz' false], H')) (hg : hget H' id = some ⟨.row, cells⟩) (hg' : hget H' id' = some ⟨.row, cells'⟩) (hne : id' ≠ id) (hs : site 1 ≠ site 0) (e1 : cells.length = g) (e2 : cells'.length = g') :
   aBack site true seen (thaw C f args [] 0) = back2 (site 0) (site 1) seen (fun k0 k1 => .agg [.ref k0 0 n n g sz false, .ref k1 0 n' n' g' sz' false]) ⟨.row, cells⟩ ⟨.row, cells'⟩ := by
 subst e1; subst e2
 have hb : ∀ off, (site 1 + off == site 0 + off) = false := fun off => by rw [beq_eq_false_iff_ne]; omega
 simp only [thaw, h, frzRet, aBack, sitesB, aBackAt, imp, imps, hg, hg', hne, hb, List.length_nil, List.length_cons, List.not_mem_nil, List.mem_cons, or_false, not_false_eq_true, and_true, if_true, List.map_cons, List.map_nil, AM.apart, List.elem_cons, List.elem_nil, Bool.not_false, Bool.and_true, AV.leads, AV.leads.leadsL, Bool.or_false, Bool.true_or, Nat.zero_add, back2]
theorem Z0eG {d : Nat} {site : Nat → Nat} {seen : List Nat} {D : Dro} (h : DOk D) {many : Int} (hm : many = 5 ∨ many = 6) (he : mdP D (nOf D many) = []) :
   aBack site true seen (thaw (callA E fg 1000 (d + 2)) 40 [.agg (dcs D), .int .i64 many] [] 0) = back1 (site 0) seen (fun k => .agg [.ref k 0 (nOf D many) (nOf D many) (nOf D many * 5) 5 false, .nilsl]) ⟨.row, cls lc (mdL D (nOf D many))⟩ := by
 obtain ⟨g, H', hg, hr, h1, h2⟩ := ZR7 (d := d) h hm
 have hn6 : nOf D many ≤ 6 := by have := ZBW h hm; rcases hm with rfl | rfl <;> omega
 rw [he] at hr
 exact Z0d3 hr h1 (by rw [Zv ZJ, ZaP h hn6])
theorem Z0em {d : Nat} {site : Nat → Nat} {seen : List Nat} {D : Dro} (h : DOk D) {many : Int} (hm : many = 5 ∨ many = 6) (he : mdP D (nOf D many) ≠ []) (hs : site 1 ≠ site 0) :
   aBack site true seen (thaw (callA E fg 1000 (d + 2)) 40 [.agg (dcs D), .int .i64 many] [] 0) = back2 (site 0) (site 1) seen (fun k0 k1 => .agg [.ref k0 0 (nOf D many) (nOf D many) (nOf D many * 5) 5 false, .ref k1 0 (mdP D (nOf D many)).length (mdP D (nOf D many)).length ((mdP D (nOf D many)).length * 2) 2 false]) ⟨.row, cls lc (mdL D (nOf D many))⟩ ⟨.row, cls bc (mdP D (nOf D many))⟩ := by
 obtain ⟨g, H', hg, hr, h1, h2⟩ := ZR7 (d := d) h hm
 have hn6 : nOf D many ≤ 6 := by have := ZBW h hm; rcases hm with rfl | rfl <;> omega
 have h0 : (mdP D (nOf D many)).length ≠ 0 := by rw [Ne, List.length_eq_zero_iff]; exact he
 have hb : bV g (mdP D (nOf D many)).length = .ref g 0 (mdP D (nOf D many)).length (mdP D (nOf D many)).length ((mdP D (nOf D many)).length * 2) 2 false := if_neg h0
 rw [hb] at hr
 exact Z0cL hr h1 (h2 h0) (by rcases hg with rfl | rfl <;> omega) hs (by rw [Zv ZJ, ZaP h hn6]) (Zv Z2U _)
end Go.AM.YtgfnbmfjbjopkaaDoor
end
noncomputable section
namespace Go.AM
theorem ZlF {k : Nat} {c : List AV} {T : AHeap} (hc : refsL c = []) {φ : AFr} {T' : AHeap} (hT : hget T' k = none) (h : headA [] (φ, (k, ⟨.box, []⟩) :: T) = (φ, T')) : headA [] (φ, (k, ⟨.box, c⟩) :: T) = (φ, T') := by
 simp only [headA, Z5J hc] at h ⊢
 generalize mark ((k, ⟨.box, []⟩) :: T) 1000 (refsF φ) [] = keep at *
 simp only [keepB] at h ⊢
 have hno : ∀ S, (k, ⟨.box, []⟩) :: S ≠ T' := by
   intro S e
   rw [← e, Zd, if_pos rfl] at hT
   exact absurd hT (by simp)
 cases hcnd : (keep.elem k || (hget [] k).isSome) with
 | true =>
   rw [hcnd] at h
   simp only [cond_true, gcIf] at h
   cases hcl : closedB φ ((k, ⟨.box, []⟩) :: keepB [] keep T) with
   | true =>
     rw [hcl] at h
     simp only [Prod.mk.injEq, true_and] at h
     exact absurd h (hno _)
   | false =>
     rw [hcl] at h
     simp only [Prod.mk.injEq, true_and] at h
     exact absurd h (hno _)
 | false =>
   rw [hcnd] at h
   simp only [cond_false, gcIf] at h ⊢
   cases hcl : closedB φ (keepB [] keep T) with
   | true =>
     rw [hcl] at h
     exact h
   | false =>
     rw [hcl] at h
     simp only [Prod.mk.injEq, true_and] at h
     exact absurd h (hno _)
end Go.AM
namespace Go.AM.YtgfnbmfjbjopkaaDoor
open Go Go.AM Go.AM.Mule
end Go.AM.YtgfnbmfjbjopkaaDoor
end
noncomputable section
namespace Go.AM.YtgfnbmfjbjopkaaDoor
open Go Go.AM Go.AM.Mule
def fixD (l : Ld) : Ld := { l with rate := 1, base := 0 }
def fixL (ls : List Ld) (i : Nat) : List Ld := (ls.take i).map fixD ++ ls.drop i
theorem Z0pU (ls : List Ld) (i : Nat) : (fixL ls i).length = ls.length := by
 simp [fixL]; omega
theorem Z0Ai {ls : List Ld} {i : Nat} (hi : i < ls.length) : ((cls lc (fixL ls i)).set (i * 5 + 3) (.int .i64 1)).set (i * 5 + 4) (.int .i64 0) = cls lc (fixL ls (i + 1)) := by
 have hl : ((ls.take i).map fixD).length = i := by simp; omega
 have ht : ls.take (i + 1) = ls.take i ++ [ls[i]] := by rw [List.take_add_one, List.getElem?_eq_getElem hi]; rfl
 have e1 : fixL ls i = (ls.take i).map fixD ++ (ls[i] :: ls.drop (i + 1)) := by rw [fixL, List.drop_eq_getElem_cons hi]
 have e2 : fixL ls (i + 1) = (ls.take i).map fixD ++ (fixD ls[i] :: ls.drop (i + 1)) := by rw [fixL, ht, List.map_append, List.append_assoc]; rfl
 have hc : (cls lc ((ls.take i).map fixD)).length = i * 5 := by rw [Zv ZJ, hl]
 rw [e1, e2, Z016, Z016, Z4N, Z4N]
 generalize cls lc ((ls.take i).map fixD) = p at *
 rw [List.set_append_right _ _ (by omega), List.set_append_right _ _ (by omega), hc, show i * 5 + 3 - i * 5 = 3 by omega, show i * 5 + 4 - i * 5 = 4 by omega]
 rfl
abbrev duS (ls : List Ld) (n i : Nat) : St := ([(19, .int .i64 i), (18, .int .i64 n), (4, .int .i64 (factN i : Nat)), (3, .ptr 3 0 2)], [(3, ⟨.box, [.ref 14 0 n n (n * 5) 5 false, .nilsl]⟩), (14, ⟨.row, cls lc (fixL ls i)⟩)])
theorem ZtN : ∀ n, n ≤ 6 → factN n ≤ 720 := by decide
theorem Z0HX {C : Callee} {ls : List Ld} {n : Nat} (hl : ls.length = n) (hn : n ≤ 6) (i : Nat) (hi : i < n) :
   ∃ s', (execA E C (fg 15) 0 96 [] 1000 Zem) (duS ls n i) = some (.normal, s') ∧ headA [] s' = duS ls n (i + 1) := by
 have hlen : (cls lc (fixL ls i)).length = n * 5 := by rw [Zv ZJ, Z0pU, hl]
 have hset := Z0Ai (ls := ls) (i := i) (by omega)
 have hf := ZtN i (by omega)
 have hf2 : factN (i + 1) ≤ 720 := ZtN (i + 1) (by omega)
 have w1 : wrp .i64 ((i : Int) + 1) = ((i + 1 : Nat) : Int) := ZK (by omega)
 have w2 : wrp .i64 ((factN i : Nat) * ((i + 1 : Nat) : Int)) = (factN (i + 1) : Nat) := by
   have e : ((factN i : Nat) : Int) * ((i + 1 : Nat) : Int) = (factN (i + 1) : Nat) := by rw [factN, Int.natCast_mul]
   rw [e, Z0q (by omega)]
 have g1 : (i : Int) < n := by omega
 simp only [duS]
 rw [← hset] 
 generalize cls lc (fixL ls i) = L at *
 generalize factN (i + 1) = f1 at *
 generalize factN i = f0 at *
 simp (disch := omega) only [Z9, Zh, Bool.not_true, Bool.not_false, Zc, Za, Z4, Z2, Z3, Z0, Zd, Zi, Zo, Zj, stp, just, Rd.bind, Rd.run, Rd.opt, upds, acells, tsz, rdCells, fieldOf, Zb, aLoad, aStore, opStore, Z6, aNum, aBin, aInt, putC, Nat.reduceAdd, Nat.reduceLT, Nat.reduceBEq, Nat.reduceEqDiff, Nat.reduceLeDiff, ↓reduceIte, Ze, Nat.zero_add, Nat.add_zero, List.nil_append, ZS, ZR, ZX, ZW, ZM, Z02, ZD, ZA, ZP, ZL, stpT, Rd.foot, writing, Zr, Tr.empty, Zu, apartT, disj, List.isEmpty_nil, List.isEmpty_cons, List.map_nil, List.map_cons, Bool.not_false, Bool.not_true, Bool.true_or, Bool.or_true, Bool.or_false, Bool.and_true, Bool.true_and, Bool.and_self, decide_true, Z5, Zl, and_true, true_and, Int.natCast_nonneg, Int.toNat_natCast, snaps, List.append_nil, List.elem_cons, List.elem_nil, List.length_cons, List.length_nil, List.getElem?_cons_zero, List.getElem?_cons_succ, Zs, seqN, bindN, regN, Zw, List.all_cons, List.all_nil, Nat.le_refl, List.not_mem_nil, beq_self_eq_true, Bool.false_eq_true, T_3, T_22, T_25, T_62, List.all_cons, List.all_nil, List.getD_cons_zero, List.getD_cons_succ, beq_self_eq_true, Z0ku, Z027, Z062, Z0k0, Z0jM, Z0fo, Z0Ds, Z0zJ, Z0zB, Z0wg, Z0Bu, Z0vY, Z0sl, Z0ss, Z0w1, Z0ut, Z0yd, Z0E8, Z0wv, Z0oP, Z0q8, Z0xD, Z0uZ, Z0ye, Z0AC, Z0si, Z0z6, Z0uo, Z0vj, Z0xd, Z0so, Z0me, Z0pp, Z0Eg, Z0Dw, Z0Dm, Z0DA, Z0AX, Z0wt, Z0zr, Z0Er, Z0g4, Z0hR, g1, hlen, w1, w2, List.length_set, if_pos]
 exact ⟨_, rfl, rfl⟩
theorem Z0Ee {ls : List Ld} (h : ∀ x ∈ ls, LdOk x ∧ ldE x = 0) : ∀ x ∈ ls.map fixD, LdOk x ∧ ldE x = 0 := by
 intro x hx
 obtain ⟨y, hy, rfl⟩ := List.mem_map.1 hx
 obtain ⟨a, b⟩ := h y hy
 refine ⟨⟨a.lo, a.hi, a.due, ⟨by show (0 : Int) ≤ 1; omega, by show (1 : Int) ≤ 9; omega⟩, ⟨by show (0 : Int) ≤ 0; omega, by show (0 : Int) ≤ 20; omega⟩⟩, ?_⟩
 have hlh : y.lo ≤ y.hi := by
   unfold ldE at b
   split at b
   · split at b
     · simp at b
     · omega
   · simp at b
 have hB : ldB (fixD y) = true := by
   have a1 := a.lo; have a2 := a.hi; have a3 := a.due
   exact decide_eq_true ⟨a1, a2, a3, ⟨by show (0 : Int) ≤ 1; omega, by show (1 : Int) ≤ 9; omega⟩, ⟨by show (0 : Int) ≤ 0; omega, by show (0 : Int) ≤ 20; omega⟩⟩
 unfold ldE
 rw [if_pos hB, if_neg (by show ¬ y.lo > y.hi; omega)]
end Go.AM.YtgfnbmfjbjopkaaDoor
end
end
