/- A part of the proof of muleNames_card: NmM, NmN. Own work of this project; texts printed by own programs among it. -/
import Derived.Carry
import Derived.KernelRfl
import Derived.Test.YtgfnbmfjbjopkaaDoorNoK
set_option maxRecDepth 1000000
set_option maxHeartbeats 16000000
noncomputable section
noncomputable section
namespace Go.AM
open Go Go.RowKit Go.ChangeShapes
noncomputable section
variable {H : Type} {enc : TypeId × Value → H} {P : Program} {w : World} {base : Nat} {spare : Nat → Bool} {held : Bool}
theorem Z07i {t : TypeId} {v : Value} {d : DataW H} {ps : List MemPlace} (h : DataW.Trod enc P w base spare held t v d ps) : ∀ x ∈ ps, x.block < w.heap.size := by
 obtain ⟨n, h⟩ := h
 exact DataW.trod_lt n t _ _ h
theorem _root_.Go.RowKit.Below.trod' {t : TypeId} (hl : laidOutB P = true) (hr : P.readableRec t = true) (hrow : t < P.types.size) {W W' : World} {v : Value} {d : DataW H} {ps : List MemPlace} (hb : Below W.heap.size W W')
   (h : DataW.Trod enc P W 0 (fun _ => true) true t v d ps) : DataW.Trod enc P W' 0 (fun b => decide (b < W.heap.size)) true t v d ps :=
 Below.trod hl hr hrow h hb (Z07i h)
theorem ZGb {t : TypeId} {k : IntKind} {v : Value} {b : Nat} {r : Reach} (ht : P.underlying t = some (.int k)) (hv : Cell.okWide P w r b t v) : ∃ z, v = .int k z ∧ k.has z := by
 simp only [Cell.okWide, ht] at hv
 unfold Cell.ok at hv
 rw [ht] at hv
 cases v <;> simp only at hv <;> try exact hv.elim
 obtain ⟨rfl, h⟩ := hv
 exact ⟨_, rfl, h⟩
theorem Z0j0 {t : TypeId} {k : IntKind} {v : Value} {b : Nat} {r : Reach} (ht : P.underlying t = some (.int k)) (hv : Value.okWide P w r b t v) : ∃ z, v = .int k z ∧ k.has z := by
 unfold Value.okWide at hv
 rw [ht] at hv
 exact ZGb ht hv
theorem ZJs {t : TypeId} {ts : List TypeId} {ks : List IntKind} {b : Nat} {r : Reach} (hu : ∀ (i : Nat) (u : TypeId) (k : IntKind), ts[i]? = some u → ks[i]? = some k → P.underlying u = some (.int k)) (hks : ks.length = ts.length) (hc : P.cellTypes P.depth t = some ts) (hn : P.cellsOf t = ts.length) {cs : Array Value} (hs : cs.size = P.cellsOf t) (hr : Row.okWide P w r b t cs) :
   ∃ zs : List Int, cs.toList = List.zipWith Value.int ks zs ∧ zs.length = ts.length ∧ ∀ (i : Nat) (z : Int) (k : IntKind), zs[i]? = some z → ks[i]? = some k → k.has z := by
 obtain ⟨ts', h1, _, h3⟩ := hr
 rw [hc] at h1
 obtain rfl := Option.some.inj h1
 have key : ∀ i (hi : i < ts.length), ∃ z, cs[i]? = some (.int (ks[i]'(by omega)) z) ∧ (ks[i]'(by omega)).has z := by
   intro i hi
   have hv : cs[i]? = some cs[i] := Array.getElem?_eq_getElem (by omega)
   obtain ⟨u', hu', hcell⟩ := h3 i _ hv
   rw [Nat.mod_eq_of_lt hi] at hu'
   obtain ⟨z, hz, hb⟩ := ZGb (hu i u' _ hu' (List.getElem?_eq_getElem (by omega))) hcell
   exact ⟨z, by rw [hv, hz], hb⟩
 refine ⟨(List.range ts.length).map fun i => match (cs[i]? : Option Value) with | some (Value.int _ z) => z | _ => 0, ?_, by simp, ?_⟩
 · apply List.ext_getElem?
   intro i
   by_cases hi : i < ts.length
   · obtain ⟨z, hz, _⟩ := key i hi
     rw [List.getElem?_zipWith, List.getElem?_map, List.getElem?_range hi, List.getElem?_eq_getElem (by omega : i < ks.length)]
     simp [hz]
   · rw [List.getElem?_eq_none (by simp; omega), List.getElem?_eq_none (by simp; omega)]
 · intro i z k hz hk
   have hi : i < ts.length := by have := (List.getElem?_eq_some_iff.1 hz).1; simpa using this
   obtain ⟨y, hy, hb⟩ := key i hi
   rw [List.getElem?_eq_getElem (by omega : i < ks.length)] at hk
   obtain rfl := Option.some.inj hk
   simp [hi, hy] at hz
   subst hz
   exact hb
theorem Z032 {fz : Nat → Prop} {rf : RFt} (ks : List IntKind) (zs : List Int) {cs : Array Value} (h : cs.toList = List.zipWith Value.int ks zs) : VR fz w (.agg (List.zipWith AV.int ks zs)) rf (.agg cs) := by
 simp only [VR]
 refine ⟨cs, rfl, ?_⟩
 rw [Z0u, h]
 refine ⟨by simp, fun i a v h1 h2 => ?_⟩
 rw [List.getElem?_zipWith] at h1 h2
 cases hz : zs[i]? with
 | none => rw [hz] at h1; cases hk : ks[i]? <;> rw [hk] at h1 <;> simp at h1
 | some z =>
   cases hk : ks[i]? with
   | none => rw [hk] at h1; simp at h1
   | some k =>
     rw [hz, hk] at h1 h2
     simp only [Option.some.injEq] at h1 h2
     subst h1; subst h2
     exact ⟨rfl, by simp only [VR]⟩
theorem Z08m {t : TypeId} {ts : List TypeId} {ks : List IntKind} {v : Value} {b : Nat} {r : Reach} {fs : Array Field} (ht : P.underlying t = some (.struct fs)) (hu : ∀ (i : Nat) (u : TypeId) (k : IntKind), ts[i]? = some u → ks[i]? = some k → P.underlying u = some (.int k)) (hks : ks.length = ts.length) (hc : P.cellTypes P.depth t = some ts) (hn : P.cellsOf t = ts.length) (hv : Value.okWide P w r b t v) :
   ∃ (zs : List Int) (cs : Array Value), v = .agg cs ∧ cs.toList = List.zipWith Value.int ks zs ∧ zs.length = ts.length ∧ ∀ (i : Nat) (z : Int) (k : IntKind), zs[i]? = some z → ks[i]? = some k → k.has z := by
 unfold Value.okWide at hv
 rw [ht] at hv
 obtain ⟨cs, h1, h2, h3⟩ := hv
 obtain ⟨zs, a, b, c⟩ := ZJs hu hks hc hn h2 h3
 exact ⟨zs, cs, h1, a, b, c⟩
theorem ZT {α : Type} {l : List α} {n : Nat} (h : l.length = n + 1) : ∃ a t, l = a :: t ∧ t.length = n := by
 cases l with
 | nil => simp at h
 | cons a t => exact ⟨a, t, rfl, by simpa using h⟩
end
end Go.AM
namespace Go.AM.YtgfnbmfjbjopkaaDoor
open Go Go.AM Go.RowKit Go.Proofs Go.Proofs.YtgfnbmfjbjopkaaDoor Go.ChangeShapes Go.WideShapes Go.ChangeAt
abbrev dTs : List TypeId := List.replicate 31 5 ++ 55 :: List.replicate 6 5
abbrev dKs : List IntKind := List.replicate 31 .u8 ++ .u16 :: List.replicate 6 .u8
theorem Z0iq : ∀ (i : Nat) (u : TypeId) (k : IntKind), dTs[i]? = some u → dKs[i]? = some k → Tryd.prog.underlying u = some (.int k) := by
 intro i u k h1 h2
 have hi : i < 38 := (List.getElem?_eq_some_iff.1 h1).1
 by_cases e : i = 31
 · subst e
   obtain rfl := Option.some.inj h1; obtain rfl := Option.some.inj h2
   exact Tryd.underlying55
 · have e1 : dTs[i]? = some 5 := by
     rcases Nat.lt_or_ge i 31 with h | h
     · rw [List.getElem?_append_left (by simpa using h), List.getElem?_replicate, if_pos h]
     · rw [List.getElem?_append_right (by simpa using h), List.length_replicate]
       obtain ⟨j, hj⟩ : ∃ j, i - 31 = j + 1 := ⟨i - 32, by omega⟩
       rw [hj, List.getElem?_cons_succ, List.getElem?_replicate, if_pos (by omega)]
   have e2 : dKs[i]? = some .u8 := by
     rcases Nat.lt_or_ge i 31 with h | h
     · rw [List.getElem?_append_left (by simpa using h), List.getElem?_replicate, if_pos h]
     · rw [List.getElem?_append_right (by simpa using h), List.length_replicate]
       obtain ⟨j, hj⟩ : ∃ j, i - 31 = j + 1 := ⟨i - 32, by omega⟩
       rw [hj, List.getElem?_cons_succ, List.getElem?_replicate, if_pos (by omega)]
   rw [e1] at h1; rw [e2] at h2
   obtain rfl := Option.some.inj h1; obtain rfl := Option.some.inj h2
   exact Tryd.underlying5
theorem Z0aZ : Tryd.prog.cellsOf 58 = 38 := by kernel_rfl
theorem ZVf : Tryd.prog.cellTypes Tryd.prog.depth 58 = some dTs := by kernel_rfl
theorem Z06S {W : World} {v : Value} {b0 : Nat} {r : Reach} (hv : Value.okWide Tryd.prog W r b0 58 v) : ∃ D : Dro, DOk D ∧ ∀ (fz : Nat → Prop) (rf : RFt), VR fz W (.agg (dcs D)) rf v := by
 obtain ⟨zs, cs, rfl, h1, h2, h3⟩ := Z08m Tryd.underlying58 Z0iq rfl ZVf Z0aZ hv
 replace h2 : zs.length = 38 := h2
 obtain ⟨a0, t0, rfl, l0⟩ := ZT h2
 obtain ⟨a1, t1, rfl, l1⟩ := ZT l0
 obtain ⟨a2, t2, rfl, l2⟩ := ZT l1
 obtain ⟨a3, t3, rfl, l3⟩ := ZT l2
 obtain ⟨a4, t4, rfl, l4⟩ := ZT l3
 obtain ⟨a5, t5, rfl, l5⟩ := ZT l4
 obtain ⟨a6, t6, rfl, l6⟩ := ZT l5
 obtain ⟨a7, t7, rfl, l7⟩ := ZT l6
 obtain ⟨a8, t8, rfl, l8⟩ := ZT l7
 obtain ⟨a9, t9, rfl, l9⟩ := ZT l8
 obtain ⟨a10, t10, rfl, l10⟩ := ZT l9
 obtain ⟨a11, t11, rfl, l11⟩ := ZT l10
 obtain ⟨a12, t12, rfl, l12⟩ := ZT l11
 obtain ⟨a13, t13, rfl, l13⟩ := ZT l12
 obtain ⟨a14, t14, rfl, l14⟩ := ZT l13
 obtain ⟨a15, t15, rfl, l15⟩ := ZT l14
 obtain ⟨a16, t16, rfl, l16⟩ := ZT l15
 obtain ⟨a17, t17, rfl, l17⟩ := ZT l16
 obtain ⟨a18, t18, rfl, l18⟩ := ZT l17
 obtain ⟨a19, t19, rfl, l19⟩ := ZT l18
 obtain ⟨a20, t20, rfl, l20⟩ := ZT l19
 obtain ⟨a21, t21, rfl, l21⟩ := ZT l20
 obtain ⟨a22, t22, rfl, l22⟩ := ZT l21
 obtain ⟨a23, t23, rfl, l23⟩ := ZT l22
 obtain ⟨a24, t24, rfl, l24⟩ := ZT l23
 obtain ⟨a25, t25, rfl, l25⟩ := ZT l24
 obtain ⟨a26, t26, rfl, l26⟩ := ZT l25
 obtain ⟨a27, t27, rfl, l27⟩ := ZT l26
 obtain ⟨a28, t28, rfl, l28⟩ := ZT l27
 obtain ⟨a29, t29, rfl, l29⟩ := ZT l28
 obtain ⟨a30, t30, rfl, l30⟩ := ZT l29
 obtain ⟨a31, t31, rfl, l31⟩ := ZT l30
 obtain ⟨a32, t32, rfl, l32⟩ := ZT l31
 obtain ⟨a33, t33, rfl, l33⟩ := ZT l32
 obtain ⟨a34, t34, rfl, l34⟩ := ZT l33
 obtain ⟨a35, t35, rfl, l35⟩ := ZT l34
 obtain ⟨a36, t36, rfl, l36⟩ := ZT l35
 obtain ⟨a37, t37, rfl, l37⟩ := ZT l36
 obtain rfl := List.length_eq_zero_iff.1 l37
 have b0 : 0 ≤ a0 ∧ a0 ≤ 255 := h3 0 a0 .u8 rfl rfl
 have b1 : 0 ≤ a1 ∧ a1 ≤ 255 := h3 1 a1 .u8 rfl rfl
 have b2 : 0 ≤ a2 ∧ a2 ≤ 255 := h3 2 a2 .u8 rfl rfl
 have b3 : 0 ≤ a3 ∧ a3 ≤ 255 := h3 3 a3 .u8 rfl rfl
 have b4 : 0 ≤ a4 ∧ a4 ≤ 255 := h3 4 a4 .u8 rfl rfl
 have b5 : 0 ≤ a5 ∧ a5 ≤ 255 := h3 5 a5 .u8 rfl rfl
 have b6 : 0 ≤ a6 ∧ a6 ≤ 255 := h3 6 a6 .u8 rfl rfl
 have b7 : 0 ≤ a7 ∧ a7 ≤ 255 := h3 7 a7 .u8 rfl rfl
 have b8 : 0 ≤ a8 ∧ a8 ≤ 255 := h3 8 a8 .u8 rfl rfl
 have b9 : 0 ≤ a9 ∧ a9 ≤ 255 := h3 9 a9 .u8 rfl rfl
 have b10 : 0 ≤ a10 ∧ a10 ≤ 255 := h3 10 a10 .u8 rfl rfl
 have b11 : 0 ≤ a11 ∧ a11 ≤ 255 := h3 11 a11 .u8 rfl rfl
 have b12 : 0 ≤ a12 ∧ a12 ≤ 255 := h3 12 a12 .u8 rfl rfl
 have b13 : 0 ≤ a13 ∧ a13 ≤ 255 := h3 13 a13 .u8 rfl rfl
 have b14 : 0 ≤ a14 ∧ a14 ≤ 255 := h3 14 a14 .u8 rfl rfl
 have b15 : 0 ≤ a15 ∧ a15 ≤ 255 := h3 15 a15 .u8 rfl rfl
 have b16 : 0 ≤ a16 ∧ a16 ≤ 255 := h3 16 a16 .u8 rfl rfl
 have b17 : 0 ≤ a17 ∧ a17 ≤ 255 := h3 17 a17 .u8 rfl rfl
 have b18 : 0 ≤ a18 ∧ a18 ≤ 255 := h3 18 a18 .u8 rfl rfl
 have b19 : 0 ≤ a19 ∧ a19 ≤ 255 := h3 19 a19 .u8 rfl rfl
 have b20 : 0 ≤ a20 ∧ a20 ≤ 255 := h3 20 a20 .u8 rfl rfl
 have b21 : 0 ≤ a21 ∧ a21 ≤ 255 := h3 21 a21 .u8 rfl rfl
 have b22 : 0 ≤ a22 ∧ a22 ≤ 255 := h3 22 a22 .u8 rfl rfl
 have b23 : 0 ≤ a23 ∧ a23 ≤ 255 := h3 23 a23 .u8 rfl rfl
 have b24 : 0 ≤ a24 ∧ a24 ≤ 255 := h3 24 a24 .u8 rfl rfl
 have b25 : 0 ≤ a25 ∧ a25 ≤ 255 := h3 25 a25 .u8 rfl rfl
 have b26 : 0 ≤ a26 ∧ a26 ≤ 255 := h3 26 a26 .u8 rfl rfl
 have b27 : 0 ≤ a27 ∧ a27 ≤ 255 := h3 27 a27 .u8 rfl rfl
 have b28 : 0 ≤ a28 ∧ a28 ≤ 255 := h3 28 a28 .u8 rfl rfl
 have b29 : 0 ≤ a29 ∧ a29 ≤ 255 := h3 29 a29 .u8 rfl rfl
 have b30 : 0 ≤ a30 ∧ a30 ≤ 255 := h3 30 a30 .u8 rfl rfl
 have b31 : 0 ≤ a31 ∧ a31 ≤ 65535 := h3 31 a31 .u16 rfl rfl
 have b32 : 0 ≤ a32 ∧ a32 ≤ 255 := h3 32 a32 .u8 rfl rfl
 have b33 : 0 ≤ a33 ∧ a33 ≤ 255 := h3 33 a33 .u8 rfl rfl
 have b34 : 0 ≤ a34 ∧ a34 ≤ 255 := h3 34 a34 .u8 rfl rfl
 have b35 : 0 ≤ a35 ∧ a35 ≤ 255 := h3 35 a35 .u8 rfl rfl
 have b36 : 0 ≤ a36 ∧ a36 ≤ 255 := h3 36 a36 .u8 rfl rfl
 have b37 : 0 ≤ a37 ∧ a37 ≤ 255 := h3 37 a37 .u8 rfl rfl
 obtain ⟨p, rfl⟩ : ∃ p : Nat, a31 = (p : Int) := ⟨a31.toNat, by omega⟩
 refine ⟨⟨a0, [⟨a1, a2, a3, a4, a5⟩, ⟨a6, a7, a8, a9, a10⟩, ⟨a11, a12, a13, a14, a15⟩, ⟨a16, a17, a18, a19, a20⟩, ⟨a21, a22, a23, a24, a25⟩, ⟨a26, a27, a28, a29, a30⟩], p, [a32, a33, a34, a35, a36, a37]⟩, ⟨b0, rfl, ?_, by show p < 65536; omega, rfl, ?_⟩, fun _ _ => Z032 dKs _ h1⟩
 · intro q hq
   simp only [List.mem_cons, List.not_mem_nil, or_false] at hq
   rcases hq with rfl | rfl | rfl | rfl | rfl | rfl
   · exact ⟨b1, b2, b3, b4, b5⟩
   · exact ⟨b6, b7, b8, b9, b10⟩
   · exact ⟨b11, b12, b13, b14, b15⟩
   · exact ⟨b16, b17, b18, b19, b20⟩
   · exact ⟨b21, b22, b23, b24, b25⟩
   · exact ⟨b26, b27, b28, b29, b30⟩
 · intro z hz
   simp only [List.mem_cons, List.not_mem_nil, or_false] at hz
   rcases hz with rfl | rfl | rfl | rfl | rfl | rfl
   · exact b32
   · exact b33
   · exact b34
   · exact b35
   · exact b36
   · exact b37
end Go.AM.YtgfnbmfjbjopkaaDoor
end
noncomputable section
namespace Go.AM
open Go Go.RowKit Go.ChangeShapes Go.WideShapes
noncomputable section
variable {P : Program} {w : World}
theorem Z03D (k : IntKind) {α : Type} (f : IntKind → Int → α) : ∀ (zs : List Int), List.zipWith f (List.replicate zs.length k) zs = zs.map (f k)
 | [] => rfl
 | z :: zs => by rw [List.length_cons, List.replicate_succ, List.zipWith_cons_cons, Z03D k f zs, List.map_cons]
theorem Z06h {t u e : TypeId} {n : Nat} {v : Value} {b : Nat} {r : Reach} (ht : P.underlying t = some (.array n e)) (hu : P.underlying u = some (.int .u8)) (hc : P.cellTypes P.depth t = some (List.replicate 6 u)) (hn : P.cellsOf t = 6) (hv : Value.okWide P w r b t v) :
   ∃ zs : List Int, (zs.length = 6 ∧ ∀ (i : Nat) (z : Int), zs[i]? = some z → 0 ≤ z ∧ z ≤ 255) ∧ ∀ (fz : Nat → Prop) (rf : RFt), VR fz w (.agg (zs.map (AV.int .u8))) rf v := by
 unfold Value.okWide at hv
 rw [ht] at hv
 obtain ⟨cs, rfl, h2, h3⟩ := hv
 obtain ⟨zs, a, l, c⟩ := ZJs (ks := List.replicate 6 .u8) (fun i x k h1 h2 => by
   have hx := List.mem_of_getElem? h1
   have hk := List.mem_of_getElem? h2
   rw [(List.mem_replicate.1 hx).2, (List.mem_replicate.1 hk).2]; exact hu) (by simp) hc (by simpa using hn) h2 h3
 rw [List.length_replicate] at l
 refine ⟨zs, ⟨l, fun i z hz => ?_⟩, fun fz rf => ?_⟩
 · have hi := (List.getElem?_eq_some_iff.1 hz).1
   exact c i z .u8 hz (by rw [List.getElem?_replicate, if_pos (by omega)])
 · have := Z032 (fz := fz) (w := w) (rf := rf) (List.replicate 6 .u8) zs a
   rw [← l, Z03D .u8 AV.int zs] at this
   exact this
end
noncomputable section
variable {H : Type} {enc : TypeId × Value → H} {P : Program} {w : World} {base : Nat} {spare : Nat → Bool} {held : Bool}
end
end Go.AM
end
noncomputable section
namespace Go.AM.YtgfnbmfjbjopkaaDoor
open Go Go.AM Go.AM.Mule
def plc (D : Dro) (j : Nat) : Int := D.al.getD j 0 * 8 + j
theorem Z07J {D : Dro} (h : DOk D) {j : Nat} (hj : j < 6) : ∃ z, D.al[j]? = some z ∧ 0 ≤ z ∧ z ≤ 255 ∧ plc D j = z * 8 + j := by
 have hx : D.al[j]? = some (D.al.getD j 0) := Z08 (l := D.al) (by rw [h.ll]; exact hj)
 obtain ⟨a, b⟩ := h.al _ (List.mem_of_getElem? hx)
 exact ⟨_, hx, a, b, rfl⟩
theorem Z0hH {C : Callee} {D : Dro} (h : DOk D) {j : Nat} (hj : j < 6) : rsOf (bodyA E C fg 1000 111 [.int .i64 (j : Int), .iptr (dcs D) 0] [] 0) = some (.int .i64 (plc D j)) := by
 obtain ⟨z, hz, z1, z2, e⟩ := Z07J h hj
 have hat := Z0rY h hz
 have hlen := Z9R h
 have g : (j : Int) < 6 := by omega
 have w1 : wrp .i64 z = z := Z0i (by omega)
 have w2 : wrp .i64 (z * 8) = z * 8 := Z0i (by omega)
 have w3 : wrp .i64 (z * 8 + j) = z * 8 + j := Z0i (by omega)
 rw [e]
 generalize dcs D = dc at *
 simp (disch := omega) only [ZF, Zc, Za, Z2, Z1, Z3, Z0, Zw, Zm, stp, justO, just, Rd.bind, Rd.run, Rd.opt, upds, tsz, rdCells, fieldOf, Ze, aLoad, resA, resL, Z5, aNum, aBin, aInt, Nat.reduceBEq, Nat.reduceEqDiff, Nat.reduceLeDiff, ↓reduceIte, reduceCtorEq, Nat.zero_add, Z7, true_and, Int.natCast_nonneg, Int.ofNat_lt, Int.toNat_natCast, Option.map_some, List.elem_cons, List.elem_nil, List.getElem?_cons_zero, List.getElem?_cons_succ, seqN, bindN, regN, aConv, Nat.mul_one, beq_self_eq_true, Bool.false_eq_true, T_3, T_5, T_56, T_58, beq_self_eq_true, Z0of, Z0gi, Z0eg, Z0ow, Z0fr, Z0gO, Z0h7, Z0eD, Z0cX, Z0fL, Z0er, Z0d2, Z0dP, Z0gH, Z0pk, Z0oL, Z0qj, Z0s9, hat, w1, w2, w3, if_pos]
structure MdC (C : Callee) (D : Dro) : Prop where
 plc : ∀ (site : Nat → Nat) seen (j : Nat), j < 6 → aBack site true seen (thaw C 111 [.int .i64 (j : Int), .iptr (dcs D) 0] [] 0) = .pure (.int .i64 (plc D j), [])
theorem mdC {D : Dro} (h : DOk D) (d : Nat) : MdC (callA E fg 1000 (d + 1)) D := ⟨fun _ _ _ hj => Z1k (Z1j (Z0hH (C := callA E fg 1000 d) h hj))⟩
def pOf (D : Dro) (bit i k : Nat) : List Pr := if D.pairs.testBit bit = true then (if plc D k < plc D i then [((k : Int), (i : Int))] else [((i : Int), (k : Int))]) else []
def mdI (D : Dro) (i b : Nat) : Nat → List Pr
 | 0 => []
 | k + 1 => mdI D i b k ++ pOf D (b + k) i k
def mdE (D : Dro) : Nat → List Pr × Nat
 | 0 => ([], 0)
 | i + 1 => ((mdE D i).1 ++ mdI D i (mdE D i).2 i, (mdE D i).2 + i)
theorem Z0nu (D bit i k) : (pOf D bit i k).length ≤ 1 := by
 unfold pOf; split
 · split <;> simp
 · simp
theorem Ztv (D i b) : ∀ k, (mdI D i b k).length ≤ k
 | 0 => by simp [mdI]
 | k + 1 => by
   have := Ztv D i b k
   have := Z0nu D (b + k) i k
   simp only [mdI, List.length_append]; omega
theorem Zt3 (D) : ∀ i, (mdE D i).1.length ≤ (mdE D i).2
 | 0 => by simp [mdE]
 | i + 1 => by
   have := Zt3 D i
   have := Ztv D i (mdE D i).2 i
   simp only [mdE, List.length_append]; omega
theorem Z0bn (D) : ∀ i, i ≤ 6 → (mdE D i).2 ≤ 15
 | 0, _ => by simp [mdE]
 | 1, _ => by simp [mdE]
 | 2, _ => by simp [mdE]
 | 3, _ => by simp [mdE]
 | 4, _ => by simp [mdE]
 | 5, _ => by simp [mdE]
 | 6, _ => by simp [mdE]
 | i + 7, h => by omega
theorem Z0sw {b i : Nat} (hi : i < 16) : aShift .shr .u16 (b : Int) (i : Int) = some (.int .u16 ((b >>> i : Nat) : Int)) := by
 have h1 : ¬ (i : Int) < 0 := by omega
 simp only [aShift, if_neg h1, pw2, IntKind.bits, Int.toNat_natCast]
 rw [Nat.min_eq_left (by omega), Nat.shiftRight_eq_div_pow]
 congr 2
 exact (Int.fdiv_eq_ediv_of_nonneg _ (Int.natCast_nonneg _)).trans (Int.natCast_ediv _ _).symm
theorem bk16 {a : Nat} (ha : a < 65536) : bk .u16 (bt .u16 (a : Int) &&& bt .u16 1) = .int .u16 ((a &&& 1 : Nat) : Int) := by
 have e : bt .u16 (a : Int) = BitVec.ofNat 16 a := by simp only [bt, IntKind.bits, BitVec.ofInt_natCast]
 have e1 : bt .u16 1 = BitVec.ofNat 16 1 := rfl
 rw [e, e1]
 have h : (BitVec.ofNat 16 a &&& BitVec.ofNat 16 1).toNat = a &&& 1 := by
   rw [BitVec.toNat_and, BitVec.toNat_ofNat, BitVec.toNat_ofNat, Nat.mod_eq_of_lt ha]
 have h2 : a &&& 1 ≤ 1 := Nat.and_le_right
 show AV.int .u16 (wrp .u16 ((BitVec.ofNat 16 a &&& BitVec.ofNat 16 1).toNat : Int)) = _
 rw [h, ZCe (by simp only [kLo]; omega) (by simp only [kHi]; omega)]
def bV (g m : Nat) : AV := if m = 0 then .nilsl else .ref g 0 m m (m * 2) 2 false
def bH (g : Nat) (es : List Pr) : AHeap := if es.length = 0 then [] else [(g, ⟨.row, cls bc es⟩)]
abbrev mdH (D : Dro) (n g : Nat) (es : List Pr) : AHeap :=
 (2, ⟨.box, dcs D⟩) :: (4, ⟨.box, [.nilsl, .nilsl]⟩) :: (5, ⟨.box, [.ref 60 0 n n (n * 5) 5 false, bV g es.length]⟩) :: (60, ⟨.row, cls lc (mdL D n)⟩) :: bH g es
abbrev m2S (D : Dro) (n g i bit : Nat) (es : List Pr) (k : Nat) : St :=
 ([(72, .int .i64 k), (71, .int .i64 i), (68, .int .i64 i), (67, .int .i64 n), (12, .int .i64 i), (11, .int .i64 bit), (10, .clo 111 [.ptr 2 0 38]), (5, .ptr 5 0 2), (4, .ptr 4 0 2), (2, .ptr 2 0 38)], mdH D n g es)
theorem Z9A {n : Nat} (h : n ≤ 1000000) : roomOk E.T 64 n = true := by
 simp only [roomOk, T_64, decide_eq_true_eq]; exact ⟨by decide, rfl, by omega⟩
theorem Z0ri {C : Callee} {D : Dro} (hC : MdC C D) (h : DOk D) {n g i bit : Nat} {es : List Pr} (hn : n ≤ 6) (hi : i < n) (k : Nat) (hk : k < i) (hb : bit + k < 15) (hes : es.length ≤ 15) (hg : g = 94 ∨ g = 102) :
   ∃ s', (execA E C (fg 40) 0 109 [] 1000 Zag) (m2S D n g i (bit + k) es k) = some (.normal, s') ∧ ∃ g2, (g2 = 94 ∨ g2 = 102) ∧ headA [] s' = m2S D n g2 i (bit + (k + 1)) (es ++ pOf D (bit + k) i k) (k + 1) := by
 have hpi := fun site seen => hC.plc site seen i (by omega)
 have hpk := fun site seen => hC.plc site seen k (by omega)
 have hat := Z0sg h
 have hlen := Z9R h
 have hsn := ZeN h (d := 198) (by omega)
 have hsn2 := ZeN h (d := 197) (by omega)
 have hsn3 := ZeN h (d := 196) (by omega)
 have htk : List.take 38 (dcs D) = dcs D := List.take_of_length_le (by omega)
 have hp := h.pairs
 have hsh := Z0sw (b := D.pairs) (i := bit + k) (by omega)
 have hlt : D.pairs >>> (bit + k) < 65536 := by rw [Nat.shiftRight_eq_div_pow]; exact Nat.lt_of_le_of_lt (Nat.div_le_self ..) hp
 have ha := bk16 hlt
 have he := Zsq D.pairs (bit + k)
 have g1 : (k : Int) < i := by omega
 have w : wrp .i64 (((bit + k : Nat) : Int) + 1) = ((bit + (k + 1) : Nat) : Int) := by rw [Z0i (by omega)]; omega
 have hm : ∀ caps args, mutV E (.clo 111 caps) args = none := fun _ _ => rfl
 have hec := ZA Z14 es
 suffices key : ∃ g2, (g2 = 94 ∨ g2 = 102) ∧ ∃ s', (execA E C (fg 40) 0 109 [] 1000 Zag) (m2S D n g i (bit + k) es k) = some (.normal, s') ∧ headA [] s' = m2S D n g2 i (bit + (k + 1)) (es ++ pOf D (bit + k) i k) (k + 1) by
   obtain ⟨g2, a, s', b, c⟩ := key
   exact ⟨s', b, g2, a, c⟩
 have hne0 : ¬ (1 : Nat) = 0 := by omega
 by_cases hbit : D.pairs.testBit (bit + k) = true
 · by_cases hpl : plc D k < plc D i
   · skip
     have e : pOf D (bit + k) i k = [((k : Int), (i : Int))] := by unfold pOf; rw [if_pos hbit, if_pos hpl]
     rw [e]
     have hsnoc := Zfl (f := bc) es ((k : Int), (i : Int))
     have hbc : bc ((k : Int), (i : Int)) = [.int .i64 (k : Int), .int .i64 (i : Int)] := rfl
     rw [hbc] at hsnoc
     by_cases hz : es.length = 0
     · have hes0 : es = [] := List.length_eq_zero_iff.1 hz
       subst hes0
       refine ⟨94, .inl rfl, ?_⟩
       have hone : cls bc ([] ++ [((k : Int), (i : Int))]) = [.int .i64 (k : Int), .int .i64 (i : Int)] := rfl
       simp only [m2S, mdH, bV, bH, List.length_nil, List.nil_append, List.length_singleton, if_pos, hne0, if_false]
       rw [show cls bc [((k : Int), (i : Int))] = [.int .i64 (k : Int), .int .i64 (i : Int)] from rfl]
       simp (disch := omega) only [Z8, Zg, Zc, Za, Z2, Z1, Z3, Z0, Zl, Zd, Zx, Zi, Zo, Zm, stp, justO, just, Rd.bind, Rd.run, Rd.opt, upds, acells, zeroCells, tsz, elemT, rdCells, fieldOf, Ze, aLoad, aStore, opStore, fresh, Zh, aBin, aInt, putC, evO, Nat.reduceAdd, Nat.reduceMul, Nat.reduceLT, Nat.reduceGT, Nat.reduceBEq, Nat.reduceEqDiff, Nat.reduceLeDiff, ↓reduceIte, reduceCtorEq, Zf, Nat.zero_add, Nat.add_zero, ne_eq, beq_iff_eq, List.nil_append, List.getElem?_toArray, Bool.and_true, decide_true, not_true_eq_false, or_self, ZB, Z02, fo6, fo5, partsOf, fillA, repC, Z00, aAppend, srcOf, window, Z7, Zk, and_true, aCall, snaps, List.append_nil, Option.map_some, List.elem_cons, List.elem_nil, List.length_cons, List.length_nil, List.getElem?_cons_zero, List.getElem?_cons_succ, List.drop_zero, List.take_succ_cons, List.take_nil, List.set_cons_zero, List.set_cons_succ, Zp, seqN, bindN, regN, Zr, ZM, Z0q, aBuild, opCallV, List.cons_append, Nat.le_refl, Nat.mul_one, Nat.zero_mul, beq_self_eq_true, Nat.lt_irrefl, Bool.false_eq_true, T_3, T_23, T_25, T_64, T_55, T_58, beq_self_eq_true, Z4j, Z2i, Z2h, Z4w, Z4K, Z4u, Z9g, Z4g, Z4d, Z4J, Z9o, Z4l, Z4e, Z4r, Z4M, Z4H, Z4C, Z4m, Z9z, Z4E, Z4s, Z4B, Z4p, Z8b, Z8h, Z7E, Z7o, ZbW, Z8d, Z6G, Z7h, Z6v, Z7W, Z6z, Z7T, Z6M, Z8B, Z6S, ZdJ, Z8x, Z6D, Z7m, Z8r, Z6V, Z84, Z6p, Z6k, Z7a, Z7Z, Zd8, Z9n, Z9B, Z9d, Z9w, Z9C, Z4y, Z4c, Z4i, Z4I, Z9p, Z99, Z97, Z9i, Z4A, Z4a, Z4n, Z9x, Z4b, Z49, g1, hat, hlen, hsn2, hsh, ha, he, hbit, w, hpi, hpk, hpl, Z1L (hm _ _), Za3, Z9A (show 1 ≤ 1000000 by omega), ZD (show k < 1000000 by omega)]
       exact ⟨_, rfl, Z07 (ZY _ Z0F) rfl rfl⟩
     · obtain ⟨m, hml⟩ : ∃ m, es.length = m + 1 := ⟨es.length - 1, by omega⟩
       have hl2 : (es ++ [((k : Int), (i : Int))]).length = m + 1 + 1 := by simp [hml]
       have ev : ∀ g, bV g (m + 1) = .ref g 0 (m + 1) (m + 1) ((m + 1) * 2) 2 false := fun g => if_neg (by omega)
       have ev2 : ∀ g, bV g (m + 1 + 1) = .ref g 0 (m + 1 + 1) (m + 1 + 1) ((m + 1 + 1) * 2) 2 false := fun g => if_neg (by omega)
       have eh : ∀ g, bH g es = [(g, ⟨.row, cls bc es⟩)] := fun g => if_neg hz
       have eh2 : ∀ g, bH g (es ++ [((k : Int), (i : Int))]) = [(g, ⟨.row, cls bc (es ++ [((k : Int), (i : Int))])⟩)] := fun g => if_neg (by omega)
       have hte : List.take ((m + 1) * 2) (cls bc es) = cls bc es := List.take_of_length_le (by omega)
       have nm : ¬ m + 1 + 1 ≤ m + 1 := by omega
       rw [hml] at hec
       refine ⟨g, hg, ?_⟩
       simp only [m2S, mdH, hml, hl2, ev, ev2, eh, eh2]
       generalize cls bc (es ++ [((k : Int), (i : Int))]) = ce2 at *
       generalize cls bc es = ce at *
       rcases hg with rfl | rfl
       · simp (disch := omega) only [Z8, Zg, Zc, Za, Z2, Z1, Z3, Z0, Zl, Zd, Zx, Zi, Zo, Zm, stp, justO, just, Rd.bind, Rd.run, Rd.opt, upds, acells, zeroCells, tsz, elemT, rdCells, fieldOf, Ze, aLoad, aStore, opStore, fresh, Zh, aBin, aInt, putC, evO, Nat.reduceAdd, Nat.reduceMul, Nat.reduceLT, Nat.reduceGT, Nat.reduceBEq, Nat.reduceEqDiff, Nat.reduceLeDiff, ↓reduceIte, reduceCtorEq, Zf, Nat.zero_add, Nat.add_zero, ne_eq, beq_iff_eq, List.nil_append, List.getElem?_toArray, Bool.and_true, decide_true, not_true_eq_false, or_self, ZB, Z02, fo6, fo5, partsOf, fillA, repC, Z00, aAppend, srcOf, window, Z7, Zk, and_true, aCall, snaps, List.append_nil, Option.map_some, List.elem_cons, List.elem_nil, List.length_cons, List.length_nil, List.getElem?_cons_zero, List.getElem?_cons_succ, List.drop_zero, List.take_succ_cons, List.take_nil, List.set_cons_zero, List.set_cons_succ, Zp, seqN, bindN, regN, Zr, ZM, Z0q, aBuild, opCallV, List.cons_append, Nat.le_refl, Nat.mul_one, Nat.zero_mul, beq_self_eq_true, Nat.lt_irrefl, Bool.false_eq_true, T_3, T_23, T_25, T_64, T_55, T_58, beq_self_eq_true, Z4j, Z2i, Z2h, Z4w, Z4K, Z4u, Z9g, Z4g, Z4d, Z4J, Z9o, Z4l, Z4e, Z4r, Z4M, Z4H, Z4C, Z4m, Z9z, Z4E, Z4s, Z4B, Z4p, Z8b, Z8h, Z7E, Z7o, ZbW, Z8d, Z6G, Z7h, Z6v, Z7W, Z6z, Z7T, Z6M, Z8B, Z6S, ZdJ, Z8x, Z6D, Z7m, Z8r, Z6V, Z84, Z6p, Z6k, Z7a, Z7Z, Zd8, Z9n, Z9B, Z9d, Z9w, Z9C, Z4y, Z4c, Z4i, Z4I, Z9p, Z99, Z97, Z9i, Z4A, Z4a, Z4n, Z9x, Z4b, Z49, g1, hat, hlen, hsn2, hsh, ha, he, hbit, w, hpi, hpk, hpl, Z1L (hm _ _), Za3, hec, hte, nm, hsnoc, Z9A (show m + 1 + 1 ≤ 1000000 by omega), ZD (show k < 1000000 by omega)]
         exact ⟨_, rfl, Z07 (ZY _ Z0F) rfl rfl⟩
       · simp (disch := omega) only [Z8, Zg, Zc, Za, Z2, Z1, Z3, Z0, Zl, Zd, Zi, Zo, Zm, stp, justO, just, Rd.bind, Rd.run, Rd.opt, upds, acells, zeroCells, tsz, elemT, rdCells, fieldOf, Ze, aLoad, aStore, opStore, fresh, Zh, aBin, aInt, putC, evO, Nat.reduceAdd, Nat.reduceMul, Nat.reduceLT, Nat.reduceGT, Nat.reduceBEq, Nat.reduceEqDiff, Nat.reduceLeDiff, ↓reduceIte, reduceCtorEq, Zf, Nat.zero_add, Nat.add_zero, ne_eq, beq_iff_eq, List.nil_append, List.getElem?_toArray, Bool.and_true, decide_true, not_true_eq_false, or_self, ZB, Z02, fo6, fo5, partsOf, fillA, repC, Z00, aAppend, srcOf, window, Z7, Zk, and_true, aCall, snaps, List.append_nil, Option.map_some, List.elem_cons, List.elem_nil, List.length_cons, List.length_nil, List.getElem?_cons_zero, List.getElem?_cons_succ, List.drop_zero, List.take_succ_cons, List.take_nil, List.set_cons_zero, List.set_cons_succ, Zp, seqN, bindN, regN, Zr, ZM, Z0q, aBuild, opCallV, List.cons_append, Nat.le_refl, Nat.mul_one, Nat.zero_mul, beq_self_eq_true, Nat.lt_irrefl, Bool.false_eq_true, T_3, T_23, T_25, T_64, T_55, T_58, beq_self_eq_true, Z4j, Z2i, Z2h, Z4w, Z4K, Z4u, Z9g, Z4g, Z4d, Z4J, Z9o, Z4l, Z4e, Z4r, Z4M, Z4H, Z4C, Z4m, Z9z, Z4E, Z4s, Z4B, Z4p, Z8b, Z8h, Z7E, Z7o, ZbW, Z8d, Z6G, Z7h, Z6v, Z7W, Z6z, Z7T, Z6M, Z8B, Z6S, ZdJ, Z8x, Z6D, Z7m, Z8r, Z6V, Z84, Z6p, Z6k, Z7a, Z7Z, Zd8, Z9n, Z9B, Z9d, Z9w, Z9C, Z4y, Z4c, Z4i, Z4I, Z9p, Z99, Z97, Z9i, Z4A, Z4a, Z4n, Z9x, Z4b, Z49, g1, hat, hlen, hsn2, hsh, ha, he, hbit, w, hpi, hpk, hpl, Z1L (hm _ _), Za3, hec, hte, nm, hsnoc, Z9A (show m + 1 + 1 ≤ 1000000 by omega), ZD (show k < 1000000 by omega)]
         exact ⟨_, rfl, Z07 (ZY _ Z0F) rfl rfl⟩
   · skip
     have e : pOf D (bit + k) i k = [((i : Int), (k : Int))] := by unfold pOf; rw [if_pos hbit, if_neg hpl]
     rw [e]
     have hsnoc := Zfl (f := bc) es ((i : Int), (k : Int))
     have hbc : bc ((i : Int), (k : Int)) = [.int .i64 (i : Int), .int .i64 (k : Int)] := rfl
     rw [hbc] at hsnoc
     by_cases hz : es.length = 0
     · have hes0 : es = [] := List.length_eq_zero_iff.1 hz
       subst hes0
       refine ⟨102, .inr rfl, ?_⟩
       have hone : cls bc ([] ++ [((i : Int), (k : Int))]) = [.int .i64 (i : Int), .int .i64 (k : Int)] := rfl
       simp only [m2S, mdH, bV, bH, List.length_nil, List.nil_append, List.length_singleton, if_pos, hne0, if_false]
       rw [show cls bc [((i : Int), (k : Int))] = [.int .i64 (i : Int), .int .i64 (k : Int)] from rfl]
       simp (disch := omega) only [Z8, Zg, Zc, Za, Z2, Z1, Z3, Z0, Zl, Zd, Zx, Zi, Zo, Zm, stp, justO, just, Rd.bind, Rd.run, Rd.opt, upds, acells, zeroCells, tsz, elemT, rdCells, fieldOf, Ze, aLoad, aStore, opStore, fresh, Zh, aBin, aInt, putC, evO, Nat.reduceAdd, Nat.reduceMul, Nat.reduceLT, Nat.reduceGT, Nat.reduceBEq, Nat.reduceEqDiff, Nat.reduceLeDiff, ↓reduceIte, reduceCtorEq, Zf, Nat.zero_add, Nat.add_zero, ne_eq, beq_iff_eq, List.nil_append, List.getElem?_toArray, Bool.and_true, decide_true, decide_false, not_true_eq_false, or_self, ZB, Z02, fo6, fo5, partsOf, fillA, repC, Z00, aAppend, srcOf, window, Z7, Zk, and_true, aCall, snaps, List.append_nil, Option.map_some, List.elem_cons, List.elem_nil, List.length_cons, List.length_nil, List.getElem?_cons_zero, List.getElem?_cons_succ, List.drop_zero, List.take_succ_cons, List.take_nil, List.set_cons_zero, List.set_cons_succ, Zp, seqN, bindN, regN, Zr, ZM, Z0q, aBuild, opCallV, List.cons_append, Nat.le_refl, Nat.mul_one, Nat.zero_mul, beq_self_eq_true, Nat.lt_irrefl, Bool.false_eq_true, T_3, T_23, T_25, T_64, T_55, T_58, beq_self_eq_true, Z4j, Z2i, Z2h, Z4w, Z4K, Z4u, Z9g, Z4g, Z4d, Z4J, Z9o, Z4l, Z4e, Z4r, Z4M, Z4H, Z4C, Z4m, Z9z, Z4E, Z4s, Z4B, Z4p, Z8b, Z8h, Z7E, Z7o, ZbW, Z8d, Z6G, Z7h, Z6v, Z7W, Z6z, Z7T, Z6M, Z8B, Z6S, ZdJ, Z8x, Z6D, Z7m, Z8r, Z6V, Z84, Z6p, Z6k, Z7a, Z7Z, Zd8, Z9n, Z9B, Z9d, Z9w, Z9C, Z4y, Z4c, Z4i, Z4I, Z9p, Z99, Z97, Z9i, Z4A, Z4a, Z4n, Z9x, Z4b, Z49, g1, hat, hlen, hsn2, hsh, ha, he, hbit, w, hpi, hpk, hpl, Z1L (hm _ _), Za3, Z9A (show 1 ≤ 1000000 by omega), ZD (show k < 1000000 by omega)]
       exact ⟨_, rfl, Z07 (ZY _ Z0F) rfl rfl⟩
     · obtain ⟨m, hml⟩ : ∃ m, es.length = m + 1 := ⟨es.length - 1, by omega⟩
       have hl2 : (es ++ [((i : Int), (k : Int))]).length = m + 1 + 1 := by simp [hml]
       have ev : ∀ g, bV g (m + 1) = .ref g 0 (m + 1) (m + 1) ((m + 1) * 2) 2 false := fun g => if_neg (by omega)
       have ev2 : ∀ g, bV g (m + 1 + 1) = .ref g 0 (m + 1 + 1) (m + 1 + 1) ((m + 1 + 1) * 2) 2 false := fun g => if_neg (by omega)
       have eh : ∀ g, bH g es = [(g, ⟨.row, cls bc es⟩)] := fun g => if_neg hz
       have eh2 : ∀ g, bH g (es ++ [((i : Int), (k : Int))]) = [(g, ⟨.row, cls bc (es ++ [((i : Int), (k : Int))])⟩)] := fun g => if_neg (by omega)
       have hte : List.take ((m + 1) * 2) (cls bc es) = cls bc es := List.take_of_length_le (by omega)
       have nm : ¬ m + 1 + 1 ≤ m + 1 := by omega
       rw [hml] at hec
       refine ⟨g, hg, ?_⟩
       simp only [m2S, mdH, hml, hl2, ev, ev2, eh, eh2]
       generalize cls bc (es ++ [((i : Int), (k : Int))]) = ce2 at *
       generalize cls bc es = ce at *
       rcases hg with rfl | rfl
       · simp (disch := omega) only [Z8, Zg, Zc, Za, Z2, Z1, Z3, Z0, Zl, Zd, Zx, Zi, Zo, Zm, stp, justO, just, Rd.bind, Rd.run, Rd.opt, upds, acells, zeroCells, tsz, elemT, rdCells, fieldOf, Ze, aLoad, aStore, opStore, fresh, Zh, aBin, aInt, putC, evO, Nat.reduceAdd, Nat.reduceMul, Nat.reduceLT, Nat.reduceGT, Nat.reduceBEq, Nat.reduceEqDiff, Nat.reduceLeDiff, ↓reduceIte, reduceCtorEq, Zf, Nat.zero_add, Nat.add_zero, ne_eq, beq_iff_eq, List.nil_append, List.getElem?_toArray, Bool.and_true, decide_true, decide_false, not_true_eq_false, or_self, ZB, Z02, fo6, fo5, partsOf, fillA, repC, Z00, aAppend, srcOf, window, Z7, Zk, and_true, aCall, snaps, List.append_nil, Option.map_some, List.elem_cons, List.elem_nil, List.length_cons, List.length_nil, List.getElem?_cons_zero, List.getElem?_cons_succ, List.drop_zero, List.take_succ_cons, List.take_nil, List.set_cons_zero, List.set_cons_succ, Zp, seqN, bindN, regN, Zr, ZM, Z0q, aBuild, opCallV, List.cons_append, Nat.le_refl, Nat.mul_one, Nat.zero_mul, beq_self_eq_true, Nat.lt_irrefl, Bool.false_eq_true, T_3, T_23, T_25, T_64, T_55, T_58, beq_self_eq_true, Z4j, Z2i, Z2h, Z4w, Z4K, Z4u, Z9g, Z4g, Z4d, Z4J, Z9o, Z4l, Z4e, Z4r, Z4M, Z4H, Z4C, Z4m, Z9z, Z4E, Z4s, Z4B, Z4p, Z8b, Z8h, Z7E, Z7o, ZbW, Z8d, Z6G, Z7h, Z6v, Z7W, Z6z, Z7T, Z6M, Z8B, Z6S, ZdJ, Z8x, Z6D, Z7m, Z8r, Z6V, Z84, Z6p, Z6k, Z7a, Z7Z, Zd8, Z9n, Z9B, Z9d, Z9w, Z9C, Z4y, Z4c, Z4i, Z4I, Z9p, Z99, Z97, Z9i, Z4A, Z4a, Z4n, Z9x, Z4b, Z49, g1, hat, hlen, hsn2, hsh, ha, he, hbit, w, hpi, hpk, hpl, Z1L (hm _ _), Za3, hec, hte, nm, hsnoc, Z9A (show m + 1 + 1 ≤ 1000000 by omega), ZD (show k < 1000000 by omega)]
         exact ⟨_, rfl, Z07 (ZY _ Z0F) rfl rfl⟩
       · simp (disch := omega) only [Z8, Zg, Zc, Za, Z2, Z1, Z3, Z0, Zl, Zd, Zi, Zo, Zm, stp, justO, just, Rd.bind, Rd.run, Rd.opt, upds, acells, zeroCells, tsz, elemT, rdCells, fieldOf, Ze, aLoad, aStore, opStore, fresh, Zh, aBin, aInt, putC, evO, Nat.reduceAdd, Nat.reduceMul, Nat.reduceLT, Nat.reduceGT, Nat.reduceBEq, Nat.reduceEqDiff, Nat.reduceLeDiff, ↓reduceIte, reduceCtorEq, Zf, Nat.zero_add, Nat.add_zero, ne_eq, beq_iff_eq, List.nil_append, List.getElem?_toArray, Bool.and_true, decide_true, decide_false, not_true_eq_false, or_self, ZB, Z02, fo6, fo5, partsOf, fillA, repC, Z00, aAppend, srcOf, window, Z7, Zk, and_true, aCall, snaps, List.append_nil, Option.map_some, List.elem_cons, List.elem_nil, List.length_cons, List.length_nil, List.getElem?_cons_zero, List.getElem?_cons_succ, List.drop_zero, List.take_succ_cons, List.take_nil, List.set_cons_zero, List.set_cons_succ, Zp, seqN, bindN, regN, Zr, ZM, Z0q, aBuild, opCallV, List.cons_append, Nat.le_refl, Nat.mul_one, Nat.zero_mul, beq_self_eq_true, Nat.lt_irrefl, Bool.false_eq_true, T_3, T_23, T_25, T_64, T_55, T_58, beq_self_eq_true, Z4j, Z2i, Z2h, Z4w, Z4K, Z4u, Z9g, Z4g, Z4d, Z4J, Z9o, Z4l, Z4e, Z4r, Z4M, Z4H, Z4C, Z4m, Z9z, Z4E, Z4s, Z4B, Z4p, Z8b, Z8h, Z7E, Z7o, ZbW, Z8d, Z6G, Z7h, Z6v, Z7W, Z6z, Z7T, Z6M, Z8B, Z6S, ZdJ, Z8x, Z6D, Z7m, Z8r, Z6V, Z84, Z6p, Z6k, Z7a, Z7Z, Zd8, Z9n, Z9B, Z9d, Z9w, Z9C, Z4y, Z4c, Z4i, Z4I, Z9p, Z99, Z97, Z9i, Z4A, Z4a, Z4n, Z9x, Z4b, Z49, g1, hat, hlen, hsn2, hsh, ha, he, hbit, w, hpi, hpk, hpl, Z1L (hm _ _), Za3, hec, hte, nm, hsnoc, Z9A (show m + 1 + 1 ≤ 1000000 by omega), ZD (show k < 1000000 by omega)]
         exact ⟨_, rfl, Z07 (ZY _ Z0F) rfl rfl⟩
 · have e : pOf D (bit + k) i k = [] := by unfold pOf; rw [if_neg hbit]
   have hbit : D.pairs.testBit (bit + k) = false := by simpa using hbit
   rw [e, List.append_nil]
   refine ⟨g, hg, ?_⟩
   by_cases hz : es.length = 0
   · have ev : ∀ g, bV g es.length = .nilsl := fun g => if_pos hz
     have eh : ∀ g, bH g es = [] := fun g => if_pos hz
     simp only [m2S, mdH, ev, eh]
     simp (disch := omega) only [Z8, Zg, Zc, Za, Z2, Z1, Z3, Z0, Zd, Zo, Zm, stp, just, Rd.bind, Rd.run, Rd.opt, upds, rdCells, fieldOf, Ze, aLoad, aBin, aInt, Nat.reduceMul, Nat.reduceBEq, Nat.reduceEqDiff, Nat.reduceLeDiff, ↓reduceIte, Zf, Nat.zero_add, beq_iff_eq, decide_true, Z7, List.elem_cons, List.elem_nil, List.getElem?_cons_zero, List.getElem?_cons_succ, seqN, bindN, regN, beq_self_eq_true, Bool.false_eq_true, T_55, T_58, beq_self_eq_true, Z4j, Z2i, Z2h, Z4w, Z4K, Z4u, Z9g, Z4g, Z4d, Z4J, Z9o, Z4l, Z4e, Z4r, Z4M, Z4H, Z4C, Z4m, Z9z, Z4E, Z4s, Z4B, Z4p, Z9n, Z9B, Z9d, Z9w, Z9C, Z4y, Z4c, Z4i, Z4I, Z9p, Z99, Z97, Z9i, Z4A, Z4a, Z4n, Z9x, Z4b, Z49, g1, hat, hlen, hsh, ha, he, hbit, w, ZD (show k < 1000000 by omega)]
     exact ⟨_, rfl, Z07 (ZY _ Z0F) rfl rfl⟩
   · have ev : ∀ g, bV g es.length = .ref g 0 es.length es.length (es.length * 2) 2 false := fun g => if_neg hz
     have eh : ∀ g, bH g es = [(g, ⟨.row, cls bc es⟩)] := fun g => if_neg hz
     simp only [m2S, mdH, ev, eh]
     simp (disch := omega) only [Z8, Zg, Zc, Za, Z2, Z1, Z3, Z0, Zd, Zo, Zm, stp, just, Rd.bind, Rd.run, Rd.opt, upds, rdCells, fieldOf, Ze, aLoad, aBin, aInt, Nat.reduceMul, Nat.reduceBEq, Nat.reduceEqDiff, Nat.reduceLeDiff, ↓reduceIte, Zf, Nat.zero_add, beq_iff_eq, decide_true, Z7, List.elem_cons, List.elem_nil, List.getElem?_cons_zero, List.getElem?_cons_succ, seqN, bindN, regN, beq_self_eq_true, Bool.false_eq_true, T_55, T_58, beq_self_eq_true, Z4j, Z2i, Z2h, Z4w, Z4K, Z4u, Z9g, Z4g, Z4d, Z4J, Z9o, Z4l, Z4e, Z4r, Z4M, Z4H, Z4C, Z4m, Z9z, Z4E, Z4s, Z4B, Z4p, Z9n, Z9B, Z9d, Z9w, Z9C, Z4y, Z4c, Z4i, Z4I, Z9p, Z99, Z97, Z9i, Z4A, Z4a, Z4n, Z9x, Z4b, Z49, g1, hat, hlen, hsh, ha, he, hbit, w, ZD (show k < 1000000 by omega)]
     rcases hg with rfl | rfl
     · exact ⟨_, rfl, Z07 (ZY _ Z0F) rfl rfl⟩
     · exact ⟨_, rfl, Z07 (ZY _ Z0F) rfl rfl⟩
end Go.AM.YtgfnbmfjbjopkaaDoor
end
noncomputable section
namespace Go.AM.YtgfnbmfjbjopkaaDoor
open Go Go.AM Go.AM.Mule
abbrev m3S (D : Dro) (n g i bit : Nat) (es : List Pr) : St :=
 ([(68, .int .i64 i), (67, .int .i64 n), (11, .int .i64 bit), (10, .clo 111 [.ptr 2 0 38]), (5, .ptr 5 0 2), (4, .ptr 4 0 2), (2, .ptr 2 0 38)], mdH D n g es)
theorem bVH (g : Nat) (es : List Pr) : (bV g es.length = .nilsl ∧ bH g es = []) ∨ (bV g es.length = .ref g 0 es.length es.length (es.length * 2) 2 false ∧ bH g es = [(g, ⟨.row, cls bc es⟩)]) := by
 by_cases h : es.length = 0
 · exact .inl ⟨if_pos h, if_pos h⟩
 · exact .inr ⟨if_neg h, if_neg h⟩
theorem Z0kS {D : Dro} {n g i bit k : Nat} {es : List Pr} (hg : g = 94 ∨ g = 102) : headA [] (m2S D n g i bit es k) = m2S D n g i bit es k := by
 simp only [m2S, mdH]
 rcases bVH g es with ⟨e1, e2⟩ | ⟨e1, e2⟩ <;> rw [e1, e2]
 · exact Z07 (ZY _ Z0F) rfl rfl
 · rcases hg with rfl | rfl <;> exact Z07 (ZY _ Z0F) rfl rfl
theorem Z0re {C : Callee} {D : Dro} (hC : MdC C D) (h : DOk D) {n g i : Nat} (hn : n ≤ 6) (hi : i < n) (hg : g = 94 ∨ g = 102) :
   ∃ s', (execA E C (fg 40) 0 109 [] 1000 Zae) (m3S D n g i (mdE D i).2 (mdE D i).1) = some (.normal, s') ∧ ∃ g2, (g2 = 94 ∨ g2 = 102) ∧ headA [] s' = m3S D n g2 (i + 1) (mdE D (i + 1)).2 (mdE D (i + 1)).1 := by
 have hb := Z0bn D (i + 1) (by omega)
 have hel := Zt3 D i
 simp only [mdE] at hb
 obtain ⟨se, hloop, g2, hg2, rfl⟩ := ZaE (f := (execA E C (fg 40) 0 109 [] 1000 Zag)) (hd := headA []) (e := .exit 4)
   (P := fun k st => ∃ g, (g = 94 ∨ g = 102) ∧ st = m2S D n g i ((mdE D i).2 + k) ((mdE D i).1 ++ mdI D i (mdE D i).2 k) k)
   (Q := fun st => ∃ g, (g = 94 ∨ g = 102) ∧ st = ([(73, .bool false), (72, .int .i64 i), (71, .int .i64 i), (68, .int .i64 i), (67, .int .i64 n), (12, .int .i64 i), (11, .int .i64 ((mdE D i).2 + i : Nat)), (10, .clo 111 [.ptr 2 0 38]), (5, .ptr 5 0 2), (4, .ptr 4 0 2), (2, .ptr 2 0 38)], mdH D n g (mdE D (i + 1)).1))
   (by simp) i 1000 0 (m2S D n g i (mdE D i).2 (mdE D i).1 0) ⟨g, hg, by rw [Z0kS hg]; simp [mdI]⟩ (by omega)
   (fun k st _ hk hP => by
     obtain ⟨g, hg, rfl⟩ := hP
     have hml := Ztv D i (mdE D i).2 k
     obtain ⟨s', a1, g2, a2, a3⟩ := Z0ri (bit := (mdE D i).2) hC h hn hi k (by omega) (by omega) (by rw [List.length_append]; omega) hg (es := (mdE D i).1 ++ mdI D i (mdE D i).2 k)
     refine ⟨s', a1, g2, a2, ?_⟩
     rw [a3, List.append_assoc]
     rfl)
   (fun st hP => by
     obtain ⟨g, hg, rfl⟩ := hP
     rw [Nat.zero_add]
     refine ⟨_, ?_, g, hg, rfl⟩
     rw [show (mdE D i).1 ++ mdI D i (mdE D i).2 i = (mdE D (i + 1)).1 from rfl]
     generalize (mdE D (i + 1)).1 = es2 at *
     generalize (mdE D i).2 + i = b2 at *
     simp only [m2S, mdH]
     rcases bVH g es2 with ⟨e1, e2⟩ | ⟨e1, e2⟩ <;> rw [e1, e2]
     · simp (disch := omega) only [ZR, Z8, Zc, Za, Z2, Z1, Z3, Z0, Zo, stp, just, Rd.bind, Rd.run, Rd.opt, upds, aBin, aInt, Nat.reduceEqDiff, Nat.reduceLeDiff, ↓reduceIte, decide_false, Z7, List.elem_nil, seqN, bindN, regN, Int.lt_irrefl, Bool.false_eq_true, Z4j, Z2i, Z2h, Z4w, Z4K, Z4u, Z4b, Z49]
     · rcases hg with rfl | rfl
       · simp (disch := omega) only [ZR, Z8, Zc, Za, Z2, Z1, Z3, Z0, Zo, stp, just, Rd.bind, Rd.run, Rd.opt, upds, aBin, aInt, Nat.reduceEqDiff, Nat.reduceLeDiff, ↓reduceIte, decide_false, Z7, List.elem_nil, seqN, bindN, regN, Int.lt_irrefl, Bool.false_eq_true, Z4j, Z2i, Z2h, Z4w, Z4K, Z4u, Z4b, Z49]
       · simp (disch := omega) only [ZR, Z8, Zc, Za, Z2, Z1, Z3, Z0, Zo, stp, just, Rd.bind, Rd.run, Rd.opt, upds, aBin, aInt, Nat.reduceEqDiff, Nat.reduceLeDiff, ↓reduceIte, decide_false, Z7, List.elem_nil, seqN, bindN, regN, Int.lt_irrefl, Bool.false_eq_true, Z4j, Z2i, Z2h, Z4w, Z4K, Z4u, Z4b, Z49])
 have e2 : (mdE D (i + 1)).2 = (mdE D i).2 + i := rfl
 suffices key : ∃ s', (execA E C (fg 40) 0 109 [] 1000 Zae) (m3S D n g i (mdE D i).2 (mdE D i).1) = some (.normal, s') ∧ headA [] s' = m3S D n g2 (i + 1) (mdE D (i + 1)).2 (mdE D (i + 1)).1 by
   obtain ⟨s', b, c⟩ := key
   exact ⟨s', b, g2, hg2, c⟩
 rw [e2]
 have g1 : (i : Int) < n := by omega
 generalize (mdE D (i + 1)).1 = es2 at *
 generalize (mdE D i).2 + i = b2 at *
 generalize (mdE D i).2 = b1 at *
 generalize (mdE D i).1 = es1 at *
 simp only [m3S, m2S, mdH, cl0] at hloop ⊢
 rcases bVH g es1 with ⟨e1, e2⟩ | ⟨e1, e2⟩ <;> rw [e1, e2] at hloop ⊢ <;> rcases bVH g2 es2 with ⟨e3, e4⟩ | ⟨e3, e4⟩ <;> rw [e3, e4] at hloop ⊢
 · simp (disch := omega) only [Z8, ZJ, Zg, Zc, Za, Z2, Z1, Z3, Z0, Zo, Zm, stp, just, Rd.bind, Rd.run, Rd.opt, upds, aBin, aInt, Nat.reduceBEq, Nat.reduceEqDiff, Nat.reduceLeDiff, ↓reduceIte, decide_true, Z7, List.elem_cons, List.elem_nil, seqN, bindN, regN, beq_self_eq_true, Bool.false_eq_true, beq_self_eq_true, Zax, Z5w, Z5v, Zah, Za9, Zan, Zpv, Zf9, ZeB, Zfs, Zsk, ZdY, Zej, ZeV, Zqq, Zoh, ZsD, Znt, ZnD, ZnU, Zfk, Zfa, Zex, ZpE, ZaR, Zak, g1, hloop, ZD (show i < 1000000 by omega)]
   exact ⟨_, rfl, Z07 (ZY _ Z0F) rfl rfl⟩
 · simp (disch := omega) only [Z8, ZJ, Zg, Zc, Za, Z2, Z1, Z3, Z0, Zo, Zm, stp, just, Rd.bind, Rd.run, Rd.opt, upds, aBin, aInt, Nat.reduceBEq, Nat.reduceEqDiff, Nat.reduceLeDiff, ↓reduceIte, decide_true, Z7, List.elem_cons, List.elem_nil, seqN, bindN, regN, beq_self_eq_true, Bool.false_eq_true, beq_self_eq_true, Zax, Z5w, Z5v, Zah, Za9, Zan, Zpv, Zf9, ZeB, Zfs, Zsk, ZdY, Zej, ZeV, Zqq, Zoh, ZsD, Znt, ZnD, ZnU, Zfk, Zfa, Zex, ZpE, ZaR, Zak, g1, hloop, ZD (show i < 1000000 by omega)]
   rcases hg2 with rfl | rfl <;> exact ⟨_, rfl, Z07 (ZY _ Z0F) rfl rfl⟩
 · simp (disch := omega) only [Z8, ZJ, Zg, Zc, Za, Z2, Z1, Z3, Z0, Zo, Zm, stp, just, Rd.bind, Rd.run, Rd.opt, upds, aBin, aInt, Nat.reduceBEq, Nat.reduceEqDiff, Nat.reduceLeDiff, ↓reduceIte, decide_true, Z7, List.elem_cons, List.elem_nil, seqN, bindN, regN, beq_self_eq_true, Bool.false_eq_true, beq_self_eq_true, Zax, Z5w, Z5v, Zah, Za9, Zan, Zpv, Zf9, ZeB, Zfs, Zsk, ZdY, Zej, ZeV, Zqq, Zoh, ZsD, Znt, ZnD, ZnU, Zfk, Zfa, Zex, ZpE, ZaR, Zak, g1, hloop, ZD (show i < 1000000 by omega)]
   exact ⟨_, rfl, Z07 (ZY _ Z0F) rfl rfl⟩
 · simp (disch := omega) only [Z8, ZJ, Zg, Zc, Za, Z2, Z1, Z3, Z0, Zo, Zm, stp, just, Rd.bind, Rd.run, Rd.opt, upds, aBin, aInt, Nat.reduceBEq, Nat.reduceEqDiff, Nat.reduceLeDiff, ↓reduceIte, decide_true, Z7, List.elem_cons, List.elem_nil, seqN, bindN, regN, beq_self_eq_true, Bool.false_eq_true, beq_self_eq_true, Zax, Z5w, Z5v, Zah, Za9, Zan, Zpv, Zf9, ZeB, Zfs, Zsk, ZdY, Zej, ZeV, Zqq, Zoh, ZsD, Znt, ZnD, ZnU, Zfk, Zfa, Zex, ZpE, ZaR, Zak, g1, hloop, ZD (show i < 1000000 by omega)]
   rcases hg2 with rfl | rfl <;> exact ⟨_, rfl, Z07 (ZY _ Z0F) rfl rfl⟩
def mdP (D : Dro) (n : Nat) : List Pr := (mdE D n).1
theorem Z0kO {D : Dro} {n : Nat} (hn : n ≤ 6) : (mdP D n).length ≤ 15 := Nat.le_trans (Zt3 D n) (Z0bn D n hn)
theorem ZN6 {d : Nat} {D : Dro} (h : DOk D) {many : Int} (hm : many = 5 ∨ many = 6) :
   ∃ g H', (g = 94 ∨ g = 102) ∧ bodyA E (callA E fg 1000 (d + 1)) fg 1000 40 [.agg (dcs D), .int .i64 many] [] 0 = some (.agg [.ref 60 0 (nOf D many) (nOf D many) (nOf D many * 5) 5 false, bV g (mdP D (nOf D many)).length], H') ∧
     hget H' 60 = some ⟨.row, cls lc (mdL D (nOf D many))⟩ ∧ ((mdP D (nOf D many)).length ≠ 0 → hget H' g = some ⟨.row, cls bc (mdP D (nOf D many))⟩) := by
 have hC := mdC h d
 obtain ⟨n1, n2⟩ := ZyS h hm
 have hn6 : nOf D many ≤ 6 := by rcases hm with rfl | rfl <;> omega
 obtain ⟨m0, m1⟩ := h.many
 have hmany : (dcs D)[0]? = some (.int .u8 D.many) := rfl
 have hlen := Z9R h
 have wm : wrp .i64 D.many = D.many := Z0i (by omega)
 have hne : ¬ many = 0 := by omega
 have r1 : D.many.tmod many = D.many % many := Int.tmod_eq_emod_of_nonneg m0
 have wn : wrp .i64 (1 + D.many % many) = (nOf D many : Int) := by
   have e1 := Int.emod_nonneg D.many hne
   have e2 := Int.emod_lt_of_pos D.many (show 0 < many by omega)
   unfold nOf
   rw [Z0i (by omega)]; omega
 generalize nOf D many = n at *
 generalize callA E fg 1000 (d + 1) = C at *
 have hl1 := loopN (f := (execA E C (fg 40) 0 109 [] 1000 Zjb)) (fun i => m1S D n i) n (fun i hi => Z0rk h hn6 i hi) (Z07 (ZY _ Z0F) rfl rfl) (by omega)
   (e := .exit 0) (se := ([(24, .bool false), (23, .int .i64 n), (22, .int .i64 n), (21, .ref 2 1 n 6 38 5 true), (5, .ptr 5 0 2), (4, .ptr 4 0 2), (2, .ptr 2 0 38)],
     [(2, ⟨.box, dcs D⟩), (4, ⟨.box, [.nilsl, .nilsl]⟩), (5, ⟨.box, [.ref 60 0 n n (n * 5) 5 false, .nilsl]⟩), (60, ⟨.row, cls lc (mdL D n)⟩)]))
   (by
     have hoH : oH 60 (cls lc (mdL D n)) = [(60, ⟨.row, cls lc (mdL D n)⟩)] := Zzk 60 (by rw [ZA ZX, Z7F h hn6]; omega)
     have hov : oV 60 5 n = .ref 60 0 n n (n * 5) 5 false := by
       obtain ⟨m, rfl⟩ : ∃ m, n = m + 1 := ⟨n - 1, by omega⟩
       rfl
     simp only [m1S, hoH, hov]
     simp (disch := omega) only [ZR, Z8, Zc, Za, Z2, Z1, Z3, Z0, Zo, stp, just, Rd.bind, Rd.run, Rd.opt, upds, aBin, aInt, Nat.reduceEqDiff, Nat.reduceLeDiff, ↓reduceIte, decide_false, Z7, List.elem_nil, seqN, bindN, regN, Int.lt_irrefl, Bool.false_eq_true, ZIc, Zve, ZtE, ZDd, ZNm, ZQh, ZFA, Z06q]) (by simp)
 obtain ⟨se, hl2, g, hg, rfl⟩ := ZaE (f := (execA E C (fg 40) 0 109 [] 1000 Zae)) (hd := headA []) (e := .exit 2)
   (P := fun i st => ∃ g, (g = 94 ∨ g = 102) ∧ st = m3S D n g i (mdE D i).2 (mdE D i).1)
   (Q := fun st => ∃ g, (g = 94 ∨ g = 102) ∧ st = ([(69, .bool false), (68, .int .i64 n), (67, .int .i64 n), (11, .int .i64 ((mdE D n).2 : Nat)), (10, .clo 111 [.ptr 2 0 38]), (5, .ptr 5 0 2), (4, .ptr 4 0 2), (2, .ptr 2 0 38)], mdH D n g (mdP D n)))
   (by simp) n 1000 0 (m3S D n 94 0 0 []) ⟨94, .inl rfl, by
     show headA [] (m3S D n 94 0 0 []) = m3S D n 94 0 0 []
     exact Z07 (ZY _ Z0F) rfl rfl⟩ (by omega)
   (fun i st _ hi hP => by
     obtain ⟨g, hg, rfl⟩ := hP
     exact Z0re hC h hn6 (by omega) hg)
   (fun st hP => by
     obtain ⟨g, hg, rfl⟩ := hP
     rw [Nat.zero_add]
     refine ⟨_, ?_, g, hg, rfl⟩
     rw [show (mdE D n).1 = mdP D n from rfl]
     generalize mdP D n = es2 at *
     generalize (mdE D n).2 = b2 at *
     simp only [m3S, mdH]
     rcases bVH g es2 with ⟨e1, e2⟩ | ⟨e1, e2⟩ <;> rw [e1, e2]
     · simp (disch := omega) only [ZR, Z8, Zc, Za, Z2, Z1, Z3, Z0, Zo, stp, just, Rd.bind, Rd.run, Rd.opt, upds, aBin, aInt, Nat.reduceEqDiff, Nat.reduceLeDiff, ↓reduceIte, decide_false, Z7, List.elem_nil, seqN, bindN, regN, Int.lt_irrefl, Bool.false_eq_true, Zax, Z5w, Z5v, Zah, Za9, Zan, ZaR, Zak]
     · rcases hg with rfl | rfl
       · simp (disch := omega) only [ZR, Z8, Zc, Za, Z2, Z1, Z3, Z0, Zo, stp, just, Rd.bind, Rd.run, Rd.opt, upds, aBin, aInt, Nat.reduceEqDiff, Nat.reduceLeDiff, ↓reduceIte, decide_false, Z7, List.elem_nil, seqN, bindN, regN, Int.lt_irrefl, Bool.false_eq_true, Zax, Z5w, Z5v, Zah, Za9, Zan, ZaR, Zak]
       · simp (disch := omega) only [ZR, Z8, Zc, Za, Z2, Z1, Z3, Z0, Zo, stp, just, Rd.bind, Rd.run, Rd.opt, upds, aBin, aInt, Nat.reduceEqDiff, Nat.reduceLeDiff, ↓reduceIte, decide_false, Z7, List.elem_nil, seqN, bindN, regN, Int.lt_irrefl, Bool.false_eq_true, Zax, Z5w, Z5v, Zah, Za9, Zan, ZaR, Zak])
 have hll : (cls lc (mdL D n)).length = n * 5 := by rw [ZA ZX, Z7F h hn6]
 have gn : (n : Int) ≤ 6 := by omega
 have gn2 : n ≤ 6 := hn6
 have ho1 : 1 + 30 ≤ 38 := by omega
 rw [show m1S D n 0 = ([(23, .int .i64 0), (22, .int .i64 n), (21, .ref 2 1 n 6 38 5 true), (5, .ptr 5 0 2), (4, .ptr 4 0 2), (2, .ptr 2 0 38)], [(2, ⟨.box, dcs D⟩), (4, ⟨.box, [.nilsl, .nilsl]⟩), (5, ⟨.box, [.nilsl, .nilsl]⟩)]) from rfl] at hl1
 rw [show m3S D n 94 0 0 [] = ([(68, .int .i64 0), (67, .int .i64 n), (11, .int .i64 0), (10, .clo 111 [.ptr 2 0 38]), (5, .ptr 5 0 2), (4, .ptr 4 0 2), (2, .ptr 2 0 38)], [(2, ⟨.box, dcs D⟩), (4, ⟨.box, [.nilsl, .nilsl]⟩), (5, ⟨.box, [.ref 60 0 n n (n * 5) 5 false, .nilsl]⟩), (60, ⟨.row, cls lc (mdL D n)⟩)]) from rfl] at hl2
 refine ⟨g, ?_⟩
 simp only [mdH] at hl2
 rcases bVH g (mdP D n) with ⟨e1, e2⟩ | ⟨e1, e2⟩
 · rw [e1, e2] at hl2
   rw [e1]
   have h0 : (mdP D n).length = 0 := by
     refine Classical.byContradiction fun hc => ?_
     have : bV g (mdP D n).length = .ref g 0 (mdP D n).length (mdP D n).length ((mdP D n).length * 2) 2 false := if_neg hc
     rw [e1] at this
     exact absurd this (by simp)
   generalize dcs D = dc at *
   simp (disch := omega) only [ZJ, ZF, Zc, Za, Z2, Z1, Z3, Z0, Zl, Zd, Zx, Zi, Zw, Zo, Zm, stp, opBox, justO, just, Rd.bind, Rd.run, Rd.opt, upds, acells, zeroCells, tsz, rdCells, fieldOf, Ze, aLoad, aStore, opStore, resA, resL, fresh, aNum, aLen, Zh, aBin, aInt, putC, Nat.reduceAdd, Nat.reduceMul, Nat.reduceLT, Nat.reduceBEq, Nat.reduceEqDiff, Nat.reduceLeDiff, ↓reduceIte, reduceCtorEq, Zf, Nat.zero_add, Nat.add_zero, ne_eq, List.getElem?_toArray, Bool.and_true, decide_true, Z7, Zk, and_true, true_and, Int.natCast_nonneg, Int.toNat_natCast, snaps, List.append_nil, Option.map_some, List.elem_cons, List.elem_nil, List.length_cons, List.length_nil, List.getElem?_cons_zero, List.getElem?_cons_succ, List.drop_zero, List.take_succ_cons, List.take_nil, List.set_cons_zero, List.set_cons_succ, seqN, bindN, regN, ZU, ZM, aConv, aSlice, aBounds, bMax, bHigh, bLow, Nat.le_refl, Nat.sub_zero, Nat.zero_mul, beq_self_eq_true, Bool.false_eq_true, Option.getD_none, T_3, T_22, T_25, T_5, T_53, T_54, T_58, Zqj, beq_self_eq_true, Z06I, ZtY, Zup, ZuD, Z07Z, Zvs, ZvO, Z06j, Zt8, Zvh, Zvu, Ztw, Zv3, Zut, Ztp, Zuk, Ztl, Zvc, Zw9, Z07K, Z06L, Z07y, ZAT, Zvr, Ztj, Zul, ZvP, Zty, ZBK, Zmz, ZjL, ZjE, ZSB, Zld, Zlg, ZRN, Zm0, ZlW, ZmY, ZB0, ZQe, ZGI, ZJ4, ZjF, Zju, ZjM, ZP2, ZMq, ZM1, ZNJ, ZJm, ZFD, Z06n, Z05Y, Z06r, b_40, hmany, hlen, wm, hne, r1, wn, ho1, hl1, hl2, hll, if_pos]
   exact ⟨_, hg, rfl, rfl, fun hc => absurd h0 hc⟩
 · rw [e1, e2] at hl2
   rw [e1]
   generalize dcs D = dc at *
   rcases hg with rfl | rfl
   · simp (disch := omega) only [ZJ, ZF, Zc, Za, Z2, Z1, Z3, Z0, Zl, Zd, Zx, Zi, Zw, Zo, Zm, stp, opBox, justO, just, Rd.bind, Rd.run, Rd.opt, upds, acells, zeroCells, tsz, rdCells, fieldOf, Ze, aLoad, aStore, opStore, resA, resL, fresh, aNum, aLen, Zh, aBin, aInt, putC, Nat.reduceAdd, Nat.reduceMul, Nat.reduceLT, Nat.reduceBEq, Nat.reduceEqDiff, Nat.reduceLeDiff, ↓reduceIte, reduceCtorEq, Zf, Nat.zero_add, Nat.add_zero, ne_eq, List.getElem?_toArray, Bool.and_true, decide_true, or_false, Z7, Zk, and_true, true_and, Int.natCast_nonneg, Int.toNat_natCast, snaps, List.append_nil, Option.map_some, List.elem_cons, List.elem_nil, List.length_cons, List.length_nil, List.getElem?_cons_zero, List.getElem?_cons_succ, List.drop_zero, List.take_succ_cons, List.take_nil, List.set_cons_zero, List.set_cons_succ, seqN, bindN, regN, ZM, aConv, aSlice, aBounds, bMax, bHigh, bLow, Nat.le_refl, Nat.sub_zero, Nat.zero_mul, beq_self_eq_true, Bool.false_eq_true, Option.getD_none, T_3, T_22, T_25, T_5, T_53, T_54, T_58, Zqj, beq_self_eq_true, Z06I, ZtY, Zup, ZuD, Z07Z, Zvs, ZvO, Z06j, Zt8, Zvh, Zvu, Ztw, Zv3, Zut, Ztp, Zuk, Ztl, Zvc, Zw9, Z07K, Z06L, Z07y, ZAT, Zvr, Ztj, Zul, ZvP, Zty, ZBK, Zmz, ZjL, ZjE, ZSB, Zld, Zlg, ZRN, Zm0, ZlW, ZmY, ZB0, ZQe, ZGI, ZJ4, ZjF, Zju, ZjM, ZP2, ZMq, ZM1, ZNJ, ZJm, ZFD, Z06n, Z05Y, Z06r, b_40, hmany, hlen, wm, hne, r1, wn, ho1, hl1, hl2, hll, if_pos]
     exact ⟨_, rfl, rfl, fun _ => rfl⟩
   · simp (disch := omega) only [ZJ, ZF, Zc, Za, Z2, Z1, Z3, Z0, Zl, Zd, Zx, Zi, Zw, Zo, Zm, stp, opBox, justO, just, Rd.bind, Rd.run, Rd.opt, upds, acells, zeroCells, tsz, rdCells, fieldOf, Ze, aLoad, aStore, opStore, resA, resL, fresh, aNum, aLen, Zh, aBin, aInt, putC, Nat.reduceAdd, Nat.reduceMul, Nat.reduceLT, Nat.reduceBEq, Nat.reduceEqDiff, Nat.reduceLeDiff, ↓reduceIte, reduceCtorEq, Zf, Nat.zero_add, Nat.add_zero, ne_eq, List.getElem?_toArray, Bool.and_true, decide_true, or_true, Z7, Zk, and_true, true_and, Int.natCast_nonneg, Int.toNat_natCast, snaps, List.append_nil, Option.map_some, List.elem_cons, List.elem_nil, List.length_cons, List.length_nil, List.getElem?_cons_zero, List.getElem?_cons_succ, List.drop_zero, List.take_succ_cons, List.take_nil, List.set_cons_zero, List.set_cons_succ, seqN, bindN, regN, ZM, aConv, aSlice, aBounds, bMax, bHigh, bLow, Nat.le_refl, Nat.sub_zero, Nat.zero_mul, beq_self_eq_true, Bool.false_eq_true, Option.getD_none, T_3, T_22, T_25, T_5, T_53, T_54, T_58, Zqj, beq_self_eq_true, Z06I, ZtY, Zup, ZuD, Z07Z, Zvs, ZvO, Z06j, Zt8, Zvh, Zvu, Ztw, Zv3, Zut, Ztp, Zuk, Ztl, Zvc, Zw9, Z07K, Z06L, Z07y, ZAT, Zvr, Ztj, Zul, ZvP, Zty, ZBK, Zmz, ZjL, ZjE, ZSB, Zld, Zlg, ZRN, Zm0, ZlW, ZmY, ZB0, ZQe, ZGI, ZJ4, ZjF, Zju, ZjM, ZP2, ZMq, ZM1, ZNJ, ZJm, ZFD, Z06n, Z05Y, Z06r, b_40, hmany, hlen, wm, hne, r1, wn, ho1, hl1, hl2, hll, if_pos]
     exact ⟨_, rfl, rfl, fun _ => rfl⟩
end Go.AM.YtgfnbmfjbjopkaaDoor
end
noncomputable section
namespace Go.AM.YtgfnbmfjbjopkaaDoor
open Go Go.AM Go.AM.Mule
theorem Z05z {D : Dro} {bit i k : Nat} {p : Pr} (h : p ∈ pOf D bit i k) : (p = ((k : Int), (i : Int)) ∧ plc D k < plc D i) ∨ (p = ((i : Int), (k : Int)) ∧ ¬ plc D k < plc D i) := by
 unfold pOf at h
 split at h
 · split at h
   · rename_i h1; simp at h; exact .inl ⟨h, h1⟩
   · rename_i h1; simp at h; exact .inr ⟨h, h1⟩
 · simp at h
theorem Z0iY {D : Dro} (h : DOk D) {i k : Nat} (hi : i < 6) (hk : k < 6) (e : plc D i = plc D k) : i = k := by
 obtain ⟨z, _, z1, z2, e1⟩ := Z07J h hi
 obtain ⟨y, _, y1, y2, e2⟩ := Z07J h hk
 omega
def okP (D : Dro) (i : Nat) (p : Pr) : Prop := ∃ a b : Nat, p = ((a : Int), (b : Int)) ∧ a ≠ b ∧ a < i ∧ b < i ∧ plc D a < plc D b
theorem ZhW {D : Dro} (h : DOk D) {i b : Nat} (hi : i < 6) : ∀ k, k ≤ i → ∀ p ∈ mdI D i b k, ∃ x, x < k ∧ (p = ((x : Int), (i : Int)) ∧ plc D x < plc D i ∨ p = ((i : Int), (x : Int)) ∧ plc D i < plc D x)
 | 0, _, p, hp => by simp [mdI] at hp
 | k + 1, hk, p, hp => by
   simp only [mdI, List.mem_append] at hp
   rcases hp with hp | hp
   · obtain ⟨x, x1, x2⟩ := ZhW h hi k (by omega) p hp
     exact ⟨x, by omega, x2⟩
   · refine ⟨k, by omega, ?_⟩
     rcases Z05z hp with ⟨e, h1⟩ | ⟨e, h1⟩
     · exact .inl ⟨e, h1⟩
     · refine .inr ⟨e, ?_⟩
       have hne : plc D k ≠ plc D i := fun e => by have := Z0iY h (show k < 6 by omega) hi e; omega
       omega
theorem ZtC {D : Dro} (h : DOk D) : ∀ i, i ≤ 6 → ∀ p ∈ mdP D i, okP D i p
 | 0, _, p, hp => by simp [mdP, mdE] at hp
 | i + 1, hi, p, hp => by
   simp only [mdP, mdE, List.mem_append] at hp
   rcases hp with hp | hp
   · obtain ⟨a, b, e, h1, h2, h3, h4⟩ := ZtC h i (by omega) p hp
     exact ⟨a, b, e, h1, by omega, by omega, h4⟩
   · obtain ⟨x, x1, x2⟩ := ZhW h (show i < 6 by omega) i (Nat.le_refl _) p hp
     rcases x2 with ⟨e, h1⟩ | ⟨e, h1⟩
     · exact ⟨x, i, e, by omega, by omega, by omega, h1⟩
     · exact ⟨i, x, e, by omega, by omega, by omega, h1⟩
theorem Zx0 {D : Dro} (h : DOk D) {i b : Nat} (hi : i < 6) : ∀ k, k ≤ i → (mdI D i b k).Nodup
 | 0, _ => by simp [mdI]
 | k + 1, hk => by
   simp only [mdI]
   rw [List.nodup_append]
   refine ⟨Zx0 h hi k (by omega), ?_, ?_⟩
   · unfold pOf; split
     · split <;> simp
     · simp
   · intro p hp q hq e
     subst e
     obtain ⟨x, x1, x2⟩ := ZhW h hi k (by omega) p hp
     rcases Z05z hq with ⟨e1, _⟩ | ⟨e1, _⟩ <;> rcases x2 with ⟨e2, _⟩ | ⟨e2, _⟩ <;> rw [e1] at e2 <;> simp only [Prod.mk.injEq] at e2 <;> omega
theorem ZmR {D : Dro} (h : DOk D) : ∀ i, i ≤ 6 → (mdP D i).Nodup
 | 0, _ => by simp [mdP, mdE]
 | i + 1, hi => by
   simp only [mdP, mdE]
   rw [List.nodup_append]
   refine ⟨ZmR h i (by omega), Zx0 h (by omega) i (Nat.le_refl _), ?_⟩
   intro p hp q hq e
   subst e
   obtain ⟨a, b, e, _, h2, h3, _⟩ := ZtC h i (by omega) p hp
   obtain ⟨x, x1, x2⟩ := ZhW h (show i < 6 by omega) i (Nat.le_refl _) p hq
   rcases x2 with ⟨e2, _⟩ | ⟨e2, _⟩ <;> rw [e] at e2 <;> simp only [Prod.mk.injEq] at e2 <;> omega
theorem Z097 {D : Dro} {n : Nat} {es : List Pr} (hp : ∀ p ∈ es, okP D n p) {a b : Nat} (hr : Mule.Reach (es.map tN) a b) : plc D a < plc D b := by
 have step : ∀ {a b : Nat}, Mule.Edge (es.map tN) a b → plc D a < plc D b := by
   intro a b he
   obtain ⟨p, hpm, e⟩ := List.mem_map.1 he
   obtain ⟨x, y, rfl, _, _, _, h4⟩ := hp p hpm
   simp only [tN, Int.toNat_natCast, Prod.mk.injEq] at e
   rw [← e.1, ← e.2]; exact h4
 induction hr with
 | single e => exact step e
 | tail _ e ih => exact Int.lt_trans ih (step e)
theorem Z0fS {D : Dro} (h : DOk D) {n : Nat} (h1 : 1 ≤ n) (h6 : n ≤ 6) : chk (mdL D n) (mdP D n) = 0 := by
 have hl := Z7F h h6
 have hpl := Z0kO (D := D) h6
 have hok := ZtC h n h6
 have hls : ldsE (mdL D n) = 0 := Z2b.2 fun i hi => by
   have : (mdL D n).getD i default ∈ mdL D n := List.mem_of_getElem? (Z08 hi)
   unfold mdL at this
   obtain ⟨q, hq, e⟩ := List.mem_map.1 this
   unfold mdL
   rw [← e]
   exact (Z083 (h.xs q (List.mem_of_mem_take hq))).2
 have hps : prsE n (mdP D n) = 0 := Z2b.2 fun i hi => by
   have hx := Z08 (l := mdP D n) hi
   obtain ⟨a, b, e, _, h2, h3, _⟩ := hok _ (List.mem_of_getElem? hx)
   unfold prE
   have hnin : (mdP D n).getD i default ∉ (mdP D n).take i := by
     intro hc
     obtain ⟨j, hj, ej⟩ := List.mem_iff_getElem.1 hc
     rw [List.length_take] at hj
     rw [List.getElem_take] at ej
     have hnd := ZmR h n h6
     have e2 : (mdP D n)[j] = (mdP D n)[i] := by rw [ej]; simp [hi]
     exact (List.pairwise_iff_getElem.1 hnd) j i (by omega) hi (by omega) e2
   rw [if_neg, if_neg hnin]
   rw [e]
   simp only
   omega
 unfold chk
 rw [hl, if_neg (by omega), if_neg (by omega), if_neg (by simp [hls]), if_neg (by simp [hps]), if_neg]
 have hp := Zgw hps
 intro hc
 obtain ⟨i, hi, hb⟩ := List.any_eq_true.1 hc
 have := (ZbS hp).2 i i
 have hr := this.1 hb
 have := Z097 hok hr
 omega
end Go.AM.YtgfnbmfjbjopkaaDoor
end
noncomputable section
namespace Go.AM.Mule
theorem Z025 : ∀ i, i < 6 → (lst (1 <<< i)).length = 1 := by decide +kernel
end Go.AM.Mule
end
end
noncomputable section
noncomputable section
namespace Go.AM.YtgfnbmfjbjopkaaDoor
open Go Go.AM
variable {C : Callee} {B N : Nat} {E0 : AHeap} (φ : AFr) (H : AHeap) (s : St)
def ZqE := kBody Proofs.Tryd.f10
def Z06c := kL ZqE
def ZbG := kO Z06c
def Z005 := opN ZbG 0
def ZXu := opN ZbG 1
def Z058 := opN ZbG 2
theorem Z076 : XG 10 253 Z06c ZbG [0, 1, 6] := Zb (by rfl) (by rfl) _
theorem Zu6 : ZbG.toList = [Z005, ZXu, Z058] := nf
theorem ZvT : stepA E C B 253 ZbG Z005 (φ, H) = stp (some 3) φ H (opBox (B + 3) (acells (fget φ 0))) := nf
theorem Zvz : stepA E C B 253 ZbG ZXu (φ, H) = stp (some 4) φ H (opBox (B + 4) (acells (fget φ 1))) := nf
theorem ZuU : stepA E C B 253 ZbG Z058 (φ, H) = some (fput φ 6 (.bool false), H) := nf
def Zz2 := kR ZqE
def Z072 := kL Zz2
def Z8U := kO Z072
def Z01k := opN Z8U 0
def ZZ8 := opN Z8U 1
def Z004 := opN Z8U 2
def ZWQ := opN Z8U 3
theorem Z06w : XG 10 253 Z072 Z8U [3, 28, 29] := Zb (by rfl) (by rfl) _
theorem Zwo : Z8U.toList = [Z01k, ZZ8, Z004, ZWQ] := nf
theorem Zv8 : stepA E C B 253 Z8U Z01k (φ, H) = stp (some 28) φ H (just (aLoad E.T 58 (fget φ 3))) := nf
theorem ZvG : stepA E C B 253 Z8U ZZ8 (φ, H) = stp (some 29) φ H (aCall C (fun j => B + j * 253 + 29) true 40 [(fget φ 28), (.int .i64 6)]) := nf
theorem ZuG : stepA E C B 253 Z8U Z004 (φ, H) = stp (some 7) φ H (opBox (B + 7) (zeroCells E.T 25)) := nf
theorem Zvm : stepA E C B 253 Z8U ZWQ (φ, H) = stp none φ H (opStore E.T 25 (fget φ 7) (fget φ 29)) := nf
def Zzh := kR Zz2
def Z066 := kL Zzh
def Z8V := kO Z066
def ZYp := opN Z8V 0
def ZYD := opN Z8V 1
def Z00o := opN Z8V 2
def Z03d := opN Z8V 3
theorem Z06G : XG 10 253 Z066 Z8V [30, 31, 32] := Zb (by rfl) (by rfl) _
theorem Zvv : Z8V.toList = [ZYp, ZYD, Z00o, Z03d] := nf
theorem Zv4 : stepA E C B 253 Z8V ZYp (φ, H) = stp (some 30) φ H (just (Ze E.T 25 (fget φ 7) 0)) := nf
theorem ZvH : stepA E C B 253 Z8V ZYD (φ, H) = stp (some 31) φ H (just (aLoad E.T 22 (fget φ 30))) := nf
theorem Zvt : stepA E C B 253 Z8V Z00o (φ, H) = stp (some 32) φ H (Zh E.T (B + 32) .len #[22] [(fget φ 31)]) := nf
theorem Ztm : stepA E C B 253 Z8V Z03d (φ, H) = some (fput φ 8 (fget φ 32), H) := nf
def ZyI := kR Zzh
def Z07s := kL ZyI
def Zbn := kO Z07s
def ZWb := opN Zbn 0
def Z03g := opN Zbn 1
def Z01R := opN Zbn 2
theorem Z07v : XG 10 253 Z07s Zbn [33, 34] := Zb (by rfl) (by rfl) _
theorem Zte : Zbn.toList = [ZWb, Z03g, Z01R] := nf
theorem Zva : stepA E C B 253 Zbn ZWb (φ, H) = some (fput φ 33 (fget φ 8), H) := nf
theorem ZtS : stepA E C B 253 Zbn Z03g (φ, H) = stp (some 34) φ H (aMake E.T (B + 34) 36 (fget φ 33) (fget φ 33)) := nf
theorem ZvA : stepA E C B 253 Zbn Z01R (φ, H) = some (fput φ 9 (fget φ 34), H) := nf
def Zzg := kR ZyI
def ZzR := kL Zzg
def ZQA := kL ZzR
def Zim := kO ZQA
def ZXL := opN Zim 0
def Z01g := opN Zim 1
theorem ZJo : XG 10 253 ZQA Zim [] := Zb (by rfl) (by rfl) _
theorem Zu0 : Zim.toList = [ZXL, Z01g] := nf
theorem Zuy : stepA E C B 253 Zim ZXL (φ, H) = some (fput φ 35 (fget φ 8), H) := nf
theorem ZsU : stepA E C B 253 Zim Z01g (φ, H) = some (fput φ 36 (.int .i64 0), H) := nf
def ZL7 := kR ZzR
def ZMk := kB ZL7
def ZdI := kB ZMk
def ZDx := kL ZdI
def Zzm := kO ZDx
def Z022 := opN Zzm 0
theorem ZpG : XG 10 253 ZDx Zzm [] := Zb (by rfl) (by rfl) _
theorem ZiI : Zzm.toList = [Z022] := nf
theorem ZiS : stepA E C B 253 Zzm Z022 (φ, H) = stp (some 37) φ H (just (aBin E.T .lss 3 (fget φ 36) (fget φ 35))) := nf
def Zs3 := kR ZdI
def ZpD := kL Zs3
def Z0cC := kT ZpD
theorem Zqr : execA E C (fg 10) B 253 E0 N Z0cC s = some (.normal, s) := ZV (by rfl) s
def Z08I := kE ZpD
theorem Zrn : execA E C (fg 10) B 253 E0 N Z08I s = some (.exit 0, s) := Z0I (by rfl) s
theorem ZoW : XC 10 253 ZpD 37 Z0cC Z08I := ZN (by rfl) _
def ZpU := kR Zs3
def ZF2 := kL ZpU
def ZrB := kB ZF2
def ZUL := kL ZrB
def Zhf := kO ZUL
def Z00K := opN Zhf 0
def Z05f := opN Zhf 1
theorem Z09g : XG 10 253 ZUL Zhf [37, 38] := Zb (by rfl) (by rfl) _
theorem Z01T : Zhf.toList = [Z00K, Z05f] := nf
theorem Z00u : stepA E C B 253 Zhf Z00K (φ, H) = some (fput φ 38 (fget φ 36), H) := nf
theorem Z041 : stepA E C B 253 Zhf Z05f (φ, H) = some (fput φ 10 (fget φ 38), H) := nf
def Zqp := kR ZrB
def ZO7 := kL Zqp
def Zh8 := kO ZO7
def ZXE := opN Zh8 0
def Z05w := opN Zh8 1
theorem Z08X : XG 10 253 ZO7 Zh8 [] := Zb (by rfl) (by rfl) _
theorem Z01q : Zh8.toList = [ZXE, Z05w] := nf
theorem Z04W : stepA E C B 253 Zh8 ZXE (φ, H) = some (fput φ 39 (fget φ 8), H) := nf
theorem Z001 : stepA E C B 253 Zh8 Z05w (φ, H) = some (fput φ 40 (.int .i64 0), H) := nf
def ZGj := kR Zqp
def ZRl := kB ZGj
def Zcx := kB ZRl
def ZT9 := kL Zcx
def Zzi := kO ZT9
def ZWV := opN Zzi 0
theorem Zc9 : XG 10 253 ZT9 Zzi [] := Zb (by rfl) (by rfl) _
theorem Z9Q : Zzi.toList = [ZWV] := nf
theorem Z9M : stepA E C B 253 Zzi ZWV (φ, H) = stp (some 41) φ H (just (aBin E.T .lss 3 (fget φ 40) (fget φ 39))) := nf
def Zsi := kR Zcx
def Zoi := kL Zsi
def Z09U := kT Zoi
theorem Zdr : execA E C (fg 10) B 253 E0 N Z09U s = some (.normal, s) := ZV (by rfl) s
def Z0aQ := kE Zoi
theorem ZcS : execA E C (fg 10) B 253 E0 N Z0aQ s = some (.exit 2, s) := Z0I (by rfl) s
theorem Zd3 : XC 10 253 Zoi 41 Z09U Z0aQ := ZN (by rfl) _
def ZoS := kR Zsi
def ZSp := kL ZoS
def Zsd := kB ZSp
def ZNd := kL Zsd
def Zig := kO ZNd
def ZX4 := opN Zig 0
def ZXa := opN Zig 1
theorem ZsM : XG 10 253 ZNd Zig [41, 42] := Zb (by rfl) (by rfl) _
theorem Zhm : Zig.toList = [ZX4, ZXa] := nf
theorem Zhv : stepA E C B 253 Zig ZX4 (φ, H) = some (fput φ 42 (fget φ 40), H) := nf
theorem ZiV : stepA E C B 253 Zig ZXa (φ, H) = some (fput φ 11 (fget φ 42), H) := nf
def Znu := kR Zsd
def ZLe := kL Znu
def Z09 := kO ZLe
def ZSA := opN Z09 0
def ZCb := opN Z09 1
def ZHZ := opN Z09 2
def ZFe := opN Z09 3
def ZGg := opN Z09 4
def ZDg := opN Z09 5
def ZJ5 := opN Z09 6
def ZPM := opN Z09 7
def ZAJ := opN Z09 8
def ZSa := opN Z09 9
def Zy2 := opN Z09 10
def ZxZ := opN Z09 11
def Zy8 := opN Z09 12
def ZxJ := opN Z09 13
def ZwN := opN Z09 14
theorem Znk : XD 10 253 ZLe Z09 [11, 43, 44, 45, 46, 47, 48, 49, 50, 51, 52, 53, 54, 55, 56] := Z0Z (by rfl) (by rfl) _
theorem Zf8 : Z09.toList = [ZSA, ZCb, ZHZ, ZFe, ZGg, ZDg, ZJ5, ZPM, ZAJ, ZSa, Zy2, ZxZ, Zy8, ZxJ, ZwN] := nf
theorem Z0cn : statOk Z09 = true := by kernel_rfl
theorem Zb2 : drawA E C B 253 Z09 s = if neat 253 s = true then drX Z09 (runT E C B 253 Z09 Z09.toList 0 s) else none := Z0J Z0cn s
theorem ZaV (l : List (Nat × Tr)) : dynOk Z09 l = (!writing l || Zs [[], [0], [0, 1], [0, 1, 2], [0, 1, 2, 3], [], [0, 1, 2, 3, 4, 5], [], [7], [7, 8], [7, 8, 9], [7, 8, 9, 10], [], [7, 8, 9, 10, 11, 12], [0, 1, 2, 3, 4, 5, 6, 7, 8, 9, 10, 11, 12, 13]] (Zq l)) := Z0t (by kernel_rfl) l
theorem Zfi : stepT E C B 253 Z09 ZSA (φ, H) = some ((fput φ 43 (fget φ 11), H), ⟨false, [], []⟩) := Z9 rfl (ZS rfl rfl)
theorem ZeZ : stepT E C B 253 Z09 ZCb (φ, H) = stpT (some 44) φ H (just (Z5 E.T 56 (fget φ 4) (fget φ 43))) := Z9 rfl (Zj rfl rfl)
theorem Zep : stepT E C B 253 Z09 ZHZ (φ, H) = stpT (some 45) φ H (just (aLoad E.T 5 (fget φ 44))) := Z9 rfl (Zj rfl rfl)
theorem Zft : stepT E C B 253 Z09 ZFe (φ, H) = stpT (some 46) φ H (justO (aConv E.T 5 3 (fget φ 45))) := Z9 rfl (Zj rfl rfl)
theorem ZeP : stepT E C B 253 Z09 ZGg (φ, H) = stpT (some 47) φ H (just (aBin E.T .mul 3 (fget φ 46) (.int .i64 8))) := Z9 rfl (Zj rfl rfl)
theorem Zfo : stepT E C B 253 Z09 ZDg (φ, H) = some ((fput φ 48 (fget φ 11), H), ⟨false, [], []⟩) := Z9 rfl (ZS rfl rfl)
theorem Zeq : stepT E C B 253 Z09 ZJ5 (φ, H) = stpT (some 49) φ H (just (aBin E.T .add 3 (fget φ 47) (fget φ 48))) := Z9 rfl (Zj rfl rfl)
theorem Zf1 : stepT E C B 253 Z09 ZPM (φ, H) = some ((fput φ 50 (fget φ 10), H), ⟨false, [], []⟩) := Z9 rfl (ZS rfl rfl)
theorem Ze3 : stepT E C B 253 Z09 ZAJ (φ, H) = stpT (some 51) φ H (just (Z5 E.T 56 (fget φ 4) (fget φ 50))) := Z9 rfl (Zj rfl rfl)
theorem Zf7 : stepT E C B 253 Z09 ZSa (φ, H) = stpT (some 52) φ H (just (aLoad E.T 5 (fget φ 51))) := Z9 rfl (Zj rfl rfl)
theorem Zbz : stepT E C B 253 Z09 Zy2 (φ, H) = stpT (some 53) φ H (justO (aConv E.T 5 3 (fget φ 52))) := Z9 rfl (Zj rfl rfl)
theorem Zb6 : stepT E C B 253 Z09 ZxZ (φ, H) = stpT (some 54) φ H (just (aBin E.T .mul 3 (fget φ 53) (.int .i64 8))) := Z9 rfl (Zj rfl rfl)
theorem ZbH : stepT E C B 253 Z09 Zy8 (φ, H) = some ((fput φ 55 (fget φ 10), H), ⟨false, [], []⟩) := Z9 rfl (ZS rfl rfl)
theorem Zbp : stepT E C B 253 Z09 ZxJ (φ, H) = stpT (some 56) φ H (just (aBin E.T .add 3 (fget φ 54) (fget φ 55))) := Z9 rfl (Zj rfl rfl)
theorem Zbu : stepT E C B 253 Z09 ZwN (φ, H) = stpT (some 57) φ H (just (aBin E.T .lss 3 (fget φ 49) (fget φ 56))) := Z9 rfl (Zj rfl rfl)
def Zr3 := kR Znu
def ZQ7 := kT Zr3
def Z24 := kO ZQ7
def ZHQ := opN Z24 0
def ZJp := opN Z24 1
def ZOF := opN Z24 2
def ZV5 := opN Z24 3
def ZBD := opN Z24 4
def ZUQ := opN Z24 5
def ZDF := opN Z24 6
theorem ZoQ : XG 10 253 ZQ7 Z24 [57, 58, 59, 60, 61, 62, 63] := Zb (by rfl) (by rfl) _
theorem ZdM : Z24.toList = [ZHQ, ZJp, ZOF, ZV5, ZBD, ZUQ, ZDF] := nf
theorem Zf2 : stepA E C B 253 Z24 ZHQ (φ, H) = some (fput φ 58 (fget φ 9), H) := nf
theorem ZeK : stepA E C B 253 Z24 ZJp (φ, H) = some (fput φ 59 (fget φ 10), H) := nf
theorem ZdL : stepA E C B 253 Z24 ZOF (φ, H) = stp (some 60) φ H (just (Z5 E.T 36 (fget φ 58) (fget φ 59))) := nf
theorem Zfm : stepA E C B 253 Z24 ZV5 (φ, H) = stp (some 61) φ H (just (aLoad E.T 3 (fget φ 60))) := nf
theorem ZIY : stepA E C B 253 Z24 ZBD (φ, H) = stp (some 62) φ H (just (aBin E.T .add 3 (fget φ 61) (.int .i64 1))) := nf
theorem ZEd : stepA E C B 253 Z24 ZUQ (φ, H) = stp (some 63) φ H (just (Z5 E.T 36 (fget φ 58) (fget φ 59))) := nf
theorem ZMt : stepA E C B 253 Z24 ZDF (φ, H) = stp none φ H (opStore E.T 3 (fget φ 63) (fget φ 62)) := nf
def Z0c8 := kE Zr3
theorem Zo4 : execA E C (fg 10) B 253 E0 N Z0c8 s = some (.normal, s) := ZV (by rfl) s
theorem ZrZ : XC 10 253 Zr3 57 ZQ7 Z0c8 := ZN (by rfl) _
theorem Zob : XQ 10 253 Znu ZLe Zr3 := Z4 (by rfl) _
theorem Znr : XQ 10 253 Zsd ZNd Znu := Z4 (by rfl) _
theorem ZrC : execA E C (fg 10) B 253 E0 N ZSp s = blockX 3 (fun s => (forget s.1 [57], s.2)) (execA E C (fg 10) B 253 E0 N Zsd s) := ZK (by rfl) (by rfl) s
def ZCB := kR ZoS
def Zcm := kO ZCB
def ZM9 := opN Zcm 0
def ZKl := opN Zcm 1
theorem Znn : XG 10 253 ZCB Zcm [64] := Zb (by rfl) (by rfl) _
theorem ZdO : Zcm.toList = [ZM9, ZKl] := nf
theorem Ze9 : stepA E C B 253 Zcm ZM9 (φ, H) = stp (some 64) φ H (just (aBin E.T .add 3 (fget φ 40) (.int .i64 1))) := nf
theorem Zeh : stepA E C B 253 Zcm ZKl (φ, H) = some (fput φ 40 (fget φ 64), H) := nf
theorem Zpb : XQ 10 253 ZoS ZSp ZCB := Z4 (by rfl) _
theorem Zdq : XQ 10 253 Zsi Zoi ZoS := Z4 (by rfl) _
theorem Zd1 : XQ 10 253 Zcx ZT9 Zsi := Z4 (by rfl) _
theorem Z0bC : execA E C (fg 10) B 253 E0 N ZRl s = iterA (execA E C (fg 10) B 253 E0 N Zcx) (headA E0) N s := Z0H (by rfl) s
theorem Z0bB : execA E C (fg 10) B 253 E0 N ZGj s = blockX 2 (fun s => (forget s.1 [10, 39, 40, 41], s.2)) (execA E C (fg 10) B 253 E0 N ZRl s) := ZK (by rfl) (by rfl) s
theorem Z0cU : XQ 10 253 Zqp ZO7 ZGj := Z4 (by rfl) _
theorem Z0aT : XQ 10 253 ZrB ZUL Zqp := Z4 (by rfl) _
theorem Z0bZ : execA E C (fg 10) B 253 E0 N ZF2 s = blockX 1 (fun s => (forget s.1 [], s.2)) (execA E C (fg 10) B 253 E0 N ZrB s) := ZK (by rfl) (by rfl) s
def ZJR := kR ZpU
def ZbZ := kO ZJR
def ZFH := opN ZbZ 0
def ZDC := opN ZbZ 1
theorem Z0b6 : XG 10 253 ZJR ZbZ [65] := Zb (by rfl) (by rfl) _
theorem ZBe : ZbZ.toList = [ZFH, ZDC] := nf
theorem ZMa : stepA E C B 253 ZbZ ZFH (φ, H) = stp (some 65) φ H (just (aBin E.T .add 3 (fget φ 36) (.int .i64 1))) := nf
theorem ZMl : stepA E C B 253 ZbZ ZDC (φ, H) = some (fput φ 36 (fget φ 65), H) := nf
theorem Z08d : XQ 10 253 ZpU ZF2 ZJR := Z4 (by rfl) _
theorem ZqL : XQ 10 253 Zs3 ZpD ZpU := Z4 (by rfl) _
theorem Zpo : XQ 10 253 ZdI ZDx Zs3 := Z4 (by rfl) _
theorem ZS4 : execA E C (fg 10) B 253 E0 N ZMk s = iterA (execA E C (fg 10) B 253 E0 N ZdI) (headA E0) N s := Z0H (by rfl) s
theorem ZGA : execA E C (fg 10) B 253 E0 N ZL7 s = blockX 0 (fun s => (forget s.1 [4, 35, 36, 37], s.2)) (execA E C (fg 10) B 253 E0 N ZMk s) := ZK (by rfl) (by rfl) s
theorem Z068 : XQ 10 253 ZzR ZQA ZL7 := Z4 (by rfl) _
def Zst := kR Zzg
def ZEj := kL Zst
def Z3H := kO ZEj
def ZF1 := opN Z3H 0
def ZUK := opN Z3H 1
def ZLr := opN Z3H 2
def ZPt := opN Z3H 3
def ZU6 := opN Z3H 4
theorem ZNS : XG 10 253 ZEj Z3H [66, 67, 68] := Zb (by rfl) (by rfl) _
theorem ZjK : Z3H.toList = [ZF1, ZUK, ZLr, ZPt, ZU6] := nf
theorem Zmv : stepA E C B 253 Z3H ZF1 (φ, H) = some (fput φ 66 (fget φ 8), H) := nf
theorem Zmy : stepA E C B 253 Z3H ZUK (φ, H) = stp (some 67) φ H (aMake E.T (B + 67) 22 (fget φ 66) (fget φ 66)) := nf
theorem Zmc : stepA E C B 253 Z3H ZLr (φ, H) = stp (some 68) φ H (justO (aBuild E.T 25 (evO E φ) [(0, Operand.tmp 67)])) := nf
theorem ZmV : stepA E C B 253 Z3H ZPt (φ, H) = stp (some 12) φ H (opBox (B + 12) (zeroCells E.T 25)) := nf
theorem Zkm : stepA E C B 253 Z3H ZU6 (φ, H) = stp none φ H (opStore E.T 25 (fget φ 12) (fget φ 68)) := nf
def Zpu := kR Zst
def Zrr := kL Zpu
def ZU7 := kL Zrr
def Z52 := kO ZU7
def ZKv := opN Z52 0
def ZEi := opN Z52 1
def ZMP := opN Z52 2
def ZRy := opN Z52 3
theorem ZL9 : XG 10 253 ZU7 Z52 [69] := Zb (by rfl) (by rfl) _
theorem Zn8 : Z52.toList = [ZKv, ZEi, ZMP, ZRy] := nf
theorem Zjr : stepA E C B 253 Z52 ZKv (φ, H) = stp (some 69) φ H (just (Ze E.T 25 (fget φ 7) 0)) := nf
theorem Zlt : stepA E C B 253 Z52 ZEi (φ, H) = stp (some 70) φ H (just (aLoad E.T 22 (fget φ 69))) := nf
theorem Znb : stepA E C B 253 Z52 ZMP (φ, H) = stp (some 71) φ H (Zh E.T (B + 71) .len #[22] [(fget φ 70)]) := nf
theorem Zn3 : stepA E C B 253 Z52 ZRy (φ, H) = some (fput φ 72 (.int .i64 0), H) := nf
def ZOe := kR Zrr
def ZR7 := kB ZOe
def Zc3 := kB ZR7
def ZJL := kL Zc3
def Zp1 := kO ZJL
def ZJy := opN Zp1 0
theorem ZnP : XG 10 253 ZJL Zp1 [] := Zb (by rfl) (by rfl) _
theorem Zfu : Zp1.toList = [ZJy] := nf
theorem ZdS : stepA E C B 253 Zp1 ZJy (φ, H) = stp (some 73) φ H (just (aBin E.T .lss 3 (fget φ 72) (fget φ 71))) := nf
def ZqQ := kR Zc3
def Zoc := kL ZqQ
def Z0bY := kT Zoc
theorem Zpi : execA E C (fg 10) B 253 E0 N Z0bY s = some (.normal, s) := ZV (by rfl) s
def Z08j := kE Zoc
theorem Znj : execA E C (fg 10) B 253 E0 N Z08j s = some (.exit 4, s) := Z0I (by rfl) s
theorem Zpj : XC 10 253 Zoc 73 Z0bY Z08j := ZN (by rfl) _
def ZrS := kR ZqQ
def ZIt := kL ZrS
def ZrY := kB ZIt
def ZCD := kL ZrY
def Z2x := kO ZCD
def ZAX := opN Z2x 0
def ZJr := opN Z2x 1
def ZOB := opN Z2x 2
def ZRe := opN Z2x 3
def ZDu := opN Z2x 4
def ZPR := opN Z2x 5
theorem Z09o : XG 10 253 ZCD Z2x [73, 74, 75, 76] := Zb (by rfl) (by rfl) _
theorem ZIs : Z2x.toList = [ZAX, ZJr, ZOB, ZRe, ZDu, ZPR] := nf
theorem ZSj : stepA E C B 253 Z2x ZAX (φ, H) = some (fput φ 74 (fget φ 72), H) := nf
theorem ZNu : stepA E C B 253 Z2x ZJr (φ, H) = stp (some 75) φ H (just (Z5 E.T 22 (fget φ 70) (fget φ 72))) := nf
theorem ZPS : stepA E C B 253 Z2x ZOB (φ, H) = stp (some 76) φ H (just (aLoad E.T 62 (fget φ 75))) := nf
theorem ZPa : stepA E C B 253 Z2x ZRe (φ, H) = stp (some 14) φ H (opBox (B + 14) (zeroCells E.T 62)) := nf
theorem ZOL : stepA E C B 253 Z2x ZDu (φ, H) = some (fput φ 13 (fget φ 74), H) := nf
theorem ZOq : stepA E C B 253 Z2x ZPR (φ, H) = stp none φ H (opStore E.T 62 (fget φ 14) (fget φ 76)) := nf
def ZOG := kR ZrY
def Z0x := kO ZOG
def ZNl := opN Z0x 0
def ZAq := opN Z0x 1
def ZMj := opN Z0x 2
def ZLn := opN Z0x 3
def ZAd := opN Z0x 4
def ZUy := opN Z0x 5
def ZGo := opN Z0x 6
def ZBC := opN Z0x 7
def ZH5 := opN Z0x 8
theorem Z0aB : XD 10 253 ZOG Z0x [13, 14, 77, 78, 79, 80, 81, 82, 83, 84] := Z0Z (by rfl) (by rfl) _
theorem ZIS : Z0x.toList = [ZNl, ZAq, ZMj, ZLn, ZAd, ZUy, ZGo, ZBC, ZH5] := nf
theorem Z0c6 : statOk Z0x = true := by kernel_rfl
theorem ZxO : drawA E C B 253 Z0x s = if neat 253 s = true then drX Z0x (runT E C B 253 Z0x Z0x.toList 0 s) else none := Z0J Z0c6 s
theorem Zyy (l : List (Nat × Tr)) : dynOk Z0x l = (!writing l || Zs [[], [0], [], [], [2, 3], [2, 3, 4], [], [0, 1, 2, 3, 4, 5, 6], [0, 1, 2, 3, 4, 5, 6, 7]] (Zq l)) := Z0t (by kernel_rfl) l
theorem ZNv : stepT E C B 253 Z0x ZNl (φ, H) = stpT (some 77) φ H (just (Ze E.T 25 (fget φ 12) 0)) := Z9 rfl (Zj rfl rfl)
theorem ZOh : stepT E C B 253 Z0x ZAq (φ, H) = stpT (some 78) φ H (just (aLoad E.T 22 (fget φ 77))) := Z9 rfl (Zj rfl rfl)
theorem ZFm : stepT E C B 253 Z0x ZMj (φ, H) = some ((fput φ 79 (fget φ 9), H), ⟨false, [], []⟩) := Z9 rfl (ZS rfl rfl)
theorem ZJG : stepT E C B 253 Z0x ZLn (φ, H) = some ((fput φ 80 (fget φ 13), H), ⟨false, [], []⟩) := Z9 rfl (ZS rfl rfl)
theorem ZMy : stepT E C B 253 Z0x ZAd (φ, H) = stpT (some 81) φ H (just (Z5 E.T 36 (fget φ 79) (fget φ 80))) := Z9 rfl (Zj rfl rfl)
theorem ZAt : stepT E C B 253 Z0x ZUy (φ, H) = stpT (some 82) φ H (just (aLoad E.T 3 (fget φ 81))) := Z9 rfl (Zj rfl rfl)
theorem ZPQ : stepT E C B 253 Z0x ZGo (φ, H) = stpT (some 83) φ H (just (aLoad E.T 62 (fget φ 14))) := Z9 rfl (Zj rfl rfl)
theorem ZBW : stepT E C B 253 Z0x ZBC (φ, H) = stpT (some 84) φ H (just (Z5 E.T 22 (fget φ 78) (fget φ 82))) := Z9 rfl (Zj rfl rfl)
theorem ZAQ : stepT E C B 253 Z0x ZH5 (φ, H) = stpT none φ H (opStore E.T 62 (fget φ 84) (fget φ 83)) := Z9 rfl (Zj rfl rfl)
theorem Z09p : XQ 10 253 ZrY ZCD ZOG := Z4 (by rfl) _
theorem Z0az : execA E C (fg 10) B 253 E0 N ZIt s = blockX 5 (fun s => (forget s.1 [], s.2)) (execA E C (fg 10) B 253 E0 N ZrY s) := ZK (by rfl) (by rfl) s
def ZQ1 := kR ZrS
def ZcU := kO ZQ1
def ZF5 := opN ZcU 0
def ZEb := opN ZcU 1
theorem Z0bg : XG 10 253 ZQ1 ZcU [85] := Zb (by rfl) (by rfl) _
theorem ZJP : ZcU.toList = [ZF5, ZEb] := nf
theorem ZPP : stepA E C B 253 ZcU ZF5 (φ, H) = stp (some 85) φ H (just (aBin E.T .add 3 (fget φ 72) (.int .i64 1))) := nf
theorem ZBo : stepA E C B 253 ZcU ZEb (φ, H) = some (fput φ 72 (fget φ 85), H) := nf
theorem Z09I : XQ 10 253 ZrS ZIt ZQ1 := Z4 (by rfl) _
theorem Zoq : XQ 10 253 ZqQ Zoc ZrS := Z4 (by rfl) _
theorem Zp8 : XQ 10 253 Zc3 ZJL ZqQ := Z4 (by rfl) _
theorem ZMQ : execA E C (fg 10) B 253 E0 N ZR7 s = iterA (execA E C (fg 10) B 253 E0 N Zc3) (headA E0) N s := Z0H (by rfl) s
theorem ZEA : execA E C (fg 10) B 253 E0 N ZOe s = blockX 4 (fun s => (forget s.1 [70, 71, 72, 73], s.2)) (execA E C (fg 10) B 253 E0 N ZR7 s) := ZK (by rfl) (by rfl) s
theorem ZPz : XQ 10 253 Zrr ZU7 ZOe := Z4 (by rfl) _
def Zoo := kR Zpu
def Zsy := kL Zoo
def ZQT := kL Zsy
def Z55 := kO ZQT
def ZSZ := opN Z55 0
def ZAb := opN Z55 1
def ZFu := opN Z55 2
def ZEO := opN Z55 3
theorem ZCg : XG 10 253 ZQT Z55 [86] := Zb (by rfl) (by rfl) _
theorem Zl8 : Z55.toList = [ZSZ, ZAb, ZFu, ZEO] := nf
theorem ZlV : stepA E C B 253 Z55 ZSZ (φ, H) = stp (some 86) φ H (just (Ze E.T 25 (fget φ 7) 1)) := nf
theorem ZlJ : stepA E C B 253 Z55 ZAb (φ, H) = stp (some 87) φ H (just (aLoad E.T 23 (fget φ 86))) := nf
theorem ZjT : stepA E C B 253 Z55 ZFu (φ, H) = stp (some 88) φ H (Zh E.T (B + 88) .len #[23] [(fget φ 87)]) := nf
theorem Zmx : stepA E C B 253 Z55 ZEO (φ, H) = some (fput φ 89 (.int .i64 0), H) := nf
def ZFY := kR Zsy
def ZQy := kB ZFY
def Z9u := kB ZQy
def ZNG := kL Z9u
def ZsL := kO ZNG
def ZHi := opN ZsL 0
theorem Zdu : XG 10 253 ZNG ZsL [] := Zb (by rfl) (by rfl) _
theorem Z71 : ZsL.toList = [ZHi] := nf
theorem Z8t : stepA E C B 253 ZsL ZHi (φ, H) = stp (some 90) φ H (just (aBin E.T .lss 3 (fget φ 89) (fget φ 88))) := nf
def Zrt := kR Z9u
def ZsA := kL Zrt
def Z0bj := kT ZsA
theorem Zch : execA E C (fg 10) B 253 E0 N Z0bj s = some (.normal, s) := ZV (by rfl) s
def Z09r := kE ZsA
theorem Zcy : execA E C (fg 10) B 253 E0 N Z09r s = some (.exit 6, s) := Z0I (by rfl) s
theorem ZdE : XC 10 253 ZsA 90 Z0bj Z09r := ZN (by rfl) _
def ZoN := kR Zrt
def ZB4 := kL ZoN
def ZqX := kB ZB4
def ZHI := kL ZqX
def Z5d := kO ZHI
def ZIF := opN Z5d 0
def ZSb := opN Z5d 1
def ZAz := opN Z5d 2
def ZM4 := opN Z5d 3
theorem ZPT : XG 10 253 ZHI Z5d [90, 91, 92] := Zb (by rfl) (by rfl) _
theorem ZlF : Z5d.toList = [ZIF, ZSb, ZAz, ZM4] := nf
theorem ZkM : stepA E C B 253 Z5d ZIF (φ, H) = stp (some 91) φ H (just (Z5 E.T 23 (fget φ 87) (fget φ 89))) := nf
theorem ZkR : stepA E C B 253 Z5d ZSb (φ, H) = stp (some 92) φ H (just (aLoad E.T 64 (fget φ 91))) := nf
theorem Zkx : stepA E C B 253 Z5d ZAz (φ, H) = stp (some 16) φ H (opBox (B + 16) (zeroCells E.T 64)) := nf
theorem ZkQ : stepA E C B 253 Z5d ZM4 (φ, H) = stp none φ H (opStore E.T 64 (fget φ 16) (fget φ 92)) := nf
def ZQL := kR ZqX
def Z01 := kO ZQL
def ZDT := opN Z01 0
def ZSC := opN Z01 1
def ZCZ := opN Z01 2
def ZGq := opN Z01 3
def ZCP := opN Z01 4
def ZN0 := opN Z01 5
def ZD8 := opN Z01 6
def ZS6 := opN Z01 7
def ZRd := opN Z01 8
def ZUR := opN Z01 9
def Zxv := opN Z01 10
def Zwz := opN Z01 11
def ZwP := opN Z01 12
def ZwZ := opN Z01 13
def Zy4 := opN Z01 14
def Zyf := opN Z01 15
def Zyw := opN Z01 16
theorem ZRt : XD 10 253 ZQL Z01 [16, 93, 94, 95, 96, 97, 98, 99, 100, 101, 102, 103, 104, 105, 106, 107, 108] := Z0Z (by rfl) (by rfl) _
theorem Zkd : Z01.toList = [ZDT, ZSC, ZCZ, ZGq, ZCP, ZN0, ZD8, ZS6, ZRd, ZUR, Zxv, Zwz, ZwP, ZwZ, Zy4, Zyf, Zyw] := nf
theorem Z0bO : statOk Z01 = true := by kernel_rfl
theorem ZgM : drawA E C B 253 Z01 s = if neat 253 s = true then drX Z01 (runT E C B 253 Z01 Z01.toList 0 s) else none := Z0J Z0bO s
theorem Zg0 (l : List (Nat × Tr)) : dynOk Z01 l = (!writing l || Zs [[], [], [1], [0, 1, 2], [0, 1, 2, 3], [], [], [6], [5, 6, 7], [5, 6, 7, 8], [0, 1, 2, 3, 4, 5, 6, 7, 8, 9], [0, 1, 2, 3, 4, 5, 6, 7, 8, 9, 10], [], [12], [0, 1, 2, 3, 4, 5, 6, 7, 8, 9, 10, 11, 12, 13], [0, 1, 2, 3, 4, 5, 6, 7, 8, 9, 10, 11, 12, 13, 14], [0, 1, 2, 3, 4, 5, 6, 7, 8, 9, 10, 11, 12, 13, 14, 15]] (Zq l)) := Z0t (by kernel_rfl) l
theorem ZlN : stepT E C B 253 Z01 ZDT (φ, H) = some ((fput φ 93 (fget φ 9), H), ⟨false, [], []⟩) := Z9 rfl (ZS rfl rfl)
theorem ZkZ : stepT E C B 253 Z01 ZSC (φ, H) = stpT (some 94) φ H (just (Z5 E.T 64 (fget φ 16) (.int .i64 0))) := Z9 rfl (Zj rfl rfl)
theorem Zk7 : stepT E C B 253 Z01 ZCZ (φ, H) = stpT (some 95) φ H (just (aLoad E.T 3 (fget φ 94))) := Z9 rfl (Zj rfl rfl)
theorem Zls : stepT E C B 253 Z01 ZGq (φ, H) = stpT (some 96) φ H (just (Z5 E.T 36 (fget φ 93) (fget φ 95))) := Z9 rfl (Zj rfl rfl)
theorem Zng : stepT E C B 253 Z01 ZCP (φ, H) = stpT (some 97) φ H (just (aLoad E.T 3 (fget φ 96))) := Z9 rfl (Zj rfl rfl)
theorem Zms : stepT E C B 253 Z01 ZN0 (φ, H) = some ((fput φ 98 (fget φ 9), H), ⟨false, [], []⟩) := Z9 rfl (ZS rfl rfl)
theorem Zm5 : stepT E C B 253 Z01 ZD8 (φ, H) = stpT (some 99) φ H (just (Z5 E.T 64 (fget φ 16) (.int .i64 1))) := Z9 rfl (Zj rfl rfl)
theorem Zkh : stepT E C B 253 Z01 ZS6 (φ, H) = stpT (some 100) φ H (just (aLoad E.T 3 (fget φ 99))) := Z9 rfl (Zj rfl rfl)
theorem Znd : stepT E C B 253 Z01 ZRd (φ, H) = stpT (some 101) φ H (just (Z5 E.T 36 (fget φ 98) (fget φ 100))) := Z9 rfl (Zj rfl rfl)
theorem Zjz : stepT E C B 253 Z01 ZUR (φ, H) = stpT (some 102) φ H (just (aLoad E.T 3 (fget φ 101))) := Z9 rfl (Zj rfl rfl)
theorem Zgn : stepT E C B 253 Z01 Zxv (φ, H) = stpT (some 103) φ H (justO (aBuild E.T 64 (evO E φ) [(0, Operand.tmp 97), (1, Operand.tmp 102)])) := Z9 rfl (Zj rfl rfl)
theorem ZgL : stepT E C B 253 Z01 Zwz (φ, H) = stpT (some 104) φ H (ZB E.T (B + 104) 23 1 (evO E φ) [(0, Operand.tmp 103)]) := Z9 rfl (Zj rfl rfl)
theorem ZfL : stepT E C B 253 Z01 ZwP (φ, H) = stpT (some 105) φ H (just (Ze E.T 25 (fget φ 12) 1)) := Z9 rfl (Zj rfl rfl)
theorem ZfW : stepT E C B 253 Z01 ZwZ (φ, H) = stpT (some 106) φ H (just (aLoad E.T 23 (fget φ 105))) := Z9 rfl (Zj rfl rfl)
theorem Zg3 : stepT E C B 253 Z01 Zy4 (φ, H) = stpT (some 107) φ H (Zh E.T (B + 107) .append #[23, 23] [(fget φ 104), (fget φ 106)]) := Z9 rfl (Zj rfl rfl)
theorem ZgW : stepT E C B 253 Z01 Zyf (φ, H) = stpT (some 108) φ H (just (Ze E.T 25 (fget φ 12) 1)) := Z9 rfl (Zj rfl rfl)
theorem Zgr : stepT E C B 253 Z01 Zyw (φ, H) = stpT none φ H (opStore E.T 23 (fget φ 108) (fget φ 107)) := Z9 rfl (Zj rfl rfl)
theorem ZS3 : XQ 10 253 ZqX ZHI ZQL := Z4 (by rfl) _
theorem ZEY : execA E C (fg 10) B 253 E0 N ZB4 s = blockX 7 (fun s => (forget s.1 [], s.2)) (execA E C (fg 10) B 253 E0 N ZqX s) := ZK (by rfl) (by rfl) s
def ZJq := kR ZoN
def Zd9 := kO ZJq
def ZDZ := opN Zd9 0
def ZMi := opN Zd9 1
theorem ZDo : XG 10 253 ZJq Zd9 [109] := Zb (by rfl) (by rfl) _
theorem Zlq : Zd9.toList = [ZDZ, ZMi] := nf
theorem ZjP : stepA E C B 253 Zd9 ZDZ (φ, H) = stp (some 109) φ H (just (aBin E.T .add 3 (fget φ 89) (.int .i64 1))) := nf
theorem ZjQ : stepA E C B 253 Zd9 ZMi (φ, H) = some (fput φ 89 (fget φ 109), H) := nf
theorem ZBF : XQ 10 253 ZoN ZB4 ZJq := Z4 (by rfl) _
theorem Zc2 : XQ 10 253 Zrt ZsA ZoN := Z4 (by rfl) _
theorem Zcr : XQ 10 253 Z9u ZNG Zrt := Z4 (by rfl) _
theorem ZP3 : execA E C (fg 10) B 253 E0 N ZQy s = iterA (execA E C (fg 10) B 253 E0 N Z9u) (headA E0) N s := Z0H (by rfl) s
theorem ZA4 : execA E C (fg 10) B 253 E0 N ZFY s = blockX 6 (fun s => (forget s.1 [87, 88, 89, 90], s.2)) (execA E C (fg 10) B 253 E0 N ZQy s) := ZK (by rfl) (by rfl) s
theorem ZOA : XQ 10 253 Zsy ZQT ZFY := Z4 (by rfl) _
def ZfI := kR Zoo
def ZPy := kL ZfI
def Z5g := kO ZPy
def ZLv := opN Z5g 0
def ZKA := opN Z5g 1
def ZK0 := opN Z5g 2
def ZGi := opN Z5g 3
theorem ZDO : XG 10 253 ZPy Z5g [2, 110, 111, 112] := Zb (by rfl) (by rfl) _
theorem Zl0 : Z5g.toList = [ZLv, ZKA, ZK0, ZGi] := nf
theorem ZmE : stepA E C B 253 Z5g ZLv (φ, H) = some (fput φ 110 (fget φ 2), H) := nf
theorem ZlH : stepA E C B 253 Z5g ZKA (φ, H) = stp (some 111) φ H (justO (aConv E.T 5 3 (fget φ 110))) := nf
theorem Zku : stepA E C B 253 Z5g ZK0 (φ, H) = stp (some 112) φ H (just (aBin E.T .rem 3 (fget φ 111) (.int .i64 55))) := nf
theorem Zjs : stepA E C B 253 Z5g ZGi (φ, H) = some (fput φ 17 (fget φ 112), H) := nf
def ZqV := kR ZfI
def ZO0 := kL ZqV
def Z22 := kO ZO0
def ZV1 := opN Z22 0
def ZDh := opN Z22 1
def ZNN := opN Z22 2
def ZM7 := opN Z22 3
def ZIk := opN Z22 4
def ZRf := opN Z22 5
def ZRK := opN Z22 6
theorem ZJl : XG 10 253 ZO0 Z22 [113, 114, 115, 116, 117] := Zb (by rfl) (by rfl) _
theorem ZmH : Z22.toList = [ZV1, ZDh, ZNN, ZM7, ZIk, ZRf, ZRK] := nf
theorem ZmB : stepA E C B 253 Z22 ZV1 (φ, H) = stp (some 114) φ H (just (aLoad E.T 25 (fget φ 7))) := nf
theorem Zmq : stepA E C B 253 Z22 ZDh (φ, H) = stp (some 115) φ H (aCall C (fun j => B + j * 253 + 115) true 61 [(fget φ 114)]) := nf
theorem Zmu : stepA E C B 253 Z22 ZNN (φ, H) = some (fput φ 113 (fget φ 115), H) := nf
theorem Zmn : stepA E C B 253 Z22 ZM7 (φ, H) = stp (some 116) φ H (Zy (fget φ 113) 0) := nf
theorem Zk9 : stepA E C B 253 Z22 ZIk (φ, H) = stp (some 117) φ H (Zy (fget φ 113) 1) := nf
theorem Zk3 : stepA E C B 253 Z22 ZRf (φ, H) = some (fput φ 18 (fget φ 116), H) := nf
theorem Zmr : stepA E C B 253 Z22 ZRK (φ, H) = some (fput φ 19 (fget φ 117), H) := nf
def Zs5 := kR ZqV
def ZPN := kL Zs5
def Z26 := kO ZPN
def ZGu := opN Z26 0
def ZTN := opN Z26 1
def ZNY := opN Z26 2
def ZR3 := opN Z26 3
def ZMd := opN Z26 4
def ZJT := opN Z26 5
def ZD2 := opN Z26 6
theorem ZQk : XG 10 253 ZPN Z26 [118, 119, 120, 121, 122] := Zb (by rfl) (by rfl) _
theorem ZlD : Z26.toList = [ZGu, ZTN, ZNY, ZR3, ZMd, ZJT, ZD2] := nf
theorem ZmK : stepA E C B 253 Z26 ZGu (φ, H) = stp (some 119) φ H (just (aLoad E.T 25 (fget φ 12))) := nf
theorem Zjv : stepA E C B 253 Z26 ZTN (φ, H) = stp (some 120) φ H (aCall C (fun j => B + j * 253 + 120) true 61 [(fget φ 119)]) := nf
theorem ZlL : stepA E C B 253 Z26 ZNY (φ, H) = some (fput φ 118 (fget φ 120), H) := nf
theorem ZkA : stepA E C B 253 Z26 ZR3 (φ, H) = stp (some 121) φ H (Zy (fget φ 118) 0) := nf
theorem ZjA : stepA E C B 253 Z26 ZMd (φ, H) = stp (some 122) φ H (Zy (fget φ 118) 1) := nf
theorem Zle : stepA E C B 253 Z26 ZJT (φ, H) = some (fput φ 20 (fget φ 121), H) := nf
theorem ZjD : stepA E C B 253 Z26 ZD2 (φ, H) = some (fput φ 21 (fget φ 122), H) := nf
def ZpY := kR Zs5
def Zox := kL ZpY
def ZJF := kL Zox
def Z0z := kO ZJF
def ZLV := opN Z0z 0
def ZEx := opN Z0z 1
def ZB2 := opN Z0z 2
def Za4 := opN Z0z 3
def ZNR := opN Z0z 4
def ZFV := opN Z0z 5
def ZSH := opN Z0z 6
def ZL5 := opN Z0z 7
def Zeg := opN Z0z 8
def ZDN := opN Z0z 9
def Zyn := opN Z0z 10
def ZxY := opN Z0z 11
theorem ZMY : XG 10 253 ZJF Z0z [18, 19, 20, 21, 123, 124, 125, 126, 127, 128, 129, 130, 131, 132, 133] := Zb (by rfl) (by rfl) _
theorem Zko : Z0z.toList = [ZLV, ZEx, ZB2, Za4, ZNR, ZFV, ZSH, ZL5, Zeg, ZDN, Zyn, ZxY] := nf
theorem ZkB : stepA E C B 253 Z0z ZLV (φ, H) = some (fput φ 123 (fget φ 18), H) := nf
theorem ZjS : stepA E C B 253 Z0z ZEx (φ, H) = some (fput φ 124 (fget φ 20), H) := nf
theorem Zkn : stepA E C B 253 Z0z ZB2 (φ, H) = stp (some 125) φ H (just (aBin E.T .neq 3 (fget φ 123) (fget φ 124))) := nf
theorem Zn2 : stepA E C B 253 Z0z Za4 (φ, H) = some (fput φ 126 (fget φ 125), H) := nf
theorem Zlx : stepA E C B 253 Z0z ZNR (φ, H) = gd φ 126 false (fun φ => some (fput φ 127 (.tup []), H)) (fun φ => some (fput φ 127 (fget φ 19), H)) := s_gd (j := 3) (oj := Za4) rfl rfl rfl (fun _ => rfl) (fun _ => rfl)
theorem ZlR : stepA E C B 253 Z0z ZFV (φ, H) = gd φ 126 false (fun φ => some (fput φ 128 (.tup []), H)) (fun φ => some (fput φ 128 (fget φ 21), H)) := s_gd (j := 3) (oj := Za4) rfl rfl rfl (fun _ => rfl) (fun _ => rfl)
theorem ZjN : stepA E C B 253 Z0z ZSH (φ, H) = gd φ 126 false (fun φ => some (fput φ 129 (.tup []), H)) (fun φ => stp (some 129) φ H (just (aBin E.T .neq 32 (fget φ 127) (fget φ 128)))) := s_gd (j := 3) (oj := Za4) rfl rfl rfl (fun _ => rfl) (fun _ => rfl)
theorem Zn0 : stepA E C B 253 Z0z ZL5 (φ, H) = stp (some 130) φ H (opPick (fget φ 126) (.bool true) (fget φ 129)) := nf
theorem ZlT : stepA E C B 253 Z0z Zeg (φ, H) = some (fput φ 131 (fget φ 130), H) := nf
theorem ZmS : stepA E C B 253 Z0z ZDN (φ, H) = gd φ 131 false (fun φ => some (fput φ 132 (.tup []), H)) (fun φ => some (fput φ 132 (fget φ 19), H)) := s_gd (j := 8) (oj := Zeg) rfl rfl rfl (fun _ => rfl) (fun _ => rfl)
theorem Zg6 : stepA E C B 253 Z0z Zyn (φ, H) = gd φ 131 false (fun φ => some (fput φ 133 (.tup []), H)) (fun φ => stp (some 133) φ H (just (aBin E.T .neq 32 (fget φ 132) (.int .i64 0)))) := s_gd (j := 8) (oj := Zeg) rfl rfl rfl (fun _ => rfl) (fun _ => rfl)
theorem Zgi : stepA E C B 253 Z0z ZxY (φ, H) = stp (some 134) φ H (opPick (fget φ 131) (.bool true) (fget φ 133)) := nf
def ZnJ := kR Zox
def ZnN := kT ZnJ
def ZIC := kL ZnN
def Zsw := kO ZIC
def ZAM := opN Zsw 0
theorem ZPd : XG 10 253 ZIC Zsw [7, 8, 9, 12, 17, 134] := Zb (by rfl) (by rfl) _
theorem Zm3 : Zsw.toList = [ZAM] := nf
theorem ZkO : stepA E C B 253 Zsw ZAM (φ, H) = some (fput φ 6 (.bool false), H) := nf
def Z0bL := kR ZnN
theorem ZGn : execA E C (fg 10) B 253 E0 N Z0bL s = some (.ret, s) := Z06 (by rfl) s
theorem ZEs : XQ 10 253 ZnN ZIC Z0bL := Z4 (by rfl) _
def Z08Y := kE ZnJ
theorem ZU0 : execA E C (fg 10) B 253 E0 N Z08Y s = some (.normal, s) := ZV (by rfl) s
theorem ZKD : XC 10 253 ZnJ 134 ZnN Z08Y := ZN (by rfl) _
theorem ZCI : XQ 10 253 Zox ZJF ZnJ := Z4 (by rfl) _
def Zs7 := kR ZpY
def ZTI := kL Zs7
def Z2a := kO ZTI
def ZFQ := opN Z2a 0
def ZTs := opN Z2a 1
def ZGl := opN Z2a 2
def ZEX := opN Z2a 3
def ZHH := opN Z2a 4
def ZJd := opN Z2a 5
def ZTT := opN Z2a 6
theorem ZD7 : XG 10 253 ZTI Z2a [134, 135, 136, 137, 138, 139] := Zb (by rfl) (by rfl) _
theorem Zjx : Z2a.toList = [ZFQ, ZTs, ZGl, ZEX, ZHH, ZJd, ZTT] := nf
theorem ZmT : stepA E C B 253 Z2a ZFQ (φ, H) = stp (some 136) φ H (just (aLoad E.T 25 (fget φ 7))) := nf
theorem ZlA : stepA E C B 253 Z2a ZTs (φ, H) = stp (some 137) φ H (aCall C (fun j => B + j * 253 + 137) true 19 [(fget φ 136)]) := nf
theorem Zjt : stepA E C B 253 Z2a ZGl (φ, H) = some (fput φ 135 (fget φ 137), H) := nf
theorem ZmI : stepA E C B 253 Z2a ZEX (φ, H) = stp (some 138) φ H (Zy (fget φ 135) 0) := nf
theorem ZmU : stepA E C B 253 Z2a ZHH (φ, H) = stp (some 139) φ H (Zy (fget φ 135) 1) := nf
theorem ZmL : stepA E C B 253 Z2a ZJd (φ, H) = some (fput φ 18 (fget φ 138), H) := nf
theorem Zm9 : stepA E C B 253 Z2a ZTT (φ, H) = some (fput φ 19 (fget φ 139), H) := nf
def Zqs := kR Zs7
def ZNz := kL Zqs
def Z27 := kO ZNz
def ZTy := opN Z27 0
def ZMO := opN Z27 1
def ZGQ := opN Z27 2
def ZKQ := opN Z27 3
def ZUT := opN Z27 4
def ZCt := opN Z27 5
def ZFT := opN Z27 6
theorem ZQ5 : XG 10 253 ZNz Z27 [140, 141, 142, 143, 144] := Zb (by rfl) (by rfl) _
theorem ZjR : Z27.toList = [ZTy, ZMO, ZGQ, ZKQ, ZUT, ZCt, ZFT] := nf
theorem ZmC : stepA E C B 253 Z27 ZTy (φ, H) = stp (some 141) φ H (just (aLoad E.T 25 (fget φ 12))) := nf
theorem Zkz : stepA E C B 253 Z27 ZMO (φ, H) = stp (some 142) φ H (aCall C (fun j => B + j * 253 + 142) true 19 [(fget φ 141)]) := nf
theorem ZlM : stepA E C B 253 Z27 ZGQ (φ, H) = some (fput φ 140 (fget φ 142), H) := nf
theorem Zmm : stepA E C B 253 Z27 ZKQ (φ, H) = stp (some 143) φ H (Zy (fget φ 140) 0) := nf
theorem Zml : stepA E C B 253 Z27 ZUT (φ, H) = stp (some 144) φ H (Zy (fget φ 140) 1) := nf
theorem ZlS : stepA E C B 253 Z27 ZCt (φ, H) = some (fput φ 20 (fget φ 143), H) := nf
theorem Zkb : stepA E C B 253 Z27 ZFT (φ, H) = some (fput φ 21 (fget φ 144), H) := nf
def ZnK := kR Zqs
def Zos := kL ZnK
def Zwt := kL Zos
def Z0A := kO Zwt
def ZQ0 := opN Z0A 0
def ZOm := opN Z0A 1
def ZH6 := opN Z0A 2
def Za7 := opN Z0A 3
def ZQ9 := opN Z0A 4
def ZGs := opN Z0A 5
def ZON := opN Z0A 6
def ZT7 := opN Z0A 7
def Zfj := opN Z0A 8
def ZDr := opN Z0A 9
def Zxr := opN Z0A 10
def ZxN := opN Z0A 11
theorem Zuo : XG 10 253 Zwt Z0A [18, 19, 20, 21, 145, 146, 147, 148, 149, 150, 151, 152, 153, 154, 155] := Zb (by rfl) (by rfl) _
theorem Zmt : Z0A.toList = [ZQ0, ZOm, ZH6, Za7, ZQ9, ZGs, ZON, ZT7, Zfj, ZDr, Zxr, ZxN] := nf
theorem Zna : stepA E C B 253 Z0A ZQ0 (φ, H) = some (fput φ 145 (fget φ 18), H) := nf
theorem Zlh : stepA E C B 253 Z0A ZOm (φ, H) = some (fput φ 146 (fget φ 20), H) := nf
theorem Zjy : stepA E C B 253 Z0A ZH6 (φ, H) = stp (some 147) φ H (just (aBin E.T .neq 3 (fget φ 145) (fget φ 146))) := nf
theorem Zn9 : stepA E C B 253 Z0A Za7 (φ, H) = some (fput φ 148 (fget φ 147), H) := nf
theorem Zke : stepA E C B 253 Z0A ZQ9 (φ, H) = gd φ 148 false (fun φ => some (fput φ 149 (.tup []), H)) (fun φ => some (fput φ 149 (fget φ 19), H)) := s_gd (j := 3) (oj := Za7) rfl rfl rfl (fun _ => rfl) (fun _ => rfl)
theorem ZlQ : stepA E C B 253 Z0A ZGs (φ, H) = gd φ 148 false (fun φ => some (fput φ 150 (.tup []), H)) (fun φ => some (fput φ 150 (fget φ 21), H)) := s_gd (j := 3) (oj := Za7) rfl rfl rfl (fun _ => rfl) (fun _ => rfl)
theorem ZmX : stepA E C B 253 Z0A ZON (φ, H) = gd φ 148 false (fun φ => some (fput φ 151 (.tup []), H)) (fun φ => stp (some 151) φ H (just (aBin E.T .neq 32 (fget φ 149) (fget φ 150)))) := s_gd (j := 3) (oj := Za7) rfl rfl rfl (fun _ => rfl) (fun _ => rfl)
theorem Zkk : stepA E C B 253 Z0A ZT7 (φ, H) = stp (some 152) φ H (opPick (fget φ 148) (.bool true) (fget φ 151)) := nf
theorem ZlX : stepA E C B 253 Z0A Zfj (φ, H) = some (fput φ 153 (fget φ 152), H) := nf
theorem Zkr : stepA E C B 253 Z0A ZDr (φ, H) = gd φ 153 false (fun φ => some (fput φ 154 (.tup []), H)) (fun φ => some (fput φ 154 (fget φ 19), H)) := s_gd (j := 8) (oj := Zfj) rfl rfl rfl (fun _ => rfl) (fun _ => rfl)
theorem Zg7 : stepA E C B 253 Z0A Zxr (φ, H) = gd φ 153 false (fun φ => some (fput φ 155 (.tup []), H)) (fun φ => stp (some 155) φ H (just (aBin E.T .neq 32 (fget φ 154) (.int .i64 0)))) := s_gd (j := 8) (oj := Zfj) rfl rfl rfl (fun _ => rfl) (fun _ => rfl)
theorem ZgG : stepA E C B 253 Z0A ZxN (φ, H) = stp (some 156) φ H (opPick (fget φ 153) (.bool true) (fget φ 155)) := nf
def Ziz := kR Zos
def Zi3 := kT Ziz
def Zuj := kL Zi3
def Zsg := kO Zuj
def ZTe := opN Zsg 0
theorem Zv5 : XG 10 253 Zuj Zsg [7, 8, 9, 12, 17, 156] := Zb (by rfl) (by rfl) _
theorem Zmo : Zsg.toList = [ZTe] := nf
theorem Zm1 : stepA E C B 253 Zsg ZTe (φ, H) = some (fput φ 6 (.bool false), H) := nf
def Z00N := kR Zi3
theorem ZuS : execA E C (fg 10) B 253 E0 N Z00N s = some (.ret, s) := Z06 (by rfl) s
theorem Zt0 : XQ 10 253 Zi3 Zuj Z00N := Z4 (by rfl) _
def Z03J := kE Ziz
theorem ZuK : execA E C (fg 10) B 253 E0 N Z03J s = some (.normal, s) := ZV (by rfl) s
theorem Zui : XC 10 253 Ziz 156 Zi3 Z03J := ZN (by rfl) _
theorem ZL4 : XQ 10 253 Zos Zwt Ziz := Z4 (by rfl) _
def Zhg := kR ZnK
def ZtG := kL Zhg
def Z23 := kO ZtG
def ZGU := opN Z23 0
def ZHz := opN Z23 1
def ZMf := opN Z23 2
def ZKP := opN Z23 3
def ZCW := opN Z23 4
def ZCS := opN Z23 5
def ZBq := opN Z23 6
theorem Zvx : XG 10 253 ZtG Z23 [156, 157, 158, 159, 160, 161] := Zb (by rfl) (by rfl) _
theorem ZlU : Z23.toList = [ZGU, ZHz, ZMf, ZKP, ZCW, ZCS, ZBq] := nf
theorem ZkK : stepA E C B 253 Z23 ZGU (φ, H) = stp (some 158) φ H (just (aLoad E.T 25 (fget φ 7))) := nf
theorem Zkw : stepA E C B 253 Z23 ZHz (φ, H) = stp (some 159) φ H (aCall C (fun j => B + j * 253 + 159) true 24 [(fget φ 158)]) := nf
theorem ZlC : stepA E C B 253 Z23 ZMf (φ, H) = some (fput φ 157 (fget φ 159), H) := nf
theorem ZkE : stepA E C B 253 Z23 ZKP (φ, H) = stp (some 160) φ H (Zy (fget φ 157) 0) := nf
theorem ZlB : stepA E C B 253 Z23 ZCW (φ, H) = stp (some 161) φ H (Zy (fget φ 157) 1) := nf
theorem Zl4 : stepA E C B 253 Z23 ZCS (φ, H) = some (fput φ 18 (fget φ 160), H) := nf
theorem ZmM : stepA E C B 253 Z23 ZBq (φ, H) = some (fput φ 19 (fget φ 161), H) := nf
def ZiE := kR Zhg
def Zuh := kL ZiE
def Z25 := kO Zuh
def ZCw := opN Z25 0
def ZSL := opN Z25 1
def ZHe := opN Z25 2
def ZSG := opN Z25 3
def ZB9 := opN Z25 4
def ZTn := opN Z25 5
def ZLl := opN Z25 6
theorem ZuJ : XG 10 253 Zuh Z25 [162, 163, 164, 165, 166] := Zb (by rfl) (by rfl) _
theorem ZkW : Z25.toList = [ZCw, ZSL, ZHe, ZSG, ZB9, ZTn, ZLl] := nf
theorem Zmp : stepA E C B 253 Z25 ZCw (φ, H) = stp (some 163) φ H (just (aLoad E.T 25 (fget φ 12))) := nf
theorem Zkf : stepA E C B 253 Z25 ZSL (φ, H) = stp (some 164) φ H (aCall C (fun j => B + j * 253 + 164) true 24 [(fget φ 163)]) := nf
theorem Zl7 : stepA E C B 253 Z25 ZHe (φ, H) = some (fput φ 162 (fget φ 164), H) := nf
theorem ZmD : stepA E C B 253 Z25 ZSG (φ, H) = stp (some 165) φ H (Zy (fget φ 162) 0) := nf
theorem Zlj : stepA E C B 253 Z25 ZB9 (φ, H) = stp (some 166) φ H (Zy (fget φ 162) 1) := nf
theorem Zkl : stepA E C B 253 Z25 ZTn (φ, H) = some (fput φ 20 (fget φ 165), H) := nf
theorem ZkP : stepA E C B 253 Z25 ZLl (φ, H) = some (fput φ 21 (fget φ 166), H) := nf
def ZhF := kR ZiE
def ZhH := kL ZhF
def Zwv := kL ZhH
def Z0B := kO Zwv
def ZLj := opN Z0B 0
def ZBx := opN Z0B 1
def ZG3 := opN Z0B 2
def Zaj := opN Z0B 3
def ZG1 := opN Z0B 4
def ZKV := opN Z0B 5
def ZDV := opN Z0B 6
def ZSY := opN Z0B 7
def Zfc := opN Z0B 8
def ZO5 := opN Z0B 9
def ZxI := opN Z0B 10
def Zxc := opN Z0B 11
theorem Zv9 : XG 10 253 Zwv Z0B [18, 19, 20, 21, 167, 168, 169, 170, 171, 172, 173, 174, 175, 176, 177] := Zb (by rfl) (by rfl) _
theorem ZkY : Z0B.toList = [ZLj, ZBx, ZG3, Zaj, ZG1, ZKV, ZDV, ZSY, Zfc, ZO5, ZxI, Zxc] := nf
theorem ZlP : stepA E C B 253 Z0B ZLj (φ, H) = some (fput φ 167 (fget φ 18), H) := nf
theorem Zmh : stepA E C B 253 Z0B ZBx (φ, H) = some (fput φ 168 (fget φ 20), H) := nf
theorem Znc : stepA E C B 253 Z0B ZG3 (φ, H) = stp (some 169) φ H (just (aBin E.T .neq 3 (fget φ 167) (fget φ 168))) := nf
theorem Zkc : stepA E C B 253 Z0B Zaj (φ, H) = some (fput φ 170 (fget φ 169), H) := nf
theorem ZlI : stepA E C B 253 Z0B ZG1 (φ, H) = gd φ 170 false (fun φ => some (fput φ 171 (.tup []), H)) (fun φ => some (fput φ 171 (fget φ 19), H)) := s_gd (j := 3) (oj := Zaj) rfl rfl rfl (fun _ => rfl) (fun _ => rfl)
theorem Zm6 : stepA E C B 253 Z0B ZKV (φ, H) = gd φ 170 false (fun φ => some (fput φ 172 (.tup []), H)) (fun φ => some (fput φ 172 (fget φ 21), H)) := s_gd (j := 3) (oj := Zaj) rfl rfl rfl (fun _ => rfl) (fun _ => rfl)
theorem Zmi : stepA E C B 253 Z0B ZDV (φ, H) = gd φ 170 false (fun φ => some (fput φ 173 (.tup []), H)) (fun φ => stp (some 173) φ H (just (aBin E.T .neq 32 (fget φ 171) (fget φ 172)))) := s_gd (j := 3) (oj := Zaj) rfl rfl rfl (fun _ => rfl) (fun _ => rfl)
theorem ZjH : stepA E C B 253 Z0B ZSY (φ, H) = stp (some 174) φ H (opPick (fget φ 170) (.bool true) (fget φ 173)) := nf
theorem ZmP : stepA E C B 253 Z0B Zfc (φ, H) = some (fput φ 175 (fget φ 174), H) := nf
theorem Zlu : stepA E C B 253 Z0B ZO5 (φ, H) = gd φ 175 false (fun φ => some (fput φ 176 (.tup []), H)) (fun φ => some (fput φ 176 (fget φ 19), H)) := s_gd (j := 8) (oj := Zfc) rfl rfl rfl (fun _ => rfl) (fun _ => rfl)
theorem Zh1 : stepA E C B 253 Z0B ZxI (φ, H) = gd φ 175 false (fun φ => some (fput φ 177 (.tup []), H)) (fun φ => stp (some 177) φ H (just (aBin E.T .neq 32 (fget φ 176) (.int .i64 0)))) := s_gd (j := 8) (oj := Zfc) rfl rfl rfl (fun _ => rfl) (fun _ => rfl)
theorem ZfC : stepA E C B 253 Z0B Zxc (φ, H) = stp (some 178) φ H (opPick (fget φ 175) (.bool true) (fget φ 177)) := nf
def ZhQ := kR ZhH
def ZiZ := kT ZhQ
def ZvC := kL ZiZ
def Zs6 := kO ZvC
def ZSq := opN Zs6 0
theorem Zua : XG 10 253 ZvC Zs6 [7, 8, 9, 12, 17, 178] := Zb (by rfl) (by rfl) _
theorem ZlY : Zs6.toList = [ZSq] := nf
theorem Zmw : stepA E C B 253 Zs6 ZSq (φ, H) = some (fput φ 6 (.bool false), H) := nf
def Z02o := kR ZiZ
theorem ZtB : execA E C (fg 10) B 253 E0 N Z02o s = some (.ret, s) := Z06 (by rfl) s
theorem Zvg : XQ 10 253 ZiZ ZvC Z02o := Z4 (by rfl) _
def Z01t := kE ZhQ
theorem Zu9 : execA E C (fg 10) B 253 E0 N Z01t s = some (.normal, s) := ZV (by rfl) s
theorem ZtF : XC 10 253 ZhQ 178 ZiZ Z01t := ZN (by rfl) _
theorem Zvw : XQ 10 253 ZhH Zwv ZhQ := Z4 (by rfl) _
def ZiJ := kR ZhF
def Zt2 := kL ZiJ
def Z1f := kO Zt2
def ZJD := opN Z1f 0
def ZIm := opN Z1f 1
def ZHy := opN Z1f 2
def ZGP := opN Z1f 3
def ZCs := opN Z1f 4
def ZKL := opN Z1f 5
def ZRi := opN Z1f 6
def ZGX := opN Z1f 7
theorem Zwm : XG 10 253 Zt2 Z1f [178, 179, 180, 181, 182, 183, 184] := Zb (by rfl) (by rfl) _
theorem Zmk : Z1f.toList = [ZJD, ZIm, ZHy, ZGP, ZCs, ZKL, ZRi, ZGX] := nf
theorem ZkN : stepA E C B 253 Z1f ZJD (φ, H) = stp (some 180) φ H (just (aLoad E.T 25 (fget φ 7))) := nf
theorem ZjI : stepA E C B 253 Z1f ZIm (φ, H) = some (fput φ 181 (fget φ 17), H) := nf
theorem Zk8 : stepA E C B 253 Z1f ZHy (φ, H) = stp (some 182) φ H (aCall C (fun j => B + j * 253 + 182) true 36 [(fget φ 180), (fget φ 181)]) := nf
theorem Zlo : stepA E C B 253 Z1f ZGP (φ, H) = some (fput φ 179 (fget φ 182), H) := nf
theorem ZkT : stepA E C B 253 Z1f ZCs (φ, H) = stp (some 183) φ H (Zy (fget φ 179) 0) := nf
theorem Zkq : stepA E C B 253 Z1f ZKL (φ, H) = stp (some 184) φ H (Zy (fget φ 179) 1) := nf
theorem Zme : stepA E C B 253 Z1f ZRi (φ, H) = some (fput φ 18 (fget φ 183), H) := nf
theorem ZkS : stepA E C B 253 Z1f ZGX (φ, H) = some (fput φ 19 (fget φ 184), H) := nf
def Zih := kR ZiJ
def Ztu := kL Zih
def Z1c := kO Ztu
def ZKs := opN Z1c 0
def ZFJ := opN Z1c 1
def ZAW := opN Z1c 2
def ZHa := opN Z1c 3
def ZEH := opN Z1c 4
def ZCG := opN Z1c 5
def ZEw := opN Z1c 6
def ZIA := opN Z1c 7
theorem Zu8 : XG 10 253 Ztu Z1c [185, 186, 187, 188, 189, 190] := Zb (by rfl) (by rfl) _
theorem ZkV : Z1c.toList = [ZKs, ZFJ, ZAW, ZHa, ZEH, ZCG, ZEw, ZIA] := nf
theorem Zne : stepA E C B 253 Z1c ZKs (φ, H) = stp (some 186) φ H (just (aLoad E.T 25 (fget φ 12))) := nf
theorem ZjC : stepA E C B 253 Z1c ZFJ (φ, H) = some (fput φ 187 (fget φ 17), H) := nf
theorem Zmj : stepA E C B 253 Z1c ZAW (φ, H) = stp (some 188) φ H (aCall C (fun j => B + j * 253 + 188) true 36 [(fget φ 186), (fget φ 187)]) := nf
theorem Zk1 : stepA E C B 253 Z1c ZHa (φ, H) = some (fput φ 185 (fget φ 188), H) := nf
theorem Zky : stepA E C B 253 Z1c ZEH (φ, H) = stp (some 189) φ H (Zy (fget φ 185) 0) := nf
theorem Zlk : stepA E C B 253 Z1c ZCG (φ, H) = stp (some 190) φ H (Zy (fget φ 185) 1) := nf
theorem Zmd : stepA E C B 253 Z1c ZEw (φ, H) = some (fput φ 20 (fget φ 189), H) := nf
theorem Zk2 : stepA E C B 253 Z1c ZIA (φ, H) = some (fput φ 21 (fget φ 190), H) := nf
def Zi4 := kR Zih
def ZuX := kL Zi4
def Z1h := kO ZuX
def ZUu := opN Z1h 0
def ZJ1 := opN Z1h 1
def ZFc := opN Z1h 2
def ZKo := opN Z1h 3
def ZM0 := opN Z1h 4
def ZE6 := opN Z1h 5
def ZOK := opN Z1h 6
def ZEC := opN Z1h 7
theorem ZvD : XG 10 253 ZuX Z1h [7, 191, 192, 193, 194, 195, 196] := Zb (by rfl) (by rfl) _
theorem ZmA : Z1h.toList = [ZUu, ZJ1, ZFc, ZKo, ZM0, ZE6, ZOK, ZEC] := nf
theorem Zmb : stepA E C B 253 Z1h ZUu (φ, H) = stp (some 192) φ H (just (aLoad E.T 25 (fget φ 7))) := nf
theorem Zki : stepA E C B 253 Z1h ZJ1 (φ, H) = some (fput φ 193 (fget φ 17), H) := nf
theorem Zly : stepA E C B 253 Z1h ZFc (φ, H) = stp (some 194) φ H (aCall C (fun j => B + j * 253 + 194) true 38 [(fget φ 192), (fget φ 193)]) := nf
theorem Zn1 : stepA E C B 253 Z1h ZKo (φ, H) = some (fput φ 191 (fget φ 194), H) := nf
theorem ZjY : stepA E C B 253 Z1h ZM0 (φ, H) = stp (some 195) φ H (Zy (fget φ 191) 0) := nf
theorem Zlp : stepA E C B 253 Z1h ZE6 (φ, H) = stp (some 196) φ H (Zy (fget φ 191) 1) := nf
theorem Zm2 : stepA E C B 253 Z1h ZOK (φ, H) = some (fput φ 22 (fget φ 195), H) := nf
theorem ZkC : stepA E C B 253 Z1h ZEC (φ, H) = some (fput φ 23 (fget φ 196), H) := nf
def ZiU := kR Zi4
def Zwj := kL ZiU
def Z1g := kO Zwj
def ZUw := opN Z1g 0
def ZKc := opN Z1g 1
def ZIx := opN Z1g 2
def ZAP := opN Z1g 3
def ZB1 := opN Z1g 4
def ZMw := opN Z1g 5
def ZNo := opN Z1g 6
def ZKG := opN Z1g 7
theorem Zwc : XG 10 253 Zwj Z1g [12, 17, 197, 198, 199, 200, 201, 202] := Zb (by rfl) (by rfl) _
theorem Zlv : Z1g.toList = [ZUw, ZKc, ZIx, ZAP, ZB1, ZMw, ZNo, ZKG] := nf
theorem Zn4 : stepA E C B 253 Z1g ZUw (φ, H) = stp (some 198) φ H (just (aLoad E.T 25 (fget φ 12))) := nf
theorem Zk5 : stepA E C B 253 Z1g ZKc (φ, H) = some (fput φ 199 (fget φ 17), H) := nf
theorem Zlw : stepA E C B 253 Z1g ZIx (φ, H) = stp (some 200) φ H (aCall C (fun j => B + j * 253 + 200) true 38 [(fget φ 198), (fget φ 199)]) := nf
theorem ZkI : stepA E C B 253 Z1g ZAP (φ, H) = some (fput φ 197 (fget φ 200), H) := nf
theorem ZkF : stepA E C B 253 Z1g ZB1 (φ, H) = stp (some 201) φ H (Zy (fget φ 197) 0) := nf
theorem ZjG : stepA E C B 253 Z1g ZMw (φ, H) = stp (some 202) φ H (Zy (fget φ 197) 1) := nf
theorem ZmO : stepA E C B 253 Z1g ZNo (φ, H) = some (fput φ 24 (fget φ 201), H) := nf
theorem Zm7 : stepA E C B 253 Z1g ZKG (φ, H) = some (fput φ 25 (fget φ 202), H) := nf
def ZhZ := kR ZiU
def Zis := kL ZhZ
def Zvd := kL Zis
def ZG := kO Zvd
def ZRh := opN ZG 0
def ZPl := opN ZG 1
def ZCx := opN ZG 2
def Za6 := opN ZG 3
def ZLk := opN ZG 4
def ZFR := opN ZG 5
def ZH3 := opN ZG 6
def ZKT := opN ZG 7
def Zf4 := opN ZG 8
def ZHu := opN ZG 9
def Zxa := opN ZG 10
def ZxE := opN ZG 11
def ZbC := opN ZG 12
def ZwA := opN ZG 13
def Zyi := opN ZG 14
def ZxG := opN ZG 15
def Zb4 := opN ZG 16
def Zyp := opN ZG 17
def ZwY := opN ZG 18
def ZxK := opN ZG 19
def Z5y := opN ZG 20
def Zxb := opN ZG 21
def Zyd := opN ZG 22
def ZwI := opN ZG 23
def ZwR := opN ZG 24
def Zyb := opN ZG 25
def Z5I := opN ZG 26
def Zxz := opN ZG 27
def ZwO := opN ZG 28
def Zxo := opN ZG 29
def ZxR := opN ZG 30
def Zys := opN ZG 31
theorem ZvK : XG 10 253 Zvd ZG [8, 18, 19, 20, 21, 23, 25, 203, 204, 205, 206, 207, 208, 209, 210, 211, 212, 213, 214, 215, 216, 217, 218, 219, 220, 221, 222, 223, 224, 225, 226, 227, 228, 229, 230, 231, 232, 233] := Zb (by rfl) (by rfl) _
theorem Zma : ZG.toList = [ZRh, ZPl, ZCx, Za6, ZLk, ZFR, ZH3, ZKT, Zf4, ZHu, Zxa, ZxE, ZbC, ZwA, Zyi, ZxG, Zb4, Zyp, ZwY, ZxK, Z5y, Zxb, Zyd, ZwI, ZwR, Zyb, Z5I, Zxz, ZwO, Zxo, ZxR, Zys] := nf
theorem ZkJ : stepA E C B 253 ZG ZRh (φ, H) = some (fput φ 203 (fget φ 18), H) := nf
theorem Zkp : stepA E C B 253 ZG ZPl (φ, H) = some (fput φ 204 (fget φ 20), H) := nf
theorem ZmZ : stepA E C B 253 ZG ZCx (φ, H) = stp (some 205) φ H (just (aBin E.T .neq 3 (fget φ 203) (fget φ 204))) := nf
theorem Zl5 : stepA E C B 253 ZG Za6 (φ, H) = some (fput φ 206 (fget φ 205), H) := nf
theorem Zlz : stepA E C B 253 ZG ZLk (φ, H) = gd φ 206 false (fun φ => some (fput φ 207 (.tup []), H)) (fun φ => some (fput φ 207 (fget φ 19), H)) := s_gd (j := 3) (oj := Za6) rfl rfl rfl (fun _ => rfl) (fun _ => rfl)
theorem Zm8 : stepA E C B 253 ZG ZFR (φ, H) = gd φ 206 false (fun φ => some (fput φ 208 (.tup []), H)) (fun φ => some (fput φ 208 (fget φ 21), H)) := s_gd (j := 3) (oj := Za6) rfl rfl rfl (fun _ => rfl) (fun _ => rfl)
theorem Zlm : stepA E C B 253 ZG ZH3 (φ, H) = gd φ 206 false (fun φ => some (fput φ 209 (.tup []), H)) (fun φ => stp (some 209) φ H (just (aBin E.T .neq 32 (fget φ 207) (fget φ 208)))) := s_gd (j := 3) (oj := Za6) rfl rfl rfl (fun _ => rfl) (fun _ => rfl)
theorem Zkj : stepA E C B 253 ZG ZKT (φ, H) = stp (some 210) φ H (opPick (fget φ 206) (.bool true) (fget φ 209)) := nf
theorem ZlE : stepA E C B 253 ZG Zf4 (φ, H) = some (fput φ 211 (fget φ 210), H) := nf
theorem ZkD : stepA E C B 253 ZG ZHu (φ, H) = gd φ 211 false (fun φ => some (fput φ 212 (.tup []), H)) (fun φ => some (fput φ 212 (fget φ 19), H)) := s_gd (j := 8) (oj := Zf4) rfl rfl rfl (fun _ => rfl) (fun _ => rfl)
theorem Zgs : stepA E C B 253 ZG Zxa (φ, H) = gd φ 211 false (fun φ => some (fput φ 213 (.tup []), H)) (fun φ => stp (some 213) φ H (just (aBin E.T .neq 32 (fget φ 212) (.int .i64 0)))) := s_gd (j := 8) (oj := Zf4) rfl rfl rfl (fun _ => rfl) (fun _ => rfl)
theorem ZfD : stepA E C B 253 ZG ZxE (φ, H) = stp (some 214) φ H (opPick (fget φ 211) (.bool true) (fget φ 213)) := nf
theorem Zh4 : stepA E C B 253 ZG ZbC (φ, H) = some (fput φ 215 (fget φ 214), H) := nf
theorem ZfR : stepA E C B 253 ZG ZwA (φ, H) = gd φ 215 false (fun φ => some (fput φ 216 (.tup []), H)) (fun φ => some (fput φ 216 (fget φ 23), H)) := s_gd (j := 12) (oj := ZbC) rfl rfl rfl (fun _ => rfl) (fun _ => rfl)
theorem ZgK : stepA E C B 253 ZG Zyi (φ, H) = gd φ 215 false (fun φ => some (fput φ 217 (.tup []), H)) (fun φ => stp (some 217) φ H (just (aBin E.T .neq 32 (fget φ 216) (.int .i64 0)))) := s_gd (j := 12) (oj := ZbC) rfl rfl rfl (fun _ => rfl) (fun _ => rfl)
theorem Zgq : stepA E C B 253 ZG ZxG (φ, H) = stp (some 218) φ H (opPick (fget φ 215) (.bool true) (fget φ 217)) := nf
theorem Zgg : stepA E C B 253 ZG Zb4 (φ, H) = some (fput φ 219 (fget φ 218), H) := nf
theorem ZgC : stepA E C B 253 ZG Zyp (φ, H) = gd φ 219 false (fun φ => some (fput φ 220 (.tup []), H)) (fun φ => some (fput φ 220 (fget φ 25), H)) := s_gd (j := 16) (oj := Zb4) rfl rfl rfl (fun _ => rfl) (fun _ => rfl)
theorem ZfY : stepA E C B 253 ZG ZwY (φ, H) = gd φ 219 false (fun φ => some (fput φ 221 (.tup []), H)) (fun φ => stp (some 221) φ H (just (aBin E.T .neq 32 (fget φ 220) (.int .i64 0)))) := s_gd (j := 16) (oj := Zb4) rfl rfl rfl (fun _ => rfl) (fun _ => rfl)
theorem ZgH : stepA E C B 253 ZG ZxK (φ, H) = stp (some 222) φ H (opPick (fget φ 219) (.bool true) (fget φ 221)) := nf
theorem Zh0 : stepA E C B 253 ZG Z5y (φ, H) = some (fput φ 223 (fget φ 222), H) := nf
theorem Zgb : stepA E C B 253 ZG Zxb (φ, H) = gd φ 223 false (fun φ => some (fput φ 224 (.tup []), H)) (fun φ => some (fput φ 224 (fget φ 22), H)) := s_gd (j := 20) (oj := Z5y) rfl rfl rfl (fun _ => rfl) (fun _ => rfl)
theorem ZgR : stepA E C B 253 ZG Zyd (φ, H) = gd φ 223 false (fun φ => some (fput φ 225 (.tup []), H)) (fun φ => stp (some 225) φ H (Zh E.T (B + 225) .len #[36] [(fget φ 224)])) := s_gd (j := 20) (oj := Z5y) rfl rfl rfl (fun _ => rfl) (fun _ => rfl)
theorem ZgX : stepA E C B 253 ZG ZwI (φ, H) = gd φ 223 false (fun φ => some (fput φ 226 (.tup []), H)) (fun φ => some (fput φ 226 (fget φ 8), H)) := s_gd (j := 20) (oj := Z5y) rfl rfl rfl (fun _ => rfl) (fun _ => rfl)
theorem Zgu : stepA E C B 253 ZG ZwR (φ, H) = gd φ 223 false (fun φ => some (fput φ 227 (.tup []), H)) (fun φ => stp (some 227) φ H (just (aBin E.T .neq 3 (fget φ 225) (fget φ 226)))) := s_gd (j := 20) (oj := Z5y) rfl rfl rfl (fun _ => rfl) (fun _ => rfl)
theorem Zgh : stepA E C B 253 ZG Zyb (φ, H) = stp (some 228) φ H (opPick (fget φ 223) (.bool true) (fget φ 227)) := nf
theorem ZgJ : stepA E C B 253 ZG Z5I (φ, H) = some (fput φ 229 (fget φ 228), H) := nf
theorem Zgt : stepA E C B 253 ZG Zxz (φ, H) = gd φ 229 false (fun φ => some (fput φ 230 (.tup []), H)) (fun φ => some (fput φ 230 (fget φ 24), H)) := s_gd (j := 26) (oj := Z5I) rfl rfl rfl (fun _ => rfl) (fun _ => rfl)
theorem ZfK : stepA E C B 253 ZG ZwO (φ, H) = gd φ 229 false (fun φ => some (fput φ 231 (.tup []), H)) (fun φ => stp (some 231) φ H (Zh E.T (B + 231) .len #[36] [(fget φ 230)])) := s_gd (j := 26) (oj := Z5I) rfl rfl rfl (fun _ => rfl) (fun _ => rfl)
theorem ZgY : stepA E C B 253 ZG Zxo (φ, H) = gd φ 229 false (fun φ => some (fput φ 232 (.tup []), H)) (fun φ => some (fput φ 232 (fget φ 8), H)) := s_gd (j := 26) (oj := Z5I) rfl rfl rfl (fun _ => rfl) (fun _ => rfl)
theorem Zgv : stepA E C B 253 ZG ZxR (φ, H) = gd φ 229 false (fun φ => some (fput φ 233 (.tup []), H)) (fun φ => stp (some 233) φ H (just (aBin E.T .neq 3 (fget φ 231) (fget φ 232)))) := s_gd (j := 26) (oj := Z5I) rfl rfl rfl (fun _ => rfl) (fun _ => rfl)
theorem ZfE : stepA E C B 253 ZG Zys (φ, H) = stp (some 234) φ H (opPick (fget φ 229) (.bool true) (fget φ 233)) := nf
def ZhJ := kR Zis
def ZhP := kT ZhJ
def ZtQ := kL ZhP
def Zsu := kO ZtQ
def ZHt := opN Zsu 0
theorem Zvl : XG 10 253 ZtQ Zsu [9, 22, 24, 234] := Zb (by rfl) (by rfl) _
theorem Zlf : Zsu.toList = [ZHt] := nf
theorem ZlG : stepA E C B 253 Zsu ZHt (φ, H) = some (fput φ 6 (.bool false), H) := nf
def Z05l := kR ZhP
theorem ZuZ : execA E C (fg 10) B 253 E0 N Z05l s = some (.ret, s) := Z06 (by rfl) s
theorem Zwi : XQ 10 253 ZhP ZtQ Z05l := Z4 (by rfl) _
def Z03c := kE ZhJ
theorem ZsW : execA E C (fg 10) B 253 E0 N Z03c s = some (.normal, s) := ZV (by rfl) s
theorem Zvy : XC 10 253 ZhJ 234 ZhP Z03c := ZN (by rfl) _
theorem Zuw : XQ 10 253 Zis Zvd ZhJ := Z4 (by rfl) _
def Zhc := kR ZhZ
def ZhI := kL Zhc
def ZuH := kL ZhI
def Z9f := kO ZuH
def ZF3 := opN Z9f 0
def ZBz := opN Z9f 1
def ZMS := opN Z9f 2
theorem ZsY : XG 10 253 ZuH Z9f [22, 234] := Zb (by rfl) (by rfl) _
theorem Zlb : Z9f.toList = [ZF3, ZBz, ZMS] := nf
theorem Zmf : stepA E C B 253 Z9f ZF3 (φ, H) = some (fput φ 235 (fget φ 22), H) := nf
theorem ZmQ : stepA E C B 253 Z9f ZBz (φ, H) = stp (some 236) φ H (Zh E.T (B + 236) .len #[36] [(fget φ 235)]) := nf
theorem ZmG : stepA E C B 253 Z9f ZMS (φ, H) = some (fput φ 237 (.int .i64 0), H) := nf
def Ztf := kR ZhI
def Zw7 := kB Ztf
def Z9T := kB Zw7
def Zv6 := kL Z9T
def ZpL := kO Zv6
def ZBp := opN ZpL 0
theorem Z05o : XG 10 253 Zv6 ZpL [] := Zb (by rfl) (by rfl) _
theorem ZCF : ZpL.toList = [ZBp] := nf
theorem ZPk : stepA E C B 253 ZpL ZBp (φ, H) = stp (some 238) φ H (just (aBin E.T .lss 3 (fget φ 237) (fget φ 236))) := nf
def Zjd := kR Z9T
def Zik := kL Zjd
def ZW3 := kT Zik
theorem ZYh : execA E C (fg 10) B 253 E0 N ZW3 s = some (.normal, s) := ZV (by rfl) s
def ZXr := kE Zik
theorem Z02F : execA E C (fg 10) B 253 E0 N ZXr s = some (.exit 8, s) := Z0I (by rfl) s
theorem Z02p : XC 10 253 Zik 238 ZW3 ZXr := ZN (by rfl) _
def Zjc := kR Zjd
def Zwb := kL Zjc
def Ziw := kB Zwb
def Zvn := kL Ziw
def Z3T := kO Zvn
def ZGN := opN Z3T 0
def ZT6 := opN Z3T 1
def ZRO := opN Z3T 2
def ZO1 := opN Z3T 3
def ZFa := opN Z3T 4
theorem Z0jK : XG 10 253 Zvn Z3T [238, 239, 240, 241] := Zb (by rfl) (by rfl) _
theorem Z0gI : Z3T.toList = [ZGN, ZT6, ZRO, ZO1, ZFa] := nf
theorem Z0gj : stepA E C B 253 Z3T ZGN (φ, H) = some (fput φ 239 (fget φ 237), H) := nf
theorem Z0dx : stepA E C B 253 Z3T ZT6 (φ, H) = stp (some 240) φ H (just (Z5 E.T 36 (fget φ 235) (fget φ 237))) := nf
theorem Z0dq : stepA E C B 253 Z3T ZRO (φ, H) = stp (some 241) φ H (just (aLoad E.T 3 (fget φ 240))) := nf
theorem Z0gg : stepA E C B 253 Z3T ZO1 (φ, H) = some (fput φ 26 (fget φ 239), H) := nf
theorem Z0fc : stepA E C B 253 Z3T ZFa (φ, H) = some (fput φ 27 (fget φ 241), H) := nf
def Zj5 := kR Ziw
def Zvq := kL Zj5
def Z0U := kO Zvq
def ZRX := opN Z0U 0
def ZTh := opN Z0U 1
def ZGm := opN Z0U 2
def ZTu := opN Z0U 3
def ZQo := opN Z0U 4
def ZGK := opN Z0U 5
def ZRL := opN Z0U 6
def ZHM := opN Z0U 7
def ZJe := opN Z0U 8
theorem Z0nO : XG 10 253 Zvq Z0U [26, 27, 242, 243, 244, 245, 246, 247, 248, 249] := Zb (by rfl) (by rfl) _
theorem Z0fJ : Z0U.toList = [ZRX, ZTh, ZGm, ZTu, ZQo, ZGK, ZRL, ZHM, ZJe] := nf
theorem Z0e8 : stepA E C B 253 Z0U ZRX (φ, H) = some (fput φ 242 (fget φ 24), H) := nf
theorem Z0gf : stepA E C B 253 Z0U ZTh (φ, H) = some (fput φ 243 (fget φ 9), H) := nf
theorem Z0fI : stepA E C B 253 Z0U ZGm (φ, H) = some (fput φ 244 (fget φ 26), H) := nf
theorem Z0eA : stepA E C B 253 Z0U ZTu (φ, H) = stp (some 245) φ H (just (Z5 E.T 36 (fget φ 243) (fget φ 244))) := nf
theorem Z0fq : stepA E C B 253 Z0U ZQo (φ, H) = stp (some 246) φ H (just (aLoad E.T 3 (fget φ 245))) := nf
theorem Z0dh : stepA E C B 253 Z0U ZGK (φ, H) = stp (some 247) φ H (just (Z5 E.T 36 (fget φ 242) (fget φ 246))) := nf
theorem Z0eQ : stepA E C B 253 Z0U ZRL (φ, H) = stp (some 248) φ H (just (aLoad E.T 3 (fget φ 247))) := nf
theorem Z0h4 : stepA E C B 253 Z0U ZHM (φ, H) = some (fput φ 249 (fget φ 27), H) := nf
theorem Z0fe : stepA E C B 253 Z0U ZJe (φ, H) = stp (some 250) φ H (just (aBin E.T .neq 3 (fget φ 248) (fget φ 249))) := nf
def ZhU := kR Zj5
def Zix := kT ZhU
def ZtN := kL Zix
def Zse := kO ZtN
def ZC0 := opN Zse 0
theorem Z0mx : XG 10 253 ZtN Zse [9, 24, 235, 236, 237, 250] := Zb (by rfl) (by rfl) _
theorem Z0fm : Zse.toList = [ZC0] := nf
theorem Z0gB : stepA E C B 253 Zse ZC0 (φ, H) = some (fput φ 6 (.bool false), H) := nf
def Z02L := kR Zix
theorem Z0iJ : execA E C (fg 10) B 253 E0 N Z02L s = some (.ret, s) := Z06 (by rfl) s
theorem Z0nN : XQ 10 253 Zix ZtN Z02L := Z4 (by rfl) _
def ZVt := kE ZhU
theorem Z0iz : execA E C (fg 10) B 253 E0 N ZVt s = some (.normal, s) := ZV (by rfl) s
theorem Z0ni : XC 10 253 ZhU 250 Zix ZVt := ZN (by rfl) _
theorem Z0jZ : XQ 10 253 Zj5 Zvq ZhU := Z4 (by rfl) _
theorem Z0le : XQ 10 253 Ziw Zvn Zj5 := Z4 (by rfl) _
theorem Z0jS : execA E C (fg 10) B 253 E0 N Zwb s = blockX 9 (fun s => (forget s.1 [250], s.2)) (execA E C (fg 10) B 253 E0 N Ziw s) := ZK (by rfl) (by rfl) s
def Zt5 := kR Zjc
def Zck := kO Zt5
def ZFW := opN Zck 0
def ZQr := opN Zck 1
theorem Z0kv : XG 10 253 Zt5 Zck [251] := Zb (by rfl) (by rfl) _
theorem Z0f2 : Zck.toList = [ZFW, ZQr] := nf
theorem Z0ez : stepA E C B 253 Zck ZFW (φ, H) = stp (some 251) φ H (just (aBin E.T .add 3 (fget φ 237) (.int .i64 1))) := nf
theorem Z0gK : stepA E C B 253 Zck ZQr (φ, H) = some (fput φ 237 (fget φ 251), H) := nf
theorem Z0kM : XQ 10 253 Zjc Zwb Zt5 := Z4 (by rfl) _
theorem Z01d : XQ 10 253 Zjd Zik Zjc := Z4 (by rfl) _
theorem ZY9 : XQ 10 253 Z9T Zv6 Zjd := Z4 (by rfl) _
theorem ZtJ : execA E C (fg 10) B 253 E0 N Zw7 s = iterA (execA E C (fg 10) B 253 E0 N Z9T) (headA E0) N s := Z0H (by rfl) s
theorem ZvV : execA E C (fg 10) B 253 E0 N Ztf s = blockX 8 (fun s => (forget s.1 [9, 24, 235, 236, 237, 238], s.2)) (execA E C (fg 10) B 253 E0 N Zw7 s) := ZK (by rfl) (by rfl) s
theorem ZtZ : XQ 10 253 ZhI ZuH Ztf := Z4 (by rfl) _
def Zht := kR Zhc
def ZuV := kL Zht
def ZcQ := kO ZuV
def ZG0 := opN ZcQ 0
def ZG5 := opN ZcQ 1
theorem ZtM : XG 10 253 ZuV ZcQ [252] := Zb (by rfl) (by rfl) _
theorem Zkv : ZcQ.toList = [ZG0, ZG5] := nf
theorem ZkU : stepA E C B 253 ZcQ ZG0 (φ, H) = stp (some 252) φ H (aCall C (fun j => B + j * 253 + 252) true 17 []) := nf
theorem Zn7 : stepA E C B 253 ZcQ ZG5 (φ, H) = some (fput φ 6 (fget φ 252), H) := nf
def ZVT := kR Zht
theorem Zvo : execA E C (fg 10) B 253 E0 N ZVT s = some (.ret, s) := Z06 (by rfl) s
theorem ZuN : XQ 10 253 Zht ZuV ZVT := Z4 (by rfl) _
theorem Zuc : XQ 10 253 Zhc ZhI Zht := Z4 (by rfl) _
theorem Zu7 : XQ 10 253 ZhZ Zis Zhc := Z4 (by rfl) _
theorem ZuE : XQ 10 253 ZiU Zwj ZhZ := Z4 (by rfl) _
theorem Zvi : XQ 10 253 Zi4 ZuX ZiU := Z4 (by rfl) _
theorem Zw1 : XQ 10 253 Zih Ztu Zi4 := Z4 (by rfl) _
theorem ZuA : XQ 10 253 ZiJ Zt2 Zih := Z4 (by rfl) _
theorem Zwn : XQ 10 253 ZhF ZhH ZiJ := Z4 (by rfl) _
theorem Zuz : XQ 10 253 ZiE Zuh ZhF := Z4 (by rfl) _
theorem Zwf : XQ 10 253 Zhg ZtG ZiE := Z4 (by rfl) _
theorem ZNF : XQ 10 253 ZnK Zos Zhg := Z4 (by rfl) _
theorem ZPD : XQ 10 253 Zqs ZNz ZnK := Z4 (by rfl) _
theorem ZSz : XQ 10 253 Zs7 ZTI Zqs := Z4 (by rfl) _
theorem ZMn : XQ 10 253 ZpY Zox Zs7 := Z4 (by rfl) _
theorem ZBs : XQ 10 253 Zs5 ZPN ZpY := Z4 (by rfl) _
theorem ZNy : XQ 10 253 ZqV ZO0 Zs5 := Z4 (by rfl) _
theorem ZAk : XQ 10 253 ZfI ZPy ZqV := Z4 (by rfl) _
theorem ZSf : XQ 10 253 Zoo Zsy ZfI := Z4 (by rfl) _
theorem ZK4 : XQ 10 253 Zpu Zrr Zoo := Z4 (by rfl) _
theorem ZDE : XQ 10 253 Zst ZEj Zpu := Z4 (by rfl) _
theorem Z06p : XQ 10 253 Zzg ZzR Zst := Z4 (by rfl) _
theorem Z079 : XQ 10 253 ZyI Z07s Zzg := Z4 (by rfl) _
theorem Z07x : XQ 10 253 Zzh Z066 ZyI := Z4 (by rfl) _
theorem Z07k : XQ 10 253 Zz2 Z072 Zzh := Z4 (by rfl) _
theorem Z070 : XQ 10 253 ZqE Z06c Zz2 := Z4 (by rfl) _
theorem Z0so : fInfo E 10 = some ⟨253, #[.tmp 6], ZqE⟩ := nf
theorem b_10 (args : List AV) : bodyA E C fg N 10 args H B = bodyX E [.tmp 6] (execA E C (fg 10) B 253 H N ZqE (Zw args 0 [], H)) := Z0a Z0so args H
end Go.AM.YtgfnbmfjbjopkaaDoor
end
noncomputable section
namespace Go.AM.Mule
def arrN (d : Nat → Int) (snow : Int) : Int → List Nat → Nat
 | _, [] => 0
 | now, i :: o => (if now + d i ≤ snow then 1 else 0) + arrN d snow (now + d i) o
theorem ZUY {d : Nat → Int} (hd : ∀ i, 0 ≤ d i) {snow : Int} : ∀ (now : Int) (o : List Nat), snow < now → arrN d snow now o = 0
 | _, [], _ => rfl
 | now, i :: o, h => by
   have := hd i
   simp only [arrN]
   rw [if_neg (by omega), ZUY hd (now + d i) o (by omega)]
theorem ZpI {d : Nat → Int} (hd : ∀ i, 0 ≤ d i) {snow : Int} : ∀ (now : Int) (o : List Nat), now ≤ snow → ∃ p q, o = p ++ q ∧ now + days d p ≤ snow ∧ arrN d snow now o = p.length
 | now, [], h => ⟨[], [], rfl, by simp [days]; exact h, rfl⟩
 | now, i :: o, h => by
   by_cases e : now + d i ≤ snow
   · obtain ⟨p, q, e1, e2, e3⟩ := ZpI hd (now + d i) o e
     refine ⟨i :: p, q, by rw [e1]; rfl, by simp only [days]; omega, ?_⟩
     simp only [arrN, List.length_cons]
     rw [if_pos e, e3]; omega
   · refine ⟨[], i :: o, rfl, by simp [days]; exact h, ?_⟩
     simp only [arrN]
     rw [if_neg e, ZUY hd _ o (by omega)]; rfl
theorem Z08M {d : Nat → Int} (hd : ∀ i, 0 ≤ d i) {snow : Int} : ∀ (now : Int) (p q : List Nat), now + days d p ≤ snow → p.length ≤ arrN d snow now (p ++ q)
 | _, [], _, _ => Nat.zero_le _
 | now, i :: p, q, h => by
   have hp := ZbU (d := d) (l := p) fun j _ => hd j
   simp only [days] at h
   have := Z08M hd (snow := snow) (now + d i) p q (by omega)
   simp only [List.cons_append, arrN, List.length_cons]
   rw [if_pos (by omega)]; omega
def Closed (T : Nat → Nat → Bool) (S R : List Nat) : Prop := ∀ i ∈ S, i ∉ R → ∀ k ∈ R, T i k = false
theorem Z0dj {T : Nat → Nat → Bool} (hT : Ord T) {d : Nat → Int} (hd : ∀ i, 0 ≤ d i) {snow : Int} {S R : List Nat} (hS : S.Nodup) (hR : R.Nodup) (hs : ∀ i ∈ R, i ∈ S) (hc : Closed T S R) (hr : days d R ≤ snow) :
   ∃ o, o.Perm S ∧ Good T o ∧ R.length ≤ arrN d snow 0 o := by
 have hn : (S.filter fun i => decide (i ∉ R)).Nodup := hS.filter _
 obtain ⟨p1, p2, _⟩ := Z4S hT (d := d) (c := fun _ _ => 0) R.length R hR (Nat.le_refl _)
 obtain ⟨q1, q2, _⟩ := Z4S hT (d := d) (c := fun _ _ => 0) (S.filter fun i => decide (i ∉ R)).length (S.filter fun i => decide (i ∉ R)) hn (Nat.le_refl _)
 generalize ruleL T d (fun _ _ => 0) R.length R = p at *
 generalize ruleL T d (fun _ _ => 0) (S.filter fun i => decide (i ∉ R)).length (S.filter fun i => decide (i ∉ R)) = q at *
 have mq : ∀ i, i ∈ q ↔ i ∈ S ∧ i ∉ R := fun i => by rw [q1.mem_iff, List.mem_filter, decide_eq_true_eq]
 have np : p.Nodup := (p1.nodup_iff).2 hR
 have nq : q.Nodup := (q1.nodup_iff).2 hn
 have npq : (p ++ q).Nodup := by
   rw [List.nodup_append]
   refine ⟨np, nq, fun a ha b hb e => ?_⟩
   subst e
   exact ((mq a).1 hb).2 (p1.mem_iff.1 ha)
 refine ⟨p ++ q, ?_, ?_, ?_⟩
 · rw [List.perm_ext_iff_of_nodup npq hS]
   intro i
   rw [List.mem_append, mq, p1.mem_iff]
   constructor
   · rintro (h | h)
     · exact hs i h
     · exact h.1
   · intro h
     by_cases e : i ∈ R
     · exact .inl e
     · exact .inr ⟨h, e⟩
 · refine List.pairwise_append.2 ⟨p2, q2, fun a ha b hb => ?_⟩
   obtain ⟨b1, b2⟩ := (mq b).1 hb
   exact hc b b1 b2 a (p1.mem_iff.1 ha)
 · have := Z08M hd (snow := snow) 0 p q (by rw [Z3p p1]; omega)
   rw [p1.length_eq] at this
   exact this
theorem Z07t {T : Nat → Nat → Bool} {d : Nat → Int} (hd : ∀ i, 0 ≤ d i) {snow : Int} (h0 : 0 ≤ snow) {S o : List Nat} (hS : S.Nodup) (hp : o.Perm S) (hg : Good T o) :
   ∃ R, R.Nodup ∧ (∀ i ∈ R, i ∈ S) ∧ Closed T S R ∧ days d R ≤ snow ∧ R.length = arrN d snow 0 o := by
 obtain ⟨p, q, e, h1, h2⟩ := ZpI hd (snow := snow) 0 o h0
 have no : o.Nodup := (hp.nodup_iff).2 hS
 rw [e] at no hg hp
 obtain ⟨n1, n2, n3⟩ := List.nodup_append.1 no
 refine ⟨p, n1, fun i hi => hp.mem_iff.1 (by simp [hi]), fun i hi hni k hk => ?_, by omega, h2.symm⟩
 have : i ∈ p ++ q := hp.mem_iff.2 hi
 rcases List.mem_append.1 this with h | h
 · exact absurd h hni
 · exact (List.pairwise_append.1 hg).2.2 k hk i h
end Go.AM.Mule
end
noncomputable section
namespace Go.AM.Mule
theorem Z0ed : ∀ n, n ≤ 6 → ∀ s, s < 64 → lst ((2 ^ n - 1) &&& (63 - s)) = (List.range n).filter fun i => !s.testBit i := by decide +kernel
end Go.AM.Mule
end
noncomputable section
namespace Go.AM.YtgfnbmfjbjopkaaDoor
open Go Go.AM Go.AM.Mule
theorem ZIf {ls : List Ld} {i : Nat} (h : ls.length ≤ i) : ls.getD i default = default := by
 rw [List.getD_eq_getElem?_getD, List.getElem?_eq_none h]; rfl
theorem ZQU {ls : List Ld} {B : List Nat} {n : Nat} (h : TrOk ls B n) (i : Nat) : 0 ≤ hiF ls i := by
 by_cases hi : i < n
 · obtain ⟨l, _, h2, e⟩ := Z07a h hi
   have := h2.hi
   omega
 · unfold hiF
   rw [ZIf (by rw [h.l]; omega)]
   exact Int.le_refl _
theorem Z0mo {ls : List Ld} {B : List Nat} {n : Nat} (h : TrOk ls B n) (i : Nat) (x y : Int) (hxy : x ≤ y) : cF ls i x ≤ cF ls i y := by
 have hr : 0 ≤ (ls.getD i default).rate := by
   by_cases hi : i < n
   · have hx := Z08 (l := ls) (i := i) (by rw [h.l]; exact hi)
     exact (h.ld _ (List.mem_of_getElem? hx)).rate.1
   · rw [ZIf (by rw [h.l]; omega)]; exact Int.le_refl _
 unfold cF ldC
 have := Int.mul_le_mul_of_nonneg_left (show max 0 (x - (ls.getD i default).due) ≤ max 0 (y - (ls.getD i default).due) by omega) hr
 omega
structure IsO (B : List Nat) (n : Nat) (o : List Nat) : Prop where
 pm : o.Perm (List.range n)
 gd' : Mule.Good (bit B) o
theorem IsO.nd {B : List Nat} {n : Nat} {o : List Nat} (h : IsO B n o) : o.Nodup := h.pm.nodup_iff.2 List.nodup_range
theorem IsO.len {B : List Nat} {n : Nat} {o : List Nat} (h : IsO B n o) : o.length = n := by rw [h.pm.length_eq, List.length_range]
theorem IsO.lt {B : List Nat} {n : Nat} {o : List Nat} (h : IsO B n o) {i : Nat} (hi : i ∈ o) : i < n := List.mem_range.1 (h.pm.mem_iff.1 hi)
abbrev mcO (ls : List Ld) (o : List Nat) : Int := mc (hiF ls) (cF ls) 0 o
theorem ZUX {ls : List Ld} {B : List Nat} {n : Nat} (hT : Ord (bit B)) : IsO B n (ruO ls B n) := by
 obtain ⟨a, b, _⟩ := Z4S hT (d := hiF ls) (c := cF ls) n (List.range n) List.nodup_range (by rw [List.length_range]; exact Nat.le_refl _)
 exact ⟨a, b⟩
theorem ZEa {ls : List Ld} {B : List Nat} {n : Nat} (h : TrOk ls B n) (hT : Ord (bit B)) {o : List Nat} (ho : IsO B n o) : ruC ls B n ≤ mcO ls o := by
 have := Z0b0 hT (ZQU h) (Z0mo h) (S := List.range n) List.nodup_range ho.gd' ho.pm
 rw [List.length_range] at this
 exact this
theorem Z0rL (ls : List Ld) (B : List Nat) (n : Nat) : 0 ≤ ruC ls B n := Z4L _ _
theorem ZwX {ls : List Ld} {B : List Nat} {n : Nat} (h : TrOk ls B n) (hT : Ord (bit B)) {lim : Int} (h0 : 0 ≤ lim) {L : List (List Nat)} (hL : L.Nodup) (hm : ∀ o, o ∈ L ↔ IsO B n o ∧ mcO ls o ≤ lim) : ordN ls B n lim = L.length := by
 have e : lst (2 ^ n - 1) = List.range n := ZdZ n h.le
 unfold ordN cntN
 rw [e]
 refine Z06z hT List.nodup_range hL fun o => ?_
 rw [hm, ZIg h0]
 exact ⟨fun ⟨a, b⟩ => ⟨a.pm, a.gd', b⟩, fun ⟨a, b, c⟩ => ⟨⟨a, b⟩, c⟩⟩
theorem Z0l1 {ls : List Ld} {B : List Nat} {n : Nat} (h : TrOk ls B n) (hT : Ord (bit B)) {lim : Int} (h0 : 0 ≤ lim) : ∃ L : List (List Nat), L.Nodup ∧ (∀ o, o ∈ L ↔ IsO B n o ∧ mcO ls o ≤ lim) ∧ ordN ls B n lim = L.length := by
 have hm : ∀ o, o ∈ Mule.bk (bit B) (hiF ls) (cF ls) lim n (List.range n) ↔ IsO B n o ∧ mcO ls o ≤ lim := fun o => by
   rw [ZIM hT n (List.range n) List.nodup_range (by rw [List.length_range]; exact Nat.le_refl _) o, ZIg h0]
   exact ⟨fun ⟨a, b, c⟩ => ⟨⟨a, b⟩, c⟩, fun ⟨a, b⟩ => ⟨a.pm, a.gd', b⟩⟩
 have hn := Mule.Zkt (T := bit B) (d := hiF ls) (c := cF ls) (lim := lim) n (List.range n) List.nodup_range
 exact ⟨_, hn, hm, ZwX h hT h0 hn hm⟩
theorem Z08K (ls : List Ld) (B : List Nat) (n : Nat) (snow : Int) : ∀ (k s : Nat), s < k → svB ls B n snow s = true → (lst s).length ≤ svN ls B n snow k
 | k + 1, s, hs, hb => by
   simp only [svN]
   by_cases e : s = k
   · subst e; rw [if_pos hb]; omega
   · have := Z08K ls B n snow k s (by omega) hb
     split <;> omega
theorem ZMz (ls : List Ld) (B : List Nat) (n : Nat) (snow : Int) : ∀ k : Nat, svN ls B n snow k = 0 ∨ ∃ s, s < k ∧ svB ls B n snow s = true ∧ (lst s).length = svN ls B n snow k
 | 0 => .inl rfl
 | k + 1 => by
   simp only [svN]
   split
   · rename_i hb
     rcases Nat.le_total (svN ls B n snow k) (lst k).length with hle | hle
     · rw [Nat.max_eq_right hle]
       exact .inr ⟨k, by omega, hb, rfl⟩
     · rw [Nat.max_eq_left hle]
       rcases ZMz ls B n snow k with h | ⟨s, a, b, c⟩
       · exact .inl h
       · exact .inr ⟨s, by omega, b, c⟩
   · rcases ZMz ls B n snow k with h | ⟨s, a, b, c⟩
     · exact .inl h
     · exact .inr ⟨s, by omega, b, c⟩
theorem Zp9 {ls : List Ld} {B : List Nat} {n s : Nat} {snow : Int} (hn : n ≤ 6) (hs : s < 2 ^ n) : svB ls B n snow s = true ↔ Closed (bit B) (List.range n) (lst s) ∧ daysS ls s ≤ snow := by
 have h64 : s < 64 := Nat.lt_of_lt_of_le hs (Nat.pow_le_pow_right (n := 2) (by omega) hn)
 unfold svB
 rw [Bool.and_eq_true, decide_eq_true_eq, Bool.not_eq_true', restS, Z0ed n hn s h64]
 refine and_congr_left' ?_
 rw [List.any_eq_false]
 constructor
 · intro h i hi hni k hk
   have hni' : s.testBit i = false := by
     cases e : s.testBit i with
     | false => rfl
     | true => exact absurd ((Z9P h64).2 e) hni
   have := h i (List.mem_filter.2 ⟨hi, by rw [hni']; rfl⟩)
   have hz : B.getD i 0 &&& s = 0 := by simpa using this
   exact (ZkL h64).1 hz k hk
 · intro h i hi
   obtain ⟨h1, h2⟩ := List.mem_filter.1 hi
   have hz : B.getD i 0 &&& s = 0 := (ZkL h64).2 fun k hk => h i h1 (fun hm => by rw [(Z9P h64).1 hm] at h2; simp at h2) k hk
   rw [hz]; simp
theorem Zhs {ls : List Ld} {B : List Nat} {n : Nat} (h : TrOk ls B n) {snow : Int} (h0 : 0 ≤ snow) {o : List Nat} (ho : IsO B n o) : arrN (hiF ls) snow 0 o ≤ svN ls B n snow (2 ^ n) := by
 obtain ⟨R, r1, r2, r3, r4, r5⟩ := Z07t (ZQU h) h0 List.nodup_range ho.pm ho.gd'
 have rn : ∀ i ∈ R, i < n := fun i hi => List.mem_range.1 (r2 i hi)
 have hm := Z0qc rn
 have h64 : msk R < 64 := Nat.lt_of_lt_of_le hm (Nat.pow_le_pow_right (n := 2) (by omega) h.le)
 have hp : (lst (msk R)).Perm R := by
   rw [List.perm_ext_iff_of_nodup (ZfG _) r1]
   intro i
   rw [Z9P h64, Zjl, List.contains_iff_mem]
 rw [← r5, ← hp.length_eq]
 refine Z08K ls B n snow _ _ hm ((Zp9 h.le hm).2 ⟨fun i hi hni k hk => r3 i hi (fun a => hni (hp.mem_iff.2 a)) k (hp.mem_iff.1 hk), ?_⟩)
 show days (hiF ls) (lst (msk R)) ≤ snow
 rw [Z3p hp]; exact r4
theorem Z0hk {ls : List Ld} {B : List Nat} {n : Nat} (h : TrOk ls B n) (hT : Ord (bit B)) {snow : Int} (h0 : 0 ≤ snow) : ∃ o, IsO B n o ∧ svN ls B n snow (2 ^ n) = arrN (hiF ls) snow 0 o := by
 rcases ZMz ls B n snow (2 ^ n) with e | ⟨s, s1, s2, s3⟩
 · have hi := ZUX (ls := ls) (n := n) hT
   have := Zhs h h0 hi
   exact ⟨_, hi, by omega⟩
 · obtain ⟨c1, c2⟩ := (Zp9 h.le s1).1 s2
   have h64 : s < 64 := Nat.lt_of_lt_of_le s1 (Nat.pow_le_pow_right (n := 2) (by omega) h.le)
   obtain ⟨o, o1, o2, o3⟩ := Z0dj hT (ZQU h) List.nodup_range (ZfG s) (fun i hi => List.mem_range.2 (Z5P h.le s1 i hi)) c1 c2
   have := Zhs h h0 (o := o) ⟨o1, o2⟩
   exact ⟨o, ⟨o1, o2⟩, by omega⟩
end Go.AM.YtgfnbmfjbjopkaaDoor
end
noncomputable section
namespace Go.AM.YtgfnbmfjbjopkaaDoor
open Go Go.AM Go.AM.Mule
theorem Z0qF {ls : List Ld} {es : List Pr} (h0 : 0 < ls.length) (h6 : ls.length ≤ 6) (h15 : es.length ≤ 15) (hl : ∀ x ∈ ls, ldE x = 0) (hp : ∀ p ∈ es, ∃ a b : Nat, p = ((a : Int), (b : Int)) ∧ a < ls.length ∧ b < ls.length) (hnd : es.Nodup) (hc : ∀ i, ¬ Mule.Reach (es.map tN) i i) : chk ls es = 0 := by
 have hls : ldsE ls = 0 := Z2b.2 fun i hi => hl _ (List.mem_of_getElem? (Z08 hi))
 have hps : prsE ls.length es = 0 := Z2b.2 fun i hi => by
   have hx := Z08 (l := es) hi
   obtain ⟨a, b, e, h2, h3⟩ := hp _ (List.mem_of_getElem? hx)
   unfold prE
   have hnin : es.getD i default ∉ es.take i := by
     intro hc
     obtain ⟨j, hj, ej⟩ := List.mem_iff_getElem.1 hc
     rw [List.length_take] at hj
     rw [List.getElem_take] at ej
     have e2 : es[j] = es[i] := by rw [ej]; simp [hi]
     exact (List.pairwise_iff_getElem.1 hnd) j i (by omega) hi (by omega) e2
   rw [if_neg, if_neg hnin]
   rw [e]
   simp only
   omega
 unfold chk
 rw [if_neg (by omega), if_neg (by omega), if_neg (by simp [hls]), if_neg (by simp [hps]), if_neg]
 intro hcl
 obtain ⟨i, hi, hb⟩ := List.any_eq_true.1 hcl
 exact hc i (((ZbS (Zgw hps)).2 i i).1 hb)
theorem Z0hc {ls : List Ld} {es : List Pr} (h : chk ls es = 0) (i : Nat) : ¬ Mule.Reach (es.map tN) i i := by
 obtain ⟨_, ord, hr, _⟩ := Z59 h
 intro hc
 have := (hr i i).2 hc
 rw [ord.irr] at this
 exact absurd this (by simp)
theorem ZM8 {ls : List Ld} {es : List Pr} (h : chk ls es = 0) : ∀ p ∈ es, ∃ a b : Nat, p = ((a : Int), (b : Int)) ∧ a < ls.length ∧ b < ls.length := by
 intro p hp
 have hps := (ZbF h).2.2.2.2.1
 obtain ⟨i, hi, e⟩ := List.mem_iff_getElem.1 hp
 have := Z2b.1 hps i hi
 have hg : es.getD i default = p := by rw [← e]; simp [hi]
 rw [hg] at this
 obtain ⟨a, b, rfl, h1, h2, _⟩ := ZRW this
 exact ⟨a, b, rfl, h1, h2⟩
structure Ren (ls ls' : List Ld) (E E' : List (Nat × Nat)) (n : Nat) (to fr : Nat → Nat) : Prop where
 t : ∀ i, i < n → to i < n ∧ fr (to i) = i
 f : ∀ i, i < n → fr i < n ∧ to (fr i) = i
 r : ∀ p ∈ E, p.1 < n ∧ p.2 < n
 r' : ∀ p ∈ E', p.1 < n ∧ p.2 < n
 e : ∀ a b, a < n → b < n → ((to a, to b) ∈ E' ↔ (a, b) ∈ E)
 l : ∀ i, i < n → ls'.getD (to i) default = ls.getD i default
theorem Ren.symm {ls ls' : List Ld} {E E' : List (Nat × Nat)} {n : Nat} {to fr : Nat → Nat} (h : Ren ls ls' E E' n to fr) : Ren ls' ls E' E n fr to := by
 refine ⟨h.f, h.t, h.r', h.r, fun a b ha hb => ?_, fun i hi => ?_⟩
 · have := h.e (fr a) (fr b) (h.f a ha).1 (h.f b hb).1
   rw [(h.f a ha).2, (h.f b hb).2] at this
   exact this.symm
 · have := h.l (fr i) (h.f i hi).1
   rw [(h.f i hi).2] at this
   exact this.symm
theorem Ren.up {ls ls' : List Ld} {E E' : List (Nat × Nat)} {n : Nat} {to fr : Nat → Nat} (h : Ren ls ls' E E' n to fr) {a b : Nat} (hr : Mule.Reach E a b) : Mule.Reach E' (to a) (to b) := by
 induction hr with
 | single e => exact .single ((h.e _ _ (h.r _ e).1 (h.r _ e).2).2 e)
 | tail _ e ih => exact ih.tail ((h.e _ _ (h.r _ e).1 (h.r _ e).2).2 e)
theorem Ren.reach {ls ls' : List Ld} {E E' : List (Nat × Nat)} {n : Nat} {to fr : Nat → Nat} (h : Ren ls ls' E E' n to fr) {a b : Nat} (ha : a < n) (hb : b < n) : Mule.Reach E' (to a) (to b) ↔ Mule.Reach E a b := by
 refine ⟨fun hr => ?_, h.up⟩
 have := h.symm.up hr
 rw [(h.t a ha).2, (h.t b hb).2] at this
 exact this
noncomputable section
variable {ls ls' : List Ld} {E E' : List (Nat × Nat)} {B B' : List Nat} {n : Nat} {to fr : Nat → Nat}
theorem ZBm (h : Ren ls ls' E E' n to fr) {i : Nat} (hi : i < n) : hiF ls' (to i) = hiF ls i := by unfold hiF; rw [h.l i hi]
theorem ZgP (h : Ren ls ls' E E' n to fr) : ∀ (o : List Nat) (now : Int), (∀ i ∈ o, i < n) → mc (hiF ls') (cF ls') now (o.map to) = mc (hiF ls) (cF ls) now o
 | [], _, _ => rfl
 | i :: o, now, ho => by
   simp only [List.map_cons, mc]
   rw [ZBm h (ho i (by simp)), ZgP h o _ fun j hj => ho j (by simp [hj])]
   unfold cF
   rw [h.l i (ho i (by simp))]
theorem Zw5 (h : Ren ls ls' E E' n to fr) (snow : Int) : ∀ (o : List Nat) (now : Int), (∀ i ∈ o, i < n) → arrN (hiF ls') snow now (o.map to) = arrN (hiF ls) snow now o
 | [], _, _ => rfl
 | i :: o, now, ho => by
   simp only [List.map_cons, arrN]
   rw [ZBm h (ho i (by simp)), Zw5 h snow o _ fun j hj => ho j (by simp [hj])]
theorem ZVo (h : Ren ls ls' E E' n to fr) (hb : ∀ a b, bit B a b = true ↔ Mule.Reach E a b) (hb' : ∀ a b, bit B' a b = true ↔ Mule.Reach E' a b) {o : List Nat} (ho : IsO B n o) : IsO B' n (o.map to) := by
 have hlt : ∀ i ∈ o, i < n := fun i hi => ho.lt hi
 constructor
 · have hn : (o.map to).Nodup := by
     refine List.pairwise_map.2 (List.Pairwise.imp_of_mem (fun ha hb hne e => ?_) ho.nd)
     have e2 := congrArg fr e
     rw [(h.t _ (hlt _ ha)).2, (h.t _ (hlt _ hb)).2] at e2
     exact hne e2
   rw [List.perm_ext_iff_of_nodup hn List.nodup_range]
   intro i
   rw [List.mem_map, List.mem_range]
   constructor
   · rintro ⟨j, hj, rfl⟩; exact (h.t j (hlt j hj)).1
   · intro hi; exact ⟨fr i, ho.pm.mem_iff.2 (List.mem_range.2 (h.f i hi).1), (h.f i hi).2⟩
 · refine List.pairwise_map.2 (List.Pairwise.imp_of_mem (fun {a b} ha hb2 hg => ?_) ho.gd')
   cases e : bit B' (to b) (to a) with
   | false => rfl
   | true =>
     have := (hb b a).2 ((h.reach (hlt b hb2) (hlt a ha)).1 ((hb' _ _).1 e))
     rw [hg] at this
     exact absurd this (by simp)
theorem Zl3 (h : Ren ls ls' E E' n to fr) {o : List Nat} (ho : ∀ i ∈ o, i < n) : (o.map fr).map to = o := by
 rw [List.map_map]
 have : o.map (to ∘ fr) = o.map id := List.map_congr_left fun i hi => (h.f i (ho i hi)).2
 rw [this, List.map_id]
theorem Z0ms (h : Ren ls ls' E E' n to fr) (tr : TrOk ls B n) (tr' : TrOk ls' B' n) (ord : Ord (bit B)) (ord' : Ord (bit B')) (hb : ∀ a b, bit B a b = true ↔ Mule.Reach E a b) (hb' : ∀ a b, bit B' a b = true ↔ Mule.Reach E' a b) :
   ruC ls' B' n = ruC ls B n ∧ (∀ lim, 0 ≤ lim → ordN ls' B' n lim = ordN ls B n lim) ∧ ∀ snow, 0 ≤ snow → svN ls' B' n snow (2 ^ n) = svN ls B n snow (2 ^ n) := by
 have go := fun {o : List Nat} (ho : IsO B n o) => ZVo h hb hb' ho
 have ba := fun {o : List Nat} (ho : IsO B' n o) => ZVo h.symm hb' hb ho
 refine ⟨?_, fun lim h0 => ?_, fun snow h0 => ?_⟩
 · have i1 := ZUX (ls := ls) (n := n) ord
   have i2 := ZUX (ls := ls') (n := n) ord'
   have a := ZEa tr' ord' (go i1)
   have b := ZEa tr ord (ba i2)
   have e1 := ZgP h (ruO ls B n) 0 fun i hi => i1.lt hi
   have e2 := ZgP h.symm (ruO ls' B' n) 0 fun i hi => i2.lt hi
   unfold mcO at a b
   rw [e1] at a
   rw [e2] at b
   exact Int.le_antisymm a b
 · obtain ⟨L, l1, l2, l3⟩ := Z0l1 tr ord h0
   rw [l3, ← List.length_map (f := List.map to)]
   refine ZwX tr' ord' h0 ?_ fun o => ?_
   · refine List.pairwise_map.2 (List.Pairwise.imp_of_mem (fun {x y} ha hb2 hne e => hne ?_) l1)
     have e2 := congrArg (List.map fr) e
     rw [Zl3 h.symm fun i hi => ((l2 x).1 ha).1.lt hi, Zl3 h.symm fun i hi => ((l2 y).1 hb2).1.lt hi] at e2
     exact e2
   · rw [List.mem_map]
     constructor
     · rintro ⟨x, hx, rfl⟩
       obtain ⟨x1, x2⟩ := (l2 x).1 hx
       refine ⟨go x1, ?_⟩
       unfold mcO
       rw [ZgP h x 0 fun i hi => x1.lt hi]; exact x2
     · rintro ⟨o1, o2⟩
       have hlt : ∀ i ∈ o, i < n := fun i hi => o1.lt hi
       refine ⟨o.map fr, (l2 _).2 ⟨ba o1, ?_⟩, Zl3 h hlt⟩
       unfold mcO
       rw [ZgP h.symm o 0 hlt]; exact o2
 · obtain ⟨o, o1, o2⟩ := Z0hk tr ord h0
   obtain ⟨p, p1, p2⟩ := Z0hk tr' ord' h0
   have a := Zhs tr' h0 (go o1)
   have b := Zhs tr h0 (ba p1)
   rw [Zw5 h snow o 0 fun i hi => o1.lt hi] at a
   rw [Zw5 h.symm snow p 0 fun i hi => p1.lt hi] at b
   omega
end
noncomputable section
variable {ls ls' : List Ld} {B B' : List Nat} {n : Nat}
end
end Go.AM.YtgfnbmfjbjopkaaDoor
end
noncomputable section
namespace Go.AM.YtgfnbmfjbjopkaaDoor
open Go Go.AM Go.AM.Mule
structure MuG' (C : Callee) (ls : List Ld) (es : List Pr) : Prop where
 chk : ∀ (site : Nat → Nat) seen a b, SV lc ls a → SV bc es b → aBack site true seen (thaw C 68 [.agg [a, b]] [] 0) = .pure (.int .i64 0, [])
 count : ∀ (site : Nat → Nat) seen a b, SV lc ls a → SV bc es b → aBack site true seen (thaw C 61 [.agg [a, b]] [] 0) = .pure (.tup [.int .i64 (ordN ls (sets ls.length es) ls.length 100000 : Nat), .int .i64 0], [])
 least : ∀ (site : Nat → Nat) seen a b, SV lc ls a → SV bc es b → aBack site true seen (thaw C 19 [.agg [a, b]] [] 0) = .pure (.tup [.int .i64 (ruC ls (sets ls.length es) ls.length), .int .i64 0], [])
 bests : ∀ (site : Nat → Nat) seen a b, SV lc ls a → SV bc es b → aBack site true seen (thaw C 24 [.agg [a, b]] [] 0) = .pure (.tup [.int .i64 (ordN ls (sets ls.length es) ls.length (ruC ls (sets ls.length es) ls.length) : Nat), .int .i64 0], [])
 saved : ∀ (site : Nat → Nat) seen a b snow, SV lc ls a → SV bc es b → 0 ≤ snow ∧ snow ≤ 54 → aBack site true seen (thaw C 36 [.agg [a, b], .int .i64 snow] [] 0) = .pure (.tup [.int .i64 (svN ls (sets ls.length es) ls.length snow (2 ^ ls.length) : Nat), .int .i64 0], [])
theorem Z0lV {ls : List Ld} {es : List Pr} (hk : chk ls es = 0) {snow : Int} (h : 0 ≤ snow ∧ snow ≤ 54) : savedE ls es snow = 0 := by
 unfold savedE
 rw [if_neg (by simpa using hk), if_neg (by omega)]
theorem muG {ls : List Ld} {es : List Pr} (hk : Go.AM.YtgfnbmfjbjopkaaDoor.chk ls es = 0) (d : Nat) : MuG' (callA E fg 1000 (d + 7)) ls es :=
 ⟨fun site seen _ _ ha hb => by have := Z1k (site := site) (seen := seen) (Z1j (Z0ar (d := d + 3) ha hb)); rw [hk] at this; exact this,
   fun _ _ _ _ ha hb => Z9G (Z1j (Z07m (d := d) ha hb hk)),
   fun _ _ _ _ ha hb => Z9G (Z1j (Z06A (d := d) ha hb hk)),
   fun _ _ _ _ ha hb => Z9G (Z1j (Z07S (d := d) ha hb hk)),
   fun _ _ _ _ _ ha hb h => Z9G (Z1j (Z06u (d := d + 1) ha hb (Z0lV hk h)))⟩
end Go.AM.YtgfnbmfjbjopkaaDoor
end
noncomputable section
namespace Go.AM.YtgfnbmfjbjopkaaDoor
open Go Go.AM Go.AM.Mule
theorem loopS {f : St → XR} (st : Nat → St) (n : Nat) (s0 : St) (h : ∀ i, i < n → ∃ s', f (st i) = some (.normal, s') ∧ headA [] s' = st (i + 1)) (h0 : headA [] s0 = st 0) (hn : n < 1000) {e : Ex} {se : St} (he : f (st n) = some (e, se)) (hne : e ≠ .normal) : iterA f (headA []) 1000 s0 = some (e, se) :=
 Z2M st n 1000 0 s0 h0 hn (fun i _ hi => h i (by omega)) (by rw [Nat.zero_add]; exact he) hne
end Go.AM.YtgfnbmfjbjopkaaDoor
end
noncomputable section
namespace Go.AM.YtgfnbmfjbjopkaaDoor
open Go Go.AM Go.AM.Mule
theorem Z06Q {C : Callee} {site : Nat → Nat} {seen : List Nat} {f : FuncId} {args : List AV} {id n g sz : Nat} {cells : List AV} {H' : AHeap} (h : C f args [] 0 = some (.agg [.ref id 0 n n g sz false, .nilsl], H')) (hg : hget H' id = some ⟨.row, cells⟩) (e1 : cells.length = g) :
   aBack site true seen (thaw C f args [] 0) = Z15 (site 0) seen (fun k0 => .agg [.ref k0 0 n n g sz false, .nilsl]) ⟨.row, cells⟩ := by
 subst e1
 simp only [thaw, h, frzRet, aBack, sitesB, aBackAt, imp, imps, hg, List.length_nil, List.not_mem_nil, not_false_eq_true, and_true, if_true, List.map_cons, List.map_nil, AM.apart, List.elem_nil, Bool.not_false, Bool.and_true, AV.leads, AV.leads.leadsL, Bool.or_false, Z15]
theorem Z06t {C : Callee} {site : Nat → Nat} {seen : List Nat} {f : FuncId} {args : List AV} {id id' n n' g g' sz sz' : Nat} {cells cells' : List AV} {H' : AHeap} (h : C f args [] 0 = some (.agg [.ref id 0 n n g sz false, .ref id' 0 n' n' g' sz' false], H')) (hg : hget H' id = some ⟨.row, cells⟩) (hg' : hget H' id' = some ⟨.row, cells'⟩) (hne : id' ≠ id) (hs : site 1 ≠ site 0) (e1 : cells.length = g) (e2 : cells'.length = g') :
   aBack site true seen (thaw C f args [] 0) = Z91 (site 0) (site 1) seen (fun k0 k1 => .agg [.ref k0 0 n n g sz false, .ref k1 0 n' n' g' sz' false]) ⟨.row, cells⟩ ⟨.row, cells'⟩ := by
 subst e1; subst e2
 have hb : ∀ off, (site 1 + off == site 0 + off) = false := fun off => by rw [beq_eq_false_iff_ne]; omega
 simp only [thaw, h, frzRet, aBack, sitesB, aBackAt, imp, imps, hg, hg', hne, hb, List.length_nil, List.length_cons, List.not_mem_nil, List.mem_cons, or_false, not_false_eq_true, and_true, if_true, List.map_cons, List.map_nil, AM.apart, List.elem_cons, List.elem_nil, Bool.not_false, Bool.and_true, AV.leads, AV.leads.leadsL, Bool.or_false, Bool.true_or, Nat.zero_add, Z91]
theorem Z07j {d : Nat} {site : Nat → Nat} {seen : List Nat} {D : Dro} (h : DOk D) {many : Int} (hm : many = 5 ∨ many = 6) (he : mdP D (nOf D many) = []) :
   aBack site true seen (thaw (callA E fg 1000 (d + 2)) 40 [.agg (dcs D), .int .i64 many] [] 0) = Z15 (site 0) seen (fun k => .agg [.ref k 0 (nOf D many) (nOf D many) (nOf D many * 5) 5 false, .nilsl]) ⟨.row, cls lc (mdL D (nOf D many))⟩ := by
 obtain ⟨g, H', hg, hr, h1, h2⟩ := ZN6 (d := d) h hm
 have hn6 : nOf D many ≤ 6 := by have := ZyS h hm; rcases hm with rfl | rfl <;> omega
 rw [he] at hr
 exact Z06Q hr h1 (by rw [ZA ZX, Z7F h hn6])
theorem Z075 {d : Nat} {site : Nat → Nat} {seen : List Nat} {D : Dro} (h : DOk D) {many : Int} (hm : many = 5 ∨ many = 6) (he : mdP D (nOf D many) ≠ []) (hs : site 1 ≠ site 0) :
   aBack site true seen (thaw (callA E fg 1000 (d + 2)) 40 [.agg (dcs D), .int .i64 many] [] 0) = Z91 (site 0) (site 1) seen (fun k0 k1 => .agg [.ref k0 0 (nOf D many) (nOf D many) (nOf D many * 5) 5 false, .ref k1 0 (mdP D (nOf D many)).length (mdP D (nOf D many)).length ((mdP D (nOf D many)).length * 2) 2 false]) ⟨.row, cls lc (mdL D (nOf D many))⟩ ⟨.row, cls bc (mdP D (nOf D many))⟩ := by
 obtain ⟨g, H', hg, hr, h1, h2⟩ := ZN6 (d := d) h hm
 have hn6 : nOf D many ≤ 6 := by have := ZyS h hm; rcases hm with rfl | rfl <;> omega
 have h0 : (mdP D (nOf D many)).length ≠ 0 := by rw [Ne, List.length_eq_zero_iff]; exact he
 have hb : bV g (mdP D (nOf D many)).length = .ref g 0 (mdP D (nOf D many)).length (mdP D (nOf D many)).length ((mdP D (nOf D many)).length * 2) 2 false := if_neg h0
 rw [hb] at hr
 exact Z06t hr h1 (h2 h0) (by rcases hg with rfl | rfl <;> omega) hs (by rw [ZA ZX, Z7F h hn6]) (ZA Z14 _)
end Go.AM.YtgfnbmfjbjopkaaDoor
end
noncomputable section
namespace Go.AM
theorem ZbT {k : Nat} {c : List AV} {T : AHeap} (hc : refsL c = []) {φ : AFr} {T' : AHeap} (hT : hget T' k = none) (h : headA [] (φ, (k, ⟨.box, []⟩) :: T) = (φ, T')) : headA [] (φ, (k, ⟨.box, c⟩) :: T) = (φ, T') := by
 simp only [headA, Z7J hc] at h ⊢
 generalize mark ((k, ⟨.box, []⟩) :: T) 1000 (refsF φ) [] = keep at *
 simp only [keepB] at h ⊢
 have hno : ∀ S, (k, ⟨.box, []⟩) :: S ≠ T' := by
   intro S e
   rw [← e, Zd, if_pos rfl] at hT
   exact absurd hT (by simp)
 cases hcnd : (keep.elem k || (hget [] k).isSome) with
 | true =>
   rw [hcnd] at h
   simp only [cond_true, gcIf] at h
   cases hcl : closedB φ ((k, ⟨.box, []⟩) :: keepB [] keep T) with
   | true =>
     rw [hcl] at h
     simp only [Prod.mk.injEq, true_and] at h
     exact absurd h (hno _)
   | false =>
     rw [hcl] at h
     simp only [Prod.mk.injEq, true_and] at h
     exact absurd h (hno _)
 | false =>
   rw [hcnd] at h
   simp only [cond_false, gcIf] at h ⊢
   cases hcl : closedB φ (keepB [] keep T) with
   | true =>
     rw [hcl] at h
     exact h
   | false =>
     rw [hcl] at h
     simp only [Prod.mk.injEq, true_and] at h
     exact absurd h (hno _)
end Go.AM
namespace Go.AM.YtgfnbmfjbjopkaaDoor
open Go Go.AM Go.AM.Mule
end Go.AM.YtgfnbmfjbjopkaaDoor
end
noncomputable section
namespace Go.AM.YtgfnbmfjbjopkaaDoor
open Go Go.AM Go.AM.Mule
structure Z6 (zs : List Int) : Prop where
 l : zs.length = 6
 b : ∀ (i : Nat) (z : Int), zs[i]? = some z → 0 ≤ z ∧ z ≤ 255
theorem Z02i (zs : List Int) : (u8s zs).length = zs.length := by simp [u8s]
theorem Z09i {zs : List Int} {i : Nat} {z : Int} (h : zs[i]? = some z) : (u8s zs)[i]? = some (.int .u8 z) := by simp [u8s, h]
theorem Z4Y (zs : List Int) : ∀ a ∈ u8s zs, ∃ k z, a = AV.int k z := by simp [u8s]
def pV (k : Nat) (m : Nat) : AV := if m = 0 then .nilsl else .ref k 0 m m (m * 2) 2 false
def pH (k : Nat) (st : BS) (es : List Pr) : AHeap := if es.length = 0 then [] else [(k, ⟨st, cls bc es⟩)]
theorem pVH (k : Nat) (st : BS) (es : List Pr) : (es = [] ∧ pV k es.length = .nilsl ∧ pH k st es = []) ∨ (pV k es.length = .ref k 0 es.length es.length (es.length * 2) 2 false ∧ pH k st es = [(k, ⟨st, cls bc es⟩)]) := by
 by_cases h : es.length = 0
 · exact .inl ⟨List.length_eq_zero_iff.1 h, if_pos h, if_pos h⟩
 · exact .inr ⟨if_neg h, if_neg h⟩
end Go.AM.YtgfnbmfjbjopkaaDoor
end
noncomputable section
namespace Go.AM.YtgfnbmfjbjopkaaDoor
open Go Go.AM Go.AM.Mule
def keyN (zs : List Int) (k : Nat) : Int := zs.getD k 0 * 8 + k
def rkP (zs : List Int) (i k : Nat) : Nat := ((List.range k).filter fun j => decide (keyN zs j < keyN zs i)).length
def rkT (zs : List Int) (n i : Nat) : Nat := rkP zs i n
theorem Z0q5 (zs : List Int) (i k : Nat) : rkP zs i k ≤ k := by
 have := List.length_filter_le (fun j => decide (keyN zs j < keyN zs i)) (List.range k)
 rw [List.length_range] at this
 exact this
theorem Z0go (zs : List Int) (i k : Nat) : rkP zs i (k + 1) = rkP zs i k + if keyN zs k < keyN zs i then 1 else 0 := by
 unfold rkP
 rw [List.range_succ, List.filter_append, List.length_append]
 congr 1
 rw [List.filter_cons]
 by_cases h : keyN zs k < keyN zs i
 · rw [if_pos (by simpa using h), if_pos h]; rfl
 · rw [if_neg (by simpa using h), if_neg h]; rfl
def toA (zs : List Int) (n i c : Nat) : List Nat := (List.range n).map fun j => if j < i then rkT zs n j else if j = i then c else 0
theorem Zce (zs n i c) : (toA zs n i c).length = n := by simp [toA]
theorem Z09e {zs : List Int} {n i c : Nat} (h : i < n) : (toA zs n i c)[i]? = some c := by
 simp [toA, h]
theorem Z0lP {zs : List Int} {n i c d : Nat} : (toA zs n i c).set i d = toA zs n i d := by
 apply List.ext_getElem?
 intro j
 rw [List.getElem?_set]
 by_cases hj : j < n
 · by_cases e : i = j
   · subst e
     rw [if_pos rfl, Zce, if_pos hj, Z09e hj]
   · rw [if_neg e]
     have e2 : ¬ j = i := fun h => e h.symm
     simp [toA, hj, e2]
 · have h1 : ∀ x, (toA zs n i x)[j]? = none := fun x => List.getElem?_eq_none (by rw [Zce]; omega)
   rw [h1, h1]
   split
   · rw [if_neg (by rw [Zce]; omega)]
   · rfl
theorem Z0ea {zs : List Int} {n i : Nat} : toA zs n i (rkT zs n i) = toA zs n (i + 1) 0 := by
 unfold toA
 refine List.map_congr_left fun j _ => ?_
 by_cases h : j < i
 · rw [if_pos h, if_pos (by omega)]
 · rw [if_neg h]
   by_cases e : j = i
   · rw [if_pos e, if_pos (by omega), e]
   · rw [if_neg e, if_neg (by omega)]
     split <;> rfl
theorem Z0gG {zs : List Int} {n : Nat} : toA zs n 0 0 = List.replicate n 0 := by
 apply List.ext_getElem?
 intro j
 by_cases hj : j < n
 · simp [toA, hj]
 · rw [List.getElem?_eq_none (by rw [Zce]; omega), List.getElem?_eq_none (by simpa using hj)]
abbrev nH (zs : List Int) (ls : List Ld) (es : List Pr) (n : Nat) (A : List Nat) : AHeap :=
 (4, ⟨.box, u8s zs⟩) :: (7, ⟨.box, [.ref 29 0 n n (n * 5) 5 false, pV 282 es.length]⟩) :: (29, ⟨.row, cls lc ls⟩) :: (34, ⟨.row, ins A⟩) :: pH 282 .row es
abbrev n1S (zs : List Int) (ls : List Ld) (es : List Pr) (n : Nat) (day : Int) (A : List Nat) (i k : Nat) : St :=
 ([(40, .int .i64 k), (39, .int .i64 n), (36, .int .i64 i), (35, .int .i64 n), (10, .int .i64 i), (9, .ref 34 0 n n n 1 false), (8, .int .i64 n), (7, .ptr 7 0 2), (4, .ptr 4 0 6), (2, .int .u8 day)], nH zs ls es n A)
theorem Z0sv {C : Callee} {zs : List Int} {ls : List Ld} {es : List Pr} {n : Nat} {day : Int} (hz : Z6 zs) (hn : n ≤ 6) (i : Nat) (hi : i < n) (k : Nat) (hk : k < n) :
   ∃ s', (execA E C (fg 10) 0 253 [] 1000 Zcx) (n1S zs ls es n day (toA zs n i (rkP zs i k)) i k) = some (.normal, s') ∧ headA [] s' = n1S zs ls es n day (toA zs n i (rkP zs i (k + 1))) i (k + 1) := by
 have hzl := hz.l
 have hxi : zs[i]? = some (zs.getD i 0) := Z08 (by omega)
 have hxk : zs[k]? = some (zs.getD k 0) := Z08 (by omega)
 obtain ⟨a1, a2⟩ := hz.b _ _ hxi
 obtain ⟨b1, b2⟩ := hz.b _ _ hxk
 have hai := Z09i hxi
 have hak := Z09i hxk
 have hlen : (u8s zs).length = 6 := by rw [Z02i, hzl]
 have hr := Z0q5 zs i k
 have hat := Z10 (Z09e (zs := zs) (c := rkP zs i k) hi)
 have hil : (ins (toA zs n i (rkP zs i k))).length = n := by rw [Zu, Zce]
 have hset := Z9N (toA zs n i (rkP zs i k)) i (rkP zs i k + 1)
 rw [Z0lP] at hset
 have hs := Z0go zs i k
 have ei : keyN zs i = zs.getD i 0 * 8 + i := rfl
 have ek : keyN zs k = zs.getD k 0 * 8 + k := rfl
 rw [hs]
 rw [ei, ek] at hs ⊢
 generalize zs.getD i 0 = x at *
 generalize zs.getD k 0 = y at *
 have wx : wrp .i64 x = x := Z0i (by omega)
 have wy : wrp .i64 y = y := Z0i (by omega)
 have wx8 : wrp .i64 (x * 8) = x * 8 := Z0i (by omega)
 have wy8 : wrp .i64 (y * 8) = y * 8 := Z0i (by omega)
 have wxi : wrp .i64 (x * 8 + i) = x * 8 + i := Z0i (by omega)
 have wyk : wrp .i64 (y * 8 + k) = y * 8 + k := Z0i (by omega)
 have wr := ZD (show rkP zs i k < 1000000 by omega)
 have g1 : (k : Int) < n := by omega
 have g2 : (i : Int) < n := by omega
 have g3 : (k : Int) < 6 := by omega
 have g4 : (i : Int) < 6 := by omega
 simp only [n1S, nH]
 by_cases hc : y * 8 + k < x * 8 + i
 · rw [if_pos hc]
   generalize toA zs n i (rkP zs i k + 1) = A2 at *
   generalize toA zs n i (rkP zs i k) = A1 at *
   generalize rkP zs i k = r at *
   rcases pVH 282 .row es with ⟨_, e1, e2⟩ | ⟨e1, e2⟩ <;> rw [e1, e2]
   · simp (disch := omega) only [Z8, Zg, Bool.not_true, Bool.not_false, Zc, Za, Z2, Z1, Z3, Z0, Zd, Zi, Zo, Zm, stp, justO, just, Rd.bind, Rd.run, Rd.opt, upds, acells, tsz, rdCells, aLoad, aStore, opStore, Z5, aNum, aBin, aInt, putC, Nat.reduceAdd, Nat.reduceLT, Nat.reduceBEq, Nat.reduceEqDiff, Nat.reduceLeDiff, ↓reduceIte, Zf, Nat.zero_add, List.nil_append, ZE, ZH, ZO, ZP, Zz, ZL, Zt, Zn, ZC, Zv, stpT, Rd.foot, writing, Zq, Tr.empty, Zs, apartT, disj, List.isEmpty_nil, List.isEmpty_cons, List.map_nil, Bool.not_false, Bool.not_true, Bool.true_or, Bool.or_true, Bool.or_false, Bool.and_true, Bool.true_and, Bool.and_self, decide_true, Z7, Zk, and_true, true_and, Int.natCast_nonneg, Int.ofNat_lt, Int.toNat_natCast, snaps, List.append_nil, List.elem_cons, List.elem_nil, List.length_cons, List.length_nil, Zp, seqN, bindN, regN, Zr, aConv, List.all_cons, List.all_nil, Nat.le_refl, Nat.mul_one, List.not_mem_nil, beq_self_eq_true, Bool.false_eq_true, T_3, T_36, T_5, T_56, List.all_cons, List.all_nil, List.getD_cons_zero, List.getD_cons_succ, beq_self_eq_true, Zc9, Z9Q, Z9M, Zdr, ZcS, Zd3, ZsM, Zhm, Zhv, ZiV, Znk, Zf8, Zb2, ZaV, Zfi, ZeZ, Zep, Zft, ZeP, Zfo, Zeq, Zf1, Ze3, Zf7, Zbz, Zb6, ZbH, Zbp, Zbu, ZoQ, ZdM, Zf2, ZeK, ZdL, Zfm, ZIY, ZEd, ZMt, Zo4, ZrZ, Zob, Znr, ZrC, Znn, ZdO, Ze9, Zeh, Zpb, Zdq, Zd1, g1, g2, hai, hak, hlen, hat, hil, hset, wx, wy, wx8, wy8, wxi, wyk, wr, hc, if_pos, ZD (show k < 1000000 by omega)]
     exact ⟨_, rfl, Z07 (ZY _ (Z4Y zs)) rfl rfl⟩
   · simp (disch := omega) only [Z8, Zg, Bool.not_true, Bool.not_false, Zc, Za, Z2, Z1, Z3, Z0, Zd, Zi, Zo, Zm, stp, justO, just, Rd.bind, Rd.run, Rd.opt, upds, acells, tsz, rdCells, aLoad, aStore, opStore, Z5, aNum, aBin, aInt, putC, Nat.reduceAdd, Nat.reduceLT, Nat.reduceBEq, Nat.reduceEqDiff, Nat.reduceLeDiff, ↓reduceIte, Zf, Nat.zero_add, List.nil_append, ZE, ZH, ZO, ZP, Zz, ZL, Zt, Zn, ZC, Zv, stpT, Rd.foot, writing, Zq, Tr.empty, Zs, apartT, disj, List.isEmpty_nil, List.isEmpty_cons, List.map_nil, Bool.not_false, Bool.not_true, Bool.true_or, Bool.or_true, Bool.or_false, Bool.and_true, Bool.true_and, Bool.and_self, decide_true, Z7, Zk, and_true, true_and, Int.natCast_nonneg, Int.ofNat_lt, Int.toNat_natCast, snaps, List.append_nil, List.elem_cons, List.elem_nil, List.length_cons, List.length_nil, Zp, seqN, bindN, regN, Zr, aConv, List.all_cons, List.all_nil, Nat.le_refl, Nat.mul_one, List.not_mem_nil, beq_self_eq_true, Bool.false_eq_true, T_3, T_36, T_5, T_56, List.all_cons, List.all_nil, List.getD_cons_zero, List.getD_cons_succ, beq_self_eq_true, Zc9, Z9Q, Z9M, Zdr, ZcS, Zd3, ZsM, Zhm, Zhv, ZiV, Znk, Zf8, Zb2, ZaV, Zfi, ZeZ, Zep, Zft, ZeP, Zfo, Zeq, Zf1, Ze3, Zf7, Zbz, Zb6, ZbH, Zbp, Zbu, ZoQ, ZdM, Zf2, ZeK, ZdL, Zfm, ZIY, ZEd, ZMt, Zo4, ZrZ, Zob, Znr, ZrC, Znn, ZdO, Ze9, Zeh, Zpb, Zdq, Zd1, g1, g2, hai, hak, hlen, hat, hil, hset, wx, wy, wx8, wy8, wxi, wyk, wr, hc, if_pos, ZD (show k < 1000000 by omega)]
     exact ⟨_, rfl, Z07 (ZY _ (Z4Y zs)) rfl rfl⟩
 · rw [if_neg hc, Nat.add_zero]
   generalize toA zs n i (rkP zs i k) = A1 at *
   rcases pVH 282 .row es with ⟨_, e1, e2⟩ | ⟨e1, e2⟩ <;> rw [e1, e2]
   · simp (disch := omega) only [Z8, Zg, Bool.not_true, Bool.not_false, Zc, Za, Z2, Z1, Z3, Z0, Zd, Zo, Zm, stp, justO, just, Rd.bind, Rd.run, Rd.opt, upds, tsz, rdCells, aLoad, Z5, aNum, aBin, aInt, Nat.reduceAdd, Nat.reduceLT, Nat.reduceBEq, Nat.reduceEqDiff, Nat.reduceLeDiff, ↓reduceIte, Zf, Nat.zero_add, ZE, ZH, ZO, ZP, Zz, ZL, Zt, Zn, ZC, Zv, stpT, Rd.foot, writing, Zq, Tr.empty, Zs, apartT, disj, List.isEmpty_nil, List.isEmpty_cons, List.map_nil, Bool.not_false, Bool.not_true, Bool.true_or, Bool.or_true, Bool.or_false, Bool.and_true, Bool.true_and, Bool.and_self, decide_true, decide_false, Z7, and_true, true_and, Int.natCast_nonneg, Int.ofNat_lt, Int.toNat_natCast, List.elem_cons, List.elem_nil, seqN, bindN, regN, aConv, List.all_cons, List.all_nil, Nat.le_refl, Nat.mul_one, beq_self_eq_true, Bool.false_eq_true, T_3, T_36, T_5, T_56, List.all_cons, List.all_nil, List.getD_cons_zero, List.getD_cons_succ, beq_self_eq_true, Zc9, Z9Q, Z9M, Zdr, ZcS, Zd3, ZsM, Zhm, Zhv, ZiV, Znk, Zf8, Zb2, ZaV, Zfi, ZeZ, Zep, Zft, ZeP, Zfo, Zeq, Zf1, Ze3, Zf7, Zbz, Zb6, ZbH, Zbp, Zbu, ZoQ, ZdM, Zf2, ZeK, ZdL, Zfm, Zo4, ZrZ, Zob, Znr, ZrC, Znn, ZdO, Ze9, Zeh, Zpb, Zdq, Zd1, g1, g2, hai, hak, hlen, wx, wy, wx8, wy8, wxi, wyk, hc, if_pos, ZD (show k < 1000000 by omega)]
     exact ⟨_, rfl, Z07 (ZY _ (Z4Y zs)) rfl rfl⟩
   · simp (disch := omega) only [Z8, Zg, Bool.not_true, Bool.not_false, Zc, Za, Z2, Z1, Z3, Z0, Zd, Zo, Zm, stp, justO, just, Rd.bind, Rd.run, Rd.opt, upds, tsz, rdCells, aLoad, Z5, aNum, aBin, aInt, Nat.reduceAdd, Nat.reduceLT, Nat.reduceBEq, Nat.reduceEqDiff, Nat.reduceLeDiff, ↓reduceIte, Zf, Nat.zero_add, ZE, ZH, ZO, ZP, Zz, ZL, Zt, Zn, ZC, Zv, stpT, Rd.foot, writing, Zq, Tr.empty, Zs, apartT, disj, List.isEmpty_nil, List.isEmpty_cons, List.map_nil, Bool.not_false, Bool.not_true, Bool.true_or, Bool.or_true, Bool.or_false, Bool.and_true, Bool.true_and, Bool.and_self, decide_true, decide_false, Z7, and_true, true_and, Int.natCast_nonneg, Int.ofNat_lt, Int.toNat_natCast, List.elem_cons, List.elem_nil, seqN, bindN, regN, aConv, List.all_cons, List.all_nil, Nat.le_refl, Nat.mul_one, beq_self_eq_true, Bool.false_eq_true, T_3, T_36, T_5, T_56, List.all_cons, List.all_nil, List.getD_cons_zero, List.getD_cons_succ, beq_self_eq_true, Zc9, Z9Q, Z9M, Zdr, ZcS, Zd3, ZsM, Zhm, Zhv, ZiV, Znk, Zf8, Zb2, ZaV, Zfi, ZeZ, Zep, Zft, ZeP, Zfo, Zeq, Zf1, Ze3, Zf7, Zbz, Zb6, ZbH, Zbp, Zbu, ZoQ, ZdM, Zf2, ZeK, ZdL, Zfm, Zo4, ZrZ, Zob, Znr, ZrC, Znn, ZdO, Ze9, Zeh, Zpb, Zdq, Zd1, g1, g2, hai, hak, hlen, wx, wy, wx8, wy8, wxi, wyk, hc, if_pos, ZD (show k < 1000000 by omega)]
     exact ⟨_, rfl, Z07 (ZY _ (Z4Y zs)) rfl rfl⟩
abbrev n2S (zs : List Int) (ls : List Ld) (es : List Pr) (n : Nat) (day : Int) (i : Nat) : St :=
 ([(36, .int .i64 i), (35, .int .i64 n), (9, .ref 34 0 n n n 1 false), (8, .int .i64 n), (7, .ptr 7 0 2), (4, .ptr 4 0 6), (2, .int .u8 day)], nH zs ls es n (toA zs n i 0))
theorem Z0rZ {C : Callee} {zs : List Int} {ls : List Ld} {es : List Pr} {n : Nat} {day : Int} (hz : Z6 zs) (hn : n ≤ 6) (i : Nat) (hi : i < n) :
   ∃ s', (execA E C (fg 10) 0 253 [] 1000 ZdI) (n2S zs ls es n day i) = some (.normal, s') ∧ headA [] s' = n2S zs ls es n day (i + 1) := by
 have hgo := fun k hk => Z0sv (C := C) (ls := ls) (es := es) (day := day) hz hn i hi k hk
 have hloop := loopN (f := (execA E C (fg 10) 0 253 [] 1000 Zcx)) (fun k => n1S zs ls es n day (toA zs n i (rkP zs i k)) i k) n hgo (by
     simp only [n1S, nH]
     rcases pVH 282 .row es with ⟨_, e1, e2⟩ | ⟨e1, e2⟩ <;> rw [e1, e2] <;> exact Z07 (ZY _ (Z4Y zs)) rfl rfl) (by omega)
   (e := .exit 2) (se := ([(41, .bool false), (40, .int .i64 n), (39, .int .i64 n), (36, .int .i64 i), (35, .int .i64 n), (10, .int .i64 i), (9, .ref 34 0 n n n 1 false), (8, .int .i64 n), (7, .ptr 7 0 2), (4, .ptr 4 0 6), (2, .int .u8 day)], nH zs ls es n (toA zs n (i + 1) 0)))
   (by
     rw [show rkP zs i n = rkT zs n i from rfl, Z0ea]
     simp only [n1S, nH]
     generalize toA zs n (i + 1) 0 = A2 at *
     rcases pVH 282 .row es with ⟨_, e1, e2⟩ | ⟨e1, e2⟩ <;> rw [e1, e2]
     · simp (disch := omega) only [ZR, Z8, Zc, Za, Z2, Z1, Z3, Z0, Zo, stp, just, Rd.bind, Rd.run, Rd.opt, upds, aBin, aInt, Nat.reduceEqDiff, Nat.reduceLeDiff, ↓reduceIte, decide_false, Z7, List.elem_nil, seqN, bindN, regN, Int.lt_irrefl, Bool.false_eq_true, Zc9, Z9Q, Z9M, Zdr, ZcS, Zd3, Zdq, Zd1]
     · simp (disch := omega) only [ZR, Z8, Zc, Za, Z2, Z1, Z3, Z0, Zo, stp, just, Rd.bind, Rd.run, Rd.opt, upds, aBin, aInt, Nat.reduceEqDiff, Nat.reduceLeDiff, ↓reduceIte, decide_false, Z7, List.elem_nil, seqN, bindN, regN, Int.lt_irrefl, Bool.false_eq_true, Zc9, Z9Q, Z9M, Zdr, ZcS, Zd3, Zdq, Zd1]) (by simp)
 have e0 : rkP zs i 0 = 0 := rfl
 simp only [n1S, e0, cl0] at hloop
 have g1 : (i : Int) < n := by omega
 simp only [n2S]
 generalize toA zs n (i + 1) 0 = A2 at *
 generalize toA zs n i 0 = A1 at *
 simp only [nH] at hloop ⊢
 rcases pVH 282 .row es with ⟨_, e1, e2⟩ | ⟨e1, e2⟩ <;> rw [e1, e2] at hloop <;> rw [e1, e2]
 · simp (disch := omega) only [Z8, ZJ, Zg, Zc, Za, Z2, Z1, Z3, Z0, Zo, Zm, stp, just, Rd.bind, Rd.run, Rd.opt, upds, aBin, aInt, Nat.reduceBEq, Nat.reduceEqDiff, Nat.reduceLeDiff, ↓reduceIte, decide_true, Z7, List.elem_cons, List.elem_nil, seqN, bindN, regN, beq_self_eq_true, Bool.false_eq_true, beq_self_eq_true, ZpG, ZiI, ZiS, Zqr, Zrn, ZoW, Z09g, Z01T, Z00u, Z041, Z08X, Z01q, Z04W, Z001, Z0bC, Z0bB, Z0cU, Z0aT, Z0bZ, Z0b6, ZBe, ZMa, ZMl, Z08d, ZqL, Zpo, g1, hloop, ZD (show i < 1000000 by omega)]
   exact ⟨_, rfl, Z07 (ZY _ (Z4Y zs)) rfl rfl⟩
 · simp (disch := omega) only [Z8, ZJ, Zg, Zc, Za, Z2, Z1, Z3, Z0, Zo, Zm, stp, just, Rd.bind, Rd.run, Rd.opt, upds, aBin, aInt, Nat.reduceBEq, Nat.reduceEqDiff, Nat.reduceLeDiff, ↓reduceIte, decide_true, Z7, List.elem_cons, List.elem_nil, seqN, bindN, regN, beq_self_eq_true, Bool.false_eq_true, beq_self_eq_true, ZpG, ZiI, ZiS, Zqr, Zrn, ZoW, Z09g, Z01T, Z00u, Z041, Z08X, Z01q, Z04W, Z001, Z0bC, Z0bB, Z0cU, Z0aT, Z0bZ, Z0b6, ZBe, ZMa, ZMl, Z08d, ZqL, Zpo, g1, hloop, ZD (show i < 1000000 by omega)]
   exact ⟨_, rfl, Z07 (ZY _ (Z4Y zs)) rfl rfl⟩
end Go.AM.YtgfnbmfjbjopkaaDoor
end
end
