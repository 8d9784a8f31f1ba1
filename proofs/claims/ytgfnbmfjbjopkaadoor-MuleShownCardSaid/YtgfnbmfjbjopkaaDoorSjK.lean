/- A part of the proof of muleShown_card: ShL. Own work of this project; texts printed by own programs among it. -/
import Derived.Carry
import Derived.KernelRfl
import Derived.Test.YtgfnbmfjbjopkaaDoorSjJ
set_option maxRecDepth 1000000
set_option maxHeartbeats 16000000
noncomputable section
noncomputable section
namespace Go.AM
open Go Go.RowKit Go.ChangeShapes
noncomputable section
variable {H : Type} {enc : TypeId × Value → H} {P : Program} {w : World} {base : Nat} {spare : Nat → Bool} {held : Bool}
theorem ZGj {t : TypeId} {v : Value} {d : DataW H} {ps : List MemPlace} (h : DataW.Trod enc P w base spare held t v d ps) : ∀ x ∈ ps, x.block < w.heap.size := by
 obtain ⟨n, h⟩ := h
 exact DataW.trod_lt n t _ _ h
theorem _root_.Go.RowKit.Below.trod' {t : TypeId} (hl : laidOutB P = true) (hr : P.readableRec t = true) (hrow : t < P.types.size) {W W' : World} {v : Value} {d : DataW H} {ps : List MemPlace} (hb : Below W.heap.size W W')
   (h : DataW.Trod enc P W 0 (fun _ => true) true t v d ps) : DataW.Trod enc P W' 0 (fun b => decide (b < W.heap.size)) true t v d ps :=
 Below.trod hl hr hrow h hb (ZGj h)
theorem Zmf {t : TypeId} {k : IntKind} {v : Value} {b : Nat} {r : Reach} (ht : P.underlying t = some (.int k)) (hv : Cell.okWide P w r b t v) : ∃ z, v = .int k z ∧ k.has z := by
 simp only [Cell.okWide, ht] at hv
 unfold Cell.ok at hv
 rw [ht] at hv
 cases v <;> simp only at hv <;> try exact hv.elim
 obtain ⟨rfl, h⟩ := hv
 exact ⟨_, rfl, h⟩
theorem Zgc {t : TypeId} {k : IntKind} {v : Value} {b : Nat} {r : Reach} (ht : P.underlying t = some (.int k)) (hv : Value.okWide P w r b t v) : ∃ z, v = .int k z ∧ k.has z := by
 unfold Value.okWide at hv
 rw [ht] at hv
 exact Zmf ht hv
theorem ZtT {t : TypeId} {ts : List TypeId} {ks : List IntKind} {b : Nat} {r : Reach} (hu : ∀ (i : Nat) (u : TypeId) (k : IntKind), ts[i]? = some u → ks[i]? = some k → P.underlying u = some (.int k)) (hks : ks.length = ts.length) (hc : P.cellTypes P.depth t = some ts) (hn : P.cellsOf t = ts.length) {cs : Array Value} (hs : cs.size = P.cellsOf t) (hr : Row.okWide P w r b t cs) :
   ∃ zs : List Int, cs.toList = List.zipWith Value.int ks zs ∧ zs.length = ts.length ∧ ∀ (i : Nat) (z : Int) (k : IntKind), zs[i]? = some z → ks[i]? = some k → k.has z := by
 obtain ⟨ts', h1, _, h3⟩ := hr
 rw [hc] at h1
 obtain rfl := Option.some.inj h1
 have key : ∀ i (hi : i < ts.length), ∃ z, cs[i]? = some (.int (ks[i]'(by omega)) z) ∧ (ks[i]'(by omega)).has z := by
   intro i hi
   have hv : cs[i]? = some cs[i] := Array.getElem?_eq_getElem (by omega)
   obtain ⟨u', hu', hcell⟩ := h3 i _ hv
   rw [Nat.mod_eq_of_lt hi] at hu'
   obtain ⟨z, hz, hb⟩ := Zmf (hu i u' _ hu' (List.getElem?_eq_getElem (by omega))) hcell
   exact ⟨z, by rw [hv, hz], hb⟩
 refine ⟨(List.range ts.length).map fun i => match (cs[i]? : Option Value) with | some (Value.int _ z) => z | _ => 0, ?_, by simp, ?_⟩
 · apply List.ext_getElem?
   intro i
   by_cases hi : i < ts.length
   · obtain ⟨z, hz, _⟩ := key i hi
     rw [List.getElem?_zipWith, List.getElem?_map, List.getElem?_range hi, List.getElem?_eq_getElem (by omega : i < ks.length)]
     simp [hz]
   · rw [List.getElem?_eq_none (by simp; omega), List.getElem?_eq_none (by simp; omega)]
 · intro i z k hz hk
   have hi : i < ts.length := by have := (List.getElem?_eq_some_iff.1 hz).1; simpa using this
   obtain ⟨y, hy, hb⟩ := key i hi
   rw [List.getElem?_eq_getElem (by omega : i < ks.length)] at hk
   obtain rfl := Option.some.inj hk
   simp [hi, hy] at hz
   subst hz
   exact hb
theorem ZBx {fz : Nat → Prop} {rf : RFt} (ks : List IntKind) (zs : List Int) {cs : Array Value} (h : cs.toList = List.zipWith Value.int ks zs) : VR fz w (.agg (List.zipWith AV.int ks zs)) rf (.agg cs) := by
 simp only [VR]
 refine ⟨cs, rfl, ?_⟩
 rw [ZI, h]
 refine ⟨by simp, fun i a v h1 h2 => ?_⟩
 rw [List.getElem?_zipWith] at h1 h2
 cases hz : zs[i]? with
 | none => rw [hz] at h1; cases hk : ks[i]? <;> rw [hk] at h1 <;> simp at h1
 | some z =>
   cases hk : ks[i]? with
   | none => rw [hk] at h1; simp at h1
   | some k =>
     rw [hz, hk] at h1 h2
     simp only [Option.some.injEq] at h1 h2
     subst h1; subst h2
     exact ⟨rfl, by simp only [VR]⟩
theorem ZK9 {t : TypeId} {ts : List TypeId} {ks : List IntKind} {v : Value} {b : Nat} {r : Reach} {fs : Array Field} (ht : P.underlying t = some (.struct fs)) (hu : ∀ (i : Nat) (u : TypeId) (k : IntKind), ts[i]? = some u → ks[i]? = some k → P.underlying u = some (.int k)) (hks : ks.length = ts.length) (hc : P.cellTypes P.depth t = some ts) (hn : P.cellsOf t = ts.length) (hv : Value.okWide P w r b t v) :
   ∃ (zs : List Int) (cs : Array Value), v = .agg cs ∧ cs.toList = List.zipWith Value.int ks zs ∧ zs.length = ts.length ∧ ∀ (i : Nat) (z : Int) (k : IntKind), zs[i]? = some z → ks[i]? = some k → k.has z := by
 unfold Value.okWide at hv
 rw [ht] at hv
 obtain ⟨cs, h1, h2, h3⟩ := hv
 obtain ⟨zs, a, b, c⟩ := ZtT hu hks hc hn h2 h3
 exact ⟨zs, cs, h1, a, b, c⟩
theorem Zi {α : Type} {l : List α} {n : Nat} (h : l.length = n + 1) : ∃ a t, l = a :: t ∧ t.length = n := by
 cases l with
 | nil => simp at h
 | cons a t => exact ⟨a, t, rfl, by simpa using h⟩
end
end Go.AM
namespace Go.AM.YtgfnbmfjbjopkaaDoor
open Go Go.AM Go.RowKit Go.Proofs Go.Proofs.YtgfnbmfjbjopkaaDoor Go.ChangeShapes Go.WideShapes Go.ChangeAt
abbrev dTs : List TypeId := List.replicate 31 5 ++ 55 :: List.replicate 6 5
abbrev dKs : List IntKind := List.replicate 31 .u8 ++ .u16 :: List.replicate 6 .u8
theorem Z024 : ∀ (i : Nat) (u : TypeId) (k : IntKind), dTs[i]? = some u → dKs[i]? = some k → Tryd.prog.underlying u = some (.int k) := by
 intro i u k h1 h2
 have hi : i < 38 := (List.getElem?_eq_some_iff.1 h1).1
 by_cases e : i = 31
 · subst e
   obtain rfl := Option.some.inj h1; obtain rfl := Option.some.inj h2
   exact Tryd.underlying55
 · have e1 : dTs[i]? = some 5 := by
     rcases Nat.lt_or_ge i 31 with h | h
     · rw [List.getElem?_append_left (by simpa using h), List.getElem?_replicate, if_pos h]
     · rw [List.getElem?_append_right (by simpa using h), List.length_replicate]
       obtain ⟨j, hj⟩ : ∃ j, i - 31 = j + 1 := ⟨i - 32, by omega⟩
       rw [hj, List.getElem?_cons_succ, List.getElem?_replicate, if_pos (by omega)]
   have e2 : dKs[i]? = some .u8 := by
     rcases Nat.lt_or_ge i 31 with h | h
     · rw [List.getElem?_append_left (by simpa using h), List.getElem?_replicate, if_pos h]
     · rw [List.getElem?_append_right (by simpa using h), List.length_replicate]
       obtain ⟨j, hj⟩ : ∃ j, i - 31 = j + 1 := ⟨i - 32, by omega⟩
       rw [hj, List.getElem?_cons_succ, List.getElem?_replicate, if_pos (by omega)]
   rw [e1] at h1; rw [e2] at h2
   obtain rfl := Option.some.inj h1; obtain rfl := Option.some.inj h2
   exact Tryd.underlying5
theorem ZKe : Tryd.prog.cellsOf 58 = 38 := by kernel_rfl
theorem ZyE : Tryd.prog.cellTypes Tryd.prog.depth 58 = some dTs := by kernel_rfl
theorem ZGr {W : World} {v : Value} {b0 : Nat} {r : Reach} (hv : Value.okWide Tryd.prog W r b0 58 v) : ∃ D : Dro, DOk D ∧ ∀ (fz : Nat → Prop) (rf : RFt), VR fz W (.agg (dcs D)) rf v := by
 obtain ⟨zs, cs, rfl, h1, h2, h3⟩ := ZK9 Tryd.underlying58 Z024 rfl ZyE ZKe hv
 replace h2 : zs.length = 38 := h2
 obtain ⟨a0, t0, rfl, l0⟩ := Zi h2
 obtain ⟨a1, t1, rfl, l1⟩ := Zi l0
 obtain ⟨a2, t2, rfl, l2⟩ := Zi l1
 obtain ⟨a3, t3, rfl, l3⟩ := Zi l2
 obtain ⟨a4, t4, rfl, l4⟩ := Zi l3
 obtain ⟨a5, t5, rfl, l5⟩ := Zi l4
 obtain ⟨a6, t6, rfl, l6⟩ := Zi l5
 obtain ⟨a7, t7, rfl, l7⟩ := Zi l6
 obtain ⟨a8, t8, rfl, l8⟩ := Zi l7
 obtain ⟨a9, t9, rfl, l9⟩ := Zi l8
 obtain ⟨a10, t10, rfl, l10⟩ := Zi l9
 obtain ⟨a11, t11, rfl, l11⟩ := Zi l10
 obtain ⟨a12, t12, rfl, l12⟩ := Zi l11
 obtain ⟨a13, t13, rfl, l13⟩ := Zi l12
 obtain ⟨a14, t14, rfl, l14⟩ := Zi l13
 obtain ⟨a15, t15, rfl, l15⟩ := Zi l14
 obtain ⟨a16, t16, rfl, l16⟩ := Zi l15
 obtain ⟨a17, t17, rfl, l17⟩ := Zi l16
 obtain ⟨a18, t18, rfl, l18⟩ := Zi l17
 obtain ⟨a19, t19, rfl, l19⟩ := Zi l18
 obtain ⟨a20, t20, rfl, l20⟩ := Zi l19
 obtain ⟨a21, t21, rfl, l21⟩ := Zi l20
 obtain ⟨a22, t22, rfl, l22⟩ := Zi l21
 obtain ⟨a23, t23, rfl, l23⟩ := Zi l22
 obtain ⟨a24, t24, rfl, l24⟩ := Zi l23
 obtain ⟨a25, t25, rfl, l25⟩ := Zi l24
 obtain ⟨a26, t26, rfl, l26⟩ := Zi l25
 obtain ⟨a27, t27, rfl, l27⟩ := Zi l26
 obtain ⟨a28, t28, rfl, l28⟩ := Zi l27
 obtain ⟨a29, t29, rfl, l29⟩ := Zi l28
 obtain ⟨a30, t30, rfl, l30⟩ := Zi l29
 obtain ⟨a31, t31, rfl, l31⟩ := Zi l30
 obtain ⟨a32, t32, rfl, l32⟩ := Zi l31
 obtain ⟨a33, t33, rfl, l33⟩ := Zi l32
 obtain ⟨a34, t34, rfl, l34⟩ := Zi l33
 obtain ⟨a35, t35, rfl, l35⟩ := Zi l34
 obtain ⟨a36, t36, rfl, l36⟩ := Zi l35
 obtain ⟨a37, t37, rfl, l37⟩ := Zi l36
 obtain rfl := List.length_eq_zero_iff.1 l37
 have b0 : 0 ≤ a0 ∧ a0 ≤ 255 := h3 0 a0 .u8 rfl rfl
 have b1 : 0 ≤ a1 ∧ a1 ≤ 255 := h3 1 a1 .u8 rfl rfl
 have b2 : 0 ≤ a2 ∧ a2 ≤ 255 := h3 2 a2 .u8 rfl rfl
 have b3 : 0 ≤ a3 ∧ a3 ≤ 255 := h3 3 a3 .u8 rfl rfl
 have b4 : 0 ≤ a4 ∧ a4 ≤ 255 := h3 4 a4 .u8 rfl rfl
 have b5 : 0 ≤ a5 ∧ a5 ≤ 255 := h3 5 a5 .u8 rfl rfl
 have b6 : 0 ≤ a6 ∧ a6 ≤ 255 := h3 6 a6 .u8 rfl rfl
 have b7 : 0 ≤ a7 ∧ a7 ≤ 255 := h3 7 a7 .u8 rfl rfl
 have b8 : 0 ≤ a8 ∧ a8 ≤ 255 := h3 8 a8 .u8 rfl rfl
 have b9 : 0 ≤ a9 ∧ a9 ≤ 255 := h3 9 a9 .u8 rfl rfl
 have b10 : 0 ≤ a10 ∧ a10 ≤ 255 := h3 10 a10 .u8 rfl rfl
 have b11 : 0 ≤ a11 ∧ a11 ≤ 255 := h3 11 a11 .u8 rfl rfl
 have b12 : 0 ≤ a12 ∧ a12 ≤ 255 := h3 12 a12 .u8 rfl rfl
 have b13 : 0 ≤ a13 ∧ a13 ≤ 255 := h3 13 a13 .u8 rfl rfl
 have b14 : 0 ≤ a14 ∧ a14 ≤ 255 := h3 14 a14 .u8 rfl rfl
 have b15 : 0 ≤ a15 ∧ a15 ≤ 255 := h3 15 a15 .u8 rfl rfl
 have b16 : 0 ≤ a16 ∧ a16 ≤ 255 := h3 16 a16 .u8 rfl rfl
 have b17 : 0 ≤ a17 ∧ a17 ≤ 255 := h3 17 a17 .u8 rfl rfl
 have b18 : 0 ≤ a18 ∧ a18 ≤ 255 := h3 18 a18 .u8 rfl rfl
 have b19 : 0 ≤ a19 ∧ a19 ≤ 255 := h3 19 a19 .u8 rfl rfl
 have b20 : 0 ≤ a20 ∧ a20 ≤ 255 := h3 20 a20 .u8 rfl rfl
 have b21 : 0 ≤ a21 ∧ a21 ≤ 255 := h3 21 a21 .u8 rfl rfl
 have b22 : 0 ≤ a22 ∧ a22 ≤ 255 := h3 22 a22 .u8 rfl rfl
 have b23 : 0 ≤ a23 ∧ a23 ≤ 255 := h3 23 a23 .u8 rfl rfl
 have b24 : 0 ≤ a24 ∧ a24 ≤ 255 := h3 24 a24 .u8 rfl rfl
 have b25 : 0 ≤ a25 ∧ a25 ≤ 255 := h3 25 a25 .u8 rfl rfl
 have b26 : 0 ≤ a26 ∧ a26 ≤ 255 := h3 26 a26 .u8 rfl rfl
 have b27 : 0 ≤ a27 ∧ a27 ≤ 255 := h3 27 a27 .u8 rfl rfl
 have b28 : 0 ≤ a28 ∧ a28 ≤ 255 := h3 28 a28 .u8 rfl rfl
 have b29 : 0 ≤ a29 ∧ a29 ≤ 255 := h3 29 a29 .u8 rfl rfl
 have b30 : 0 ≤ a30 ∧ a30 ≤ 255 := h3 30 a30 .u8 rfl rfl
 have b31 : 0 ≤ a31 ∧ a31 ≤ 65535 := h3 31 a31 .u16 rfl rfl
 have b32 : 0 ≤ a32 ∧ a32 ≤ 255 := h3 32 a32 .u8 rfl rfl
 have b33 : 0 ≤ a33 ∧ a33 ≤ 255 := h3 33 a33 .u8 rfl rfl
 have b34 : 0 ≤ a34 ∧ a34 ≤ 255 := h3 34 a34 .u8 rfl rfl
 have b35 : 0 ≤ a35 ∧ a35 ≤ 255 := h3 35 a35 .u8 rfl rfl
 have b36 : 0 ≤ a36 ∧ a36 ≤ 255 := h3 36 a36 .u8 rfl rfl
 have b37 : 0 ≤ a37 ∧ a37 ≤ 255 := h3 37 a37 .u8 rfl rfl
 obtain ⟨p, rfl⟩ : ∃ p : Nat, a31 = (p : Int) := ⟨a31.toNat, by omega⟩
 refine ⟨⟨a0, [⟨a1, a2, a3, a4, a5⟩, ⟨a6, a7, a8, a9, a10⟩, ⟨a11, a12, a13, a14, a15⟩, ⟨a16, a17, a18, a19, a20⟩, ⟨a21, a22, a23, a24, a25⟩, ⟨a26, a27, a28, a29, a30⟩], p, [a32, a33, a34, a35, a36, a37]⟩, ⟨b0, rfl, ?_, by show p < 65536; omega, rfl, ?_⟩, fun _ _ => ZBx dKs _ h1⟩
 · intro q hq
   simp only [List.mem_cons, List.not_mem_nil, or_false] at hq
   rcases hq with rfl | rfl | rfl | rfl | rfl | rfl
   · exact ⟨b1, b2, b3, b4, b5⟩
   · exact ⟨b6, b7, b8, b9, b10⟩
   · exact ⟨b11, b12, b13, b14, b15⟩
   · exact ⟨b16, b17, b18, b19, b20⟩
   · exact ⟨b21, b22, b23, b24, b25⟩
   · exact ⟨b26, b27, b28, b29, b30⟩
 · intro z hz
   simp only [List.mem_cons, List.not_mem_nil, or_false] at hz
   rcases hz with rfl | rfl | rfl | rfl | rfl | rfl
   · exact b32
   · exact b33
   · exact b34
   · exact b35
   · exact b36
   · exact b37
end Go.AM.YtgfnbmfjbjopkaaDoor
end
noncomputable section
namespace Go.AM
open Go Go.RowKit Go.ChangeShapes Go.WideShapes
noncomputable section
variable {P : Program} {w : World}
theorem Zzl (k : IntKind) {α : Type} (f : IntKind → Int → α) : ∀ (zs : List Int), List.zipWith f (List.replicate zs.length k) zs = zs.map (f k)
 | [] => rfl
 | z :: zs => by rw [List.length_cons, List.replicate_succ, List.zipWith_cons_cons, Zzl k f zs, List.map_cons]
theorem ZGW {t u e : TypeId} {n : Nat} {v : Value} {b : Nat} {r : Reach} (ht : P.underlying t = some (.array n e)) (hu : P.underlying u = some (.int .u8)) (hc : P.cellTypes P.depth t = some (List.replicate 6 u)) (hn : P.cellsOf t = 6) (hv : Value.okWide P w r b t v) :
   ∃ zs : List Int, (zs.length = 6 ∧ ∀ (i : Nat) (z : Int), zs[i]? = some z → 0 ≤ z ∧ z ≤ 255) ∧ ∀ (fz : Nat → Prop) (rf : RFt), VR fz w (.agg (zs.map (AV.int .u8))) rf v := by
 unfold Value.okWide at hv
 rw [ht] at hv
 obtain ⟨cs, rfl, h2, h3⟩ := hv
 obtain ⟨zs, a, l, c⟩ := ZtT (ks := List.replicate 6 .u8) (fun i x k h1 h2 => by
   have hx := List.mem_of_getElem? h1
   have hk := List.mem_of_getElem? h2
   rw [(List.mem_replicate.1 hx).2, (List.mem_replicate.1 hk).2]; exact hu) (by simp) hc (by simpa using hn) h2 h3
 rw [List.length_replicate] at l
 refine ⟨zs, ⟨l, fun i z hz => ?_⟩, fun fz rf => ?_⟩
 · have hi := (List.getElem?_eq_some_iff.1 hz).1
   exact c i z .u8 hz (by rw [List.getElem?_replicate, if_pos (by omega)])
 · have := ZBx (fz := fz) (w := w) (rf := rf) (List.replicate 6 .u8) zs a
   rw [← l, Zzl .u8 AV.int zs] at this
   exact this
end
noncomputable section
variable {H : Type} {enc : TypeId × Value → H} {P : Program} {w : World} {base : Nat} {spare : Nat → Bool} {held : Bool}
theorem ZyB {t t' t'' t3 t4 : TypeId} {v v' v'' v3 v4 : Value} {d d' d'' d3 d4 : DataW H} {p p' p'' p3 p4 : List MemPlace} (h : DataW.Trod enc P w base spare held t v d p) (h' : DataW.Trod enc P w base spare held t' v' d' p')
   (h'' : DataW.Trod enc P w base spare held t'' v'' d'' p'') (h3 : DataW.Trod enc P w base spare held t3 v3 d3 p3) (h4 : DataW.Trod enc P w base spare held t4 v4 d4 p4) :
   DataW.TrodAll enc P w base spare held [t, t', t'', t3, t4] [v, v', v'', v3, v4] [d, d', d'', d3, d4] (p ++ (p' ++ (p'' ++ (p3 ++ p4)))) := ⟨p, p' ++ (p'' ++ (p3 ++ p4)), h, trodAll_mk4 h' h'' h3 h4, rfl⟩
end
end Go.AM
end
noncomputable section
namespace Go.AM.YtgfnbmfjbjopkaaDoor
open Go Go.AM Go.AM.Mule
def plc (D : Dro) (j : Nat) : Int := D.al.getD j 0 * 8 + j
theorem ZFL {D : Dro} (h : DOk D) {j : Nat} (hj : j < 6) : ∃ z, D.al[j]? = some z ∧ 0 ≤ z ∧ z ≤ 255 ∧ plc D j = z * 8 + j := by
 have hx : D.al[j]? = some (D.al.getD j 0) := ZU (l := D.al) (by rw [h.ll]; exact hj)
 obtain ⟨a, b⟩ := h.al _ (List.mem_of_getElem? hx)
 exact ⟨_, hx, a, b, rfl⟩
theorem Z07V {C : Callee} {D : Dro} (h : DOk D) {j : Nat} (hj : j < 6) : rsOf (bodyA E C fg 1000 111 [.int .i64 (j : Int), .iptr (dcs D) 0] [] 0) = some (.int .i64 (plc D j)) := by
 obtain ⟨z, hz, z1, z2, e⟩ := ZFL h hj
 have hat := Z0ou h hz
 have hlen := Z3F h
 have g : (j : Int) < 6 := by omega
 have w1 : wrp .i64 z = z := ZC (by omega)
 have w2 : wrp .i64 (z * 8) = z * 8 := ZC (by omega)
 have w3 : wrp .i64 (z * 8 + j) = z * 8 + j := ZC (by omega)
 rw [e]
 generalize dcs D = dc at *
 simp (disch := omega) only [ZF, Z7, stp, justO, just, Rd.bind, Rd.run, Rd.opt, upds, tsz, rdCells, fieldOf, Z3, aLoad, resA, resL, Z2, aNum, aBin, aInt, Nat.reduceBEq, Nat.reduceEqDiff, Nat.reduceLeDiff, ↓reduceIte, reduceCtorEq, aConv, ZT, Z0nn, hat, w1, w2, w3, if_pos]
structure MdC (C : Callee) (D : Dro) : Prop where
 plc : ∀ (site : Nat → Nat) seen (j : Nat), j < 6 → aBack site true seen (thaw C 111 [.int .i64 (j : Int), .iptr (dcs D) 0] [] 0) = .pure (.int .i64 (plc D j), [])
theorem mdC {D : Dro} (h : DOk D) (d : Nat) : MdC (callA E fg 1000 (d + 1)) D := ⟨fun _ _ _ hj => ZE (ZV (Z07V (C := callA E fg 1000 d) h hj))⟩
def pOf (D : Dro) (bit i k : Nat) : List Pr := if D.pairs.testBit bit = true then (if plc D k < plc D i then [((k : Int), (i : Int))] else [((i : Int), (k : Int))]) else []
def mdI (D : Dro) (i b : Nat) : Nat → List Pr
 | 0 => []
 | k + 1 => mdI D i b k ++ pOf D (b + k) i k
def mdE (D : Dro) : Nat → List Pr × Nat
 | 0 => ([], 0)
 | i + 1 => ((mdE D i).1 ++ mdI D i (mdE D i).2 i, (mdE D i).2 + i)
theorem Z08Q (D bit i k) : (pOf D bit i k).length ≤ 1 := by
 unfold pOf; split
 · split <;> simp
 · simp
theorem ZgD (D i b) : ∀ k, (mdI D i b k).length ≤ k
 | 0 => by simp [mdI]
 | k + 1 => by
   have := ZgD D i b k
   have := Z08Q D (b + k) i k
   simp only [mdI, List.length_append]; omega
theorem Zgw (D) : ∀ i, (mdE D i).1.length ≤ (mdE D i).2
 | 0 => by simp [mdE]
 | i + 1 => by
   have := Zgw D i
   have := ZgD D i (mdE D i).2 i
   simp only [mdE, List.length_append]; omega
theorem ZKn (D) : ∀ i, i ≤ 6 → (mdE D i).2 ≤ 15
 | 0, _ => by simp [mdE]
 | 1, _ => by simp [mdE]
 | 2, _ => by simp [mdE]
 | 3, _ => by simp [mdE]
 | 4, _ => by simp [mdE]
 | 5, _ => by simp [mdE]
 | 6, _ => by simp [mdE]
 | i + 7, h => by omega
theorem Z0lc {b i : Nat} (hi : i < 16) : aShift .shr .u16 (b : Int) (i : Int) = some (.int .u16 ((b >>> i : Nat) : Int)) := by
 have h1 : ¬ (i : Int) < 0 := by omega
 simp only [aShift, if_neg h1, pw2, IntKind.bits, Int.toNat_natCast]
 rw [Nat.min_eq_left (by omega), Nat.shiftRight_eq_div_pow]
 congr 2
 exact (Int.fdiv_eq_ediv_of_nonneg _ (Int.natCast_nonneg _)).trans (Int.natCast_ediv _ _).symm
theorem bk16 {a : Nat} (ha : a < 65536) : bk .u16 (bt .u16 (a : Int) &&& bt .u16 1) = .int .u16 ((a &&& 1 : Nat) : Int) := by
 have e : bt .u16 (a : Int) = BitVec.ofNat 16 a := by simp only [bt, IntKind.bits, BitVec.ofInt_natCast]
 have e1 : bt .u16 1 = BitVec.ofNat 16 1 := rfl
 rw [e, e1]
 have h : (BitVec.ofNat 16 a &&& BitVec.ofNat 16 1).toNat = a &&& 1 := by
   rw [BitVec.toNat_and, BitVec.toNat_ofNat, BitVec.toNat_ofNat, Nat.mod_eq_of_lt ha]
 have h2 : a &&& 1 ≤ 1 := Nat.and_le_right
 show AV.int .u16 (wrp .u16 ((BitVec.ofNat 16 a &&& BitVec.ofNat 16 1).toNat : Int)) = _
 rw [h, ZvK (by simp only [kLo]; omega) (by simp only [kHi]; omega)]
def bV (g m : Nat) : AV := if m = 0 then .nilsl else .ref g 0 m m (m * 2) 2 false
def bH (g : Nat) (es : List Pr) : AHeap := if es.length = 0 then [] else [(g, ⟨.row, cls bc es⟩)]
abbrev mdH (D : Dro) (n g : Nat) (es : List Pr) : AHeap :=
 (2, ⟨.box, dcs D⟩) :: (4, ⟨.box, [.nilsl, .nilsl]⟩) :: (5, ⟨.box, [.ref 60 0 n n (n * 5) 5 false, bV g es.length]⟩) :: (60, ⟨.row, cls lc (mdL D n)⟩) :: bH g es
abbrev m2S (D : Dro) (n g i bit : Nat) (es : List Pr) (k : Nat) : St :=
 ([(72, .int .i64 k), (71, .int .i64 i), (68, .int .i64 i), (67, .int .i64 n), (12, .int .i64 i), (11, .int .i64 bit), (10, .clo 111 [.ptr 2 0 38]), (5, .ptr 5 0 2), (4, .ptr 4 0 2), (2, .ptr 2 0 38)], mdH D n g es)
theorem Z4V {n : Nat} (h : n ≤ 1000000) : roomOk E.T 64 n = true := by
 simp only [roomOk, T_64, decide_eq_true_eq]; exact ⟨by decide, rfl, by omega⟩
theorem Z0nw {C : Callee} {D : Dro} (hC : MdC C D) (h : DOk D) {n g i bit : Nat} {es : List Pr} (hn : n ≤ 6) (hi : i < n) (k : Nat) (hk : k < i) (hb : bit + k < 15) (hes : es.length ≤ 15) (hg : g = 94 ∨ g = 102) :
   ∃ s', (execA E C (fg 40) 0 109 [] 1000 Z3V) (m2S D n g i (bit + k) es k) = some (.normal, s') ∧ ∃ g2, (g2 = 94 ∨ g2 = 102) ∧ headA [] s' = m2S D n g2 i (bit + (k + 1)) (es ++ pOf D (bit + k) i k) (k + 1) := by
 have hpi := fun site seen => hC.plc site seen i (by omega)
 have hpk := fun site seen => hC.plc site seen k (by omega)
 have hat := Z0mX h
 have hlen := Z3F h
 have hsn := Z6i h (d := 198) (by omega)
 have hsn2 := Z6i h (d := 197) (by omega)
 have hsn3 := Z6i h (d := 196) (by omega)
 have htk : List.take 38 (dcs D) = dcs D := List.take_of_length_le (by omega)
 have hp := h.pairs
 have hsh := Z0lc (b := D.pairs) (i := bit + k) (by omega)
 have hlt : D.pairs >>> (bit + k) < 65536 := by rw [Nat.shiftRight_eq_div_pow]; exact Nat.lt_of_le_of_lt (Nat.div_le_self ..) hp
 have ha := bk16 hlt
 have he := Z5a D.pairs (bit + k)
 have g1 : (k : Int) < i := by omega
 have w : wrp .i64 (((bit + k : Nat) : Int) + 1) = ((bit + (k + 1) : Nat) : Int) := by rw [ZC (by omega)]; omega
 have hm : ∀ caps args, mutV E (.clo 111 caps) args = none := fun _ _ => rfl
 have hec := Z9 Z00 es
 suffices key : ∃ g2, (g2 = 94 ∨ g2 = 102) ∧ ∃ s', (execA E C (fg 40) 0 109 [] 1000 Z3V) (m2S D n g i (bit + k) es k) = some (.normal, s') ∧ headA [] s' = m2S D n g2 i (bit + (k + 1)) (es ++ pOf D (bit + k) i k) (k + 1) by
   obtain ⟨g2, a, s', b, c⟩ := key
   exact ⟨s', b, g2, a, c⟩
 have hne0 : ¬ (1 : Nat) = 0 := by omega
 by_cases hbit : D.pairs.testBit (bit + k) = true
 · by_cases hpl : plc D k < plc D i
   · skip
     have e : pOf D (bit + k) i k = [((k : Int), (i : Int))] := by unfold pOf; rw [if_pos hbit, if_pos hpl]
     rw [e]
     have hsnoc := Z6u (f := bc) es ((k : Int), (i : Int))
     have hbc : bc ((k : Int), (i : Int)) = [.int .i64 (k : Int), .int .i64 (i : Int)] := rfl
     rw [hbc] at hsnoc
     by_cases hz : es.length = 0
     · have hes0 : es = [] := List.length_eq_zero_iff.1 hz
       subst hes0
       refine ⟨94, .inl rfl, ?_⟩
       have hone : cls bc ([] ++ [((k : Int), (i : Int))]) = [.int .i64 (k : Int), .int .i64 (i : Int)] := rfl
       simp only [m2S, mdH, bV, bH, List.length_nil, List.nil_append, List.length_singleton, if_pos, hne0, if_false]
       rw [show cls bc [((k : Int), (i : Int))] = [.int .i64 (k : Int), .int .i64 (i : Int)] from rfl]
       simp (disch := omega) only [ZF, stp, justO, just, Rd.bind, Rd.run, Rd.opt, upds, acells, zeroCells, tsz, elemT, rdCells, fieldOf, Z3, aLoad, aStore, opStore, fresh, Z4, aBin, aInt, putC, evO, Nat.reduceAdd, Nat.reduceMul, Nat.reduceLT, Nat.reduceGT, Nat.reduceBEq, Nat.reduceEqDiff, Nat.reduceLeDiff, ↓reduceIte, reduceCtorEq, Zd, Zu, partsOf, fillA, repC, Zo, aAppend, srcOf, window, aCall, snaps, aBuild, opCallV, ZT, F_40, g1, hat, hlen, hsn2, hsh, ha, he, hbit, w, hpi, hpk, hpl, Z0q (hm _ _), Z43, Z4V (show 1 ≤ 1000000 by omega), Zc (show k < 1000000 by omega)]
       exact ⟨_, rfl, Zp (Zm _ ZP) rfl rfl⟩
     · obtain ⟨m, hml⟩ : ∃ m, es.length = m + 1 := ⟨es.length - 1, by omega⟩
       have hl2 : (es ++ [((k : Int), (i : Int))]).length = m + 1 + 1 := by simp [hml]
       have ev : ∀ g, bV g (m + 1) = .ref g 0 (m + 1) (m + 1) ((m + 1) * 2) 2 false := fun g => if_neg (by omega)
       have ev2 : ∀ g, bV g (m + 1 + 1) = .ref g 0 (m + 1 + 1) (m + 1 + 1) ((m + 1 + 1) * 2) 2 false := fun g => if_neg (by omega)
       have eh : ∀ g, bH g es = [(g, ⟨.row, cls bc es⟩)] := fun g => if_neg hz
       have eh2 : ∀ g, bH g (es ++ [((k : Int), (i : Int))]) = [(g, ⟨.row, cls bc (es ++ [((k : Int), (i : Int))])⟩)] := fun g => if_neg (by omega)
       have hte : List.take ((m + 1) * 2) (cls bc es) = cls bc es := List.take_of_length_le (by omega)
       have nm : ¬ m + 1 + 1 ≤ m + 1 := by omega
       rw [hml] at hec
       refine ⟨g, hg, ?_⟩
       simp only [m2S, mdH, hml, hl2, ev, ev2, eh, eh2]
       generalize cls bc (es ++ [((k : Int), (i : Int))]) = ce2 at *
       generalize cls bc es = ce at *
       rcases hg with rfl | rfl
       · simp (disch := omega) only [ZF, stp, justO, just, Rd.bind, Rd.run, Rd.opt, upds, acells, zeroCells, tsz, elemT, rdCells, fieldOf, Z3, aLoad, aStore, opStore, fresh, Z4, aBin, aInt, putC, evO, Nat.reduceAdd, Nat.reduceMul, Nat.reduceLT, Nat.reduceGT, Nat.reduceBEq, Nat.reduceEqDiff, Nat.reduceLeDiff, ↓reduceIte, reduceCtorEq, Zd, Zu, partsOf, fillA, repC, Zo, aAppend, srcOf, window, aCall, snaps, aBuild, opCallV, ZT, F_40, g1, hat, hlen, hsn2, hsh, ha, he, hbit, w, hpi, hpk, hpl, Z0q (hm _ _), Z43, hec, hte, nm, hsnoc, Z4V (show m + 1 + 1 ≤ 1000000 by omega), Zc (show k < 1000000 by omega)]
         exact ⟨_, rfl, Zp (Zm _ ZP) rfl rfl⟩
       · simp (disch := omega) only [ZF, stp, justO, just, Rd.bind, Rd.run, Rd.opt, upds, acells, zeroCells, tsz, elemT, rdCells, fieldOf, Z3, aLoad, aStore, opStore, fresh, Z4, aBin, aInt, putC, evO, Nat.reduceAdd, Nat.reduceMul, Nat.reduceLT, Nat.reduceGT, Nat.reduceBEq, Nat.reduceEqDiff, Nat.reduceLeDiff, ↓reduceIte, reduceCtorEq, Zd, Zu, partsOf, fillA, repC, Zo, aAppend, srcOf, window, aCall, snaps, aBuild, opCallV, ZT, F_40, g1, hat, hlen, hsn2, hsh, ha, he, hbit, w, hpi, hpk, hpl, Z0q (hm _ _), Z43, hec, hte, nm, hsnoc, Z4V (show m + 1 + 1 ≤ 1000000 by omega), Zc (show k < 1000000 by omega)]
         exact ⟨_, rfl, Zp (Zm _ ZP) rfl rfl⟩
   · skip
     have e : pOf D (bit + k) i k = [((i : Int), (k : Int))] := by unfold pOf; rw [if_pos hbit, if_neg hpl]
     rw [e]
     have hsnoc := Z6u (f := bc) es ((i : Int), (k : Int))
     have hbc : bc ((i : Int), (k : Int)) = [.int .i64 (i : Int), .int .i64 (k : Int)] := rfl
     rw [hbc] at hsnoc
     by_cases hz : es.length = 0
     · have hes0 : es = [] := List.length_eq_zero_iff.1 hz
       subst hes0
       refine ⟨102, .inr rfl, ?_⟩
       have hone : cls bc ([] ++ [((i : Int), (k : Int))]) = [.int .i64 (i : Int), .int .i64 (k : Int)] := rfl
       simp only [m2S, mdH, bV, bH, List.length_nil, List.nil_append, List.length_singleton, if_pos, hne0, if_false]
       rw [show cls bc [((i : Int), (k : Int))] = [.int .i64 (i : Int), .int .i64 (k : Int)] from rfl]
       simp (disch := omega) only [ZF, stp, justO, just, Rd.bind, Rd.run, Rd.opt, upds, acells, zeroCells, tsz, elemT, rdCells, fieldOf, Z3, aLoad, aStore, opStore, fresh, Z4, aBin, aInt, putC, evO, Nat.reduceAdd, Nat.reduceMul, Nat.reduceLT, Nat.reduceGT, Nat.reduceBEq, Nat.reduceEqDiff, Nat.reduceLeDiff, ↓reduceIte, reduceCtorEq, Zd, Zu, partsOf, fillA, repC, Zo, aAppend, srcOf, window, aCall, snaps, aBuild, opCallV, ZT, F_40, g1, hat, hlen, hsn2, hsh, ha, he, hbit, w, hpi, hpk, hpl, Z0q (hm _ _), Z43, Z4V (show 1 ≤ 1000000 by omega), Zc (show k < 1000000 by omega)]
       exact ⟨_, rfl, Zp (Zm _ ZP) rfl rfl⟩
     · obtain ⟨m, hml⟩ : ∃ m, es.length = m + 1 := ⟨es.length - 1, by omega⟩
       have hl2 : (es ++ [((i : Int), (k : Int))]).length = m + 1 + 1 := by simp [hml]
       have ev : ∀ g, bV g (m + 1) = .ref g 0 (m + 1) (m + 1) ((m + 1) * 2) 2 false := fun g => if_neg (by omega)
       have ev2 : ∀ g, bV g (m + 1 + 1) = .ref g 0 (m + 1 + 1) (m + 1 + 1) ((m + 1 + 1) * 2) 2 false := fun g => if_neg (by omega)
       have eh : ∀ g, bH g es = [(g, ⟨.row, cls bc es⟩)] := fun g => if_neg hz
       have eh2 : ∀ g, bH g (es ++ [((i : Int), (k : Int))]) = [(g, ⟨.row, cls bc (es ++ [((i : Int), (k : Int))])⟩)] := fun g => if_neg (by omega)
       have hte : List.take ((m + 1) * 2) (cls bc es) = cls bc es := List.take_of_length_le (by omega)
       have nm : ¬ m + 1 + 1 ≤ m + 1 := by omega
       rw [hml] at hec
       refine ⟨g, hg, ?_⟩
       simp only [m2S, mdH, hml, hl2, ev, ev2, eh, eh2]
       generalize cls bc (es ++ [((i : Int), (k : Int))]) = ce2 at *
       generalize cls bc es = ce at *
       rcases hg with rfl | rfl
       · simp (disch := omega) only [ZF, stp, justO, just, Rd.bind, Rd.run, Rd.opt, upds, acells, zeroCells, tsz, elemT, rdCells, fieldOf, Z3, aLoad, aStore, opStore, fresh, Z4, aBin, aInt, putC, evO, Nat.reduceAdd, Nat.reduceMul, Nat.reduceLT, Nat.reduceGT, Nat.reduceBEq, Nat.reduceEqDiff, Nat.reduceLeDiff, ↓reduceIte, reduceCtorEq, Zd, Zu, partsOf, fillA, repC, Zo, aAppend, srcOf, window, aCall, snaps, aBuild, opCallV, ZT, F_40, g1, hat, hlen, hsn2, hsh, ha, he, hbit, w, hpi, hpk, hpl, Z0q (hm _ _), Z43, hec, hte, nm, hsnoc, Z4V (show m + 1 + 1 ≤ 1000000 by omega), Zc (show k < 1000000 by omega)]
         exact ⟨_, rfl, Zp (Zm _ ZP) rfl rfl⟩
       · simp (disch := omega) only [ZF, stp, justO, just, Rd.bind, Rd.run, Rd.opt, upds, acells, zeroCells, tsz, elemT, rdCells, fieldOf, Z3, aLoad, aStore, opStore, fresh, Z4, aBin, aInt, putC, evO, Nat.reduceAdd, Nat.reduceMul, Nat.reduceLT, Nat.reduceGT, Nat.reduceBEq, Nat.reduceEqDiff, Nat.reduceLeDiff, ↓reduceIte, reduceCtorEq, Zd, Zu, partsOf, fillA, repC, Zo, aAppend, srcOf, window, aCall, snaps, aBuild, opCallV, ZT, F_40, g1, hat, hlen, hsn2, hsh, ha, he, hbit, w, hpi, hpk, hpl, Z0q (hm _ _), Z43, hec, hte, nm, hsnoc, Z4V (show m + 1 + 1 ≤ 1000000 by omega), Zc (show k < 1000000 by omega)]
         exact ⟨_, rfl, Zp (Zm _ ZP) rfl rfl⟩
 · have e : pOf D (bit + k) i k = [] := by unfold pOf; rw [if_neg hbit]
   have hbit : D.pairs.testBit (bit + k) = false := by simpa using hbit
   rw [e, List.append_nil]
   refine ⟨g, hg, ?_⟩
   by_cases hz : es.length = 0
   · have ev : ∀ g, bV g es.length = .nilsl := fun g => if_pos hz
     have eh : ∀ g, bH g es = [] := fun g => if_pos hz
     simp only [m2S, mdH, ev, eh]
     simp (disch := omega) only [ZF, stp, just, Rd.bind, Rd.run, Rd.opt, upds, rdCells, fieldOf, Z3, aLoad, aBin, aInt, Nat.reduceMul, Nat.reduceBEq, Nat.reduceEqDiff, Nat.reduceLeDiff, ↓reduceIte, ZT, F_40, g1, hat, hlen, hsh, ha, he, hbit, w, Zc (show k < 1000000 by omega)]
     exact ⟨_, rfl, Zp (Zm _ ZP) rfl rfl⟩
   · have ev : ∀ g, bV g es.length = .ref g 0 es.length es.length (es.length * 2) 2 false := fun g => if_neg hz
     have eh : ∀ g, bH g es = [(g, ⟨.row, cls bc es⟩)] := fun g => if_neg hz
     simp only [m2S, mdH, ev, eh]
     simp (disch := omega) only [ZF, stp, just, Rd.bind, Rd.run, Rd.opt, upds, rdCells, fieldOf, Z3, aLoad, aBin, aInt, Nat.reduceMul, Nat.reduceBEq, Nat.reduceEqDiff, Nat.reduceLeDiff, ↓reduceIte, ZT, F_40, g1, hat, hlen, hsh, ha, he, hbit, w, Zc (show k < 1000000 by omega)]
     rcases hg with rfl | rfl
     · exact ⟨_, rfl, Zp (Zm _ ZP) rfl rfl⟩
     · exact ⟨_, rfl, Zp (Zm _ ZP) rfl rfl⟩
end Go.AM.YtgfnbmfjbjopkaaDoor
end
noncomputable section
namespace Go.AM.YtgfnbmfjbjopkaaDoor
open Go Go.AM Go.AM.Mule
abbrev m3S (D : Dro) (n g i bit : Nat) (es : List Pr) : St :=
 ([(68, .int .i64 i), (67, .int .i64 n), (11, .int .i64 bit), (10, .clo 111 [.ptr 2 0 38]), (5, .ptr 5 0 2), (4, .ptr 4 0 2), (2, .ptr 2 0 38)], mdH D n g es)
theorem bVH (g : Nat) (es : List Pr) : (bV g es.length = .nilsl ∧ bH g es = []) ∨ (bV g es.length = .ref g 0 es.length es.length (es.length * 2) 2 false ∧ bH g es = [(g, ⟨.row, cls bc es⟩)]) := by
 by_cases h : es.length = 0
 · exact .inl ⟨if_pos h, if_pos h⟩
 · exact .inr ⟨if_neg h, if_neg h⟩
theorem Z0aH {D : Dro} {n g i bit k : Nat} {es : List Pr} (hg : g = 94 ∨ g = 102) : headA [] (m2S D n g i bit es k) = m2S D n g i bit es k := by
 simp only [m2S, mdH]
 rcases bVH g es with ⟨e1, e2⟩ | ⟨e1, e2⟩ <;> rw [e1, e2]
 · exact Zp (Zm _ ZP) rfl rfl
 · rcases hg with rfl | rfl <;> exact Zp (Zm _ ZP) rfl rfl
theorem Z0kL {C : Callee} {D : Dro} (hC : MdC C D) (h : DOk D) {n g i : Nat} (hn : n ≤ 6) (hi : i < n) (hg : g = 94 ∨ g = 102) :
   ∃ s', (execA E C (fg 40) 0 109 [] 1000 Z4n) (m3S D n g i (mdE D i).2 (mdE D i).1) = some (.normal, s') ∧ ∃ g2, (g2 = 94 ∨ g2 = 102) ∧ headA [] s' = m3S D n g2 (i + 1) (mdE D (i + 1)).2 (mdE D (i + 1)).1 := by
 have hb := ZKn D (i + 1) (by omega)
 have hel := Zgw D i
 simp only [mdE] at hb
 obtain ⟨se, hloop, g2, hg2, rfl⟩ := Zad (f := (execA E C (fg 40) 0 109 [] 1000 Z3V)) (hd := headA []) (e := .exit 4)
   (P := fun k st => ∃ g, (g = 94 ∨ g = 102) ∧ st = m2S D n g i ((mdE D i).2 + k) ((mdE D i).1 ++ mdI D i (mdE D i).2 k) k)
   (Q := fun st => ∃ g, (g = 94 ∨ g = 102) ∧ st = ([(73, .bool false), (72, .int .i64 i), (71, .int .i64 i), (68, .int .i64 i), (67, .int .i64 n), (12, .int .i64 i), (11, .int .i64 ((mdE D i).2 + i : Nat)), (10, .clo 111 [.ptr 2 0 38]), (5, .ptr 5 0 2), (4, .ptr 4 0 2), (2, .ptr 2 0 38)], mdH D n g (mdE D (i + 1)).1))
   (by simp) i 1000 0 (m2S D n g i (mdE D i).2 (mdE D i).1 0) ⟨g, hg, by rw [Z0aH hg]; simp [mdI]⟩ (by omega)
   (fun k st _ hk hP => by
     obtain ⟨g, hg, rfl⟩ := hP
     have hml := ZgD D i (mdE D i).2 k
     obtain ⟨s', a1, g2, a2, a3⟩ := Z0nw (bit := (mdE D i).2) hC h hn hi k (by omega) (by omega) (by rw [List.length_append]; omega) hg (es := (mdE D i).1 ++ mdI D i (mdE D i).2 k)
     refine ⟨s', a1, g2, a2, ?_⟩
     rw [a3, List.append_assoc]
     rfl)
   (fun st hP => by
     obtain ⟨g, hg, rfl⟩ := hP
     rw [Nat.zero_add]
     refine ⟨_, ?_, g, hg, rfl⟩
     rw [show (mdE D i).1 ++ mdI D i (mdE D i).2 i = (mdE D (i + 1)).1 from rfl]
     generalize (mdE D (i + 1)).1 = es2 at *
     generalize (mdE D i).2 + i = b2 at *
     simp only [m2S, mdH]
     rcases bVH g es2 with ⟨e1, e2⟩ | ⟨e1, e2⟩ <;> rw [e1, e2]
     · simp (disch := omega) only [ZF, stp, just, Rd.bind, Rd.run, Rd.opt, upds, aBin, aInt, Nat.reduceEqDiff, Nat.reduceLeDiff, ↓reduceIte, F_40]
     · rcases hg with rfl | rfl
       · simp (disch := omega) only [ZF, stp, just, Rd.bind, Rd.run, Rd.opt, upds, aBin, aInt, Nat.reduceEqDiff, Nat.reduceLeDiff, ↓reduceIte, F_40]
       · simp (disch := omega) only [ZF, stp, just, Rd.bind, Rd.run, Rd.opt, upds, aBin, aInt, Nat.reduceEqDiff, Nat.reduceLeDiff, ↓reduceIte, F_40])
 have e2 : (mdE D (i + 1)).2 = (mdE D i).2 + i := rfl
 suffices key : ∃ s', (execA E C (fg 40) 0 109 [] 1000 Z4n) (m3S D n g i (mdE D i).2 (mdE D i).1) = some (.normal, s') ∧ headA [] s' = m3S D n g2 (i + 1) (mdE D (i + 1)).2 (mdE D (i + 1)).1 by
   obtain ⟨s', b, c⟩ := key
   exact ⟨s', b, g2, hg2, c⟩
 rw [e2]
 have g1 : (i : Int) < n := by omega
 generalize (mdE D (i + 1)).1 = es2 at *
 generalize (mdE D i).2 + i = b2 at *
 generalize (mdE D i).2 = b1 at *
 generalize (mdE D i).1 = es1 at *
 simp only [m3S, m2S, mdH, cl0] at hloop ⊢
 rcases bVH g es1 with ⟨e1, e2⟩ | ⟨e1, e2⟩ <;> rw [e1, e2] at hloop ⊢ <;> rcases bVH g2 es2 with ⟨e3, e4⟩ | ⟨e3, e4⟩ <;> rw [e3, e4] at hloop ⊢
 · simp (disch := omega) only [ZF, stp, just, Rd.bind, Rd.run, Rd.opt, upds, aBin, aInt, Nat.reduceBEq, Nat.reduceEqDiff, Nat.reduceLeDiff, ↓reduceIte, F_40, g1, hloop, Zc (show i < 1000000 by omega)]
   exact ⟨_, rfl, Zp (Zm _ ZP) rfl rfl⟩
 · simp (disch := omega) only [ZF, stp, just, Rd.bind, Rd.run, Rd.opt, upds, aBin, aInt, Nat.reduceBEq, Nat.reduceEqDiff, Nat.reduceLeDiff, ↓reduceIte, F_40, g1, hloop, Zc (show i < 1000000 by omega)]
   rcases hg2 with rfl | rfl <;> exact ⟨_, rfl, Zp (Zm _ ZP) rfl rfl⟩
 · simp (disch := omega) only [ZF, stp, just, Rd.bind, Rd.run, Rd.opt, upds, aBin, aInt, Nat.reduceBEq, Nat.reduceEqDiff, Nat.reduceLeDiff, ↓reduceIte, F_40, g1, hloop, Zc (show i < 1000000 by omega)]
   exact ⟨_, rfl, Zp (Zm _ ZP) rfl rfl⟩
 · simp (disch := omega) only [ZF, stp, just, Rd.bind, Rd.run, Rd.opt, upds, aBin, aInt, Nat.reduceBEq, Nat.reduceEqDiff, Nat.reduceLeDiff, ↓reduceIte, F_40, g1, hloop, Zc (show i < 1000000 by omega)]
   rcases hg2 with rfl | rfl <;> exact ⟨_, rfl, Zp (Zm _ ZP) rfl rfl⟩
def mdP (D : Dro) (n : Nat) : List Pr := (mdE D n).1
theorem Z005 {D : Dro} {n : Nat} (hn : n ≤ 6) : (mdP D n).length ≤ 15 := Nat.le_trans (Zgw D n) (ZKn D n hn)
theorem Zn3 {d : Nat} {D : Dro} (h : DOk D) {many : Int} (hm : many = 5 ∨ many = 6) :
   ∃ g H', (g = 94 ∨ g = 102) ∧ bodyA E (callA E fg 1000 (d + 1)) fg 1000 40 [.agg (dcs D), .int .i64 many] [] 0 = some (.agg [.ref 60 0 (nOf D many) (nOf D many) (nOf D many * 5) 5 false, bV g (mdP D (nOf D many)).length], H') ∧
     hget H' 60 = some ⟨.row, cls lc (mdL D (nOf D many))⟩ ∧ ((mdP D (nOf D many)).length ≠ 0 → hget H' g = some ⟨.row, cls bc (mdP D (nOf D many))⟩) := by
 have hC := mdC h d
 obtain ⟨n1, n2⟩ := ZiW h hm
 have hn6 : nOf D many ≤ 6 := by rcases hm with rfl | rfl <;> omega
 obtain ⟨m0, m1⟩ := h.many
 have hmany : (dcs D)[0]? = some (.int .u8 D.many) := rfl
 have hlen := Z3F h
 have wm : wrp .i64 D.many = D.many := ZC (by omega)
 have hne : ¬ many = 0 := by omega
 have r1 : D.many.tmod many = D.many % many := Int.tmod_eq_emod_of_nonneg m0
 have wn : wrp .i64 (1 + D.many % many) = (nOf D many : Int) := by
   have e1 := Int.emod_nonneg D.many hne
   have e2 := Int.emod_lt_of_pos D.many (show 0 < many by omega)
   unfold nOf
   rw [ZC (by omega)]; omega
 generalize nOf D many = n at *
 generalize callA E fg 1000 (d + 1) = C at *
 have hl1 := loopN (f := (execA E C (fg 40) 0 109 [] 1000 Z98)) (fun i => m1S D n i) n (fun i hi => Z0lj h hn6 i hi) (Zp (Zm _ ZP) rfl rfl) (by omega)
   (e := .exit 0) (se := ([(24, .bool false), (23, .int .i64 n), (22, .int .i64 n), (21, .ref 2 1 n 6 38 5 true), (5, .ptr 5 0 2), (4, .ptr 4 0 2), (2, .ptr 2 0 38)],
     [(2, ⟨.box, dcs D⟩), (4, ⟨.box, [.nilsl, .nilsl]⟩), (5, ⟨.box, [.ref 60 0 n n (n * 5) 5 false, .nilsl]⟩), (60, ⟨.row, cls lc (mdL D n)⟩)]))
   (by
     have hoH : oH 60 (cls lc (mdL D n)) = [(60, ⟨.row, cls lc (mdL D n)⟩)] := Z6z 60 (by rw [Z9 Zq, Z2C h hn6]; omega)
     have hov : oV 60 5 n = .ref 60 0 n n (n * 5) 5 false := by
       obtain ⟨m, rfl⟩ : ∃ m, n = m + 1 := ⟨n - 1, by omega⟩
       rfl
     simp only [m1S, hoH, hov]
     simp (disch := omega) only [ZF, stp, just, Rd.bind, Rd.run, Rd.opt, upds, aBin, aInt, Nat.reduceEqDiff, Nat.reduceLeDiff, ↓reduceIte, F_40]) (by simp)
 obtain ⟨se, hl2, g, hg, rfl⟩ := Zad (f := (execA E C (fg 40) 0 109 [] 1000 Z4n)) (hd := headA []) (e := .exit 2)
   (P := fun i st => ∃ g, (g = 94 ∨ g = 102) ∧ st = m3S D n g i (mdE D i).2 (mdE D i).1)
   (Q := fun st => ∃ g, (g = 94 ∨ g = 102) ∧ st = ([(69, .bool false), (68, .int .i64 n), (67, .int .i64 n), (11, .int .i64 ((mdE D n).2 : Nat)), (10, .clo 111 [.ptr 2 0 38]), (5, .ptr 5 0 2), (4, .ptr 4 0 2), (2, .ptr 2 0 38)], mdH D n g (mdP D n)))
   (by simp) n 1000 0 (m3S D n 94 0 0 []) ⟨94, .inl rfl, by
     show headA [] (m3S D n 94 0 0 []) = m3S D n 94 0 0 []
     exact Zp (Zm _ ZP) rfl rfl⟩ (by omega)
   (fun i st _ hi hP => by
     obtain ⟨g, hg, rfl⟩ := hP
     exact Z0kL hC h hn6 (by omega) hg)
   (fun st hP => by
     obtain ⟨g, hg, rfl⟩ := hP
     rw [Nat.zero_add]
     refine ⟨_, ?_, g, hg, rfl⟩
     rw [show (mdE D n).1 = mdP D n from rfl]
     generalize mdP D n = es2 at *
     generalize (mdE D n).2 = b2 at *
     simp only [m3S, mdH]
     rcases bVH g es2 with ⟨e1, e2⟩ | ⟨e1, e2⟩ <;> rw [e1, e2]
     · simp (disch := omega) only [ZF, stp, just, Rd.bind, Rd.run, Rd.opt, upds, aBin, aInt, Nat.reduceEqDiff, Nat.reduceLeDiff, ↓reduceIte, F_40]
     · rcases hg with rfl | rfl
       · simp (disch := omega) only [ZF, stp, just, Rd.bind, Rd.run, Rd.opt, upds, aBin, aInt, Nat.reduceEqDiff, Nat.reduceLeDiff, ↓reduceIte, F_40]
       · simp (disch := omega) only [ZF, stp, just, Rd.bind, Rd.run, Rd.opt, upds, aBin, aInt, Nat.reduceEqDiff, Nat.reduceLeDiff, ↓reduceIte, F_40])
 have hll : (cls lc (mdL D n)).length = n * 5 := by rw [Z9 Zq, Z2C h hn6]
 have gn : (n : Int) ≤ 6 := by omega
 have gn2 : n ≤ 6 := hn6
 have ho1 : 1 + 30 ≤ 38 := by omega
 rw [show m1S D n 0 = ([(23, .int .i64 0), (22, .int .i64 n), (21, .ref 2 1 n 6 38 5 true), (5, .ptr 5 0 2), (4, .ptr 4 0 2), (2, .ptr 2 0 38)], [(2, ⟨.box, dcs D⟩), (4, ⟨.box, [.nilsl, .nilsl]⟩), (5, ⟨.box, [.nilsl, .nilsl]⟩)]) from rfl] at hl1
 rw [show m3S D n 94 0 0 [] = ([(68, .int .i64 0), (67, .int .i64 n), (11, .int .i64 0), (10, .clo 111 [.ptr 2 0 38]), (5, .ptr 5 0 2), (4, .ptr 4 0 2), (2, .ptr 2 0 38)], [(2, ⟨.box, dcs D⟩), (4, ⟨.box, [.nilsl, .nilsl]⟩), (5, ⟨.box, [.ref 60 0 n n (n * 5) 5 false, .nilsl]⟩), (60, ⟨.row, cls lc (mdL D n)⟩)]) from rfl] at hl2
 refine ⟨g, ?_⟩
 simp only [mdH] at hl2
 rcases bVH g (mdP D n) with ⟨e1, e2⟩ | ⟨e1, e2⟩
 · rw [e1, e2] at hl2
   rw [e1]
   have h0 : (mdP D n).length = 0 := by
     refine Classical.byContradiction fun hc => ?_
     have : bV g (mdP D n).length = .ref g 0 (mdP D n).length (mdP D n).length ((mdP D n).length * 2) 2 false := if_neg hc
     rw [e1] at this
     exact absurd this (by simp)
   generalize dcs D = dc at *
   simp (disch := omega) only [ZF, Z7, stp, opBox, justO, just, Rd.bind, Rd.run, Rd.opt, upds, acells, zeroCells, tsz, rdCells, fieldOf, Z3, aLoad, aStore, opStore, resA, resL, fresh, aNum, aLen, Z4, aBin, aInt, putC, Nat.reduceAdd, Nat.reduceMul, Nat.reduceLT, Nat.reduceBEq, Nat.reduceEqDiff, Nat.reduceLeDiff, ↓reduceIte, reduceCtorEq, snaps, aConv, aSlice, aBounds, bMax, bHigh, bLow, ZT, F_40, hmany, hlen, wm, hne, r1, wn, ho1, hl1, hl2, hll, if_pos]
   exact ⟨_, hg, rfl, rfl, fun hc => absurd h0 hc⟩
 · rw [e1, e2] at hl2
   rw [e1]
   generalize dcs D = dc at *
   rcases hg with rfl | rfl
   · simp (disch := omega) only [ZF, Z7, stp, opBox, justO, just, Rd.bind, Rd.run, Rd.opt, upds, acells, zeroCells, tsz, rdCells, fieldOf, Z3, aLoad, aStore, opStore, resA, resL, fresh, aNum, aLen, Z4, aBin, aInt, putC, Nat.reduceAdd, Nat.reduceMul, Nat.reduceLT, Nat.reduceBEq, Nat.reduceEqDiff, Nat.reduceLeDiff, ↓reduceIte, reduceCtorEq, snaps, aConv, aSlice, aBounds, bMax, bHigh, bLow, ZT, F_40, hmany, hlen, wm, hne, r1, wn, ho1, hl1, hl2, hll, if_pos]
     exact ⟨_, rfl, rfl, fun _ => rfl⟩
   · simp (disch := omega) only [ZF, Z7, stp, opBox, justO, just, Rd.bind, Rd.run, Rd.opt, upds, acells, zeroCells, tsz, rdCells, fieldOf, Z3, aLoad, aStore, opStore, resA, resL, fresh, aNum, aLen, Z4, aBin, aInt, putC, Nat.reduceAdd, Nat.reduceMul, Nat.reduceLT, Nat.reduceBEq, Nat.reduceEqDiff, Nat.reduceLeDiff, ↓reduceIte, reduceCtorEq, snaps, aConv, aSlice, aBounds, bMax, bHigh, bLow, ZT, F_40, hmany, hlen, wm, hne, r1, wn, ho1, hl1, hl2, hll, if_pos]
     exact ⟨_, rfl, rfl, fun _ => rfl⟩
end Go.AM.YtgfnbmfjbjopkaaDoor
end
noncomputable section
namespace Go.AM.YtgfnbmfjbjopkaaDoor
open Go Go.AM Go.AM.Mule
theorem ZBq {D : Dro} {bit i k : Nat} {p : Pr} (h : p ∈ pOf D bit i k) : (p = ((k : Int), (i : Int)) ∧ plc D k < plc D i) ∨ (p = ((i : Int), (k : Int)) ∧ ¬ plc D k < plc D i) := by
 unfold pOf at h
 split at h
 · split at h
   · rename_i h1; simp at h; exact .inl ⟨h, h1⟩
   · rename_i h1; simp at h; exact .inr ⟨h, h1⟩
 · simp at h
theorem Z0aB {D : Dro} (h : DOk D) {i k : Nat} (hi : i < 6) (hk : k < 6) (e : plc D i = plc D k) : i = k := by
 obtain ⟨z, _, z1, z2, e1⟩ := ZFL h hi
 obtain ⟨y, _, y1, y2, e2⟩ := ZFL h hk
 omega
def okP (D : Dro) (i : Nat) (p : Pr) : Prop := ∃ a b : Nat, p = ((a : Int), (b : Int)) ∧ a ≠ b ∧ a < i ∧ b < i ∧ plc D a < plc D b
theorem Z9G {D : Dro} (h : DOk D) {i b : Nat} (hi : i < 6) : ∀ k, k ≤ i → ∀ p ∈ mdI D i b k, ∃ x, x < k ∧ (p = ((x : Int), (i : Int)) ∧ plc D x < plc D i ∨ p = ((i : Int), (x : Int)) ∧ plc D i < plc D x)
 | 0, _, p, hp => by simp [mdI] at hp
 | k + 1, hk, p, hp => by
   simp only [mdI, List.mem_append] at hp
   rcases hp with hp | hp
   · obtain ⟨x, x1, x2⟩ := Z9G h hi k (by omega) p hp
     exact ⟨x, by omega, x2⟩
   · refine ⟨k, by omega, ?_⟩
     rcases ZBq hp with ⟨e, h1⟩ | ⟨e, h1⟩
     · exact .inl ⟨e, h1⟩
     · refine .inr ⟨e, ?_⟩
       have hne : plc D k ≠ plc D i := fun e => by have := Z0aB h (show k < 6 by omega) hi e; omega
       omega
theorem Zgr {D : Dro} (h : DOk D) : ∀ i, i ≤ 6 → ∀ p ∈ mdP D i, okP D i p
 | 0, _, p, hp => by simp [mdP, mdE] at hp
 | i + 1, hi, p, hp => by
   simp only [mdP, mdE, List.mem_append] at hp
   rcases hp with hp | hp
   · obtain ⟨a, b, e, h1, h2, h3, h4⟩ := Zgr h i (by omega) p hp
     exact ⟨a, b, e, h1, by omega, by omega, h4⟩
   · obtain ⟨x, x1, x2⟩ := Z9G h (show i < 6 by omega) i (Nat.le_refl _) p hp
     rcases x2 with ⟨e, h1⟩ | ⟨e, h1⟩
     · exact ⟨x, i, e, by omega, by omega, by omega, h1⟩
     · exact ⟨i, x, e, by omega, by omega, by omega, h1⟩
theorem Zht {D : Dro} (h : DOk D) {i b : Nat} (hi : i < 6) : ∀ k, k ≤ i → (mdI D i b k).Nodup
 | 0, _ => by simp [mdI]
 | k + 1, hk => by
   simp only [mdI]
   rw [List.nodup_append]
   refine ⟨Zht h hi k (by omega), ?_, ?_⟩
   · unfold pOf; split
     · split <;> simp
     · simp
   · intro p hp q hq e
     subst e
     obtain ⟨x, x1, x2⟩ := Z9G h hi k (by omega) p hp
     rcases ZBq hq with ⟨e1, _⟩ | ⟨e1, _⟩ <;> rcases x2 with ⟨e2, _⟩ | ⟨e2, _⟩ <;> rw [e1] at e2 <;> simp only [Prod.mk.injEq] at e2 <;> omega
theorem Zvc {D : Dro} (h : DOk D) : ∀ i, i ≤ 6 → (mdP D i).Nodup
 | 0, _ => by simp [mdP, mdE]
 | i + 1, hi => by
   simp only [mdP, mdE]
   rw [List.nodup_append]
   refine ⟨Zvc h i (by omega), Zht h (by omega) i (Nat.le_refl _), ?_⟩
   intro p hp q hq e
   subst e
   obtain ⟨a, b, e, _, h2, h3, _⟩ := Zgr h i (by omega) p hp
   obtain ⟨x, x1, x2⟩ := Z9G h (show i < 6 by omega) i (Nat.le_refl _) p hq
   rcases x2 with ⟨e2, _⟩ | ⟨e2, _⟩ <;> rw [e] at e2 <;> simp only [Prod.mk.injEq] at e2 <;> omega
theorem ZJK {D : Dro} {n : Nat} {es : List Pr} (hp : ∀ p ∈ es, okP D n p) {a b : Nat} (hr : Mule.Reach (es.map tN) a b) : plc D a < plc D b := by
 have step : ∀ {a b : Nat}, Mule.Edge (es.map tN) a b → plc D a < plc D b := by
   intro a b he
   obtain ⟨p, hpm, e⟩ := List.mem_map.1 he
   obtain ⟨x, y, rfl, _, _, _, h4⟩ := hp p hpm
   simp only [tN, Int.toNat_natCast, Prod.mk.injEq] at e
   rw [← e.1, ← e.2]; exact h4
 induction hr with
 | single e => exact step e
 | tail _ e ih => exact Int.lt_trans ih (step e)
theorem ZQn {D : Dro} (h : DOk D) {n : Nat} (h1 : 1 ≤ n) (h6 : n ≤ 6) : chk (mdL D n) (mdP D n) = 0 := by
 have hl := Z2C h h6
 have hpl := Z005 (D := D) h6
 have hok := Zgr h n h6
 have hls : ldsE (mdL D n) = 0 := Z0A.2 fun i hi => by
   have : (mdL D n).getD i default ∈ mdL D n := List.mem_of_getElem? (ZU hi)
   unfold mdL at this
   obtain ⟨q, hq, e⟩ := List.mem_map.1 this
   unfold mdL
   rw [← e]
   exact (Z0g1 (h.xs q (List.mem_of_mem_take hq))).2
 have hps : prsE n (mdP D n) = 0 := Z0A.2 fun i hi => by
   have hx := ZU (l := mdP D n) hi
   obtain ⟨a, b, e, _, h2, h3, _⟩ := hok _ (List.mem_of_getElem? hx)
   unfold prE
   have hnin : (mdP D n).getD i default ∉ (mdP D n).take i := by
     intro hc
     obtain ⟨j, hj, ej⟩ := List.mem_iff_getElem.1 hc
     rw [List.length_take] at hj
     rw [List.getElem_take] at ej
     have hnd := Zvc h n h6
     have e2 : (mdP D n)[j] = (mdP D n)[i] := by rw [ej]; simp [hi]
     exact (List.pairwise_iff_getElem.1 hnd) j i (by omega) hi (by omega) e2
   rw [if_neg, if_neg hnin]
   rw [e]
   simp only
   omega
 unfold chk
 rw [hl, if_neg (by omega), if_neg (by omega), if_neg (by simp [hls]), if_neg (by simp [hps]), if_neg]
 have hp := ZeA hps
 intro hc
 obtain ⟨i, hi, hb⟩ := List.any_eq_true.1 hc
 have := (Z9Y hp).2 i i
 have hr := this.1 hb
 have := ZJK hok hr
 omega
end Go.AM.YtgfnbmfjbjopkaaDoor
end
noncomputable section
namespace Go.AM.YtgfnbmfjbjopkaaDoor
open Go Go.AM Go.AM.Mule
def memB (s : Nat) (r : Option (AV × AHeap)) : Bool :=
 match r with
 | some (.nilsl, _) => Nat.beq s 0
 | some (.ref 16 0 l c g 1 false, [(16, ⟨.row, cells⟩)]) => !Nat.beq s 0 && Nat.beq l (lst s).length && Nat.beq c (lst s).length && Nat.beq g (lst s).length && (match eqInts .i64 cells (ins (lst s)) with | some true => true | _ => false)
 | _ => false
theorem Z0b5 (d : Nat) : (List.range 64).all (fun s => memB s (callA E fg 1000 (d + 1) 41 [.int .i64 s] [] 0)) = true := by kernel_rfl
theorem ZAy {d s : Nat} (h : s < 64) : (s = 0 ∧ ∃ H, callA E fg 1000 (d + 1) 41 [.int .i64 s] [] 0 = some (.nilsl, H)) ∨
   (s ≠ 0 ∧ callA E fg 1000 (d + 1) 41 [.int .i64 s] [] 0 = some (.ref 16 0 (lst s).length (lst s).length (lst s).length 1 false, [(16, ⟨.row, ins (lst s)⟩)])) := by
 have := List.all_eq_true.1 (Z0b5 d) s (List.mem_range.2 h)
 revert this
 generalize callA E fg 1000 (d + 1) 41 [.int .i64 s] [] 0 = r
 intro this
 unfold memB at this
 split at this
 · exact .inl ⟨Nat.eq_of_beq_eq_true this, _, rfl⟩
 · rename_i l c g cells
   simp only [Bool.and_eq_true, Bool.not_eq_true'] at this
   obtain ⟨⟨⟨⟨h1, h2⟩, h3⟩, h4⟩, h5⟩ := this
   refine .inr ⟨Nat.ne_of_beq_eq_false h1, ?_⟩
   rw [Nat.eq_of_beq_eq_true h2, Nat.eq_of_beq_eq_true h3, Nat.eq_of_beq_eq_true h4]
   have : eqInts .i64 cells (ins (lst s)) = some true := by
     split at h5 <;> simp_all
   rw [Z6Z this]
 · simp at this
theorem ZAi {d s : Nat} {site : Nat → Nat} {seen : List Nat} (h : s < 64) (h0 : s ≠ 0) : aBack site true seen (thaw (callA E fg 1000 (d + 1)) 41 [.int .i64 (s : Int)] [] 0) =
   Z0g (site 0) seen (fun k => .ref k 0 (lst s).length (lst s).length (lst s).length 1 false) ⟨.row, ins (lst s)⟩ := by
 rcases ZAy (d := d) h with h1 | h1
 · exact absurd h1.1 h0
 · exact Z6n h1.2 rfl (Zk _)
theorem ZJy {C : Callee} {l : Ld} {day : Int} (h : LdOk l) (h1 : 0 ≤ day ∧ day ≤ 1000) : rsOf (bodyA E C fg 1000 44 [.agg (lc l), .int .i64 day] [] 0) = some (.int .i64 (ldC l day)) := by
 have hb := ZZH h h1
 obtain ⟨_, _, hd, hr, hbb⟩ := h
 unfold ldC at hb ⊢
 by_cases hc : day ≤ l.due
 · have e : l.base + l.rate * max 0 (day - l.due) = l.base := by
     rw [show max 0 (day - l.due) = 0 by omega, Int.mul_zero, Int.add_zero]
   rw [e]
   simp (disch := omega) only [ZF, Z7, stp, opBox, just, Rd.bind, Rd.run, Rd.opt, upds, acells, rdCells, fieldOf, Z3, aLoad, resA, resL, fresh, aBin, aInt, Nat.reduceAdd, Nat.reduceBEq, Nat.reduceEqDiff, Nat.reduceLeDiff, ↓reduceIte, reduceCtorEq, ZT, F_44, lc, hc]
 · have em : max 0 (day - l.due) = day - l.due := by omega
   rw [em] at hb ⊢
   have h2 : 0 ≤ l.rate * (day - l.due) := Int.mul_nonneg hr.1 (by omega)
   have w1 : wrp .i64 (day - l.due) = day - l.due := ZC (by omega)
   have w2 : wrp .i64 (l.rate * (day - l.due)) = l.rate * (day - l.due) := ZC (by omega)
   have w3 : wrp .i64 (l.base + l.rate * (day - l.due)) = l.base + l.rate * (day - l.due) := ZC (by omega)
   simp (disch := omega) only [ZF, Z7, stp, opBox, just, Rd.bind, Rd.run, Rd.opt, upds, acells, rdCells, fieldOf, Z3, aLoad, resA, resL, fresh, aBin, aInt, Nat.reduceAdd, Nat.reduceBEq, Nat.reduceEqDiff, Nat.reduceLeDiff, ↓reduceIte, reduceCtorEq, ZT, F_44, lc, hc, w1, w2, w3]
theorem ZHi {d : Nat} {site : Nat → Nat} {seen : List Nat} {l : Ld} {day : Int} (h : LdOk l) (h1 : 0 ≤ day ∧ day ≤ 1000) : aBack site true seen (thaw (callA E fg 1000 (d + 1)) 44 [.agg (lc l), .int .i64 day] [] 0) = .pure (.int .i64 (ldC l day), []) :=
 ZE (ZV (ZJy (C := callA E fg 1000 d) h h1))
structure Prd2 (C : Callee) (f : AV) (l : List Pr) (p : Pr → Bool) : Prop where
 mt : ∀ args, mutV E f args = none
 call : ∀ (site : Nat → Nat) q, q ∈ l → opCallV E C site true f [.agg (bc q)] = .pure (.bool (p q), [])
 refs : refsOf f = []
abbrev ipS (l : List Pr) (ex : Bool) (f : AV) (i : Nat) : St := ([(8, .int .i64 i), (7, .int .i64 l.length), (1, f), (0, .imm (cls bc l) l.length ex)], [])
theorem ZgP (l : List Pr) (ex : Bool) (f : AV) (i : Nat) (φ : AFr) (H : AHeap) (hr : refsOf f = []) (h : φ = (ipS l ex f i).1) : headA [] (φ, H) = ipS l ex f i := by
 subst h
 rw [Z2s]
 simp only [refsF, refsOf, hr, List.append_nil]
theorem Z0bL {C : Callee} {f : AV} {l : List Pr} {p : Pr → Bool} {ex : Bool} (h : Prd2 C f l p) (hl : l.length < 900) :
   rsOf (bodyA E C fg 1000 112 [.imm (cls bc l) l.length ex, f] [] 0) = some (.int .i64 (if l.findIdx p < l.length then (l.findIdx p : Int) else -1)) := by
 obtain ⟨hm, hc, hr⟩ := h
 have hlen : (cls bc l).length = l.length * 2 := Z9 Z00 l
 have hle := List.findIdx_le_length (xs := l) (p := p)
 have hlo : ∀ i, i < l.findIdx p → ∃ s', (execA E C (fg 112) 0 19 [] 1000 Z34) (ipS l ex f i) = some (.normal, s') ∧ headA [] s' = ipS l ex f (i + 1) := by
   intro i hi
   have hil : i < l.length := by omega
   have hp : p l[i] = false := by simpa using List.not_of_lt_findIdx hi
   have hcall := fun site => hc site l[i] (List.getElem_mem hil)
   have hat := Z0T Z00 (List.getElem?_eq_getElem hil)
   generalize l[i] = q at *
   have g1 : (i : Int) < l.length := by omega
   rw [hp] at hcall
   simp only [bc] at hat hcall
   simp only [ipS]
   simp (disch := omega) only [ZF, stp, just, Rd.bind, Rd.run, Rd.opt, upds, tsz, rdCells, aLoad, Z2, aNum, aBin, aInt, Nat.reduceMul, Nat.reduceLT, Nat.reduceBEq, Nat.reduceEqDiff, Nat.reduceLeDiff, ↓reduceIte, reduceCtorEq, ZT, Z6r, g1, hat, hlen, if_pos, Zc (show i < 1000000 by omega), Z0q (hm _), hcall]
   exact ⟨_, rfl, ZgP _ _ _ _ _ _ hr rfl⟩
 by_cases hlt : l.findIdx p < l.length
 · rw [if_pos hlt]
   have hp := List.findIdx_getElem (xs := l) (p := p) (w := hlt)
   have hcall := fun site => hc site l[l.findIdx p] (List.getElem_mem hlt)
   have hat := Z0T Z00 (List.getElem?_eq_getElem hlt)
   rw [hp] at hcall
   generalize l[l.findIdx p] = q at *
   generalize l.findIdx p = m at *
   have g1 : (m : Int) < l.length := by omega
   simp only [bc] at hat hcall
   have hloop := loopN (f := (execA E C (fg 112) 0 19 [] 1000 Z34)) (ipS l ex f) m hlo (ZgP _ _ _ _ _ _ hr rfl) (by omega)
     (e := .ret) (se := ([(4, .int .i64 m)], []))
     (by simp (disch := omega) only [ZF, stp, just, Rd.bind, Rd.run, Rd.opt, upds, tsz, rdCells, aLoad, Z2, aNum, aBin, aInt, Nat.reduceMul, Nat.reduceLT, Nat.reduceBEq, Nat.reduceEqDiff, Nat.reduceLeDiff, ↓reduceIte, reduceCtorEq, ZT, Z6r, ipS, g1, hat, hlen, if_pos, Z0q (hm _), hcall]) (by simp)
   simp only [ipS, cl0] at hloop
   simp (disch := omega) only [ZF, Z7, stp, just, Rd.bind, Rd.run, upds, resA, resL, aLen, Z4, Nat.reduceBEq, Nat.reduceEqDiff, Nat.reduceLeDiff, ↓reduceIte, reduceCtorEq, ZT, Z6r, hloop]
 · rw [if_neg hlt]
   have e : l.findIdx p = l.length := by omega
   have hloop := loopN (f := (execA E C (fg 112) 0 19 [] 1000 Z34)) (ipS l ex f) l.length (fun i hi => hlo i (by omega)) (ZgP _ _ _ _ _ _ hr rfl) (by omega)
     (e := .exit 0) (se := ([(9, .bool false), (8, .int .i64 l.length), (7, .int .i64 l.length), (1, f), (0, .imm (cls bc l) l.length ex)], []))
     (by simp (disch := omega) only [ZF, stp, just, Rd.bind, Rd.run, Rd.opt, upds, aBin, aInt, Nat.reduceEqDiff, Nat.reduceLeDiff, ↓reduceIte, Z6r, ipS]) (by simp)
   simp only [ipS, cl0] at hloop
   simp (disch := omega) only [ZF, Z7, stp, just, Rd.bind, Rd.run, upds, resA, resL, aLen, Z4, Nat.reduceBEq, Nat.reduceEqDiff, Nat.reduceLeDiff, Int.reduceNeg, ↓reduceIte, reduceCtorEq, ZT, Z6r, hloop]
theorem Z0iu {C : Callee} {f : AV} (hr : refsOf f = []) :
   rsOf (bodyA E C fg 1000 112 [.nilsl, f] [] 0) = some (.int .i64 (-1)) := by
 have hloop := Zew (f := (execA E C (fg 112) 0 19 [] 1000 Z34)) (s0 := ([(8, .int .i64 0), (7, .int .i64 0), (1, f), (0, .nilsl)], [])) (by rw [Z2s]; simp only [refsF, refsOf, hr, List.append_nil])
     (e := .exit 0) (se := ([(9, .bool false), (8, .int .i64 0), (7, .int .i64 0), (1, f), (0, .nilsl)], []))
     (by simp (disch := omega) only [ZF, stp, just, Rd.bind, Rd.run, Rd.opt, upds, aBin, aInt, Nat.reduceEqDiff, Nat.reduceLeDiff, ↓reduceIte, Z6r]) (by simp)
 simp (disch := omega) only [ZF, Z7, stp, just, Rd.bind, Rd.run, upds, resA, resL, aLen, Z4, Nat.reduceBEq, Nat.reduceEqDiff, Nat.reduceLeDiff, Int.reduceNeg, ↓reduceIte, reduceCtorEq, ZT, Z6r, hloop]
theorem Z07L {d : Nat} {f a : AV} {l : List Pr} {p : Pr → Bool} {site : Nat → Nat} {seen : List Nat} (h : Prd2 (callA E fg 1000 d) f l p) (ha : SV bc l a) (hl : l.length < 900) :
   aBack site true seen (thaw (callA E fg 1000 (d + 1)) 112 [a, f] [] 0) = .pure (.int .i64 (if l.findIdx p < l.length then (l.findIdx p : Int) else -1), []) := by
 rcases ha with ⟨rfl, rfl⟩ | ⟨ex, rfl⟩
 · exact ZE (ZV (Z0iu (C := callA E fg 1000 d) h.refs))
 · exact ZE (ZV (Z0bL h hl))
theorem Z0ha {d : Nat} {f a : AV} {l : List Pr} {p : Pr → Bool} (h : Prd2 (callA E fg 1000 d) f l p) (hf : ∀ n, snap (n + 100) f = .pure (f, [])) (ha : SV bc l a) (hl : l.length < 900) :
   rsOf (bodyA E (callA E fg 1000 (d + 1)) fg 1000 42 [a, f] [] 0) = some (.bool (l.any p)) := by
 have hc := fun (site : Nat → Nat) seen => Z07L (site := site) (seen := seen) h ha hl
 have e : l.any p = decide ((if l.findIdx p < l.length then (l.findIdx p : Int) else -1) ≥ 0) := by
   have e1 : l.any p = decide (l.findIdx p < l.length) := by
     rw [Bool.eq_iff_iff, decide_eq_true_eq, List.findIdx_lt_length, List.any_eq_true]
   rw [e1]; exact decide_eq_decide.2 (by split <;> omega)
 rw [e]
 generalize (if l.findIdx p < l.length then (l.findIdx p : Int) else -1) = z at *
 have hs := Z2u ha
 generalize callA E fg 1000 (d + 1) = C at *
 have hf1 := hf 98
 simp only [Nat.reduceAdd] at hf1
 simp (disch := omega) only [ZF, Z7, stp, just, Rd.bind, Rd.run, Rd.opt, upds, resA, resL, aBin, aInt, Nat.reduceBEq, Nat.reduceEqDiff, Nat.reduceLeDiff, ↓reduceIte, reduceCtorEq, aCall, snaps, F_42, hc, hs 198, hf1]
theorem Z05q {d : Nat} {f a : AV} {l : List Pr} {p : Pr → Bool} {site : Nat → Nat} {seen : List Nat} (h : Prd2 (callA E fg 1000 d) f l p) (hf : ∀ n, snap (n + 100) f = .pure (f, [])) (ha : SV bc l a) (hl : l.length < 900) :
   aBack site true seen (thaw (callA E fg 1000 (d + 2)) 42 [a, f] [] 0) = .pure (.bool (l.any p), []) := Z1B (ZV (Z0ha h hf ha hl))
end Go.AM.YtgfnbmfjbjopkaaDoor
end
noncomputable section
namespace Go.AM
theorem shrI {b i : Nat} (hi : i < 64) : aShift .shr .i64 (b : Int) (i : Int) = some (.int .i64 ((b >>> i : Nat) : Int)) := by
 have h1 : ¬ (i : Int) < 0 := by omega
 simp only [aShift, if_neg h1, pw2, IntKind.bits, Int.toNat_natCast]
 rw [Nat.min_eq_left (by omega), Nat.shiftRight_eq_div_pow]
 congr 2
 exact (Int.fdiv_eq_ediv_of_nonneg _ (Int.natCast_nonneg _)).trans (Int.natCast_ediv _ _).symm
theorem btI {a : Nat} : bt .i64 (a : Int) = BitVec.ofNat 64 a := by simp only [bt, IntKind.bits, BitVec.ofInt_natCast]
theorem ZQt {a : Nat} (ha : a < 9223372036854775808) : bk .i64 (bt .i64 (a : Int) &&& bt .i64 1) = .int .i64 ((a &&& 1 : Nat) : Int) := by
 have e1 : bt .i64 1 = BitVec.ofNat 64 1 := rfl
 rw [btI, e1]
 have h : (BitVec.ofNat 64 a &&& BitVec.ofNat 64 1).toNat = a &&& 1 := by
   rw [BitVec.toNat_and, BitVec.toNat_ofNat, BitVec.toNat_ofNat, Nat.mod_eq_of_lt (by omega)]
 have h2 : a &&& 1 ≤ 1 := Nat.and_le_right
 show AV.int .i64 (wrp .i64 ((BitVec.ofNat 64 a &&& BitVec.ofNat 64 1).toNat : Int)) = _
 rw [h, ZC (by omega)]
theorem shlI {i : Nat} (h : i < 7) : aShift .shl .i64 1 (i : Int) = some (.int .i64 ((1 <<< i : Nat) : Int)) := by
 have : i = 0 ∨ i = 1 ∨ i = 2 ∨ i = 3 ∨ i = 4 ∨ i = 5 ∨ i = 6 := by omega
 rcases this with rfl | rfl | rfl | rfl | rfl | rfl | rfl <;> rfl
theorem Z03s {b i : Nat} (h : b < 64) : b >>> i < 64 := by
 rw [Nat.shiftRight_eq_div_pow]; exact Nat.lt_of_le_of_lt (Nat.div_le_self ..) h
end Go.AM
namespace Go.AM.YtgfnbmfjbjopkaaDoor
open Go Go.AM Go.AM.Mule
end Go.AM.YtgfnbmfjbjopkaaDoor
end
noncomputable section
namespace Go.AM.Mule
def stp1 (s : Nat) (q : Nat × Nat) : Nat := if s.testBit q.1 = true then s ||| 1 <<< q.2 else s
def rnd (es : List (Nat × Nat)) (s : Nat) : Nat := es.foldl stp1 s
def rnds (es : List (Nat × Nat)) (s : Nat) : Nat → Nat
 | 0 => s
 | k + 1 => rnd es (rnds es s k)
theorem bit1 (a b : Nat) : (1 <<< a).testBit b = decide (a = b) := by
 rw [Nat.one_shiftLeft, Nat.testBit_two_pow]
theorem ZiF {s : Nat} {q : Nat × Nat} {y : Nat} (h : s.testBit y = true) : (stp1 s q).testBit y = true := by
 unfold stp1
 split
 · rw [Nat.testBit_or, h]; rfl
 · exact h
theorem Z6x : ∀ {es : List (Nat × Nat)} {s y : Nat}, s.testBit y = true → (rnd es s).testBit y = true
 | [], _, _, h => h
 | _ :: es, _, _, h => Z6x (es := es) (ZiF h)
theorem ZDt : ∀ {es : List (Nat × Nat)} {s : Nat} {q : Nat × Nat}, q ∈ es → s.testBit q.1 = true → (rnd es s).testBit q.2 = true
 | p :: es, s, q, hq, h => by
   rcases List.mem_cons.1 hq with rfl | hq
   · refine Z6x (es := es) ?_
     unfold stp1
     rw [if_pos h, Nat.testBit_or, bit1]
     simp
   · exact ZDt (es := es) hq (ZiF h)
theorem Zio {es0 : List (Nat × Nat)} {i : Nat} : ∀ {es : List (Nat × Nat)} {s : Nat}, (∀ q ∈ es, q ∈ es0) → (∀ y, s.testBit y = true → y = i ∨ Reach es0 i y) → ∀ y, (rnd es s).testBit y = true → y = i ∨ Reach es0 i y
 | [], _, _, hs => hs
 | q :: es, s, hq, hs => by
   refine Zio (es := es) (fun p hp => hq p (by simp [hp])) ?_
   intro y hy
   unfold stp1 at hy
   split at hy
   · rename_i h1
     rw [Nat.testBit_or, bit1] at hy
     by_cases e : q.2 = y
     · subst e
       have he : Edge es0 q.1 q.2 := hq q (by simp)
       rcases hs _ h1 with e | hr
       · rw [e] at he; exact .inr (.single he)
       · exact .inr (.tail hr he)
     · exact hs y (by simpa [e] using hy)
   · exact hs y hy
theorem Z6p {es : List (Nat × Nat)} {i : Nat} : ∀ k y, (rnds es (1 <<< i) k).testBit y = true → y = i ∨ Reach es i y
 | 0, y, h => by
   left
   have : (1 <<< i).testBit y = true := h
   rw [bit1] at this
   exact (of_decide_eq_true this).symm
 | k + 1, y, h => Zio (fun _ h => h) (Z6p k) y h
theorem ZhE {es : List (Nat × Nat)} {s : Nat} : ∀ k {y}, s.testBit y = true → (rnds es s k).testBit y = true
 | 0, _, h => h
 | k + 1, _, h => Z6x (ZhE k h)
theorem ZyR {es : List (Nat × Nat)} {i n : Nat} (he : ∀ q ∈ es, q.1 < n ∧ q.2 < n) (hi : i < n) (k : Nat) : rnds es (1 <<< i) k < 2 ^ n := by
 apply Nat.lt_pow_two_of_testBit
 intro y hy
 cases hb : (rnds es (1 <<< i) k).testBit y with
 | false => rfl
 | true =>
   exfalso
   have rl : ∀ {a b : Nat}, Reach es a b → b < n := by
     intro a b h
     cases h with
     | single e => exact (he _ e).2
     | tail _ e => exact (he _ e).2
   rcases Z6p k y hb with e | h
   · omega
   · exact absurd (rl h) (by omega)
theorem ZSD : ∀ s, s < 64 → ∀ t, t < 64 → s &&& t = s → s ≠ t → (lst s).length < (lst t).length := by decide +kernel
theorem Z0e8 : ∀ n, n ≤ 6 → ∀ s, s < 64 → s < 2 ^ n → (lst s).length ≤ n := by decide +kernel
theorem ZEy : ∀ i, i < 6 → (lst (1 <<< i)).length = 1 := by decide +kernel
theorem ZL8 {es : List (Nat × Nat)} {i n : Nat} (he : ∀ q ∈ es, q.1 < n ∧ q.2 < n) (hi : i < n) (hn : n ≤ 6) (y : Nat) : (rnds es (1 <<< i) n).testBit y = true ↔ y = i ∨ Reach es i y := by
 refine ⟨Z6p n y, ?_⟩
 have h64 : 2 ^ n ≤ 64 := by
   have := Nat.pow_le_pow_right (show 0 < 2 by omega) hn
   simpa using this
 have hlt := fun k => Nat.lt_of_lt_of_le (ZyR he hi k) h64
 have key : ∀ k, (∃ j, j ≤ k ∧ rnd es (rnds es (1 <<< i) j) = rnds es (1 <<< i) j) ∨ k + 1 ≤ (lst (rnds es (1 <<< i) k)).length := by
   intro k
   induction k with
   | zero => right; show 1 ≤ (lst (1 <<< i)).length; rw [ZEy i (by omega)]; exact Nat.le_refl _
   | succ k ih =>
     rcases ih with ⟨j, hj, e⟩ | h
     · exact .inl ⟨j, by omega, e⟩
     · by_cases e : rnd es (rnds es (1 <<< i) k) = rnds es (1 <<< i) k
       · exact .inl ⟨k, by omega, e⟩
       · right
         have hand : rnds es (1 <<< i) k &&& rnds es (1 <<< i) (k + 1) = rnds es (1 <<< i) k := by
           apply Nat.eq_of_testBit_eq
           intro z
           rw [Nat.testBit_and]
           cases hb : (rnds es (1 <<< i) k).testBit z with
           | false => rfl
           | true => rw [show (rnds es (1 <<< i) (k + 1)).testBit z = true from Z6x hb]; rfl
         have := ZSD _ (hlt k) _ (hlt (k + 1)) hand (fun h => e h.symm)
         omega
 have hfix : rnd es (rnds es (1 <<< i) n) = rnds es (1 <<< i) n := by
   rcases key n with ⟨j, hj, e⟩ | h
   · have : ∀ m, rnds es (1 <<< i) (j + m) = rnds es (1 <<< i) j := by
       intro m
       induction m with
       | zero => rfl
       | succ m ih => show rnd es (rnds es (1 <<< i) (j + m)) = _; rw [ih, e]
     have e2 := this (n - j)
     rw [show j + (n - j) = n by omega] at e2
     rw [e2, e]
   · have := Z0e8 n hn _ (hlt n) (ZyR he hi n)
     omega
 have hcl : ∀ q ∈ es, (rnds es (1 <<< i) n).testBit q.1 = true → (rnds es (1 <<< i) n).testBit q.2 = true := by
   intro q hq h
   have := ZDt hq h
   rw [hfix] at this
   exact this
 have h0 : (rnds es (1 <<< i) n).testBit i = true := ZhE n (by rw [bit1]; simp)
 rintro (rfl | hr)
 · exact h0
 · induction hr with
   | single e => exact hcl _ e h0
   | tail _ e ih => exact hcl _ e ih
theorem ZK5 {es : List (Nat × Nat)} {i n s : Nat} (he : ∀ q ∈ es, q.1 < n ∧ q.2 < n) (hi : i < n) (hn : n ≤ 6) (hs : s < 64) (hm : i ∈ lst s) (hir : ¬ Reach es i i) : rnds es (1 <<< i) n &&& s = 1 <<< i ↔ ∀ k ∈ lst s, ¬ Reach es i k := by
 have hb : ∀ y, (rnds es (1 <<< i) n &&& s).testBit y = true ↔ (y = i ∨ Reach es i y) ∧ y ∈ lst s := by
   intro y
   rw [Nat.testBit_and, Bool.and_eq_true, ZL8 he hi hn, Z2D hs]
 constructor
 · intro e k hk hr
   have := (hb k).2 ⟨.inr hr, hk⟩
   rw [e, bit1] at this
   have e2 := of_decide_eq_true this
   subst e2
   exact hir hr
 · intro h
   apply Nat.eq_of_testBit_eq
   intro y
   rw [bit1, Bool.eq_iff_iff, hb, decide_eq_true_iff]
   constructor
   · rintro ⟨e | hr, hy⟩
     · exact e.symm
     · exact absurd hr (h y hy)
   · rintro rfl
     exact ⟨.inl rfl, hm⟩
end Go.AM.Mule
end
noncomputable section
namespace Go.AM
theorem Z053 {s t : Nat} (hs : s < 64) : bk .i64 (bt .i64 (s : Int) &&& bt .i64 (t : Int)) = .int .i64 ((s &&& t : Nat) : Int) := by
 rw [btI, btI]
 have h2 : s &&& t ≤ s := Nat.and_le_left
 have h : (BitVec.ofNat 64 s &&& BitVec.ofNat 64 t).toNat = s &&& t := by
   rw [BitVec.toNat_and, BitVec.toNat_ofNat, BitVec.toNat_ofNat, Nat.mod_eq_of_lt (by omega : s < 2 ^ 64)]
   apply Nat.eq_of_testBit_eq
   intro i
   simp only [Nat.testBit_and, Nat.testBit_mod_two_pow]
   cases hb : s.testBit i with
   | false => rfl
   | true =>
     have hi : i < 64 := by
       refine Classical.byContradiction fun hc => ?_
       rw [Nat.testBit_lt_two_pow (Nat.lt_of_lt_of_le hs (Nat.le_trans (show 64 ≤ 2 ^ 64 by omega) (Nat.pow_le_pow_right (by omega) (by omega))))] at hb
       exact absurd hb (by simp)
     simp [hi]
 show AV.int .i64 (wrp .i64 ((BitVec.ofNat 64 s &&& BitVec.ofNat 64 t).toNat : Int)) = _
 rw [h, ZC (by omega)]
theorem Z0cN {s t : Nat} (hs : s < 64) (ht : t < 64) : bk .i64 (bt .i64 (s : Int) ||| bt .i64 (t : Int)) = .int .i64 ((s ||| t : Nat) : Int) := by
 rw [btI, btI]
 have h2 : s ||| t < 64 := Nat.or_lt_two_pow (n := 6) hs ht
 have h : (BitVec.ofNat 64 s ||| BitVec.ofNat 64 t).toNat = s ||| t := by
   rw [BitVec.toNat_or, BitVec.toNat_ofNat, BitVec.toNat_ofNat, Nat.mod_eq_of_lt (by omega : s < 2 ^ 64), Nat.mod_eq_of_lt (by omega : t < 2 ^ 64)]
 show AV.int .i64 (wrp .i64 ((BitVec.ofNat 64 s ||| BitVec.ofNat 64 t).toNat : Int)) = _
 rw [h, ZC (by omega)]
end Go.AM
namespace Go.AM.YtgfnbmfjbjopkaaDoor
open Go Go.AM Go.AM.Mule
theorem Z014 {s : Nat} {q : Nat × Nat} (hs : s < 64) (hq : q.2 < 6) : stp1 s q < 64 := by
 unfold stp1
 split
 · exact Nat.or_lt_two_pow (n := 6) hs (Z5C hq)
 · exact hs
theorem ZgN : ∀ {es : List (Nat × Nat)} {s : Nat}, (∀ q ∈ es, q.2 < 6) → s < 64 → es.foldl stp1 s < 64
 | [], _, _, h => h
 | q :: es, s, hq, h => ZgN (es := es) (fun p hp => hq p (by simp [hp])) (Z014 h (hq q (by simp)))
abbrev lbS (a b : AV) (es : List Pr) (n : Nat) (l : List Nat) (set day out : Int) (i idx r seen k : Nat) : St :=
 ([(48, .int .i64 k), (47, .int .i64 es.length), (46, b), (43, .int .i64 r), (42, .int .i64 n), (34, .int .i64 i), (33, .int .i64 l.length), (32, .ref 32 0 l.length l.length l.length 1 false), (11, .int .i64 seen), (10, .int .i64 idx), (8, .int .i64 out), (5, .int .i64 day), (2, .ptr 2 0 2), (1, .int .i64 set)],
   [(2, ⟨.box, [a, b]⟩), (32, ⟨.row, ins l⟩)])
theorem Z0kn {C : Callee} {a b : AV} {es : List Pr} {n : Nat} {l : List Nat} {set day out : Int} {i idx r seen : Nat} (hb : SV bc es b) (ha : ∃ ex c m, a = .imm c m ex) (hok : ∀ q ∈ es, ∃ x y : Nat, q = ((x : Int), (y : Int)) ∧ x < 6 ∧ y < 6) (hs : seen < 64) (hm : es.length < 900) (k : Nat) (hk : k < es.length) :
   ∃ s', (execA E C (fg 73) 0 90 [] 1000 Z4X) (lbS a b es n l set day out i idx r (((es.map tN).take k).foldl stp1 seen) k) = some (.normal, s') ∧ headA [] s' = lbS a b es n l set day out i idx r (((es.map tN).take (k + 1)).foldl stp1 seen) (k + 1) := by
 obtain ⟨exa, ca, ma, rfl⟩ := ha
 have hq : es[k]? = some es[k] := List.getElem?_eq_getElem hk
 obtain ⟨x, y, e, hx, hy⟩ := hok _ (List.getElem_mem hk)
 rw [e] at hq
 have et : (es.map tN).take (k + 1) = (es.map tN).take k ++ [(x, y)] := by
   rw [List.take_add_one, List.getElem?_map, hq]; rfl
 have hf : ∀ q ∈ (es.map tN).take k, q.2 < 6 := by
   intro q hq
   obtain ⟨p, hp, rfl⟩ := List.mem_map.1 (List.mem_of_mem_take hq)
   obtain ⟨x, y, rfl, _, hy⟩ := hok p hp
   exact hy
 have h64 := ZgN hf hs
 rw [et, List.foldl_append]
 simp only [List.foldl_cons, List.foldl_nil]
 generalize ((es.map tN).take k).foldl stp1 seen = s at *
 rcases hb with ⟨e0, _⟩ | ⟨ex, rfl⟩
 · rw [e0] at hk; simp at hk
 · have aq := Z0T Z00 hq
   have hcl : (cls bc es).length = es.length * 2 := Z9 Z00 es
   have hsh := shrI (b := s) (i := x) (by omega)
   have hlt := Z03s (i := x) h64
   have han := ZQt (a := s >>> x) (by omega)
   have he := ZgG s x
   have hsl := shlI (i := y) (by omega)
   have hor := Z0cN h64 (Z5C hy)
   have g1 : (k : Int) < es.length := by omega
   simp only [bc] at aq
   unfold stp1
   simp only
   simp only [lbS]
   cases htb : s.testBit x with
   | true =>
     rw [htb] at he
     rw [if_pos rfl]
     generalize s ||| 1 <<< y = s2 at *
     simp (disch := omega) only [ZF, stp, opBox, just, Rd.bind, Rd.run, Rd.opt, upds, acells, zeroCells, tsz, rdCells, aLoad, aStore, opStore, fresh, Z2, aNum, aBin, aInt, putC, Nat.reduceAdd, Nat.reduceLT, Nat.reduceBEq, Nat.reduceEqDiff, Nat.reduceLeDiff, ↓reduceIte, snaps, Int.reduceLE, Int.reduceToNat, ZT, F_73, g1, aq, hcl, hsh, han, he, hsl, hor, if_pos, Zc (show k < 1000000 by omega)]
     exact ⟨_, rfl, rfl⟩
   | false =>
     rw [htb] at he
     rw [if_neg (by simp)]
     simp (disch := omega) only [ZF, stp, opBox, just, Rd.bind, Rd.run, Rd.opt, upds, acells, zeroCells, tsz, rdCells, aLoad, aStore, opStore, fresh, Z2, aNum, aBin, aInt, putC, Nat.reduceAdd, Nat.reduceLT, Nat.reduceBEq, Nat.reduceEqDiff, Nat.reduceLeDiff, ↓reduceIte, snaps, Int.reduceLE, Int.reduceToNat, ZT, F_73, g1, aq, hcl, hsh, han, he, if_pos, Zc (show k < 1000000 by omega)]
     exact ⟨_, rfl, rfl⟩
end Go.AM.YtgfnbmfjbjopkaaDoor
end
noncomputable section
namespace Go.AM.YtgfnbmfjbjopkaaDoor
open Go Go.AM
variable {C : Callee} {B N : Nat} {E0 : AHeap} (φ : AFr) (H : AHeap) (s : St)
def ZaU := kBody Proofs.Tryd.f13
def ZFR := kL ZaU
def Z4Q := kO ZFR
def ZB7 := opN Z4Q 0
def ZEj := opN Z4Q 1
def ZDC := opN Z4Q 2
theorem ZbA : XG 13 144 ZFR Z4Q [0, 1, 10] := Z1 (by rfl) (by rfl) _
theorem Z63 : Z4Q.toList = [ZB7, ZEj, ZDC] := nf
theorem Z5X : stepA E C B 144 Z4Q ZB7 (φ, H) = stp (some 5) φ H (opBox (B + 5) (acells (fget φ 0))) := nf
theorem Z52 : stepA E C B 144 Z4Q ZEj (φ, H) = stp (some 6) φ H (opBox (B + 6) (acells (fget φ 1))) := nf
theorem Z5P : stepA E C B 144 Z4Q ZDC (φ, H) = some (fput φ 10 (.bool false), H) := nf
def ZjN := kR ZaU
def ZG3 := kL ZjN
def Z2N := kO ZG3
def ZAW := opN Z2N 0
def ZCZ := opN Z2N 1
def ZCT := opN Z2N 2
def ZDG := opN Z2N 3
theorem ZdD : XG 13 144 ZG3 Z2N [5, 24, 25] := Z1 (by rfl) (by rfl) _
theorem Z4W : Z2N.toList = [ZAW, ZCZ, ZCT, ZDG] := nf
theorem Z5I : stepA E C B 144 Z2N ZAW (φ, H) = stp (some 24) φ H (just (aLoad E.T 58 (fget φ 5))) := nf
theorem Z5p : stepA E C B 144 Z2N ZCZ (φ, H) = stp (some 25) φ H (aCall C (fun j => B + j * 144 + 25) true 40 [(fget φ 24), (.int .i64 5)]) := nf
theorem Z5m : stepA E C B 144 Z2N ZCT (φ, H) = stp (some 11) φ H (opBox (B + 11) (zeroCells E.T 25)) := nf
theorem Z5N : stepA E C B 144 Z2N ZDG (φ, H) = stp none φ H (opStore E.T 25 (fget φ 11) (fget φ 25)) := nf
def ZjQ := kR ZjN
def ZGw := kL ZjQ
def Z2W := kO ZGw
def Zz7 := opN Z2W 0
def Zz4 := opN Z2W 1
def ZzD := opN Z2W 2
def ZBp := opN Z2W 3
theorem Zb3 : XG 13 144 ZGw Z2W [26, 27, 28] := Z1 (by rfl) (by rfl) _
theorem Z5F : Z2W.toList = [Zz7, Zz4, ZzD, ZBp] := nf
theorem Z57 : stepA E C B 144 Z2W Zz7 (φ, H) = stp (some 26) φ H (just (Z3 E.T 25 (fget φ 11) 0)) := nf
theorem Z5e : stepA E C B 144 Z2W Zz4 (φ, H) = stp (some 27) φ H (just (aLoad E.T 22 (fget φ 26))) := nf
theorem Z66 : stepA E C B 144 Z2W ZzD (φ, H) = stp (some 28) φ H (Z4 E.T (B + 28) .len #[22] [(fget φ 27)]) := nf
theorem Z5j : stepA E C B 144 Z2W ZBp (φ, H) = some (fput φ 12 (fget φ 28), H) := nf
def ZiP := kR ZjQ
def ZGx := kL ZiP
def Zjt := kO ZGx
def ZAZ := opN Zjt 0
theorem ZcT : XG 13 144 ZGx Zjt [] := Z1 (by rfl) (by rfl) _
theorem Z51 : Zjt.toList = [ZAZ] := nf
theorem Z5J : stepA E C B 144 Zjt ZAZ (φ, H) = stp (some 13) φ H (opBox (B + 13) (zeroCells E.T 36)) := nf
def ZjK := kR ZiP
def ZjI := kL ZjK
def Zp1 := kL ZjI
def Z2H := kO Zp1
def ZD9 := opN Z2H 0
def ZB3 := opN Z2H 1
def ZBg := opN Z2H 2
def ZFr := opN Z2H 3
theorem Z6M : XG 13 144 Zp1 Z2H [6, 29] := Z1 (by rfl) (by rfl) _
theorem Z5W : Z2H.toList = [ZD9, ZB3, ZBg, ZFr] := nf
theorem Z5n : stepA E C B 144 Z2H ZD9 (φ, H) = some (fput φ 29 (fget φ 12), H) := nf
theorem Z5z : stepA E C B 144 Z2H ZB3 (φ, H) = stp (some 30) φ H (just (aSlice E.T 56 (fget φ 6) none (some (fget φ 29)) none)) := nf
theorem Z62 : stepA E C B 144 Z2H ZBg (φ, H) = stp (some 31) φ H (Z4 E.T (B + 31) .len #[92] [(fget φ 30)]) := nf
theorem Z5q : stepA E C B 144 Z2H ZFr (φ, H) = some (fput φ 32 (.int .i64 0), H) := nf
def ZvR := kR ZjI
def Zwp := kB ZvR
def Z6a := kB Zwp
def ZnO := kL Z6a
def ZjX := kO ZnO
def ZCP := opN ZjX 0
theorem Z0dd : XG 13 144 ZnO ZjX [] := Z1 (by rfl) (by rfl) _
theorem Z01O : ZjX.toList = [ZCP] := nf
theorem Z09I : stepA E C B 144 ZjX ZCP (φ, H) = stp (some 33) φ H (just (aBin E.T .lss 3 (fget φ 32) (fget φ 31))) := nf
def Zba := kR Z6a
def Zax := kL Zba
def ZIa := kT Zax
theorem Z0fc : execA E C (fg 13) B 144 E0 N ZIa s = some (.normal, s) := Zh (by rfl) s
def ZHW := kE Zax
theorem Z0iO : execA E C (fg 13) B 144 E0 N ZHW s = some (.exit 0, s) := ZO (by rfl) s
theorem Z0iK : XC 13 144 Zax 33 ZIa ZHW := Zb (by rfl) _
def Zdm := kR Zba
def Zkz := kL Zdm
def Zeo := kB Zkz
def Zu2 := kL Zeo
def Z4J := kO Zu2
def Zzv := opN Z4J 0
def ZBE := opN Z4J 1
def ZDq := opN Z4J 2
theorem Z0j6 : XG 13 144 Zu2 Z4J [33, 34, 35] := Z1 (by rfl) (by rfl) _
theorem Z00R : Z4J.toList = [Zzv, ZBE, ZDq] := nf
theorem Z01A : stepA E C B 144 Z4J Zzv (φ, H) = stp (some 34) φ H (just (Z2 E.T 92 (fget φ 30) (fget φ 32))) := nf
theorem Z05X : stepA E C B 144 Z4J ZBE (φ, H) = stp (some 35) φ H (just (aLoad E.T 5 (fget φ 34))) := nf
theorem Z05Z : stepA E C B 144 Z4J ZDq (φ, H) = some (fput φ 15 (fget φ 35), H) := nf
def ZxA := kR Zeo
def Z04 := kO ZxA
def ZF6 := opN Z04 0
def Zzw := opN Z04 1
def ZD8 := opN Z04 2
def ZDW := opN Z04 3
def ZAC := opN Z04 4
def ZEO := opN Z04 5
def ZBG := opN Z04 6
def ZBU := opN Z04 7
def ZET := opN Z04 8
theorem Z0gQ : XD 13 144 ZxA Z04 [15, 36, 37, 38, 39, 40, 41, 42, 43] := Z1c (by rfl) (by rfl) _
theorem Z077 : Z04.toList = [ZF6, Zzw, ZD8, ZDW, ZAC, ZEO, ZBG, ZBU, ZET] := nf
theorem ZSr : statOk Z04 = true := by kernel_rfl
theorem ZZo : drawA E C B 144 Z04 s = if neat 144 s = true then drX Z04 (runT E C B 144 Z04 Z04.toList 0 s) else none := Z0G ZSr s
theorem ZTY (l : List (Nat × Tr)) : dynOk Z04 l = (!writing l || Zg [[], [], [1], [], [3], [1, 2, 3, 4], [1, 2, 3, 4, 5], [0, 1, 2, 3, 4, 5, 6], [0, 1, 2, 3, 4, 5, 6, 7]] (Ze l)) := Z0r (by kernel_rfl) l
theorem Z0b4 : stepT E C B 144 Z04 ZF6 (φ, H) = stpT (some 36) φ H (just (aLoad E.T 36 (fget φ 13))) := Z5 rfl (Z8 rfl rfl)
theorem Z08z : stepT E C B 144 Z04 Zzw (φ, H) = some ((fput φ 37 (fget φ 15), H), ⟨false, [], []⟩) := Z5 rfl (ZS rfl rfl)
theorem Z00O : stepT E C B 144 Z04 ZD8 (φ, H) = stpT (some 38) φ H (justO (aConv E.T 5 3 (fget φ 37))) := Z5 rfl (Z8 rfl rfl)
theorem Z06d : stepT E C B 144 Z04 ZDW (φ, H) = some ((fput φ 39 (fget φ 12), H), ⟨false, [], []⟩) := Z5 rfl (ZS rfl rfl)
theorem Z032 : stepT E C B 144 Z04 ZAC (φ, H) = stpT (some 40) φ H (just (aBin E.T .add 3 (fget φ 39) (.int .i64 1))) := Z5 rfl (Z8 rfl rfl)
theorem Z0b0 : stepT E C B 144 Z04 ZEO (φ, H) = stpT (some 41) φ H (just (aBin E.T .rem 3 (fget φ 38) (fget φ 40))) := Z5 rfl (Z8 rfl rfl)
theorem Z00Z : stepT E C B 144 Z04 ZBG (φ, H) = stpT (some 42) φ H (Zd E.T (B + 42) 36 1 (evO E φ) [(0, Operand.tmp 41)]) := Z5 rfl (Z8 rfl rfl)
theorem Z02u : stepT E C B 144 Z04 ZBU (φ, H) = stpT (some 43) φ H (Z4 E.T (B + 43) .append #[36, 36] [(fget φ 36), (fget φ 42)]) := Z5 rfl (Z8 rfl rfl)
theorem Z054 : stepT E C B 144 Z04 ZET (φ, H) = stpT none φ H (opStore E.T 36 (fget φ 13) (fget φ 43)) := Z5 rfl (Z8 rfl rfl)
theorem Z0cY : XQ 13 144 Zeo Zu2 ZxA := Z0 (by rfl) _
theorem Z0if : execA E C (fg 13) B 144 E0 N Zkz s = blockX 1 (fun s => (forget s.1 [], s.2)) (execA E C (fg 13) B 144 E0 N Zeo s) := Za (by rfl) (by rfl) s
def ZqY := kR Zdm
def Z8V := kO ZqY
def ZC9 := opN Z8V 0
def ZzO := opN Z8V 1
theorem Z0jl : XG 13 144 ZqY Z8V [44] := Z1 (by rfl) (by rfl) _
theorem Z02y : Z8V.toList = [ZC9, ZzO] := nf
theorem Z04G : stepA E C B 144 Z8V ZC9 (φ, H) = stp (some 44) φ H (just (aBin E.T .add 3 (fget φ 32) (.int .i64 1))) := nf
theorem Z07J : stepA E C B 144 Z8V ZzO (φ, H) = some (fput φ 32 (fget φ 44), H) := nf
theorem Z0jd : XQ 13 144 Zdm Zkz ZqY := Z0 (by rfl) _
theorem Z0gG : XQ 13 144 Zba Zax Zdm := Z0 (by rfl) _
theorem Z0cq : XQ 13 144 Z6a ZnO Zba := Z0 (by rfl) _
theorem Z7v : execA E C (fg 13) B 144 E0 N Zwp s = iterA (execA E C (fg 13) B 144 E0 N Z6a) (headA E0) N s := ZN (by rfl) s
theorem Z6F : execA E C (fg 13) B 144 E0 N ZvR s = blockX 0 (fun s => (forget s.1 [30, 31, 32, 33], s.2)) (execA E C (fg 13) B 144 E0 N Zwp s) := Za (by rfl) (by rfl) s
theorem ZdO : XQ 13 144 ZjI Zp1 ZvR := Z0 (by rfl) _
def Zer := kR ZjK
def Zb2 := kL Zer
def ZkJ := kL Zb2
def Z9Q := kO ZkJ
def Zzi := opN Z9Q 0
def ZEx := opN Z9Q 1
theorem Z6X : XG 13 144 ZkJ Z9Q [2, 45] := Z1 (by rfl) (by rfl) _
theorem Z4Y : Z9Q.toList = [Zzi, ZEx] := nf
theorem Z61 : stepA E C B 144 Z9Q Zzi (φ, H) = some (fput φ 45 (fget φ 2), H) := nf
theorem Z5b : stepA E C B 144 Z9Q ZEx (φ, H) = stp (some 46) φ H (just (aBin E.T .gtr 5 (fget φ 45) (.int .u8 240))) := nf
def ZeS := kR Zb2
def Zs1 := kT ZeS
def Z3h := kO Zs1
def Zky := opN Z3h 0
def Zsh := opN Z3h 1
def ZsE := opN Z3h 2
theorem Z77 : XG 13 144 Zs1 Z3h [46, 47, 48] := Z1 (by rfl) (by rfl) _
theorem Z4u : Z3h.toList = [Zky, Zsh, ZsE] := nf
theorem Z42 : stepA E C B 144 Z3h Zky (φ, H) = stp (some 47) φ H (just (aLoad E.T 36 (fget φ 13))) := nf
theorem Z4j : stepA E C B 144 Z3h Zsh (φ, H) = stp (some 48) φ H (just (aSlice E.T 36 (fget φ 47) (some (.int .i64 1)) none none)) := nf
theorem Z3T : stepA E C B 144 Z3h ZsE (φ, H) = stp none φ H (opStore E.T 36 (fget φ 13) (fget φ 48)) := nf
def ZI9 := kE ZeS
theorem Z6I : execA E C (fg 13) B 144 E0 N ZI9 s = some (.normal, s) := Zh (by rfl) s
theorem Z6E : XC 13 144 ZeS 46 Zs1 ZI9 := Zb (by rfl) _
theorem Z7C : XQ 13 144 Zb2 ZkJ ZeS := Z0 (by rfl) _
def Ze5 := kR Zer
def Zk3 := kL Ze5
def Zdg := kO Zk3
def ZkB := opN Zdg 0
theorem Z6N : XG 13 144 Zk3 Zdg [46] := Z1 (by rfl) (by rfl) _
theorem Z3N : Zdg.toList = [ZkB] := nf
theorem Z4v : stepA E C B 144 Zdg ZkB (φ, H) = some (fput φ 16 (.int .i64 0), H) := nf
def ZdF := kR Ze5
def ZcA := kL ZdF
def Zkk := kL ZcA
def Z23 := kO Zkk
def Zlu := opN Z23 0
def Zpp := opN Z23 1
def Zx7 := opN Z23 2
def ZsV := opN Z23 3
theorem Z7A : XG 13 144 Zkk Z23 [49, 50, 51] := Z1 (by rfl) (by rfl) _
theorem Z3W : Z23.toList = [Zlu, Zpp, Zx7, ZsV] := nf
theorem Z4s : stepA E C B 144 Z23 Zlu (φ, H) = stp (some 49) φ H (just (aLoad E.T 36 (fget φ 13))) := nf
theorem Z4c : stepA E C B 144 Z23 Zpp (φ, H) = stp (some 50) φ H (Z4 E.T (B + 50) .len #[36] [(fget φ 49)]) := nf
theorem Z3Y : stepA E C B 144 Z23 Zx7 (φ, H) = some (fput φ 51 (fget φ 12), H) := nf
theorem Z3U : stepA E C B 144 Z23 ZsV (φ, H) = stp (some 52) φ H (just (aBin E.T .neq 3 (fget φ 50) (fget φ 51))) := nf
def Zdt := kR ZcA
def ZkK := kT Zdt
def Zeu := kO ZkK
def ZuG := opN Zeu 0
theorem Z7p : XG 13 144 ZkK Zeu [52] := Z1 (by rfl) (by rfl) _
theorem Z4m : Zeu.toList = [ZuG] := nf
theorem Z4b : stepA E C B 144 Zeu ZuG (φ, H) = some (fput φ 16 (.int .i64 5), H) := nf
def ZIy := kE Zdt
theorem Z7e : execA E C (fg 13) B 144 E0 N ZIy s = some (.normal, s) := Zh (by rfl) s
theorem Z7l : XC 13 144 Zdt 52 ZkK ZIy := Zb (by rfl) _
theorem Z7d : XQ 13 144 ZcA Zkk Zdt := Z0 (by rfl) _
def ZdM := kR ZdF
def ZbY := kL ZdM
def Zx2 := kL ZbY
def Z3p := kO Zx2
def ZlI := opN Z3p 0
def Zo5 := opN Z3p 1
def Zmw := opN Z3p 2
theorem Z7D : XG 13 144 Zx2 Z3p [52] := Z1 (by rfl) (by rfl) _
theorem Z4t : Z3p.toList = [ZlI, Zo5, Zmw] := nf
theorem Z4g : stepA E C B 144 Z3p ZlI (φ, H) = stp (some 53) φ H (just (aLoad E.T 36 (fget φ 13))) := nf
theorem Z46 : stepA E C B 144 Z3p Zo5 (φ, H) = stp (some 54) φ H (Z4 E.T (B + 54) .len #[36] [(fget φ 53)]) := nf
theorem Z44 : stepA E C B 144 Z3p Zmw (φ, H) = some (fput φ 55 (.int .i64 0), H) := nf
def Zw8 := kR ZbY
def ZnL := kB Zw8
def Z2n := kB ZnL
def Zro := kL Z2n
def ZaQ := kO Zro
def Zks := opN ZaQ 0
theorem Z0iV : XG 13 144 Zro ZaQ [] := Z1 (by rfl) (by rfl) _
theorem ZU3 : ZaQ.toList = [Zks] := nf
theorem ZVI : stepA E C B 144 ZaQ Zks (φ, H) = stp (some 56) φ H (just (aBin E.T .lss 3 (fget φ 55) (fget φ 54))) := nf
def Zep := kR Z2n
def Zem := kL Zep
def ZJI := kT Zem
theorem Z0gR : execA E C (fg 13) B 144 E0 N ZJI s = some (.normal, s) := Zh (by rfl) s
def ZLo := kE Zem
theorem Z0im : execA E C (fg 13) B 144 E0 N ZLo s = some (.exit 2, s) := ZO (by rfl) s
theorem Z0ex : XC 13 144 Zem 56 ZJI ZLo := Zb (by rfl) _
def Zds := kR Zep
def Zlw := kL Zds
def ZaI := kB Zlw
def Zoo := kL ZaI
def Z0t := kO Zoo
def Zmn := opN Z0t 0
def ZxZ := opN Z0t 1
def Zwi := opN Z0t 2
def Zl9 := opN Z0t 3
def ZmT := opN Z0t 4
def Zwn := opN Z0t 5
def Zkg := opN Z0t 6
theorem Z0jQ : XG 13 144 Zoo Z0t [56, 57, 58, 59] := Z1 (by rfl) (by rfl) _
theorem ZMY : Z0t.toList = [Zmn, ZxZ, Zwi, Zl9, ZmT, Zwn, Zkg] := nf
theorem ZMw : stepA E C B 144 Z0t Zmn (φ, H) = some (fput φ 57 (fget φ 55), H) := nf
theorem ZYg : stepA E C B 144 Z0t ZxZ (φ, H) = stp (some 58) φ H (just (Z2 E.T 36 (fget φ 53) (fget φ 55))) := nf
theorem ZLP : stepA E C B 144 Z0t Zwi (φ, H) = stp (some 59) φ H (just (aLoad E.T 3 (fget φ 58))) := nf
theorem ZSE : stepA E C B 144 Z0t Zl9 (φ, H) = stp (some 17) φ H (opBox (B + 17) (zeroCells E.T 3)) := nf
theorem ZRh : stepA E C B 144 Z0t ZmT (φ, H) = stp (some 18) φ H (opBox (B + 18) (zeroCells E.T 3)) := nf
theorem ZMF : stepA E C B 144 Z0t Zwn (φ, H) = stp none φ H (opStore E.T 3 (fget φ 17) (fget φ 57)) := nf
theorem ZOR : stepA E C B 144 Z0t Zkg (φ, H) = stp none φ H (opStore E.T 3 (fget φ 18) (fget φ 59)) := nf
def Zmb := kR ZaI
def ZdK := kB Zmb
def Zt0 := kL ZdK
def Z3g := kO Zt0
def Zl5 := opN Z3g 0
def ZrF := opN Z3g 1
def Zxc := opN Z3g 2
theorem Z0gu : XG 13 144 Zt0 Z3g [61, 62] := Z1 (by rfl) (by rfl) _
theorem ZQN : Z3g.toList = [Zl5, ZrF, Zxc] := nf
theorem ZND : stepA E C B 144 Z3g Zl5 (φ, H) = some (fput φ 61 (fget φ 16), H) := nf
theorem ZS3 : stepA E C B 144 Z3g ZrF (φ, H) = stp (some 62) φ H (just (aBin E.T .neq 32 (fget φ 61) (.int .i64 0))) := nf
theorem ZVj : stepA E C B 144 Z3g Zxc (φ, H) = some (fput φ 60 (fget φ 62), H) := nf
def ZdE := kR ZdK
def ZIw := kT ZdE
theorem Z0cs : execA E C (fg 13) B 144 E0 N ZIw s = some (.normal, s) := Zh (by rfl) s
def ZeE := kE ZdE
def ZvV := kL ZeE
def Z1P := kO ZvV
def ZlM := opN Z1P 0
def Zk5 := opN Z1P 1
def ZsR := opN Z1P 2
def Zyz := opN Z1P 3
theorem Z0jW : XG 13 144 ZvV Z1P [60, 64, 65, 66] := Z1 (by rfl) (by rfl) _
theorem ZRC : Z1P.toList = [ZlM, Zk5, ZsR, Zyz] := nf
theorem ZOn : stepA E C B 144 Z1P ZlM (φ, H) = stp (some 64) φ H (just (aLoad E.T 3 (fget φ 18))) := nf
theorem ZXP : stepA E C B 144 Z1P Zk5 (φ, H) = some (fput φ 65 (fget φ 12), H) := nf
theorem ZY9 : stepA E C B 144 Z1P ZsR (φ, H) = stp (some 66) φ H (just (aBin E.T .eql 3 (fget φ 64) (fget φ 65))) := nf
theorem ZSp : stepA E C B 144 Z1P Zyz (φ, H) = some (fput φ 63 (fget φ 66), H) := nf
def ZeR := kR ZeE
def Zy9 := kT ZeR
def ZcH := kO Zy9
def ZoD := opN ZcH 0
theorem Z0jA : XG 13 144 Zy9 ZcH [17, 18, 63] := Z1 (by rfl) (by rfl) _
theorem ZZ6 : ZcH.toList = [ZoD] := nf
theorem ZYo : stepA E C B 144 ZcH ZoD (φ, H) = some (fput φ 16 (.int .i64 2), H) := nf
def ZaH := kE ZeR
def ZvE := kL ZaH
def Z0e := kO ZvE
def Zyr := opN Z0e 0
def ZuZ := opN Z0e 1
def ZmL := opN Z0e 2
def ZtD := opN Z0e 3
def Zt1 := opN Z0e 4
def Zvk := opN Z0e 5
theorem Z0f7 : XD 13 144 ZvE Z0e [63, 68, 69, 70, 71, 72] := Z1c (by rfl) (by rfl) _
theorem ZYB : Z0e.toList = [Zyr, ZuZ, ZmL, ZtD, Zt1, Zvk] := nf
theorem ZJ1 : statOk Z0e = true := by kernel_rfl
theorem ZIx : drawA E C B 144 Z0e s = if neat 144 s = true then drX Z0e (runT E C B 144 Z0e Z0e.toList 0 s) else none := Z0G ZJ1 s
theorem ZK1 (l : List (Nat × Tr)) : dynOk Z0e l = (!writing l || Zg [[], [], [0, 1], [], [0, 1, 2, 3], [0, 1, 2, 3, 4]] (Ze l)) := Z0r (by kernel_rfl) l
theorem ZNR : stepT E C B 144 Z0e Zyr (φ, H) = stpT (some 68) φ H (just (aLoad E.T 36 (fget φ 13))) := Z5 rfl (Z8 rfl rfl)
theorem ZPv : stepT E C B 144 Z0e ZuZ (φ, H) = stpT (some 69) φ H (just (aLoad E.T 3 (fget φ 17))) := Z5 rfl (Z8 rfl rfl)
theorem ZVL : stepT E C B 144 Z0e ZmL (φ, H) = stpT (some 70) φ H (just (aSlice E.T 36 (fget φ 68) none (some (fget φ 69)) none)) := Z5 rfl (Z8 rfl rfl)
theorem ZRy : stepT E C B 144 Z0e ZtD (φ, H) = stpT (some 71) φ H (just (aLoad E.T 3 (fget φ 18))) := Z5 rfl (Z8 rfl rfl)
theorem ZNx : stepT E C B 144 Z0e Zt1 (φ, H) = stpT (some 72) φ H (aCall C (fun j => B + j * 144 + 72) true 75 [(fget φ 70), (fget φ 71)]) := Z5 rfl (Z8 rfl rfl)
theorem ZVk : stepT E C B 144 Z0e Zvk (φ, H) = some ((fput φ 67 (fget φ 72), H), ⟨false, [], []⟩) := Z5 rfl (ZS rfl rfl)
def Zd7 := kR ZaH
def Zs6 := kT Zd7
def ZdU := kO Zs6
def ZrO := opN ZdU 0
theorem Z0fB : XG 13 144 Zs6 ZdU [17, 18, 67] := Z1 (by rfl) (by rfl) _
theorem ZON : ZdU.toList = [ZrO] := nf
theorem ZRq : stepA E C B 144 ZdU ZrO (φ, H) = some (fput φ 16 (.int .i64 6), H) := nf
def Zdd := kE Zd7
def ZxJ := kL Zdd
def Z1l := kO ZxJ
def ZvL := opN Z1l 0
def Zkv := opN Z1l 1
def Zon := opN Z1l 2
def ZpV := opN Z1l 3
def ZwH := opN Z1l 4
theorem Z0gT : XG 13 144 ZxJ Z1l [17, 18, 67, 74, 75, 76, 77] := Z1 (by rfl) (by rfl) _
theorem ZMM : Z1l.toList = [ZvL, Zkv, Zon, ZpV, ZwH] := nf
theorem ZV3 : stepA E C B 144 Z1l ZvL (φ, H) = stp (some 74) φ H (just (Z3 E.T 25 (fget φ 11) 1)) := nf
theorem ZVF : stepA E C B 144 Z1l Zkv (φ, H) = stp (some 75) φ H (just (aLoad E.T 23 (fget φ 74))) := nf
theorem ZO1 : stepA E C B 144 Z1l Zon (φ, H) = stp (some 76) φ H (.pure (.clo 76 [(fget φ 18), (fget φ 13), (fget φ 17)], [])) := nf
theorem ZQd : stepA E C B 144 Z1l ZpV (φ, H) = stp (some 77) φ H (aCall C (fun j => B + j * 144 + 77) true 42 [(fget φ 75), (fget φ 76)]) := nf
theorem ZQv : stepA E C B 144 Z1l ZwH (φ, H) = some (fput φ 73 (fget φ 77), H) := nf
def Zeh := kR Zdd
def Zpi := kT Zeh
def Ze3 := kO Zpi
def Zoy := opN Ze3 0
theorem Z0dr : XG 13 144 Zpi Ze3 [73] := Z1 (by rfl) (by rfl) _
theorem ZQL : Ze3.toList = [Zoy] := nf
theorem ZVz : stepA E C B 144 Ze3 Zoy (φ, H) = some (fput φ 16 (.int .i64 21), H) := nf
def ZLd := kE Zeh
theorem Z0g3 : execA E C (fg 13) B 144 E0 N ZLd s = some (.normal, s) := Zh (by rfl) s
theorem Z0hF : XC 13 144 Zeh 73 Zpi ZLd := Zb (by rfl) _
theorem Z0fU : XQ 13 144 Zdd ZxJ Zeh := Z0 (by rfl) _
theorem Z0g4 : XC 13 144 Zd7 67 Zs6 Zdd := Zb (by rfl) _
theorem Z0di : XQ 13 144 ZaH ZvE Zd7 := Z0 (by rfl) _
theorem Z0bC : XC 13 144 ZeR 63 Zy9 ZaH := Zb (by rfl) _
theorem Z0hh : XQ 13 144 ZeE ZvV ZeR := Z0 (by rfl) _
theorem Z0hB : XC 13 144 ZdE 60 ZIw ZeE := Zb (by rfl) _
theorem Z0hj : XQ 13 144 ZdK Zt0 ZdE := Z0 (by rfl) _
theorem Z0gY : execA E C (fg 13) B 144 E0 N Zmb s = blockX 4 (fun s => (forget s.1 [17, 18, 60, 73], s.2)) (execA E C (fg 13) B 144 E0 N ZdK s) := Za (by rfl) (by rfl) s
theorem Z0gJ : XQ 13 144 ZaI Zoo Zmb := Z0 (by rfl) _
theorem Z0f0 : execA E C (fg 13) B 144 E0 N Zlw s = blockX 3 (fun s => (forget s.1 [], s.2)) (execA E C (fg 13) B 144 E0 N ZaI s) := Za (by rfl) (by rfl) s
def ZkU := kR Zds
def Z54 := kO ZkU
def Zxw := opN Z54 0
def Zw4 := opN Z54 1
theorem Z0hw : XG 13 144 ZkU Z54 [78] := Z1 (by rfl) (by rfl) _
theorem ZLK : Z54.toList = [Zxw, Zw4] := nf
theorem ZNN : stepA E C B 144 Z54 Zxw (φ, H) = stp (some 78) φ H (just (aBin E.T .add 3 (fget φ 55) (.int .i64 1))) := nf
theorem ZOJ : stepA E C B 144 Z54 Zw4 (φ, H) = some (fput φ 55 (fget φ 78), H) := nf
theorem Z0iJ : XQ 13 144 Zds Zlw ZkU := Z0 (by rfl) _
theorem Z0iB : XQ 13 144 Zep Zem Zds := Z0 (by rfl) _
theorem Z0iw : XQ 13 144 Z2n Zro Zep := Z0 (by rfl) _
theorem Z70 : execA E C (fg 13) B 144 E0 N ZnL s = iterA (execA E C (fg 13) B 144 E0 N Z2n) (headA E0) N s := ZN (by rfl) s
theorem Z7a : execA E C (fg 13) B 144 E0 N Zw8 s = blockX 2 (fun s => (forget s.1 [53, 54, 55, 56], s.2)) (execA E C (fg 13) B 144 E0 N ZnL s) := Za (by rfl) (by rfl) s
theorem Z7y : XQ 13 144 ZbY Zx2 Zw8 := Z0 (by rfl) _
def Zd8 := kR ZdM
def Zco := kL Zd8
def Zno := kL Zco
def Z1k := kO Zno
def ZrP := opN Z1k 0
def ZqP := opN Z1k 1
def Zy2 := opN Z1k 2
def ZwI := opN Z1k 3
def Zl4 := opN Z1k 4
theorem Z71 : XG 13 144 Zno Z1k [13, 16, 79, 80, 81, 82] := Z1 (by rfl) (by rfl) _
theorem Z3P : Z1k.toList = [ZrP, ZqP, Zy2, ZwI, Zl4] := nf
theorem Z4e : stepA E C B 144 Z1k ZrP (φ, H) = stp (some 79) φ H (just (aLoad E.T 25 (fget φ 11))) := nf
theorem Z4h : stepA E C B 144 Z1k ZqP (φ, H) = stp (some 80) φ H (just (aLoad E.T 36 (fget φ 13))) := nf
theorem Z3X : stepA E C B 144 Z1k Zy2 (φ, H) = stp (some 81) φ H (aCall C (fun j => B + j * 144 + 81) true 50 [(fget φ 79), (fget φ 80)]) := nf
theorem Z4f : stepA E C B 144 Z1k ZwI (φ, H) = some (fput φ 82 (fget φ 16), H) := nf
theorem Z48 : stepA E C B 144 Z1k Zl4 (φ, H) = stp (some 83) φ H (just (aBin E.T .neq 32 (fget φ 81) (fget φ 82))) := nf
def ZcN := kR Zco
def Zc3 := kT ZcN
def Zrs := kL Zc3
def Zcu := kO Zrs
def ZmH := opN Zcu 0
theorem Z6D : XG 13 144 Zrs Zcu [3, 4, 11, 12, 83] := Z1 (by rfl) (by rfl) _
theorem Z3Z : Zcu.toList = [ZmH] := nf
theorem Z3R : stepA E C B 144 Zcu ZmH (φ, H) = some (fput φ 10 (.bool false), H) := nf
def ZHz := kR Zc3
theorem Z7w : execA E C (fg 13) B 144 E0 N ZHz s = some (.ret, s) := Zl (by rfl) s
theorem Z7u : XQ 13 144 Zc3 Zrs ZHz := Z0 (by rfl) _
def ZIv := kE ZcN
theorem Z6Y : execA E C (fg 13) B 144 E0 N ZIv s = some (.normal, s) := Zh (by rfl) s
theorem Z7z : XC 13 144 ZcN 83 Zc3 ZIv := Zb (by rfl) _
theorem Z6K : XQ 13 144 Zco Zno ZcN := Z0 (by rfl) _
def Z73 := kR Zd8
def Zr5 := kL Z73
def Z0M := kO Zr5
def Zqo := opN Z0M 0
def Zq7 := opN Z0M 1
def Zrh := opN Z0M 2
def ZlC := opN Z0M 3
def Zwo := opN Z0M 4
def ZsI := opN Z0M 5
theorem Z0df : XG 13 144 Zr5 Z0M [3, 83, 84, 85, 86, 87, 88] := Z1 (by rfl) (by rfl) _
theorem ZTg : Z0M.toList = [Zqo, Zq7, Zrh, ZlC, Zwo, ZsI] := nf
theorem ZRV : stepA E C B 144 Z0M Zqo (φ, H) = some (fput φ 84 (fget φ 3), H) := nf
theorem ZP8 : stepA E C B 144 Z0M Zq7 (φ, H) = stp (some 85) φ H (justO (aConv E.T 5 3 (fget φ 84))) := nf
theorem ZMf : stepA E C B 144 Z0M Zrh (φ, H) = some (fput φ 86 (fget φ 12), H) := nf
theorem ZQo : stepA E C B 144 Z0M ZlC (φ, H) = stp (some 87) φ H (just (aBin E.T .shl 3 (.int .i64 1) (fget φ 86))) := nf
theorem ZSf : stepA E C B 144 Z0M Zwo (φ, H) = stp (some 88) φ H (just (aBin E.T .rem 3 (fget φ 85) (fget φ 87))) := nf
theorem ZNl : stepA E C B 144 Z0M ZsI (φ, H) = some (fput φ 19 (fget φ 88), H) := nf
def ZeF := kR Z73
def Zwy := kL ZeF
def Z38 := kO Zwy
def Zym := opN Z38 0
def Zqb := opN Z38 1
def ZnC := opN Z38 2
theorem Z0ds : XG 13 144 Zwy Z38 [89, 90] := Z1 (by rfl) (by rfl) _
theorem ZNv : Z38.toList = [Zym, Zqb, ZnC] := nf
theorem ZYe : stepA E C B 144 Z38 Zym (φ, H) = some (fput φ 89 (fget φ 19), H) := nf
theorem ZYK : stepA E C B 144 Z38 Zqb (φ, H) = stp (some 90) φ H (aCall C (fun j => B + j * 144 + 90) true 41 [(fget φ 89)]) := nf
theorem ZYs : stepA E C B 144 Z38 ZnC (φ, H) = some (fput φ 20 (fget φ 90), H) := nf
def Zay := kR ZeF
def Zou := kL Zay
def Z1i := kO Zou
def ZmV := opN Z1i 0
def ZpD := opN Z1i 1
def ZmU := opN Z1i 2
def ZqI := opN Z1i 3
def ZmX := opN Z1i 4
theorem Z0bI : XG 13 144 Zou Z1i [4, 91, 92, 93, 94] := Z1 (by rfl) (by rfl) _
theorem ZNQ : Z1i.toList = [ZmV, ZpD, ZmU, ZqI, ZmX] := nf
theorem ZMG : stepA E C B 144 Z1i ZmV (φ, H) = some (fput φ 91 (fget φ 4), H) := nf
theorem ZVB : stepA E C B 144 Z1i ZpD (φ, H) = stp (some 92) φ H (justO (aConv E.T 5 3 (fget φ 91))) := nf
theorem ZLW : stepA E C B 144 Z1i ZmU (φ, H) = stp (some 93) φ H (just (aBin E.T .rem 3 (fget φ 92) (.int .i64 70))) := nf
theorem ZNg : stepA E C B 144 Z1i ZqI (φ, H) = stp (some 94) φ H (just (aBin E.T .sub 3 (fget φ 93) (.int .i64 3))) := nf
theorem ZNa : stepA E C B 144 Z1i ZmX (φ, H) = some (fput φ 21 (fget φ 94), H) := nf
def ZeI := kR Zay
def ZkZ := kL ZeI
def ZdR := kO ZkZ
def ZmJ := opN ZdR 0
theorem Z0bD : XG 13 144 ZkZ ZdR [] := Z1 (by rfl) (by rfl) _
theorem ZN1 : ZdR.toList = [ZmJ] := nf
theorem ZXx : stepA E C B 144 ZdR ZmJ (φ, H) = some (fput φ 16 (.int .i64 14), H) := nf
def ZeT := kR ZeI
def Zp5 := kL ZeT
def Zb9 := kB Zp5
def Znd := kL Zb9
def Z3k := kO Znd
def Ztg := opN Z3k 0
def ZmR := opN Z3k 1
def Zpm := opN Z3k 2
theorem Z0eI : XG 13 144 Znd Z3k [96, 97] := Z1 (by rfl) (by rfl) _
theorem ZVG : Z3k.toList = [Ztg, ZmR, Zpm] := nf
theorem ZO3 : stepA E C B 144 Z3k Ztg (φ, H) = some (fput φ 96 (fget φ 19), H) := nf
theorem ZZj : stepA E C B 144 Z3k ZmR (φ, H) = stp (some 97) φ H (just (aBin E.T .eql 3 (fget φ 96) (.int .i64 0))) := nf
theorem ZPe : stepA E C B 144 Z3k Zpm (φ, H) = some (fput φ 95 (fget φ 97), H) := nf
def ZbH := kR Zb9
def ZnI := kT ZbH
def Zdp := kO ZnI
def Zv7 := opN Zdp 0
theorem Z0cA : XG 13 144 ZnI Zdp [95] := Z1 (by rfl) (by rfl) _
theorem ZUO : Zdp.toList = [Zv7] := nf
theorem ZUq : stepA E C B 144 Zdp Zv7 (φ, H) = some (fput φ 16 (.int .i64 4), H) := nf
def ZaX := kE ZbH
def Zls := kL ZaX
def Z0Z := kO Zls
def ZpB := opN Z0Z 0
def Zyc := opN Z0Z 1
def Zpd := opN Z0Z 2
def Zus := opN Z0Z 3
def Zlb := opN Z0Z 4
def Zud := opN Z0Z 5
theorem Z0er : XG 13 144 Zls Z0Z [95, 99, 100, 101, 102, 103] := Z1 (by rfl) (by rfl) _
theorem ZLN : Z0Z.toList = [ZpB, Zyc, Zpd, Zus, Zlb, Zud] := nf
theorem ZPg : stepA E C B 144 Z0Z ZpB (φ, H) = stp (some 99) φ H (just (aLoad E.T 25 (fget φ 11))) := nf
theorem ZTc : stepA E C B 144 Z0Z Zyc (φ, H) = some (fput φ 100 (fget φ 19), H) := nf
theorem ZTO : stepA E C B 144 Z0Z Zpd (φ, H) = stp (some 101) φ H (aCall C (fun j => B + j * 144 + 101) true 73 [(fget φ 99), (fget φ 100)]) := nf
theorem ZUl : stepA E C B 144 Z0Z Zus (φ, H) = some (fput φ 102 (fget φ 21), H) := nf
theorem ZU9 : stepA E C B 144 Z0Z Zlb (φ, H) = stp (some 103) φ H (just (aBin E.T .geq 3 (fget φ 101) (fget φ 102))) := nf
theorem ZWT : stepA E C B 144 Z0Z Zud (φ, H) = some (fput φ 98 (fget φ 103), H) := nf
def Zbm := kR ZaX
def ZmS := kT Zbm
def Zbx := kO ZmS
def Zwa := opN Zbx 0
theorem Z0fe : XG 13 144 ZmS Zbx [98] := Z1 (by rfl) (by rfl) _
theorem ZSv : Zbx.toList = [Zwa] := nf
theorem ZMQ : stepA E C B 144 Zbx Zwa (φ, H) = some (fput φ 16 (.int .i64 0), H) := nf
def ZJe := kE Zbm
theorem Z0bA : execA E C (fg 13) B 144 E0 N ZJe s = some (.normal, s) := Zh (by rfl) s
theorem Z0d6 : XC 13 144 Zbm 98 ZmS ZJe := Zb (by rfl) _
theorem Z0cv : XQ 13 144 ZaX Zls Zbm := Z0 (by rfl) _
theorem Z0fQ : XC 13 144 ZbH 95 ZnI ZaX := Zb (by rfl) _
theorem Z0eK : XQ 13 144 Zb9 Znd ZbH := Z0 (by rfl) _
theorem Z0ib : execA E C (fg 13) B 144 E0 N Zp5 s = blockX 5 (fun s => (forget s.1 [98], s.2)) (execA E C (fg 13) B 144 E0 N Zb9 s) := Za (by rfl) (by rfl) s
def Z9i := kR ZeT
def Z9j := kL Z9i
def ZgC := kL Z9j
def Z0J := kO ZgC
def Zpz := opN Z0J 0
def Zwd := opN Z0J 1
def Zsk := opN Z0J 2
def Zw1 := opN Z0J 3
def Zpx := opN Z0J 4
def ZqX := opN Z0J 5
theorem Z0aj : XG 13 144 ZgC Z0J [16, 104, 105, 106, 107, 108] := Z1 (by rfl) (by rfl) _
theorem ZXM : Z0J.toList = [Zpz, Zwd, Zsk, Zw1, Zpx, ZqX] := nf
theorem ZMs : stepA E C B 144 Z0J Zpz (φ, H) = stp (some 104) φ H (just (aLoad E.T 25 (fget φ 11))) := nf
theorem ZP1 : stepA E C B 144 Z0J Zwd (φ, H) = some (fput φ 105 (fget φ 21), H) := nf
theorem ZPd : stepA E C B 144 Z0J Zsk (φ, H) = some (fput φ 106 (fget φ 20), H) := nf
theorem ZQa : stepA E C B 144 Z0J Zw1 (φ, H) = stp (some 107) φ H (aCall C (fun j => B + j * 144 + 107) true 32 [(fget φ 104), (fget φ 105), (fget φ 106)]) := nf
theorem ZNS : stepA E C B 144 Z0J Zpx (φ, H) = some (fput φ 108 (fget φ 16), H) := nf
theorem ZLC : stepA E C B 144 Z0J ZqX (φ, H) = stp (some 109) φ H (just (aBin E.T .neq 32 (fget φ 107) (fget φ 108))) := nf
def Z7H := kR Z9j
def Z7S := kT Z7H
def Zgf := kL Z7S
def ZcZ := kO Zgf
def Zm4 := opN ZcZ 0
theorem Z00N : XG 13 144 Zgf ZcZ [11, 12, 19, 20, 21, 109] := Z1 (by rfl) (by rfl) _
theorem ZXE : ZcZ.toList = [Zm4] := nf
theorem ZX7 : stepA E C B 144 ZcZ Zm4 (φ, H) = some (fput φ 10 (.bool false), H) := nf
def ZAu := kR Z7S
theorem Z08d : execA E C (fg 13) B 144 E0 N ZAu s = some (.ret, s) := Zl (by rfl) s
theorem Z02S : XQ 13 144 Z7S Zgf ZAu := Z0 (by rfl) _
def ZDz := kE Z7H
theorem Z02T : execA E C (fg 13) B 144 E0 N ZDz s = some (.normal, s) := Zh (by rfl) s
theorem Z04w : XC 13 144 Z7H 109 Z7S ZDz := Zb (by rfl) _
theorem Z0aV : XQ 13 144 Z9j ZgC Z7H := Z0 (by rfl) _
def Z8G := kR Z9i
def ZgJ := kL Z8G
def ZD := kO ZgJ
def Zlv := opN ZD 0
def ZuQ := opN ZD 1
def ZqC := opN ZD 2
def Zn8 := opN ZD 3
def Zyn := opN ZD 4
def ZuN := opN ZD 5
def Zsb := opN ZD 6
def Zp7 := opN ZD 7
def Zxu := opN ZD 8
def ZsU := opN ZD 9
theorem Z055 : XD 13 144 ZgJ ZD [12, 22, 109, 110, 111, 112, 113, 114, 115, 116, 117] := Z1c (by rfl) (by rfl) _
theorem ZPM : ZD.toList = [Zlv, ZuQ, ZqC, Zn8, Zyn, ZuN, Zsb, Zp7, Zxu, ZsU] := nf
theorem ZIu : statOk ZD = true := by kernel_rfl
theorem ZJa : drawA E C B 144 ZD s = if neat 144 s = true then drX ZD (runT E C B 144 ZD ZD.toList 0 s) else none := Z0G ZIu s
theorem ZKB (l : List (Nat × Tr)) : dynOk ZD l = (!writing l || Zg [[], [], [], [2], [], [4], [2, 3, 4, 5], [0, 1, 2, 3, 4, 5, 6], [0, 1, 2, 3, 4, 5, 6, 7], [0, 1, 2, 3, 4, 5, 6, 7, 8]] (Ze l)) := Z0r (by kernel_rfl) l
theorem ZS5 : stepT E C B 144 ZD Zlv (φ, H) = stpT (some 110) φ H (just (aLoad E.T 25 (fget φ 11))) := Z5 rfl (Z8 rfl rfl)
theorem ZTK : stepT E C B 144 ZD ZuQ (φ, H) = some ((fput φ 111 (fget φ 21), H), ⟨false, [], []⟩) := Z5 rfl (ZS rfl rfl)
theorem ZR2 : stepT E C B 144 ZD ZqC (φ, H) = some ((fput φ 112 (fget φ 20), H), ⟨false, [], []⟩) := Z5 rfl (ZS rfl rfl)
theorem ZOS : stepT E C B 144 ZD Zn8 (φ, H) = stpT (some 113) φ H (aCall C (fun j => B + j * 144 + 113) true 77 [(fget φ 112)]) := Z5 rfl (Z8 rfl rfl)
theorem ZSA : stepT E C B 144 ZD Zyn (φ, H) = some ((fput φ 114 (fget φ 12), H), ⟨false, [], []⟩) := Z5 rfl (ZS rfl rfl)
theorem ZMi : stepT E C B 144 ZD ZuN (φ, H) = stpT (some 115) φ H (Zd E.T (B + 115) 36 1 (evO E φ) [(0, Operand.tmp 114)]) := Z5 rfl (Z8 rfl rfl)
theorem ZU8 : stepT E C B 144 ZD Zsb (φ, H) = stpT (some 116) φ H (Z4 E.T (B + 116) .append #[36, 36] [(fget φ 113), (fget φ 115)]) := Z5 rfl (Z8 rfl rfl)
theorem ZSK : stepT E C B 144 ZD Zp7 (φ, H) = stpT (some 117) φ H (aCall C (fun j => B + j * 144 + 117) true 32 [(fget φ 110), (fget φ 111), (fget φ 116)]) := Z5 rfl (Z8 rfl rfl)
theorem ZVi : stepT E C B 144 ZD Zxu (φ, H) = some ((fput φ 22 (.int .i64 2), H), ⟨false, [], []⟩) := Z5 rfl (ZS rfl rfl)
theorem ZXW : stepT E C B 144 ZD ZsU (φ, H) = some ((fput φ 23 (fget φ 117), H), ⟨false, [], []⟩) := Z5 rfl (ZS rfl rfl)
def Z9R := kR Z8G
def Z7G := kL Z9R
def ZfK := kL Z7G
def Z4Z := kO ZfK
def Zpg := opN Z4Z 0
def Zv8 := opN Z4Z 1
theorem Z09G : XG 13 144 ZfK Z4Z [19, 118] := Z1 (by rfl) (by rfl) _
theorem ZWY : Z4Z.toList = [Zpg, Zv8] := nf
theorem ZNj : stepA E C B 144 Z4Z Zpg (φ, H) = some (fput φ 118 (fget φ 19), H) := nf
theorem ZRw : stepA E C B 144 Z4Z Zv8 (φ, H) = stp (some 119) φ H (just (aBin E.T .gtr 3 (fget φ 118) (.int .i64 0))) := nf
def Z9T := kR Z7G
def Z7O := kT Z9T
def ZgL := kL Z7O
def Zy := kO ZgL
def ZlF := opN Zy 0
def Zvx := opN Zy 1
def ZmE := opN Zy 2
def Zsq := opN Zy 3
def Zmj := opN Zy 4
def Zxp := opN Zy 5
def Znb := opN Zy 6
def ZxR := opN Zy 7
def Zys := opN Zy 8
def Zq1 := opN Zy 9
def Zia := opN Zy 10
theorem Z0bm : XD 13 144 ZgL Zy [11, 20, 21, 119, 120, 121, 122, 123, 124, 125, 126, 127, 128, 129] := Z1c (by rfl) (by rfl) _
theorem ZOA : Zy.toList = [ZlF, Zvx, ZmE, Zsq, Zmj, Zxp, Znb, ZxR, Zys, Zq1, Zia] := nf
theorem ZKq : statOk Zy = true := by kernel_rfl
theorem ZJo : drawA E C B 144 Zy s = if neat 144 s = true then drX Zy (runT E C B 144 Zy Zy.toList 0 s) else none := Z0G ZKq s
theorem ZLz (l : List (Nat × Tr)) : dynOk Zy l = (!writing l || Zg [[], [], [], [2], [], [4], [4, 5], [4, 5, 6], [2, 3, 4, 5, 6, 7], [0, 1, 2, 3, 4, 5, 6, 7, 8], [0, 1, 2, 3, 4, 5, 6, 7, 8, 9]] (Ze l)) := Z0r (by kernel_rfl) l
theorem ZOx : stepT E C B 144 Zy ZlF (φ, H) = stpT (some 120) φ H (just (aLoad E.T 25 (fget φ 11))) := Z5 rfl (Z8 rfl rfl)
theorem ZTb : stepT E C B 144 Zy Zvx (φ, H) = some ((fput φ 121 (fget φ 21), H), ⟨false, [], []⟩) := Z5 rfl (ZS rfl rfl)
theorem ZZ4 : stepT E C B 144 Zy ZmE (φ, H) = some ((fput φ 122 (fget φ 20), H), ⟨false, [], []⟩) := Z5 rfl (ZS rfl rfl)
theorem ZQZ : stepT E C B 144 Zy Zsq (φ, H) = stpT (some 123) φ H (aCall C (fun j => B + j * 144 + 123) true 77 [(fget φ 122)]) := Z5 rfl (Z8 rfl rfl)
theorem ZYb : stepT E C B 144 Zy Zmj (φ, H) = some ((fput φ 124 (fget φ 20), H), ⟨false, [], []⟩) := Z5 rfl (ZS rfl rfl)
theorem ZUI : stepT E C B 144 Zy Zxp (φ, H) = stpT (some 125) φ H (just (Z2 E.T 36 (fget φ 124) (.int .i64 0))) := Z5 rfl (Z8 rfl rfl)
theorem ZXg : stepT E C B 144 Zy Znb (φ, H) = stpT (some 126) φ H (just (aLoad E.T 3 (fget φ 125))) := Z5 rfl (Z8 rfl rfl)
theorem ZPT : stepT E C B 144 Zy ZxR (φ, H) = stpT (some 127) φ H (Zd E.T (B + 127) 36 1 (evO E φ) [(0, Operand.tmp 126)]) := Z5 rfl (Z8 rfl rfl)
theorem ZNk : stepT E C B 144 Zy Zys (φ, H) = stpT (some 128) φ H (Z4 E.T (B + 128) .append #[36, 36] [(fget φ 123), (fget φ 127)]) := Z5 rfl (Z8 rfl rfl)
theorem ZRz : stepT E C B 144 Zy Zq1 (φ, H) = stpT (some 129) φ H (aCall C (fun j => B + j * 144 + 129) true 32 [(fget φ 120), (fget φ 121), (fget φ 128)]) := Z5 rfl (Z8 rfl rfl)
theorem ZJP : stepT E C B 144 Zy Zia (φ, H) = some ((fput φ 22 (fget φ 129), H), ⟨false, [], []⟩) := Z5 rfl (ZS rfl rfl)
def Z8N := kR Z7O
def Zg7 := kL Z8N
def ZZ := kO Zg7
def ZtA := opN ZZ 0
def ZpI := opN ZZ 1
def Z6o := opN ZZ 2
def Zvh := opN ZZ 3
def Zmm := opN ZZ 4
def Zkx := opN ZZ 5
def Zak := opN ZZ 6
def ZnZ := opN ZZ 7
def ZvB := opN ZZ 8
def ZnS := opN ZZ 9
theorem Z0aM : XG 13 144 Zg7 ZZ [22, 23, 130, 131, 132, 133, 134, 135, 136, 137, 138] := Z1 (by rfl) (by rfl) _
theorem ZUz : ZZ.toList = [ZtA, ZpI, Z6o, Zvh, Zmm, Zkx, Zak, ZnZ, ZvB, ZnS] := nf
theorem ZN3 : stepA E C B 144 ZZ ZtA (φ, H) = some (fput φ 130 (fget φ 22), H) := nf
theorem ZRe : stepA E C B 144 ZZ ZpI (φ, H) = stp (some 131) φ H (just (aBin E.T .eql 32 (fget φ 130) (.int .i64 7))) := nf
theorem ZVT : stepA E C B 144 ZZ Z6o (φ, H) = some (fput φ 132 (fget φ 131), H) := nf
theorem ZSm : stepA E C B 144 ZZ Zvh (φ, H) = gd φ 132 true (fun φ => some (fput φ 133 (.tup []), H)) (fun φ => some (fput φ 133 (fget φ 23), H)) := s_gd (j := 2) (oj := Z6o) rfl rfl rfl (fun _ => rfl) (fun _ => rfl)
theorem ZUj : stepA E C B 144 ZZ Zmm (φ, H) = gd φ 132 true (fun φ => some (fput φ 134 (.tup []), H)) (fun φ => stp (some 134) φ H (just (aBin E.T .eql 32 (fget φ 133) (.int .i64 2)))) := s_gd (j := 2) (oj := Z6o) rfl rfl rfl (fun _ => rfl) (fun _ => rfl)
theorem ZWX : stepA E C B 144 ZZ Zkx (φ, H) = stp (some 135) φ H (opPick (fget φ 132) (fget φ 134) (.bool false)) := nf
theorem ZNq : stepA E C B 144 ZZ Zak (φ, H) = some (fput φ 136 (fget φ 135), H) := nf
theorem ZYA : stepA E C B 144 ZZ ZnZ (φ, H) = gd φ 136 true (fun φ => some (fput φ 137 (.tup []), H)) (fun φ => stp (some 137) φ H (aCall C (fun j => B + j * 144 + 137) true 17 [])) := s_gd (j := 6) (oj := Zak) rfl rfl rfl (fun _ => rfl) (fun _ => rfl)
theorem ZNb : stepA E C B 144 ZZ ZvB (φ, H) = stp (some 138) φ H (opPick (fget φ 136) (fget φ 137) (.bool false)) := nf
theorem ZP6 : stepA E C B 144 ZZ ZnS (φ, H) = some (fput φ 10 (fget φ 138), H) := nf
def Zz6 := kR Z8N
theorem Z08o : execA E C (fg 13) B 144 E0 N Zz6 s = some (.ret, s) := Zl (by rfl) s
theorem Z01f : XQ 13 144 Z8N Zg7 Zz6 := Z0 (by rfl) _
theorem Z01r : XQ 13 144 Z7O ZgL Z8N := Z0 (by rfl) _
def ZDu := kE Z9T
theorem Z073 : execA E C (fg 13) B 144 E0 N ZDu s = some (.normal, s) := Zh (by rfl) s
theorem Z06n : XC 13 144 Z9T 119 Z7O ZDu := Zb (by rfl) _
theorem Z025 : XQ 13 144 Z7G ZfK Z9T := Z0 (by rfl) _
def Z7Q := kR Z9R
def Zgq := kL Z7Q
def Z0X := kO Zgq
def Zx9 := opN Z0X 0
def Zw6 := opN Z0X 1
def Zah := opN Z0X 2
def Zpo := opN Z0X 3
def Zsw := opN Z0X 4
def Zt6 := opN Z0X 5
theorem Z09r : XG 13 144 Zgq Z0X [11, 20, 21, 23, 119, 139, 140, 141, 142, 143] := Z1 (by rfl) (by rfl) _
theorem ZUC : Z0X.toList = [Zx9, Zw6, Zah, Zpo, Zsw, Zt6] := nf
theorem ZN9 : stepA E C B 144 Z0X Zx9 (φ, H) = some (fput φ 139 (fget φ 23), H) := nf
theorem ZZh : stepA E C B 144 Z0X Zw6 (φ, H) = stp (some 140) φ H (just (aBin E.T .eql 32 (fget φ 139) (.int .i64 2))) := nf
theorem ZP5 : stepA E C B 144 Z0X Zah (φ, H) = some (fput φ 141 (fget φ 140), H) := nf
theorem ZYP : stepA E C B 144 Z0X Zpo (φ, H) = gd φ 141 true (fun φ => some (fput φ 142 (.tup []), H)) (fun φ => stp (some 142) φ H (aCall C (fun j => B + j * 144 + 142) true 17 [])) := s_gd (j := 2) (oj := Zah) rfl rfl rfl (fun _ => rfl) (fun _ => rfl)
theorem ZXr : stepA E C B 144 Z0X Zsw (φ, H) = stp (some 143) φ H (opPick (fget φ 141) (fget φ 142) (.bool false)) := nf
theorem ZUh : stepA E C B 144 Z0X Zt6 (φ, H) = some (fput φ 10 (fget φ 143), H) := nf
def ZAk := kR Z7Q
theorem Z0an : execA E C (fg 13) B 144 E0 N ZAk s = some (.ret, s) := Zl (by rfl) s
theorem Z08W : XQ 13 144 Z7Q Zgq ZAk := Z0 (by rfl) _
theorem Z019 : XQ 13 144 Z9R Z7G Z7Q := Z0 (by rfl) _
theorem Z02i : XQ 13 144 Z8G ZgJ Z9R := Z0 (by rfl) _
theorem Z0a4 : XQ 13 144 Z9i Z9j Z8G := Z0 (by rfl) _
theorem Z0eB : XQ 13 144 ZeT Zp5 Z9i := Z0 (by rfl) _
theorem Z0dK : XQ 13 144 ZeI ZkZ ZeT := Z0 (by rfl) _
theorem Z0hQ : XQ 13 144 Zay Zou ZeI := Z0 (by rfl) _
theorem Z0fA : XQ 13 144 ZeF Zwy Zay := Z0 (by rfl) _
theorem Z0gs : XQ 13 144 Z73 Zr5 ZeF := Z0 (by rfl) _
theorem Z6J : XQ 13 144 Zd8 Zco Z73 := Z0 (by rfl) _
theorem Z7s : XQ 13 144 ZdM ZbY Zd8 := Z0 (by rfl) _
theorem Z79 : XQ 13 144 ZdF ZcA ZdM := Z0 (by rfl) _
theorem Z6L : XQ 13 144 Ze5 Zk3 ZdF := Z0 (by rfl) _
theorem Z6H : XQ 13 144 Zer Zb2 Ze5 := Z0 (by rfl) _
theorem ZeX : XQ 13 144 ZjK ZjI Zer := Z0 (by rfl) _
theorem ZcW : XQ 13 144 ZiP ZGx ZjK := Z0 (by rfl) _
theorem ZaP : XQ 13 144 ZjQ ZGw ZiP := Z0 (by rfl) _
theorem Zcm : XQ 13 144 ZjN ZG3 ZjQ := Z0 (by rfl) _
theorem Zbg : XQ 13 144 ZaU ZFR ZjN := Z0 (by rfl) _
theorem Z0nE : fInfo E 13 = some ⟨144, #[.tmp 10], ZaU⟩ := nf
theorem b_13 (args : List AV) : bodyA E C fg N 13 args H B = bodyX E [.tmp 10] (execA E C (fg 13) B 144 H N ZaU (Z7 args 0 [], H)) := Zn Z0nE args H
abbrev F_13 := And.intro (And.intro (And.intro (And.intro (And.intro (And.intro (And.intro (And.intro @ZbA @Z63) (And.intro @Z5X (And.intro @Z52 @Z5P))) (And.intro (And.intro @ZdD @Z4W) (And.intro @Z5I (And.intro @Z5p @Z5m)))) (And.intro (And.intro (And.intro @Z5N @Zb3) (And.intro @Z5F (And.intro @Z57 @Z5e))) (And.intro (And.intro @Z66 @Z5j) (And.intro @ZcT (And.intro @Z51 @Z5J))))) (And.intro (And.intro (And.intro (And.intro @Z6M @Z5W) (And.intro @Z5n (And.intro @Z5z @Z62))) (And.intro (And.intro @Z5q @Z0dd) (And.intro @Z01O (And.intro @Z09I @Z0fc)))) (And.intro (And.intro (And.intro @Z0iO @Z0iK) (And.intro @Z0j6 (And.intro @Z00R @Z01A))) (And.intro (And.intro @Z05X (And.intro @Z05Z @Z0gQ)) (And.intro @Z077 (And.intro @ZZo @ZTY)))))) (And.intro (And.intro (And.intro (And.intro (And.intro @Z0b4 @Z08z) (And.intro @Z00O (And.intro @Z06d @Z032))) (And.intro (And.intro @Z0b0 @Z00Z) (And.intro @Z02u (And.intro @Z054 @Z0cY)))) (And.intro (And.intro (And.intro @Z0if @Z0jl) (And.intro @Z02y (And.intro @Z04G @Z07J))) (And.intro (And.intro @Z0jd @Z0gG) (And.intro @Z0cq (And.intro @Z7v @Z6F))))) (And.intro (And.intro (And.intro (And.intro @ZdO @Z6X) (And.intro @Z4Y (And.intro @Z61 @Z5b))) (And.intro (And.intro @Z77 @Z4u) (And.intro @Z42 (And.intro @Z4j @Z3T)))) (And.intro (And.intro (And.intro @Z6I @Z6E) (And.intro @Z7C (And.intro @Z6N @Z3N))) (And.intro (And.intro @Z4v (And.intro @Z7A @Z3W)) (And.intro @Z4s (And.intro @Z4c @Z3Y))))))) (And.intro (And.intro (And.intro (And.intro (And.intro (And.intro @Z3U @Z7p) (And.intro @Z4m (And.intro @Z4b @Z7e))) (And.intro (And.intro @Z7l @Z7d) (And.intro @Z7D (And.intro @Z4t @Z4g)))) (And.intro (And.intro (And.intro @Z46 @Z44) (And.intro @Z0iV (And.intro @ZU3 @ZVI))) (And.intro (And.intro @Z0gR @Z0im) (And.intro @Z0ex (And.intro @Z0jQ @ZMY))))) (And.intro (And.intro (And.intro (And.intro @ZMw @ZYg) (And.intro @ZLP (And.intro @ZSE @ZRh))) (And.intro (And.intro @ZMF @ZOR) (And.intro @Z0gu (And.intro @ZQN @ZND)))) (And.intro (And.intro (And.intro @ZS3 @ZVj) (And.intro @Z0cs (And.intro @Z0jW @ZRC))) (And.intro (And.intro @ZOn (And.intro @ZXP @ZY9)) (And.intro @ZSp (And.intro @Z0jA @ZZ6)))))) (And.intro (And.intro (And.intro (And.intro (And.intro @ZYo @Z0f7) (And.intro @ZYB (And.intro @ZIx @ZK1))) (And.intro (And.intro @ZNR @ZPv) (And.intro @ZVL (And.intro @ZRy @ZNx)))) (And.intro (And.intro (And.intro @ZVk @Z0fB) (And.intro @ZON (And.intro @ZRq @Z0gT))) (And.intro (And.intro @ZMM @ZV3) (And.intro @ZVF (And.intro @ZO1 @ZQd))))) (And.intro (And.intro (And.intro (And.intro @ZQv @Z0dr) (And.intro @ZQL (And.intro @ZVz @Z0g3))) (And.intro (And.intro @Z0hF @Z0fU) (And.intro @Z0g4 (And.intro @Z0di @Z0bC)))) (And.intro (And.intro (And.intro @Z0hh @Z0hB) (And.intro @Z0hj (And.intro @Z0gY @Z0gJ))) (And.intro (And.intro @Z0f0 (And.intro @Z0hw @ZLK)) (And.intro @ZNN (And.intro @ZOJ @Z0iJ)))))))) (And.intro (And.intro (And.intro (And.intro (And.intro (And.intro (And.intro @Z0iB @Z0iw) (And.intro @Z70 (And.intro @Z7a @Z7y))) (And.intro (And.intro @Z71 @Z3P) (And.intro @Z4e (And.intro @Z4h @Z3X)))) (And.intro (And.intro (And.intro @Z4f @Z48) (And.intro @Z6D (And.intro @Z3Z @Z3R))) (And.intro (And.intro @Z7w @Z7u) (And.intro @Z6Y (And.intro @Z7z @Z6K))))) (And.intro (And.intro (And.intro (And.intro @Z0df @ZTg) (And.intro @ZRV (And.intro @ZP8 @ZMf))) (And.intro (And.intro @ZQo @ZSf) (And.intro @ZNl (And.intro @Z0ds @ZNv)))) (And.intro (And.intro (And.intro @ZYe @ZYK) (And.intro @ZYs (And.intro @Z0bI @ZNQ))) (And.intro (And.intro @ZMG (And.intro @ZVB @ZLW)) (And.intro @ZNg (And.intro @ZNa @Z0bD)))))) (And.intro (And.intro (And.intro (And.intro (And.intro @ZN1 @ZXx) (And.intro @Z0eI (And.intro @ZVG @ZO3))) (And.intro (And.intro @ZZj @ZPe) (And.intro @Z0cA (And.intro @ZUO @ZUq)))) (And.intro (And.intro (And.intro @Z0er @ZLN) (And.intro @ZPg (And.intro @ZTc @ZTO))) (And.intro (And.intro @ZUl @ZU9) (And.intro @ZWT (And.intro @Z0fe @ZSv))))) (And.intro (And.intro (And.intro (And.intro @ZMQ @Z0bA) (And.intro @Z0d6 (And.intro @Z0cv @Z0fQ))) (And.intro (And.intro @Z0eK @Z0ib) (And.intro @Z0aj (And.intro @ZXM @ZMs)))) (And.intro (And.intro (And.intro @ZP1 @ZPd) (And.intro @ZQa (And.intro @ZNS @ZLC))) (And.intro (And.intro @Z00N (And.intro @ZXE @ZX7)) (And.intro @Z08d (And.intro @Z02S @Z02T))))))) (And.intro (And.intro (And.intro (And.intro (And.intro (And.intro @Z04w @Z0aV) (And.intro @Z055 (And.intro @ZPM @ZJa))) (And.intro (And.intro @ZKB @ZS5) (And.intro @ZTK (And.intro @ZR2 @ZOS)))) (And.intro (And.intro (And.intro @ZSA @ZMi) (And.intro @ZU8 (And.intro @ZSK @ZVi))) (And.intro (And.intro @ZXW @Z09G) (And.intro @ZWY (And.intro @ZNj @ZRw))))) (And.intro (And.intro (And.intro (And.intro @Z0bm @ZOA) (And.intro @ZJo (And.intro @ZLz @ZOx))) (And.intro (And.intro @ZTb @ZZ4) (And.intro @ZQZ (And.intro @ZYb @ZUI)))) (And.intro (And.intro (And.intro @ZXg @ZPT) (And.intro @ZNk (And.intro @ZRz @ZJP))) (And.intro (And.intro @Z0aM (And.intro @ZUz @ZN3)) (And.intro @ZRe (And.intro @ZVT @ZSm)))))) (And.intro (And.intro (And.intro (And.intro (And.intro @ZUj @ZWX) (And.intro @ZNq (And.intro @ZYA @ZNb))) (And.intro (And.intro @ZP6 @Z08o) (And.intro @Z01f (And.intro @Z01r @Z073)))) (And.intro (And.intro (And.intro @Z06n @Z025) (And.intro @Z09r (And.intro @ZUC @ZN9))) (And.intro (And.intro @ZZh @ZP5) (And.intro @ZYP (And.intro @ZXr @ZUh))))) (And.intro (And.intro (And.intro (And.intro @Z0an @Z08W) (And.intro @Z019 (And.intro @Z02i @Z0a4))) (And.intro (And.intro @Z0eB @Z0dK) (And.intro @Z0hQ (And.intro @Z0fA @Z0gs)))) (And.intro (And.intro (And.intro @Z6J @Z7s) (And.intro @Z79 (And.intro @Z6L @Z6H))) (And.intro (And.intro @ZeX (And.intro @ZcW @ZaP)) (And.intro @Zcm (And.intro @Zbg @b_13))))))))
def Zbq := kBody Proofs.Tryd.f76
def ZGS := kL Zbq
def Z9z := kO ZGS
def ZCn := opN Z9z 0
def ZE6 := opN Z9z 1
theorem Z0nb : XG 76 19 ZGS Z9z [0, 5] := Z1 (by rfl) (by rfl) _
theorem Z08a : Z9z.toList = [ZCn, ZE6] := nf
theorem Z08X : stepA E C B 19 Z9z ZCn (φ, H) = stp (some 4) φ H (opBox (B + 4) (acells (fget φ 0))) := nf
theorem Z0aa : stepA E C B 19 Z9z ZE6 (φ, H) = some (fput φ 5 (.bool false), H) := nf
def Zj1 := kR Zbq
def ZGR := kL Zj1
def Zz := kO ZGR
def ZEZ := opN Zz 0
def ZD5 := opN Zz 1
def ZC1 := opN Zz 2
def ZF0 := opN Zz 3
def Z1y := opN Zz 4
def ZAA := opN Zz 5
def ZBu := opN Zz 6
def ZEp := opN Zz 7
def ZB0 := opN Zz 8
def ZE4 := opN Zz 9
def ZtL := opN Zz 10
def ZoG := opN Zz 11
def Zuu := opN Zz 12
def Zp2 := opN Zz 13
theorem Z0m1 : XD 76 19 ZGR Zz [1, 2, 3, 4, 6, 7, 8, 9, 10, 11, 12, 13, 14, 15, 16, 17, 18] := Z1c (by rfl) (by rfl) _
theorem Z06T : Zz.toList = [ZEZ, ZD5, ZC1, ZF0, Z1y, ZAA, ZBu, ZEp, ZB0, ZE4, ZtL, ZoG, Zuu, Zp2] := nf
theorem ZOy : statOk Zz = true := by kernel_rfl
theorem ZUN : drawA E C B 19 Zz s = if neat 19 s = true then drX Zz (runT E C B 19 Zz Zz.toList 0 s) else none := Z0G ZOy s
theorem ZPX (l : List (Nat × Tr)) : dynOk Zz l = (!writing l || Zg [[], [0], [], [0, 1, 2], [0, 1, 2, 3], [0, 1, 2, 3, 4], [0, 1, 2, 3, 4], [0, 1, 2, 3, 4, 5, 6], [0, 1, 2, 3, 4], [0, 1, 2, 3, 4, 8], [0, 1, 2, 3, 4, 5, 6, 7, 8, 9], [0, 1, 2, 3, 4, 5, 6, 7, 8, 9, 10], [0, 1, 2, 3, 4, 5, 6, 7, 8, 9, 10, 11], [0, 1, 2, 3, 4, 5, 6, 7, 8, 9, 10, 11, 12]] (Ze l)) := Z0r (by kernel_rfl) l
theorem Z04p : stepT E C B 19 Zz ZEZ (φ, H) = stpT (some 6) φ H (just (Z2 E.T 64 (fget φ 4) (.int .i64 1))) := Z5 rfl (Z8 rfl rfl)
theorem Z04z : stepT E C B 19 Zz ZD5 (φ, H) = stpT (some 7) φ H (just (aLoad E.T 3 (fget φ 6))) := Z5 rfl (Z8 rfl rfl)
theorem Z09t : stepT E C B 19 Zz ZC1 (φ, H) = stpT (some 8) φ H (just (aLoad E.T 3 (fget φ 1))) := Z5 rfl (Z8 rfl rfl)
theorem Z09A : stepT E C B 19 Zz ZF0 (φ, H) = stpT (some 9) φ H (just (aBin E.T .eql 3 (fget φ 7) (fget φ 8))) := Z5 rfl (Z8 rfl rfl)
theorem Z02O : stepT E C B 19 Zz Z1y (φ, H) = some ((fput φ 10 (fget φ 9), H), ⟨false, [], []⟩) := Z5 rfl (ZS rfl rfl)
theorem Z05J : stepT E C B 19 Zz ZAA (φ, H) = gdT φ 10 true (fun φ => (some (fput φ 11 (.tup []), H)).map fun s => (s, ⟨false, [], []⟩)) (fun φ => stpT (some 11) φ H (just (aLoad E.T 36 (fget φ 2)))) := Z47 (j := 4) (oj := Z1y) rfl rfl rfl (fun _ => rfl) (fun _ => Z8 rfl rfl)
theorem Z07W : stepT E C B 19 Zz ZBu (φ, H) = gdT φ 10 true (fun φ => (some (fput φ 12 (.tup []), H)).map fun s => (s, ⟨false, [], []⟩)) (fun φ => stpT (some 12) φ H (just (aLoad E.T 3 (fget φ 3)))) := Z47 (j := 4) (oj := Z1y) rfl rfl rfl (fun _ => rfl) (fun _ => Z8 rfl rfl)
theorem Z06I : stepT E C B 19 Zz ZEp (φ, H) = gdT φ 10 true (fun φ => (some (fput φ 13 (.tup []), H)).map fun s => (s, ⟨false, [], []⟩)) (fun φ => stpT (some 13) φ H (just (aSlice E.T 36 (fget φ 11) none (some (fget φ 12)) none))) := Z47 (j := 4) (oj := Z1y) rfl rfl rfl (fun _ => rfl) (fun _ => Z8 rfl rfl)
theorem Z00l : stepT E C B 19 Zz ZB0 (φ, H) = gdT φ 10 true (fun φ => (some (fput φ 14 (.tup []), H)).map fun s => (s, ⟨false, [], []⟩)) (fun φ => stpT (some 14) φ H (just (Z2 E.T 64 (fget φ 4) (.int .i64 0)))) := Z47 (j := 4) (oj := Z1y) rfl rfl rfl (fun _ => rfl) (fun _ => Z8 rfl rfl)
theorem Z08i : stepT E C B 19 Zz ZE4 (φ, H) = gdT φ 10 true (fun φ => (some (fput φ 15 (.tup []), H)).map fun s => (s, ⟨false, [], []⟩)) (fun φ => stpT (some 15) φ H (just (aLoad E.T 3 (fget φ 14)))) := Z47 (j := 4) (oj := Z1y) rfl rfl rfl (fun _ => rfl) (fun _ => Z8 rfl rfl)
theorem ZWk : stepT E C B 19 Zz ZtL (φ, H) = gdT φ 10 true (fun φ => (some (fput φ 16 (.tup []), H)).map fun s => (s, ⟨false, [], []⟩)) (fun φ => stpT (some 16) φ H (aCall C (fun j => B + j * 19 + 16) true 75 [(fget φ 13), (fget φ 15)])) := Z47 (j := 4) (oj := Z1y) rfl rfl rfl (fun _ => rfl) (fun _ => Z8 rfl rfl)
theorem ZMW : stepT E C B 19 Zz ZoG (φ, H) = gdT φ 10 true (fun φ => (some (fput φ 17 (.tup []), H)).map fun s => (s, ⟨false, [], []⟩)) (fun φ => stpT (some 17) φ H (justO (aUn .not (fget φ 16)))) := Z47 (j := 4) (oj := Z1y) rfl rfl rfl (fun _ => rfl) (fun _ => Z8 rfl rfl)
theorem ZXJ : stepT E C B 19 Zz Zuu (φ, H) = stpT (some 18) φ H (opPick (fget φ 10) (fget φ 17) (.bool false)) := Z5 rfl (Z8 rfl rfl)
theorem ZMd : stepT E C B 19 Zz Zp2 (φ, H) = some ((fput φ 5 (fget φ 18), H), ⟨false, [], []⟩) := Z5 rfl (ZS rfl rfl)
def ZZL := kR Zj1
theorem Z0mY : execA E C (fg 76) B 19 E0 N ZZL s = some (.ret, s) := Zl (by rfl) s
theorem Z0nL : XQ 76 19 Zj1 ZGR ZZL := Z0 (by rfl) _
theorem Z0kt : XQ 76 19 Zbq ZGS Zj1 := Z0 (by rfl) _
theorem ZZF : fInfo E 76 = some ⟨19, #[.tmp 5], Zbq⟩ := nf
theorem b_76 (args : List AV) : bodyA E C fg N 76 args H B = bodyX E [.tmp 5] (execA E C (fg 76) B 19 H N Zbq (Z7 args 0 [], H)) := Zn ZZF args H
abbrev F_76 := And.intro (And.intro (And.intro (And.intro @Z0nb (And.intro @Z08a @Z08X)) (And.intro @Z0aa (And.intro @Z0m1 @Z06T))) (And.intro (And.intro @ZUN (And.intro @ZPX @Z04p)) (And.intro (And.intro @Z04z @Z09t) (And.intro @Z09A @Z02O)))) (And.intro (And.intro (And.intro @Z05J (And.intro @Z07W @Z06I)) (And.intro @Z00l (And.intro @Z08i @ZWk))) (And.intro (And.intro @ZMW (And.intro @ZXJ @ZMd)) (And.intro (And.intro @Z0mY @Z0nL) (And.intro @Z0kt @b_76))))
end Go.AM.YtgfnbmfjbjopkaaDoor
end
noncomputable section
namespace Go.AM.YtgfnbmfjbjopkaaDoor
open Go Go.AM Go.AM.Mule
structure IsO (B : List Nat) (n : Nat) (o : List Nat) : Prop where
 pm : o.Perm (List.range n)
 gd' : Mule.Good (bit B) o
theorem IsO.len {B : List Nat} {n : Nat} {o : List Nat} (h : IsO B n o) : o.length = n := by rw [h.pm.length_eq, List.length_range]
theorem IsO.lt {B : List Nat} {n : Nat} {o : List Nat} (h : IsO B n o) {i : Nat} (hi : i ∈ o) : i < n := List.mem_range.1 (h.pm.mem_iff.1 hi)
end Go.AM.YtgfnbmfjbjopkaaDoor
end
noncomputable section
namespace Go.AM.YtgfnbmfjbjopkaaDoor
open Go Go.AM Go.AM.Mule
structure DeC (C : Callee) : Prop where
 price : ∀ (site : Nat → Nat) seen l day, LdOk l → 0 ≤ day ∧ day ≤ 1000 → aBack site true seen (thaw C 44 [.agg (lc l), .int .i64 day] [] 0) = .pure (.int .i64 (ldC l day), [])
theorem deC (d : Nat) : DeC (callA E fg 1000 (d + 1)) := ⟨fun _ _ _ _ h h1 => ZHi h h1⟩
end Go.AM.YtgfnbmfjbjopkaaDoor
end
noncomputable section
namespace Go.AM.YtgfnbmfjbjopkaaDoor
open Go Go.AM Go.AM.Mule
theorem Zm6 {ls : List Ld} {es : List Pr} (h : chk ls es = 0) : ∀ p ∈ es, ∃ a b : Nat, p = ((a : Int), (b : Int)) ∧ a < ls.length ∧ b < ls.length := by
 intro p hp
 have hps := (Z4N h).2.2.2.2.1
 obtain ⟨i, hi, e⟩ := List.mem_iff_getElem.1 hp
 have := Z0A.1 hps i hi
 have hg : es.getD i default = p := by rw [← e]; simp [hi]
 rw [hg] at this
 obtain ⟨a, b, rfl, h1, h2, _⟩ := Ztc this
 exact ⟨a, b, rfl, h1, h2⟩
structure Ren (ls ls' : List Ld) (E E' : List (Nat × Nat)) (n : Nat) (to fr : Nat → Nat) : Prop where
 t : ∀ i, i < n → to i < n ∧ fr (to i) = i
 f : ∀ i, i < n → fr i < n ∧ to (fr i) = i
 r : ∀ p ∈ E, p.1 < n ∧ p.2 < n
 r' : ∀ p ∈ E', p.1 < n ∧ p.2 < n
 e : ∀ a b, a < n → b < n → ((to a, to b) ∈ E' ↔ (a, b) ∈ E)
 l : ∀ i, i < n → ls'.getD (to i) default = ls.getD i default
theorem Ren.symm {ls ls' : List Ld} {E E' : List (Nat × Nat)} {n : Nat} {to fr : Nat → Nat} (h : Ren ls ls' E E' n to fr) : Ren ls' ls E' E n fr to := by
 refine ⟨h.f, h.t, h.r', h.r, fun a b ha hb => ?_, fun i hi => ?_⟩
 · have := h.e (fr a) (fr b) (h.f a ha).1 (h.f b hb).1
   rw [(h.f a ha).2, (h.f b hb).2] at this
   exact this.symm
 · have := h.l (fr i) (h.f i hi).1
   rw [(h.f i hi).2] at this
   exact this.symm
theorem Ren.up {ls ls' : List Ld} {E E' : List (Nat × Nat)} {n : Nat} {to fr : Nat → Nat} (h : Ren ls ls' E E' n to fr) {a b : Nat} (hr : Mule.Reach E a b) : Mule.Reach E' (to a) (to b) := by
 induction hr with
 | single e => exact .single ((h.e _ _ (h.r _ e).1 (h.r _ e).2).2 e)
 | tail _ e ih => exact ih.tail ((h.e _ _ (h.r _ e).1 (h.r _ e).2).2 e)
noncomputable section
variable {ls ls' : List Ld} {E E' : List (Nat × Nat)} {B B' : List Nat} {n : Nat} {to fr : Nat → Nat}
end
noncomputable section
variable {ls ls' : List Ld} {B B' : List Nat} {n : Nat}
end
end Go.AM.YtgfnbmfjbjopkaaDoor
end
noncomputable section
namespace Go.AM.YtgfnbmfjbjopkaaDoor
open Go Go.AM Go.AM.Mule
abbrev toI (os : List Nat) : List Int := os.map (fun (i : Nat) => (i : Int))
theorem Zu4 {n : Nat} (hn : n ≤ 6) {os : List Nat} (hl : ∀ i ∈ os, i < n) : ∀ i, i ≤ os.length → lst (odR n (toI (os.take i))) = leftL n (os.take i)
 | 0, _ => by
   have e : odR n (toI (os.take 0)) = 2 ^ n - 1 := rfl
   rw [e, ZZB n hn]
   exact (List.filter_eq_self.2 (by simp)).symm
 | i + 1, h => by
   have hk : os[i]? = some os[i] := List.getElem?_eq_getElem (by omega)
   have ht : os.take (i + 1) = os.take i ++ [os[i]] := by rw [List.take_add_one, hk]; rfl
   have ih := Zu4 hn hl i (by omega)
   have h64 : odR n (toI (os.take i)) < 64 := Nat.lt_of_lt_of_le (Zff n _) (Nat.pow_le_pow_right (n := 2) (by omega) hn)
   have hx := hl _ (List.mem_of_getElem? hk)
   rw [ht, ZhA, ← ih]
   have e : odR n (toI (os.take i ++ [os[i]])) = odR n (toI (os.take i)) &&& (63 - 1 <<< os[i]) := by
     have : toI (os.take i ++ [os[i]]) = toI (os.take i) ++ [(os[i] : Int)] := List.map_append ..
     rw [this, Zsg]; rfl
   rw [e, Zig _ h64 _ (by omega)]
theorem ZZQ {ls : List Ld} {B : List Nat} {n : Nat} (h : TrOk ls B n) {i : Nat} (hi : i < n) (x : Int) : 0 ≤ cF ls i x := by
 have hy := h.ld _ (List.mem_of_getElem? (ZU (l := ls) (i := i) (by rw [h.l]; exact hi)))
 unfold cF ldC
 have := Int.mul_nonneg hy.rate.1 (show 0 ≤ max 0 (x - (ls.getD i default).due) by omega)
 have := hy.base
 omega
end Go.AM.YtgfnbmfjbjopkaaDoor
end
noncomputable section
namespace Go.AM.YtgfnbmfjbjopkaaDoor
open Go Go.AM Go.AM.Mule
abbrev byS (a b : AV) (set : Int) (ls : List Ld) (l : List Nat) (i : Nat) : St :=
 ([(18, .int .i64 i), (17, .int .i64 l.length), (16, .ref 16 0 l.length l.length l.length 1 false), (5, .int .i64 (days (hiF ls) (l.take i))), (2, .ptr 2 0 2), (1, .int .i64 set)], [(2, ⟨.box, [a, b]⟩), (16, ⟨.row, ins l⟩)])
theorem Z0le {C : Callee} {a b : AV} {set : Int} {ls : List Ld} {B : List Nat} {n : Nat} {ex : Bool} {l : List Nat} (h : TrOk ls B n) (ha : a = .imm (cls lc ls) n ex) (hb : b = .nilsl ∨ ∃ c m ex, b = .imm c m ex) (hl : ∀ i ∈ l, i < n) (h6 : l.length ≤ 6) (i : Nat) (hi : i < l.length) :
   ∃ s', (execA E C (fg 73) 0 90 [] 1000 Z9A) (byS a b set ls l i) = some (.normal, s') ∧ headA [] s' = byS a b set ls l (i + 1) := by
 subst ha
 have hk : l[i]? = some l[i] := List.getElem?_eq_getElem hi
 have hkn := hl _ (List.getElem_mem hi)
 obtain ⟨x, hx, hx2, hx3⟩ := ZGd h hkn
 have e : days (hiF ls) (l.take (i + 1)) = days (hiF ls) (l.take i) + x.hi := by
   rw [List.take_add_one, hk, Option.toList_some, ZhI, hx3]
 have b1 := Z7r h (l := l.take i) fun k hk => hl k (List.mem_of_mem_take hk)
 rw [List.length_take] at b1
 have hbb := hx2.hi
 have hf : (cls lc ls)[l[i] * 5 + 1]? = some (.int .i64 x.hi) := Ziv Zq hx (by omega)
 generalize l[i] = k at *
 have hlen : (cls lc ls).length = n * 5 := by rw [Z9 Zq, h.l]
 have g1 : (i : Int) < l.length := by omega
 have g2 : (k : Int) < n := by omega
 have w : wrp .i64 (days (hiF ls) (l.take i) + x.hi) = days (hiF ls) (l.take i) + x.hi := ZC (by omega)
 have hin := Zk l
 have hat := Z22 hk
 simp only [byS, e]
 simp (disch := omega) only [ZF, stp, just, Rd.bind, Rd.run, Rd.opt, upds, tsz, rdCells, fieldOf, Z3, aLoad, Z2, aNum, aBin, aInt, Nat.reduceAdd, Nat.reduceLT, Nat.reduceBEq, Nat.reduceEqDiff, Nat.reduceLeDiff, ↓reduceIte, ZT, F_73, g1, g2, hat, hf, hlen, hin, w, Zc (show i < 1000000 by omega)]
 rcases hb with rfl | ⟨_, _, _, rfl⟩ <;> exact ⟨_, rfl, rfl⟩
abbrev lrS (a b : AV) (_ : List Pr) (n : Nat) (l : List Nat) (set day out : Int) (i idx r seen : Nat) : St :=
 ([(43, .int .i64 r), (42, .int .i64 n), (34, .int .i64 i), (33, .int .i64 l.length), (32, .ref 32 0 l.length l.length l.length 1 false), (11, .int .i64 seen), (10, .int .i64 idx), (8, .int .i64 out), (5, .int .i64 day), (2, .ptr 2 0 2), (1, .int .i64 set)],
   [(2, ⟨.box, [a, b]⟩), (32, ⟨.row, ins l⟩)])
theorem Z0m0 {C : Callee} {a b : AV} {es : List Pr} {n : Nat} {l : List Nat} {set day out : Int} {i idx seen : Nat} (hb : SV bc es b) (ha : ∃ ex c m, a = .imm c m ex) (hok : ∀ q ∈ es, ∃ x y : Nat, q = ((x : Int), (y : Int)) ∧ x < 6 ∧ y < 6) (hs : seen < 64) (hm : es.length < 900) (hn : n ≤ 6) (r : Nat) (hr : r < n) :
   ∃ s', (execA E C (fg 73) 0 90 [] 1000 Z5u) (lrS a b es n l set day out i idx r seen) = some (.normal, s') ∧ headA [] s' = lrS a b es n l set day out i idx (r + 1) (rnd (es.map tN) seen) := by
 have hlo := fun k hk => Z0kn (C := C) (a := a) (b := b) (n := n) (l := l) (set := set) (day := day) (out := out) (i := i) (idx := idx) (r := r) hb ha hok hs hm k hk
 obtain ⟨exa, ca, ma, rfl⟩ := ha
 have hfin : (es.map tN).take es.length = es.map tN := List.take_of_length_le (by simp)
 have hloop := loopN (f := (execA E C (fg 73) 0 90 [] 1000 Z4X)) (fun k => lbS (.imm ca ma exa) b es n l set day out i idx r (((es.map tN).take k).foldl stp1 seen) k) es.length hlo (by rcases hb with ⟨_, rfl⟩ | ⟨ex, rfl⟩ <;> rfl) (by omega)
   (e := .exit 6) (se := ([(49, .bool false), (48, .int .i64 es.length), (47, .int .i64 es.length), (46, b), (43, .int .i64 r), (42, .int .i64 n), (34, .int .i64 i), (33, .int .i64 l.length), (32, .ref 32 0 l.length l.length l.length 1 false), (11, .int .i64 (rnd (es.map tN) seen : Nat)), (10, .int .i64 idx), (8, .int .i64 out), (5, .int .i64 day), (2, .ptr 2 0 2), (1, .int .i64 set)],
   [(2, ⟨.box, [.imm ca ma exa, b]⟩), (32, ⟨.row, ins l⟩)]))
   (by
     simp only [lbS, hfin]
     rw [show (es.map tN).foldl stp1 seen = rnd (es.map tN) seen from rfl]
     simp (disch := omega) only [ZF, stp, just, Rd.bind, Rd.run, Rd.opt, upds, aBin, aInt, Nat.reduceEqDiff, Nat.reduceLeDiff, ↓reduceIte, F_73]) (by simp)
 simp only [lbS, List.take_zero, List.foldl_nil, cl0] at hloop
 have g : (r : Int) < n := by omega
 have w := Zc (show r < 1000000 by omega)
 generalize rnd (es.map tN) seen = s2 at *
 simp only [lrS]
 rcases hb with ⟨rfl, rfl⟩ | ⟨ex, rfl⟩
 · simp only [List.length_nil, cl0] at hloop
   simp (disch := omega) only [ZF, stp, just, Rd.bind, Rd.run, Rd.opt, upds, rdCells, fieldOf, Z3, aLoad, aLen, Z4, aBin, aInt, Nat.reduceAdd, Nat.reduceBEq, Nat.reduceEqDiff, Nat.reduceLeDiff, ↓reduceIte, ZT, F_73, g, w, hloop]
   exact ⟨_, rfl, rfl⟩
 · have hcl : (cls bc es).length = es.length * 2 := Z9 Z00 es
   have tcb : List.take (es.length * 2) (cls bc es) = cls bc es := List.take_of_length_le (by omega)
   simp (disch := omega) only [ZF, stp, just, Rd.bind, Rd.run, Rd.opt, upds, rdCells, fieldOf, Z3, aLoad, aLen, Z4, aBin, aInt, Nat.reduceAdd, Nat.reduceBEq, Nat.reduceEqDiff, Nat.reduceLeDiff, ↓reduceIte, ZT, F_73, g, w, hloop]
   exact ⟨_, rfl, rfl⟩
theorem Z0ia {es : List Pr} (hok : ∀ q ∈ es, ∃ x y : Nat, q = ((x : Int), (y : Int)) ∧ x < 6 ∧ y < 6) {s : Nat} (hs : s < 64) : rnd (es.map tN) s < 64 := by
 refine ZgN (fun q hq => ?_) hs
 obtain ⟨p, hp, rfl⟩ := List.mem_map.1 hq
 obtain ⟨x, y, rfl, _, hy⟩ := hok p hp
 exact hy
theorem ZAw {es : List Pr} (hok : ∀ q ∈ es, ∃ x y : Nat, q = ((x : Int), (y : Int)) ∧ x < 6 ∧ y < 6) {s : Nat} (hs : s < 64) : ∀ k, rnds (es.map tN) s k < 64
 | 0 => hs
 | k + 1 => Z0ia hok (ZAw hok hs k)
def obS (ls : List Ld) (es : List Pr) (n s : Nat) (day out : Int) (i : Nat) : Int :=
 if rnds (es.map tN) (1 <<< i) n &&& s = 1 <<< i then (if out < 0 ∨ cF ls i day < out then cF ls i day else out) else out
def obI (ls : List Ld) (es : List Pr) (n s : Nat) (day : Int) (l : List Nat) : Int := l.foldl (obS ls es n s day) (-1)
abbrev loS (a b : AV) (ls : List Ld) (es : List Pr) (n : Nat) (l : List Nat) (s : Nat) (day : Int) (i : Nat) : St :=
 ([(34, .int .i64 i), (33, .int .i64 l.length), (32, .ref 32 0 l.length l.length l.length 1 false), (8, .int .i64 (obI ls es n s day (l.take i))), (5, .int .i64 day), (2, .ptr 2 0 2), (1, .int .i64 s)],
   [(2, ⟨.box, [a, b]⟩), (32, ⟨.row, ins l⟩)])
theorem Z0ki {C : Callee} (hC : DeC C) {a b : AV} {ls : List Ld} {B : List Nat} {es : List Pr} {n : Nat} {ex : Bool} {l : List Nat} {s : Nat} {day : Int} (h : TrOk ls B n) (ha : a = .imm (cls lc ls) n ex) (hb : SV bc es b) (hok : ∀ q ∈ es, ∃ x y : Nat, q = ((x : Int), (y : Int)) ∧ x < 6 ∧ y < 6) (hm : es.length < 900) (hl : ∀ i ∈ l, i < n) (h6 : l.length ≤ 6) (_ : s < 64) (hd : 0 ≤ day ∧ day ≤ 1000) (i : Nat) (hi : i < l.length) :
   ∃ s', (execA E C (fg 73) 0 90 [] 1000 Z5c) (loS a b ls es n l s day i) = some (.normal, s') ∧ headA [] s' = loS a b ls es n l s day (i + 1) := by
 have hk : l[i]? = some l[i] := List.getElem?_eq_getElem hi
 have hkn := hl _ (List.getElem_mem hi)
 have e : obI ls es n s day (l.take (i + 1)) = obS ls es n s day (obI ls es n s day (l.take i)) l[i] := by
   rw [List.take_add_one, hk, Option.toList_some, obI, List.foldl_append]; rfl
 generalize l[i] = k at *
 have hn6 := h.le
 have hne := h.ne
 have k64 := Z5C (show k < 6 by omega)
 have hrs := fun r => ZAw hok k64 r
 have hx := ZU (l := ls) (i := k) (by rw [h.l]; exact hkn)
 have hxo := h.ld _ (List.mem_of_getElem? hx)
 have hax := Z0T Zq hx
 have hpr := fun site seen => hC.price site seen _ day hxo hd
 have hlo := fun out r hr => Z0m0 (C := C) (a := a) (b := b) (es := es) (n := n) (l := l) (set := (s : Int)) (day := day) (out := out) (i := i) (idx := k) hb ⟨ex, _, _, ha⟩ hok (hrs r) hm hn6 r hr
 have hloop := fun out => loopN (f := (execA E C (fg 73) 0 90 [] 1000 Z5u)) (fun r => lrS a b es n l s day out i k r (rnds (es.map tN) (1 <<< k) r)) n (hlo out) (by subst ha; rcases hb with ⟨_, rfl⟩ | ⟨ex, rfl⟩ <;> rfl) (by omega)
   (e := .exit 4) (se := ([(44, .bool false), (43, .int .i64 n), (42, .int .i64 n), (34, .int .i64 i), (33, .int .i64 l.length), (32, .ref 32 0 l.length l.length l.length 1 false), (11, .int .i64 (rnds (es.map tN) (1 <<< k) n : Nat)), (10, .int .i64 k), (8, .int .i64 out), (5, .int .i64 day), (2, .ptr 2 0 2), (1, .int .i64 s)],
   [(2, ⟨.box, [a, b]⟩), (32, ⟨.row, ins l⟩)]))
   (by
     simp only [lrS]
     generalize rnds (es.map tN) (1 <<< k) n = s2 at *
     simp (disch := omega) only [ZF, stp, just, Rd.bind, Rd.run, Rd.opt, upds, aBin, aInt, Nat.reduceEqDiff, Nat.reduceLeDiff, ↓reduceIte, F_73]) (by simp)
 have hrn := hrs n
 simp only [lrS, rnds, cl0] at hloop
 have han := Z053 (t := s) hrn
 have hsl := shlI (i := k) (by omega)
 have g1 : (i : Int) < l.length := by omega
 have g2 : (k : Int) < n := by omega
 have hin := Zk l
 have hat := Z22 hk
 have hlen : (cls lc ls).length = n * 5 := by rw [Z9 Zq, h.l]
 have tcl : List.take (n * 5) (cls lc ls) = cls lc ls := List.take_of_length_le (by omega)
 have hnb : b = .nilsl ∨ ∃ c m ex, b = .imm c m ex := by rcases hb with ⟨_, rfl⟩ | ⟨ex, rfl⟩; exact .inl rfl; exact .inr ⟨_, _, _, rfl⟩
 simp only [loS, e]
 have eS : ∀ out, obS ls es n s day out k = if (((rnds (es.map tN) (1 <<< k) n &&& s : Nat) : Int) = ((1 <<< k : Nat) : Int)) then (if out < 0 ∨ ldC (ls.getD k default) day < out then ldC (ls.getD k default) day else out) else out := by
   intro out
   unfold obS cF
   generalize (if out < 0 ∨ ldC (ls.getD k default) day < out then ldC (ls.getD k default) day else out) = Z
   by_cases hc : rnds (es.map tN) (1 <<< k) n &&& s = 1 <<< k
   · rw [if_pos hc, if_pos (by rw [hc])]
   · rw [if_neg hc, if_neg (by omega)]
 rw [eS]
 subst ha
 simp only [lc] at hax hpr
 generalize rnds (es.map tN) (1 <<< k) n = s2 at *
 generalize s2 &&& s = s3 at *
 generalize hq : ldC (ls.getD k default) day = q at *
 generalize 1 <<< k = s1 at *
 generalize obI ls es n s day (l.take i) = out at *
 have hlp := hloop out
 have w := Zc (show i < 1000000 by omega)
 by_cases c1 : (s3 : Int) = (s1 : Int)
 · have c1' : ((s3 : Int) == (s1 : Int)) = true := by rw [beq_iff_eq]; exact c1
   rw [if_pos c1]
   by_cases c2 : out < 0
   · rw [if_pos (.inl c2)]
     simp (disch := omega) only [ZF, ↓gd, stp, opPick, just, Rd.bind, Rd.run, Rd.opt, upds, tsz, rdCells, fieldOf, Z3, aLoad, Z2, aNum, aLen, Z4, aBin, aInt, Nat.reduceAdd, Nat.reduceLT, Nat.reduceBEq, Nat.reduceEqDiff, Nat.reduceLeDiff, ↓reduceIte, reduceCtorEq, aCall, snaps, ZT, F_73, g1, g2, hat, hax, hlen, hin, hsl, hlp, hpr, han, c1, c2, w, if_pos]
     rcases hnb with rfl | ⟨_, _, _, rfl⟩ <;> exact ⟨_, rfl, rfl⟩
   · by_cases c3 : q < out
     · rw [if_pos (.inr c3)]
       simp (disch := omega) only [ZF, ↓gd, stp, opPick, just, Rd.bind, Rd.run, Rd.opt, upds, tsz, rdCells, fieldOf, Z3, aLoad, Z2, aNum, aLen, Z4, aBin, aInt, Nat.reduceAdd, Nat.reduceLT, Nat.reduceBEq, Nat.reduceEqDiff, Nat.reduceLeDiff, ↓reduceIte, aCall, snaps, ZT, F_73, g1, g2, hat, hax, hlen, hin, hsl, hlp, hpr, han, c1, c2, c3, w, if_pos]
       rcases hnb with rfl | ⟨_, _, _, rfl⟩ <;> exact ⟨_, rfl, rfl⟩
     · rw [if_neg (by omega)]
       simp (disch := omega) only [ZF, ↓gd, stp, opPick, just, Rd.bind, Rd.run, Rd.opt, upds, tsz, rdCells, fieldOf, Z3, aLoad, Z2, aNum, aLen, Z4, aBin, aInt, Nat.reduceAdd, Nat.reduceLT, Nat.reduceBEq, Nat.reduceEqDiff, Nat.reduceLeDiff, ↓reduceIte, aCall, snaps, ZT, F_73, g1, g2, hat, hax, hlen, hin, hsl, hlp, hpr, han, c1, c2, c3, w, if_pos]
       rcases hnb with rfl | ⟨_, _, _, rfl⟩ <;> exact ⟨_, rfl, rfl⟩
 · have c1' : ((s3 : Int) == (s1 : Int)) = false := by rw [beq_eq_false_iff_ne]; exact c1
   rw [if_neg c1]
   simp (disch := omega) only [ZF, ↓gd, stp, opPick, just, Rd.bind, Rd.run, Rd.opt, upds, tsz, rdCells, fieldOf, Z3, aLoad, Z2, aNum, aLen, Z4, aBin, aInt, Nat.reduceAdd, Nat.reduceLT, Nat.reduceBEq, Nat.reduceEqDiff, Nat.reduceLeDiff, ↓reduceIte, aCall, snaps, ZT, F_73, g1, g2, hat, hax, hlen, hin, hsl, hlp, hpr, han, c1', w, if_pos]
   rcases hnb with rfl | ⟨_, _, _, rfl⟩ <;> exact ⟨_, rfl, rfl⟩
end Go.AM.YtgfnbmfjbjopkaaDoor
end
noncomputable section
namespace Go.AM.YtgfnbmfjbjopkaaDoor
open Go Go.AM Go.AM.Mule
theorem loopS {f : St → XR} (st : Nat → St) (n : Nat) (s0 : St) (h : ∀ i, i < n → ∃ s', f (st i) = some (.normal, s') ∧ headA [] s' = st (i + 1)) (h0 : headA [] s0 = st 0) (hn : n < 1000) {e : Ex} {se : St} (he : f (st n) = some (e, se)) (hne : e ≠ .normal) : iterA f (headA []) 1000 s0 = some (e, se) :=
 Z19 st n 1000 0 s0 h0 hn (fun i _ hi => h i (by omega)) (by rw [Nat.zero_add]; exact he) hne
end Go.AM.YtgfnbmfjbjopkaaDoor
end
noncomputable section
namespace Go.AM.YtgfnbmfjbjopkaaDoor
open Go Go.AM Go.AM.Mule
theorem ZHn {C : Callee} {site : Nat → Nat} {seen : List Nat} {f : FuncId} {args : List AV} {id n g sz : Nat} {cells : List AV} {H' : AHeap} (h : C f args [] 0 = some (.agg [.ref id 0 n n g sz false, .nilsl], H')) (hg : hget H' id = some ⟨.row, cells⟩) (e1 : cells.length = g) :
   aBack site true seen (thaw C f args [] 0) = Z0g (site 0) seen (fun k0 => .agg [.ref k0 0 n n g sz false, .nilsl]) ⟨.row, cells⟩ := by
 subst e1
 simp only [thaw, h, frzRet, aBack, sitesB, aBackAt, imp, imps, hg, List.length_nil, List.not_mem_nil, not_false_eq_true, and_true, if_true, List.map_cons, List.map_nil, AM.apart, List.elem_nil, Bool.not_false, Bool.and_true, AV.leads, AV.leads.leadsL, Bool.or_false, Z0g]
theorem ZHe {C : Callee} {site : Nat → Nat} {seen : List Nat} {f : FuncId} {args : List AV} {id id' n n' g g' sz sz' : Nat} {cells cells' : List AV} {H' : AHeap} (h : C f args [] 0 = some (.agg [.ref id 0 n n g sz false, .ref id' 0 n' n' g' sz' false], H')) (hg : hget H' id = some ⟨.row, cells⟩) (hg' : hget H' id' = some ⟨.row, cells'⟩) (hne : id' ≠ id) (hs : site 1 ≠ site 0) (e1 : cells.length = g) (e2 : cells'.length = g') :
   aBack site true seen (thaw C f args [] 0) = Z2V (site 0) (site 1) seen (fun k0 k1 => .agg [.ref k0 0 n n g sz false, .ref k1 0 n' n' g' sz' false]) ⟨.row, cells⟩ ⟨.row, cells'⟩ := by
 subst e1; subst e2
 have hb : ∀ off, (site 1 + off == site 0 + off) = false := fun off => by rw [beq_eq_false_iff_ne]; omega
 simp only [thaw, h, frzRet, aBack, sitesB, aBackAt, imp, imps, hg, hg', hne, hb, List.length_nil, List.length_cons, List.not_mem_nil, List.mem_cons, or_false, not_false_eq_true, and_true, if_true, List.map_cons, List.map_nil, AM.apart, List.elem_cons, List.elem_nil, Bool.not_false, Bool.and_true, AV.leads, AV.leads.leadsL, Bool.or_false, Bool.true_or, Nat.zero_add, Z2V]
theorem ZGY {d : Nat} {site : Nat → Nat} {seen : List Nat} {D : Dro} (h : DOk D) {many : Int} (hm : many = 5 ∨ many = 6) (he : mdP D (nOf D many) = []) :
   aBack site true seen (thaw (callA E fg 1000 (d + 2)) 40 [.agg (dcs D), .int .i64 many] [] 0) = Z0g (site 0) seen (fun k => .agg [.ref k 0 (nOf D many) (nOf D many) (nOf D many * 5) 5 false, .nilsl]) ⟨.row, cls lc (mdL D (nOf D many))⟩ := by
 obtain ⟨g, H', hg, hr, h1, h2⟩ := Zn3 (d := d) h hm
 have hn6 : nOf D many ≤ 6 := by have := ZiW h hm; rcases hm with rfl | rfl <;> omega
 rw [he] at hr
 exact ZHn hr h1 (by rw [Z9 Zq, Z2C h hn6])
theorem ZHf {d : Nat} {site : Nat → Nat} {seen : List Nat} {D : Dro} (h : DOk D) {many : Int} (hm : many = 5 ∨ many = 6) (he : mdP D (nOf D many) ≠ []) (hs : site 1 ≠ site 0) :
   aBack site true seen (thaw (callA E fg 1000 (d + 2)) 40 [.agg (dcs D), .int .i64 many] [] 0) = Z2V (site 0) (site 1) seen (fun k0 k1 => .agg [.ref k0 0 (nOf D many) (nOf D many) (nOf D many * 5) 5 false, .ref k1 0 (mdP D (nOf D many)).length (mdP D (nOf D many)).length ((mdP D (nOf D many)).length * 2) 2 false]) ⟨.row, cls lc (mdL D (nOf D many))⟩ ⟨.row, cls bc (mdP D (nOf D many))⟩ := by
 obtain ⟨g, H', hg, hr, h1, h2⟩ := Zn3 (d := d) h hm
 have hn6 : nOf D many ≤ 6 := by have := ZiW h hm; rcases hm with rfl | rfl <;> omega
 have h0 : (mdP D (nOf D many)).length ≠ 0 := by rw [Ne, List.length_eq_zero_iff]; exact he
 have hb : bV g (mdP D (nOf D many)).length = .ref g 0 (mdP D (nOf D many)).length (mdP D (nOf D many)).length ((mdP D (nOf D many)).length * 2) 2 false := if_neg h0
 rw [hb] at hr
 exact ZHe hr h1 (h2 h0) (by rcases hg with rfl | rfl <;> omega) hs (by rw [Z9 Zq, Z2C h hn6]) (Z9 Z00 _)
end Go.AM.YtgfnbmfjbjopkaaDoor
end
noncomputable section
namespace Go.AM
theorem Z1U {k : Nat} {c : List AV} {T : AHeap} (hc : refsL c = []) {φ : AFr} {T' : AHeap} (hT : hget T' k = none) (h : headA [] (φ, (k, ⟨.box, []⟩) :: T) = (φ, T')) : headA [] (φ, (k, ⟨.box, c⟩) :: T) = (φ, T') := by
 simp only [headA, Z2t hc] at h ⊢
 generalize mark ((k, ⟨.box, []⟩) :: T) 1000 (refsF φ) [] = keep at *
 simp only [keepB] at h ⊢
 have hno : ∀ S, (k, ⟨.box, []⟩) :: S ≠ T' := by
   intro S e
   rw [← e, Z2o, if_pos rfl] at hT
   exact absurd hT (by simp)
 cases hcnd : (keep.elem k || (hget [] k).isSome) with
 | true =>
   rw [hcnd] at h
   simp only [cond_true, gcIf] at h
   cases hcl : closedB φ ((k, ⟨.box, []⟩) :: keepB [] keep T) with
   | true =>
     rw [hcl] at h
     simp only [Prod.mk.injEq, true_and] at h
     exact absurd h (hno _)
   | false =>
     rw [hcl] at h
     simp only [Prod.mk.injEq, true_and] at h
     exact absurd h (hno _)
 | false =>
   rw [hcnd] at h
   simp only [cond_false, gcIf] at h ⊢
   cases hcl : closedB φ (keepB [] keep T) with
   | true =>
     rw [hcl] at h
     exact h
   | false =>
     rw [hcl] at h
     simp only [Prod.mk.injEq, true_and] at h
     exact absurd h (hno _)
end Go.AM
namespace Go.AM.YtgfnbmfjbjopkaaDoor
open Go Go.AM Go.AM.Mule
end Go.AM.YtgfnbmfjbjopkaaDoor
end
noncomputable section
namespace Go.AM.YtgfnbmfjbjopkaaDoor
open Go Go.AM Go.AM.Mule
theorem ZGh {d : Nat} {ls : List Ld} {B : List Nat} {es : List Pr} {n s : Nat} {ex : Bool} {b : AV} (h : TrOk ls B n) (hb : SV bc es b) (hok : ∀ q ∈ es, ∃ x y : Nat, q = ((x : Int), (y : Int)) ∧ x < 6 ∧ y < 6) (hm : es.length < 900) (hs : s < 2 ^ n) (h0 : s ≠ 0) :
   rsOf (bodyA E (callA E fg 1000 (d + 1)) fg 1000 73 [.agg [.imm (cls lc ls) n ex, b], .int .i64 (s : Int)] [] 0) = some (.int .i64 (obI ls es n s (daysS ls s) (lst s))) := by
 have h64 : s < 64 := Nat.lt_of_lt_of_le hs (Nat.pow_le_pow_right (n := 2) (by omega) h.le)
 have hl : ∀ i ∈ lst s, i < n := Z1C h.le hs
 have h6 : (lst s).length ≤ 6 := Z1G s
 have hdb := ZEW h hs
 have hmem := fun (site : Nat → Nat) seen => ZAi (d := d) (site := site) (seen := seen) h64 h0
 have hnb : b = .nilsl ∨ ∃ c m ex, b = .imm c m ex := by rcases hb with ⟨_, rfl⟩ | ⟨ex, rfl⟩; exact .inl rfl; exact .inr ⟨_, _, _, rfl⟩
 have g1 := fun i hi => Z0le (C := callA E fg 1000 (d + 1)) (a := .imm (cls lc ls) n ex) (b := b) (set := (s : Int)) h rfl hnb hl h6 i hi
 have g2 := fun i hi => Z0ki (deC d) (a := .imm (cls lc ls) n ex) (b := b) (s := s) (day := daysS ls s) (l := lst s) h rfl hb hok hm hl h6 h64 (by omega) i hi
 have hil := Zk (lst s)
 have ht : List.take (lst s).length (lst s) = lst s := List.take_length
 have e5 : days (hiF ls) (lst s) = daysS ls s := rfl
 generalize callA E fg 1000 (d + 1) = C at *
 have l1 := loopN (f := (execA E C (fg 73) 0 90 [] 1000 Z9A)) (byS (.imm (cls lc ls) n ex) b s ls (lst s)) (lst s).length g1 (by rcases hnb with rfl | ⟨_, _, _, rfl⟩ <;> rfl) (by omega)
   (e := .exit 0) (se := ([(19, .bool false), (18, .int .i64 (lst s).length), (17, .int .i64 (lst s).length), (16, .ref 16 0 (lst s).length (lst s).length (lst s).length 1 false), (5, .int .i64 (daysS ls s)), (2, .ptr 2 0 2), (1, .int .i64 s)], [(2, ⟨.box, [.imm (cls lc ls) n ex, b]⟩), (16, ⟨.row, ins (lst s)⟩)]))
   (by
     simp only [byS, ht, e5]
     simp (disch := omega) only [ZF, stp, just, Rd.bind, Rd.run, Rd.opt, upds, aBin, aInt, Nat.reduceEqDiff, Nat.reduceLeDiff, ↓reduceIte, F_73]) (by simp)
 have l2 := loopS (f := (execA E C (fg 73) 0 90 [] 1000 Z5c)) (loS (.imm (cls lc ls) n ex) b ls es n (lst s) s (daysS ls s)) (lst s).length
   ([(34, .int .i64 0), (33, .int .i64 (lst s).length), (32, .ref 32 0 (lst s).length (lst s).length (lst s).length 1 false), (8, .int .i64 (-1)), (5, .int .i64 (daysS ls s)), (2, .ptr 2 0 2), (1, .int .i64 s)], [(2, ⟨.box, [.imm (cls lc ls) n ex, b]⟩), (16, ⟨.row, ins (lst s)⟩), (32, ⟨.row, ins (lst s)⟩)])
   g2 (by rcases hnb with rfl | ⟨_, _, _, rfl⟩ <;> rfl) (by omega)
   (e := .exit 2) (se := ([(35, .bool false), (34, .int .i64 (lst s).length), (33, .int .i64 (lst s).length), (32, .ref 32 0 (lst s).length (lst s).length (lst s).length 1 false), (8, .int .i64 (obI ls es n s (daysS ls s) (lst s))), (5, .int .i64 (daysS ls s)), (2, .ptr 2 0 2), (1, .int .i64 s)], [(2, ⟨.box, [.imm (cls lc ls) n ex, b]⟩), (32, ⟨.row, ins (lst s)⟩)]))
   (by
     simp only [loS, ht]
     generalize obI ls es n s (daysS ls s) (lst s) = z
     simp (disch := omega) only [ZF, stp, just, Rd.bind, Rd.run, Rd.opt, upds, aBin, aInt, Nat.reduceEqDiff, Nat.reduceLeDiff, ↓reduceIte, F_73]) (by simp)
 simp only [byS, List.take_zero, days, cl0] at l1
 generalize obI ls es n s (daysS ls s) (lst s) = z at *
 generalize daysS ls s = day at *
 simp (disch := omega) only [ZF, Z7, stp, opBox, just, Rd.bind, Rd.run, upds, acells, resA, resL, fresh, aLen, Z4, Nat.reduceAdd, Nat.reduceBEq, Nat.reduceEqDiff, Nat.reduceLeDiff, Int.reduceNeg, ↓reduceIte, reduceCtorEq, aCall, snaps, ZT, F_73, hmem, l1, l2, hil]
theorem Z6m {α β : Type} (p : α → Bool) (g : β → α → β) : ∀ (l : List α) (o : β), l.foldl (fun o i => if p i = true then g o i else o) o = (l.filter p).foldl g o
 | [], _ => rfl
 | a :: l, o => by
   rw [List.foldl_cons, List.filter_cons]
   cases h : p a with
   | true => rw [if_pos rfl, if_pos rfl, List.foldl_cons]; exact Z6m p g l _
   | false => rw [if_neg (by simp), if_neg (by simp)]; exact Z6m p g l _
theorem Z6P {α β : Type} {f g : β → α → β} : ∀ (l : List α) (o : β), (∀ i ∈ l, ∀ o, f o i = g o i) → l.foldl f o = l.foldl g o
 | [], _, _ => rfl
 | a :: l, o, h => by
   rw [List.foldl_cons, List.foldl_cons, h a (by simp)]
   exact Z6P l _ fun i hi => h i (by simp [hi])
theorem Zac (c : Nat → Int) : ∀ (l : List Nat) (o : Int), 0 ≤ o → (∀ i ∈ l, 0 ≤ c i) → l.foldl (fun out i => if out < 0 ∨ c i < out then c i else out) o = mnI o (l.map c)
 | [], _, _, _ => rfl
 | i :: l, o, h, hc => by
   have h0 := hc i (by simp)
   have e : mnI o ((i :: l).map c) = mnI (if c i < o then c i else o) (l.map c) := rfl
   rw [List.foldl_cons, e]
   by_cases h1 : c i < o
   · rw [if_pos (.inr h1), if_pos h1]; exact Zac c l _ h0 fun j hj => hc j (by simp [hj])
   · rw [if_neg (by omega), if_neg h1]; exact Zac c l _ h fun j hj => hc j (by simp [hj])
theorem Z0d5 {ls : List Ld} {B : List Nat} {es : List Pr} {n s : Nat} (h : TrOk ls B n) (ord : Ord (bit B)) (hr : ∀ a b, bit B a b = true ↔ Mule.Reach (es.map tN) a b) (hE : ∀ p ∈ es.map tN, p.1 < n ∧ p.2 < n) (hs : s < 2 ^ n) (h0 : s ≠ 0) :
   obI ls es n s (daysS ls s) (lst s) = bndS ls B s := by
 have h64 : s < 64 := Nat.lt_of_lt_of_le hs (Nat.pow_le_pow_right (n := 2) (by omega) h.le)
 have hl : ∀ i ∈ lst s, i < n := Z1C h.le hs
 unfold obI
 rw [Z6P (g := fun o i => if ((lst s).all fun k => !bit B i k) = true then (if o < 0 ∨ cF ls i (daysS ls s) < o then cF ls i (daysS ls s) else o) else o) (lst s) (-1) (fun i hi o => by
   unfold obS
   have hir : ¬ Mule.Reach (es.map tN) i i := fun hc => by
     have := (hr i i).2 hc
     rw [ord.irr] at this
     exact absurd this (by simp)
   have := ZK5 hE (hl i hi) h.le h64 hi hir
   have e : ((lst s).all fun k => !bit B i k) = true ↔ ∀ k ∈ lst s, ¬ Mule.Reach (es.map tN) i k := by
     rw [List.all_eq_true]
     refine forall_congr' fun k => imp_congr_right fun _ => ?_
     rw [← hr]
     cases bit B i k <;> simp
   by_cases hc : ∀ k ∈ lst s, ¬ Mule.Reach (es.map tN) i k
   · rw [if_pos (this.2 hc), if_pos (e.2 hc)]
   · rw [if_neg (fun a => hc (this.1 a)), if_neg (fun a => hc (e.1 a))])]
 rw [Z6m (fun i => (lst s).all fun k => !bit B i k) (fun o i => if o < 0 ∨ cF ls i (daysS ls s) < o then cF ls i (daysS ls s) else o)]
 have eL : (lst s).filter (fun i => (lst s).all fun k => !bit B i k) = lsL B s := rfl
 rw [eL]
 have hne : lsL B s ≠ [] := by
   have : lst s ≠ [] := fun e => h0 ((Z9F s h64).1 e)
   obtain ⟨i, hi⟩ := Zpr ord this
   exact List.ne_nil_of_mem hi
 have hlt : ∀ i ∈ lsL B s, i < n := fun i hi => hl i (Z7g.1 hi).1
 unfold bndS bdL
 generalize lsL B s = L at *
 cases L with
 | nil => exact absurd rfl hne
 | cons i L =>
   rw [List.foldl_cons, if_pos (.inl (by omega))]
   have h1 := ZZQ h (hlt i (by simp)) (daysS ls s)
   exact Zac (fun i => cF ls i (daysS ls s)) L _ h1 fun j hj => ZZQ h (hlt j (by simp [hj])) _
theorem ZyO {d : Nat} {ls : List Ld} {es : List Pr} {n s : Nat} {ex : Bool} {b : AV} (hn : ls.length = n) (hk : chk ls es = 0) (hb : SV bc es b) (hs : s < 2 ^ n) (h0 : s ≠ 0) {site : Nat → Nat} {seen : List Nat} :
   aBack site true seen (thaw (callA E fg 1000 (d + 2)) 73 [.agg [.imm (cls lc ls) n ex, b], .int .i64 (s : Int)] [] 0) = .pure (.int .i64 (bndS ls (sets n es) s), []) := by
 obtain ⟨tr, ord, hr, hE⟩ := Z36 hk
 rw [hn] at tr ord hr hE
 have h15 := (Z4N hk).2.2.1
 rw [← Z0d5 tr ord hr hE hs h0]
 exact ZE (ZV (ZGh tr hb (fun q hq => by
   obtain ⟨x, y, e, hx, hy⟩ := Zm6 hk q hq
   have := tr.le
   exact ⟨x, y, e, by omega, by omega⟩) (by omega) hs h0))
end Go.AM.YtgfnbmfjbjopkaaDoor
end
end
