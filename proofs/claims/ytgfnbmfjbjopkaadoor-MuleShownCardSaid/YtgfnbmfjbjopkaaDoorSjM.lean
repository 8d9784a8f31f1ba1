/- A part of the proof of muleShown_card: ShN. Own work of this project; texts printed by own programs among it. -/
import Derived.Test.YtgfnbmfjbjopkaaDoorCards
import Derived.Test.YtgfnbmfjbjopkaaDoorTie
import Derived.SevenTiedAt
import Derived.Test.YtgfnbmfjbjopkaaDoorSjL
set_option maxRecDepth 1000000
set_option maxHeartbeats 16000000
noncomputable section
noncomputable section
namespace Go.AM.YtgfnbmfjbjopkaaDoor
open Go Go.AM Go.RowKit Go.Proofs Go.Proofs.YtgfnbmfjbjopkaaDoor Go.ChangeShapes Go.WideShapes Go.ChangeAt
theorem ZGe : Tryd.prog.readableRec 58 = true := by kernel_rfl
theorem ZFF : 58 < Tryd.prog.types.size := of_decide_eq_true (by kernel_rfl)
theorem ZFX : Tryd.prog.readableRec 56 = true := by kernel_rfl
theorem ZGO : 56 < Tryd.prog.types.size := of_decide_eq_true (by kernel_rfl)
theorem ZL1 : Tryd.prog.cellsOf 56 = 6 := by kernel_rfl
theorem ZyH : Tryd.prog.cellTypes Tryd.prog.depth 56 = some (List.replicate 6 5) := by kernel_rfl
theorem Z6h : Tryd.prog.readableRec 5 = true := by kernel_rfl
theorem Z6y : 5 < Tryd.prog.types.size := of_decide_eq_true (by kernel_rfl)
theorem ZgW {W : World} (hl : laidMet Tryd.prog laid W) {D0 : Dro} {v0 : Value} {zs1 : List Int} {v1 : Value} {x2 : Int} {x3 : Int} {x4 : Int} (h0 : DOk D0) (r0 : (start (fun k => k < W.heap.size) W).R (.agg (dcs D0)) v0) (h1 : zs1.length = 6 ∧ ∀ (i : Nat) (z : Int), zs1[i]? = some z → 0 ≤ z ∧ z ≤ 255) (r1 : (start (fun k => k < W.heap.size) W).R (.agg (zs1.map (AV.int .u8))) v1) (h2 : 0 ≤ x2 ∧ x2 ≤ 255) (h3 : 0 ≤ x3 ∧ x3 ≤ 255) (h4 : 0 ≤ x4 ∧ x4 ≤ 255) :
   Calls Tryd.prog 13 #[v0, v1, .int .u8 x2, .int .u8 x3, .int .u8 x4] W fun e w' => e = .returned (.bool true) ∧ Below W.heap.size W w' := by
 obtain ⟨H0, hw⟩ := ZKj ZJF
 obtain ⟨H1, hr⟩ := ZV (ZiI h0 h1 h2 h3 h4 ⟨H0, hw⟩)
 have hC : CS Tryd.prog E (bodyA E (callA E fg 1000 40) fg 1000) := Zzz envOk mixed fg 1000 (sound 40)
 refine Z00M hC hr hl (fun k h => h) (vs := [v0, v1, .int .u8 x2, .int .u8 x3, .int .u8 x4]) ?_
 simp only [Gh.Rs, VRs]
 exact ⟨v0, _, rfl, r0, v1, _, rfl, r1, _, _, rfl, by simp only [VR], _, _, rfl, by simp only [VR], _, _, rfl, by simp only [VR], rfl⟩
theorem Zau (os : Os) (started : os.Started) (H : Type) (enc : TypeId × Value → H) :
   ReturnsInHanded {} Tryd.checked os 13 .any (fun w args => (Rows.muleShownSpec.pre enc Tryd.prog Tryd.f13 Rows.muleShownRow.domain false w args ∧ laidMet Tryd.prog Rows.muleShownRow.laid w) ∧ sizedMet enc Tryd.prog Tryd.f13 (OpenSpec.ofChange Rows.muleShownSpec) false w args)
     (Rows.muleShownSpec.post enc Tryd.prog Tryd.f13 false true false false) := by
 refine returnsInHanded_of_change_and (C := Tryd.checked) (X := fun w _ => laidMet Tryd.prog Rows.muleShownRow.laid w) (fun _ _ _ hh h => h.of_heap hh) own started (by kernel_rfl) Tryd.func13
   (ChangeSpec.witness_at (enc := enc) (C := Tryd.checked) (os := os) (X := fun w _ => laidMet Tryd.prog Rows.muleShownRow.laid w) false (ZhG os) #[.agg ((Array.replicate 31 (.int .u8 0)).push (.int .u16 0) ++ Array.replicate 6 (.int .u8 0)), .agg (Array.replicate 6 (.int .u8 0)), .int .u8 0, .int .u8 0, .int .u8 0] 8 rfl (by kernel_rfl) (by kernel_rfl) (by kernel_rfl) (by kernel_rfl) (by kernel_rfl) (ZV8 os _)) ?_
 intro W base args ds gs before hval0 hW _ _ hL _
 have hW' := hW
 obtain ⟨p, q, hA0, hV, rfl, hfz, hnd⟩ := hW
 have hA : DataW.TrodAll enc Tryd.prog W 0 (fun _ => true) true Tryd.f13.params.toList args.toList ds p := hA0
 rw [Tryd.params13] at hA
 obtain ⟨w0, vs0, d0, ds0, p0, q0, ha, rfl, rfl, t0, hr0⟩ := trodAll_cons hA
 obtain ⟨w1, vs1, d1, ds1, p1, q1, rfl, rfl, rfl, t1, hr1⟩ := trodAll_cons hr0
 obtain ⟨w2, vs2, d2, ds2, p2, q2, rfl, rfl, rfl, t2, hr2⟩ := trodAll_cons hr1
 obtain ⟨w3, vs3, d3, ds3, p3, q3, rfl, rfl, rfl, t3, hr3⟩ := trodAll_cons hr2
 obtain ⟨w4, vs4, d4, ds4, p4, q4, rfl, rfl, rfl, t4, hr4⟩ := trodAll_cons hr3
 obtain ⟨rfl, rfl, rfl⟩ := trodAll_nil hr4
 obtain rfl : args = #[w0, w1, w2, w3, w4] := by cases args; simp_all
 obtain ⟨rfl, rfl⟩ := trodVars_none hV
 have hval : ∀ (j : Nat) t v, (#[58, 56, 5, 5, 5] : Array TypeId)[j]? = some t → (#[w0, w1, w2, w3, w4] : Array Value)[j]? = some v → Value.okWide Tryd.prog W .any base t v := by
   intro j t v; have := hval0 j t v; rw [Tryd.params13] at this; exact this
 obtain ⟨D0, h0, y0⟩ := ZGr (hval 0 58 w0 rfl rfl)
 have r0 : (start (fun k => k < W.heap.size) W).R (.agg (dcs D0)) w0 := y0 _ _
 obtain ⟨zs1, h1, y1⟩ := ZGW Tryd.underlying56 Tryd.underlying5 ZyH ZL1 (hval 1 56 w1 rfl rfl)
 have r1 : (start (fun k => k < W.heap.size) W).R (.agg (zs1.map (AV.int .u8))) w1 := y1 _ _
 obtain ⟨x2, rfl, b2⟩ := Zgc Tryd.underlying5 (hval 2 5 w2 rfl rfl)
 have h2 : 0 ≤ x2 ∧ x2 ≤ 255 := b2
 obtain ⟨x3, rfl, b3⟩ := Zgc Tryd.underlying5 (hval 3 5 w3 rfl rfl)
 have h3 : 0 ≤ x3 ∧ x3 ≤ 255 := b3
 obtain ⟨x4, rfl, b4⟩ := Zgc Tryd.underlying5 (hval 4 5 w4 rfl rfl)
 have h4 : 0 ≤ x4 ∧ x4 ≤ 255 := b4
 refine (ZgW hL h0 r0 h1 r1 h2 h3 h4).mono fun e W' ⟨he, bel⟩ => ?_
 subst he
 exact ⟨_, rfl, _, _, _, [], _, [], hW', trodAll_mk1 (shut_bool Tryd.underlying4 _),
   ZyB (bel.trod' laidOut ZGe ZFF t0) (bel.trod' laidOut ZFX ZGO t1) (bel.trod' laidOut Z6h Z6y t2) (bel.trod' laidOut Z6h Z6y t3) (bel.trod' laidOut Z6h Z6y t4), rfl, bel.frame _, fun h => by cases h⟩
theorem muleShown_holds : Rows.MuleShownSaid :=
 OpenClaim.holds_of_wide 13 Tryd.f13 rfl rfl rfl rfl rfl rfl rfl ⟨rfl, rfl, rfl, rfl, rfl⟩ rfl rfl rfl rfl rfl (by kernel_rfl) Tryd.func13 (by kernel_rfl)
   (of_decide_eq_true (by kernel_rfl)) (by unfold Func.isWrapper; first | (rw [if_pos (by decide +kernel)]; kernel_rfl) | (rw [if_neg (by decide +kernel)]; exact ⟨rfl, rfl⟩))
   (fun os started H enc _ => Zau os started H enc)
theorem muleShown_card : Rows.MuleShownCardSaid :=
 Claim7.holds_tied_plain_at .later [] [.data, .data] true (true, "5b9fadd3ce3401de9bf6af4b2af329063e209b211b9ea2d43da427ffdf60aac1") false
   muleShown_holds (fun _ h => by cases h) (by kernel_rfl) (fun _ h => by cases h) muleShown_row_tie rfl ⟨rfl, rfl⟩ (by kernel_rfl) rfl
   (fun f fn hf hfn => by
     obtain rfl : f = 13 := Option.some.inj ((show Tryd.prog.funcNamed "novaculite/novaculitelaw11.MuleShown" = some 13 by kernel_rfl).symm.trans hf) |>.symm
     obtain rfl : fn = Tryd.f13 := (Option.some.inj (Tryd.func13.symm.trans hfn)).symm
     have key : (Tryd.f13.params.toList.all fun t => Tryd.prog.wantsStandIn t == false) = true := by kernel_rfl
     exact ⟨by kernel_rfl, fun j t ht => by
       have := List.all_eq_true.1 key t (List.mem_of_getElem? (by rw [Array.getElem?_toList]; exact ht))
       exact (by simpa using this : Tryd.prog.wantsStandIn t = false)⟩)
   (by kernel_rfl)
end Go.AM.YtgfnbmfjbjopkaaDoor
namespace Go.Proofs.YtgfnbmfjbjopkaaDoor
theorem muleShown_card : Rows.MuleShownCardSaid := Go.AM.YtgfnbmfjbjopkaaDoor.muleShown_card
end Go.Proofs.YtgfnbmfjbjopkaaDoor
end
end
#print axioms Go.Proofs.YtgfnbmfjbjopkaaDoor.muleShown_card
