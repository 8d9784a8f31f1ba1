/- A part of the proof of rubTurned_holds: RqI. Own work of this project; texts printed by own programs among it. -/
import Derived.KernelRfl
import Derived.Test.YtfmnoohhhokicaaXvH
set_option maxRecDepth 1000000
set_option maxHeartbeats 16000000
noncomputable section
noncomputable section
namespace Go.AM.Ytfmnoohhhokicaa
open Go Go.AM Go.AM.Rub
def pF (d : Nat) : Callee := callF E fr fg 1000000 d
def kF (d : Nat) : Callee := frC fr (pF d)
theorem pF_s (d : Nat) : pF (d + 1) = bodyA E (kF d) fg 1000000 := nf
theorem Z0H {d : Nat} {f : FuncId} (hf : fr f = false) (args : List AV) (H : AHeap) (B : Nat) : kF (d + 1) f args H B = bodyA E (kF d) fg 1000000 f args H B := by
 unfold kF frC
 rw [hf]
 rfl
theorem Z07K {d : Nat} {f : FuncId} (hf : fr f = true) (args : List AV) (H : AHeap) (B : Nat) : kF d f args H B = focus (pF d) f args H B (mark H 1000 (refsL args) []).reverse := by
 unfold kF frC
 rw [hf]
theorem Z1Z {d : Nat} {f : FuncId} {args : List AV} {v : AV} (hf : fr f = false) (h : rsOf (bodyA E (kF d) fg 1000000 f args [] 0) = some v) : ∃ H', kF (d + 1) f args [] 0 = some (v, H') := by
 rw [Z0H hf]; exact ZNF h
theorem loopM {E0 : AHeap} {f : St → XR} (st : Nat → St) (n : Nat) (h : ∀ i, i < n → ∃ s', f (st i) = some (.normal, s') ∧ headA E0 s' = st (i + 1)) (h0 : headA E0 (st 0) = st 0) (hn : n < 1000000) {e : Ex} {se : St} (he : f (st n) = some (e, se)) (hne : e ≠ .normal) :
   iterA f (headA E0) 1000000 (st 0) = some (e, se) :=
 Z3o st n 1000000 0 (st 0) h0 hn (fun i _ h2 => h i (by omega)) (by rw [Nat.zero_add]; exact he) hne
theorem loopMS {E0 : AHeap} {f : St → XR} {s0 : St} (st : Nat → St) (n : Nat) (h : ∀ i, i < n → ∃ s', f (st i) = some (.normal, s') ∧ headA E0 s' = st (i + 1)) (h0 : headA E0 s0 = st 0) (hn : n < 1000000) {e : Ex} {se : St} (he : f (st n) = some (e, se)) (hne : e ≠ .normal) :
   iterA f (headA E0) 1000000 s0 = some (e, se) :=
 Z3o st n 1000000 0 s0 h0 hn (fun i _ h2 => h i (by omega)) (by rw [Nat.zero_add]; exact he) hne
theorem Z8Y {E0 : AHeap} {f : St → XR} {s0 : St} (h0 : headA E0 s0 = s0) {e : Ex} {se : St} (he : f s0 = some (e, se)) (hne : e ≠ .normal) : iterA f (headA E0) 1000000 s0 = some (e, se) :=
 loopM (fun _ => s0) 0 (fun i hi => by omega) h0 (by omega) he hne
def IV (l : List Int) (a : AV) : Prop := (l = [] ∧ a = .nilsl) ∨ ∃ ex, a = .imm (ics l) l.length ex
theorem Z4c {l : List Int} {a : AV} (h : IV l a) (n : Nat) : snap (n + 1) a = .pure (a, []) := by
 rcases h with ⟨_, rfl⟩ | ⟨e, rfl⟩ <;> rfl
theorem ZbO {l : List Int} {a : AV} (h : IV l a) (h0 : 0 < l.length) : ∃ ex, a = .imm (ics l) l.length ex := by
 rcases h with ⟨rfl, _⟩ | h
 · simp at h0
 · exact h
theorem Z8r (l : List Int) (ex : Bool) : IV l (.imm (ics l) l.length ex) := .inr ⟨ex, rfl⟩
theorem Z3i {l : List Int} {k : Nat} (h : k < l.length) : l[k]? = some (rowF l k) := by
 simp [rowF, h]
theorem Zz {l : List Int} {k : Nat} (h : k < l.length) : (ics l)[k]? = some (.int .i64 (rowF l k)) := Z3y (Z3i h)
theorem rw_b {n : Nat} {l : List Int} (h : Rw n l) {k : Nat} (hk : k < n) : 0 ≤ rowF l k ∧ rowF l k ≤ 8 := ZV h.row k (by rw [h.len]; exact hk)
theorem Zh5 {C : Callee} {site : Nat → Nat} {seen : List Nat} {f : FuncId} {args : List AV} {id m c sz gl : Nat} {k : IntKind} {z : Int} {cells : List AV} {H' : AHeap} (h : C f args [] 0 = some (.tup [.ref id 0 m c gl sz false, .int k z], H')) (hg : hget H' id = some ⟨.row, cells⟩) (hl : cells.length = gl) :
   aBack site true seen (thaw C f args [] 0) = Z0l (site 0) seen (fun j => .tup [.ref j 0 m c gl sz false, .int k z]) ⟨.row, cells⟩ := by
 subst hl
 simp only [thaw, h, frzRet, aBack, sitesB, aBackAt, imp, imps, hg, List.length_nil, List.not_mem_nil, not_false_eq_true, and_true, if_true, List.map_cons, List.map_nil, AM.apart, List.elem_nil, Bool.not_false, Bool.and_true, AV.leads, AV.leads.leadsL, Bool.or_false, Z0l]
theorem Z4E {n : Nat} (h : n ≤ 1000000) : roomOk E.T 3 n = true := by
 simp only [roomOk, T_3, decide_eq_true_eq]; exact ⟨by decide, rfl, by omega⟩
theorem Z20 {k n : Nat} (h : 0 < n) : oV k 1 n = .ref k 0 n n n 1 false := by
 obtain ⟨m, rfl⟩ : ∃ m, n = m + 1 := ⟨n - 1, by omega⟩
 simp only [oV, Nat.mul_one]
theorem ZdG {k : Nat} {l : List Int} (h : 0 < l.length) : oH k (ics l) = [(k, ⟨.row, ics l⟩)] := ZNJ k (by rw [Z4]; exact h)
theorem Z7h (k sz : Nat) : oV k sz 0 = .nilsl := rfl
theorem Z9I {E0 : AHeap} {φ : AFr} {H : AHeap} (h : ∀ p ∈ H, (hget E0 p.1).isSome = true) : headA E0 (φ, H) = (φ, H) := by
 have key : ∀ (keep : List Nat) (H : AHeap), (∀ p ∈ H, (hget E0 p.1).isSome = true) → keepB E0 keep H = H := by
   intro keep H
   induction H with
   | nil => intro _; rfl
   | cons p t ih =>
     intro h
     obtain ⟨i, b⟩ := p
     simp only [keepB, h _ (List.mem_cons_self ..), Bool.or_true, cond_true, ih fun q hq => h q (List.mem_cons_of_mem _ hq)]
 simp only [headA, key _ H h, gcIf]
 split <;> rfl
theorem Z80 : ∀ n, repC [.int .i64 0] n = ics (List.replicate n 0)
 | 0 => rfl
 | n + 1 => by rw [repC, Z80 n]; rfl
theorem Zmd : ∀ (vs cs : List Int) (o : Nat), o + vs.length ≤ cs.length → putC (ics cs) o (ics vs) = ics (cs.take o ++ vs ++ cs.drop (o + vs.length))
 | [], cs, o, _ => by simp [putC, ics]
 | v :: vs, cs, o, h => by
   rw [List.length_cons] at h
   have e : ics (v :: vs) = .int .i64 v :: ics vs := rfl
   rw [e, putC, Z35, Zmd vs (cs.set o v) (o + 1) (by rw [List.length_set]; omega)]
   congr 1
   rw [List.drop_set_of_lt (by omega), List.take_add_one, List.getElem?_set_self (by omega), List.take_set_of_le (Nat.le_refl _), List.length_cons, show o + (vs.length + 1) = o + 1 + vs.length by omega]
   simp
def RL (C : Callee) (f : FuncId) (args : List AV) (e : Int) (l : List Int) : Prop :=
 (e ≠ 0 ∧ ∀ (site : Nat → Nat) seen, aBack site true seen (thaw C f args [] 0) = .pure (.tup [.nilsl, .int .i64 e], [])) ∨
 (e = 0 ∧ ∀ (site : Nat → Nat) seen, aBack site true seen (thaw C f args [] 0) = Z0l (site 0) seen (fun k => .tup [.ref k 0 l.length l.length l.length 1 false, .int .i64 0]) ⟨.row, ics l⟩)
theorem Z07F {C : Callee} {f : FuncId} {args : List AV} {e : Int} {l : List Int} {n : Nat} (h : (e ≠ 0 ∧ ∃ H, C f args [] 0 = some (.tup [.nilsl, .int .i64 e], H)) ∨ (e = 0 ∧ ∃ g H, C f args [] 0 = some (.tup [.ref g 0 n n n 1 false, .int .i64 0], H) ∧ hget H g = some ⟨.row, ics l⟩)) (hl : l.length = n) : RL C f args e l := by
 subst hl
 rcases h with ⟨h0, h⟩ | ⟨h0, g, H, h, hg⟩
 · exact .inl ⟨h0, fun site seen => Zp1 h⟩
 · exact .inr ⟨h0, fun site seen => Zh5 h hg (Z4 l)⟩
def fe (e : Nat → Int) : Nat → Nat → Int
 | _, 0 => 0
 | k, m + 1 => if e k = 0 then fe e (k + 1) m else e k
theorem Z4l {e : Nat → Int} : ∀ (m k : Nat), fe e k m = 0 ↔ ∀ i, k ≤ i → i < k + m → e i = 0
 | 0, k => by simp only [fe, true_iff]; intro i h1 h2; omega
 | m + 1, k => by
   simp only [fe]
   split
   · rename_i h
     rw [Z4l m (k + 1)]
     exact ⟨fun hh i h1 h2 => if hi : i = k then by rw [hi]; exact h else hh i (by omega) (by omega), fun hh i h1 h2 => hh i (by omega) (by omega)⟩
   · rename_i h
     exact ⟨fun hh => absurd hh h, fun hh => absurd (hh k (Nat.le_refl _) (by omega)) h⟩
theorem loopE {E0 : AHeap} {f : St → XR} {e : Nat → Int} {R : Int → AHeap → St} {x : Ex} {se : St} (st : Nat → St) (n : Nat) (h0 : headA E0 (st 0) = st 0) (hn : n < 1000000) (hx : x ≠ .normal)
   (hgo : ∀ i, i < n → (∀ j, j < i → e j = 0) → e i = 0 → ∃ s', f (st i) = some (.normal, s') ∧ headA E0 s' = st (i + 1)) (hbad : ∀ i, i < n → (∀ j, j < i → e j = 0) → e i ≠ 0 → ∃ H, f (st i) = some (.ret, R (e i) H)) (hend : (∀ j, j < n → e j = 0) → f (st n) = some (x, se)) :
   (fe e 0 n = 0 ∧ iterA f (headA E0) 1000000 (st 0) = some (x, se)) ∨ (fe e 0 n ≠ 0 ∧ ∃ H, iterA f (headA E0) 1000000 (st 0) = some (.ret, R (fe e 0 n) H)) := by
 have key : ∀ (m k F : Nat) (s0 : St), k + m = n → (∀ j, j < k → e j = 0) → headA E0 s0 = st k → m < F → (fe e k m = 0 ∧ iterA f (headA E0) F s0 = some (x, se)) ∨ (fe e k m ≠ 0 ∧ ∃ H, iterA f (headA E0) F s0 = some (.ret, R (fe e k m) H)) := by
   intro m
   induction m with
   | zero =>
     intro k F s0 hk hz hs hF
     obtain ⟨F, rfl⟩ : ∃ G, F = G + 1 := ⟨F - 1, by omega⟩
     rw [Nat.add_zero] at hk
     subst hk
     refine .inl ⟨rfl, ?_⟩
     rw [Z01, hs, hend hz]
     cases x with
     | normal => exact absurd rfl hx
     | ret => rfl
     | exit i => rfl
   | succ m ih =>
     intro k F s0 hk hz hs hF
     obtain ⟨F, rfl⟩ : ∃ G, F = G + 1 := ⟨F - 1, by omega⟩
     simp only [fe]
     by_cases h : e k = 0
     · obtain ⟨s', h1, h2⟩ := hgo k (by omega) hz h
       rw [if_pos h, Z01, hs, h1, Z4a]
       refine ih (k + 1) F s' (by omega) (fun j hj => ?_) h2 (by omega)
       by_cases hjk : j = k
       · rw [hjk]; exact h
       · exact hz j (by omega)
     · rw [if_neg h]
       obtain ⟨H, hH⟩ := hbad k (by omega) hz h
       refine .inr ⟨h, H, ?_⟩
       rw [Z01, hs, hH]
       rfl
 exact key n 0 1000000 (st 0) (by omega) (fun j hj => by omega) h0 (by omega)
end Go.AM.Ytfmnoohhhokicaa
end
noncomputable section
namespace Go.AM.Ytfmnoohhhokicaa
open Go Go.AM
variable {C : Callee} {B N : Nat} {E0 : AHeap} (φ : AFr) (H : AHeap) (s : St)
def Z59 := kBody Proofs.Try.f103
def Zja := kL Z59
def Z9S := kO Zja
def Zlt := opN Z9S 0
theorem Z01E : XG 103 34 Zja Z9S [4] := Z1 (by rfl) (by rfl) _
theorem ZJx : Z9S.toList = [Zlt] := nf
theorem ZL2 : stepA E C B 34 Z9S Zlt (φ, H) = some (fput φ 4 (.nilsl), H) := nf
def ZbE := kR Z59
def ZmJ := kL ZbE
def Z2F := kO ZmJ
def Zjl := opN Z2F 0
def Zmr := opN Z2F 1
def Zoy := opN Z2F 2
theorem Z03W : XG 103 34 ZmJ Z2F [1, 9, 10] := Z1 (by rfl) (by rfl) _
theorem ZIz : Z2F.toList = [Zjl, Zmr, Zoy] := nf
theorem ZIp : stepA E C B 34 Z2F Zjl (φ, H) = some (fput φ 9 (fget φ 1), H) := nf
theorem ZLF : stepA E C B 34 Z2F Zmr (φ, H) = stp (some 10) φ H (aMake E.T (B + 10) 22 (fget φ 9) (fget φ 9)) := nf
theorem ZGD : stepA E C B 34 Z2F Zoy (φ, H) = some (fput φ 5 (fget φ 10), H) := nf
def Z92 := kR ZbE
def Z91 := kL Z92
def Zo0 := kL Z91
def Z2U := kO Zo0
def Zma := opN Z2U 0
def Zk0 := opN Z2U 1
def ZpO := opN Z2U 2
theorem Z00i : XG 103 34 Zo0 Z2U [11] := Z1 (by rfl) (by rfl) _
theorem ZJQ : Z2U.toList = [Zma, Zk0, ZpO] := nf
theorem ZIJ : stepA E C B 34 Z2U Zma (φ, H) = some (fput φ 11 (fget φ 5), H) := nf
theorem ZIt : stepA E C B 34 Z2U Zk0 (φ, H) = stp (some 12) φ H (Z3 E.T (B + 12) .len #[22] [(fget φ 11)]) := nf
theorem ZL0 : stepA E C B 34 Z2U ZpO (φ, H) = some (fput φ 13 (.int .i64 0), H) := nf
def Zmw := kR Z91
def ZjN := kB Zmw
def Z4w := kB ZjN
def Zc9 := kL Z4w
def ZaX := kO Zc9
def Zk8 := opN ZaX 0
theorem ZUR : XG 103 34 Zc9 ZaX [] := Z1 (by rfl) (by rfl) _
theorem ZJM : ZaX.toList = [Zk8] := nf
theorem ZGI : stepA E C B 34 ZaX Zk8 (φ, H) = stp (some 14) φ H (just (aBin E.T .lss 3 (fget φ 13) (fget φ 12))) := nf
def Z6v := kR Z4w
def Z7c := kL Z6v
def Zuy := kT Z7c
theorem ZU8 : execA E C (fg 103) B 34 E0 N Zuy s = some (.normal, s) := Zb (by rfl) s
def Zuf := kE Z7c
theorem ZXk : execA E C (fg 103) B 34 E0 N Zuf s = some (.exit 0, s) := ZP (by rfl) s
theorem ZWs : XC 103 34 Z7c 14 Zuy Zuf := Z8 (by rfl) _
def Z6y := kR Z6v
def ZdA := kL Z6y
def Z6b := kB ZdA
def Zd3 := kL Z6b
def Z4q := kO Zd3
def ZlS := opN Z4q 0
def ZlO := opN Z4q 1
theorem ZRz : XG 103 34 Zd3 Z4q [14, 15] := Z1 (by rfl) (by rfl) _
theorem ZLr : Z4q.toList = [ZlS, ZlO] := nf
theorem ZJO : stepA E C B 34 Z4q ZlS (φ, H) = some (fput φ 15 (fget φ 13), H) := nf
theorem ZIO : stepA E C B 34 Z4q ZlO (φ, H) = some (fput φ 6 (fget φ 15), H) := nf
def Z64 := kR Z6b
def Zda := kL Z64
def Z2O := kO Zda
def Zkv := opN Z2O 0
def ZoZ := opN Z2O 1
def ZkI := opN Z2O 2
theorem ZYu : XG 103 34 Zda Z2O [] := Z1 (by rfl) (by rfl) _
theorem ZLa : Z2O.toList = [Zkv, ZoZ, ZkI] := nf
theorem ZHN : stepA E C B 34 Z2O Zkv (φ, H) = some (fput φ 16 (fget φ 0), H) := nf
theorem ZHB : stepA E C B 34 Z2O ZoZ (φ, H) = stp (some 17) φ H (Z3 E.T (B + 17) .len #[22] [(fget φ 16)]) := nf
theorem ZLK : stepA E C B 34 Z2O ZkI (φ, H) = some (fput φ 18 (.int .i64 0), H) := nf
def Zdj := kR Z64
def ZcF := kB Zdj
def Z39 := kB ZcF
def ZcT := kL Z39
def ZaH := kO ZcT
def ZoF := opN ZaH 0
theorem ZRH : XG 103 34 ZcT ZaH [] := Z1 (by rfl) (by rfl) _
theorem ZJR : ZaH.toList = [ZoF] := nf
theorem ZHL : stepA E C B 34 ZaH ZoF (φ, H) = stp (some 19) φ H (just (aBin E.T .lss 3 (fget φ 18) (fget φ 17))) := nf
def Z7m := kR Z39
def Z70 := kL Z7m
def Zs8 := kT Z70
theorem ZPR : execA E C (fg 103) B 34 E0 N Zs8 s = some (.normal, s) := Zb (by rfl) s
def Zuw := kE Z70
theorem ZOS : execA E C (fg 103) B 34 E0 N Zuw s = some (.exit 2, s) := ZP (by rfl) s
theorem ZZ9 : XC 103 34 Z70 19 Zs8 Zuw := Z8 (by rfl) _
def Z7a := kR Z7m
def Zde := kL Z7a
def Z63 := kB Zde
def Zc7 := kL Z63
def Z2J := kO Zc7
def ZoS := opN Z2J 0
def Zp3 := opN Z2J 1
def Zqy := opN Z2J 2
theorem ZSY : XG 103 34 Zc7 Z2J [19, 20, 21] := Z1 (by rfl) (by rfl) _
theorem ZJG : Z2J.toList = [ZoS, Zp3, Zqy] := nf
theorem ZGF : stepA E C B 34 Z2J ZoS (φ, H) = stp (some 20) φ H (just (Z2 E.T 22 (fget φ 16) (fget φ 18))) := nf
theorem ZJ0 : stepA E C B 34 Z2J Zp3 (φ, H) = stp (some 21) φ H (just (aLoad E.T 3 (fget φ 20))) := nf
theorem ZGj : stepA E C B 34 Z2J Zqy (φ, H) = some (fput φ 8 (fget φ 21), H) := nf
def Z79 := kR Z63
def Zck := kL Z79
def Z2L := kO Zck
def ZoK := opN Z2L 0
def Zpn := opN Z2L 1
def Zo1 := opN Z2L 2
theorem ZTC : XG 103 34 Zck Z2L [8, 22, 23] := Z1 (by rfl) (by rfl) _
theorem ZLM : Z2L.toList = [ZoK, Zpn, Zo1] := nf
theorem ZH4 : stepA E C B 34 Z2L ZoK (φ, H) = some (fput φ 22 (fget φ 8), H) := nf
theorem ZHy : stepA E C B 34 Z2L Zpn (φ, H) = some (fput φ 23 (fget φ 6), H) := nf
theorem ZJ8 : stepA E C B 34 Z2L Zo1 (φ, H) = stp (some 24) φ H (just (aBin E.T .gtr 3 (fget φ 22) (fget φ 23))) := nf
def Z6X := kR Z79
def ZcK := kT Z6X
def Z0j := kO ZcK
def ZpM := opN Z0j 0
def Znv := opN Z0j 1
def Znr := opN Z0j 2
def Zj8 := opN Z0j 3
def Zpv := opN Z0j 4
def ZjY := opN Z0j 5
def Znk := opN Z0j 6
theorem ZPn : XG 103 34 ZcK Z0j [24, 25, 26, 27, 28, 29, 30] := Z1 (by rfl) (by rfl) _
theorem ZK9 : Z0j.toList = [ZpM, Znv, Znr, Zj8, Zpv, ZjY, Znk] := nf
theorem ZKl : stepA E C B 34 Z0j ZpM (φ, H) = some (fput φ 25 (fget φ 5), H) := nf
theorem ZKR : stepA E C B 34 Z0j Znv (φ, H) = some (fput φ 26 (fget φ 6), H) := nf
theorem ZLe : stepA E C B 34 Z0j Znr (φ, H) = stp (some 27) φ H (just (Z2 E.T 22 (fget φ 25) (fget φ 26))) := nf
theorem ZI6 : stepA E C B 34 Z0j Zj8 (φ, H) = stp (some 28) φ H (just (aLoad E.T 3 (fget φ 27))) := nf
theorem ZJp : stepA E C B 34 Z0j Zpv (φ, H) = stp (some 29) φ H (just (aBin E.T .add 3 (fget φ 28) (.int .i64 1))) := nf
theorem ZH1 : stepA E C B 34 Z0j ZjY (φ, H) = stp (some 30) φ H (just (Z2 E.T 22 (fget φ 25) (fget φ 26))) := nf
theorem ZJs : stepA E C B 34 Z0j Znk (φ, H) = stp none φ H (opStore E.T 3 (fget φ 30) (fget φ 29)) := nf
def Zw7 := kE Z6X
theorem ZPC : execA E C (fg 103) B 34 E0 N Zw7 s = some (.normal, s) := Zb (by rfl) s
theorem ZVl : XC 103 34 Z6X 24 ZcK Zw7 := Z8 (by rfl) _
theorem ZZI : XQ 103 34 Z79 Zck Z6X := Z0 (by rfl) _
theorem ZUQ : XQ 103 34 Z63 Zc7 Z79 := Z0 (by rfl) _
theorem ZU1 : execA E C (fg 103) B 34 E0 N Zde s = blockX 3 (fun s => (forget s.1 [24], s.2)) (execA E C (fg 103) B 34 E0 N Z63 s) := Za (by rfl) (by rfl) s
def ZdD := kR Z7a
def Z33 := kO ZdD
def ZdS := opN Z33 0
def Ze0 := opN Z33 1
theorem ZVO : XG 103 34 ZdD Z33 [31] := Z1 (by rfl) (by rfl) _
theorem ZEm : Z33.toList = [ZdS, Ze0] := nf
theorem ZBi : stepA E C B 34 Z33 ZdS (φ, H) = stp (some 31) φ H (just (aBin E.T .add 3 (fget φ 18) (.int .i64 1))) := nf
theorem ZBD : stepA E C B 34 Z33 Ze0 (φ, H) = some (fput φ 18 (fget φ 31), H) := nf
theorem Z00d : XQ 103 34 Z7a Zde ZdD := Z0 (by rfl) _
theorem ZPk : XQ 103 34 Z7m Z70 Z7a := Z0 (by rfl) _
theorem ZYB : XQ 103 34 Z39 ZcT Z7m := Z0 (by rfl) _
theorem ZW9 : execA E C (fg 103) B 34 E0 N ZcF s = iterA (execA E C (fg 103) B 34 E0 N Z39) (headA E0) N s := ZY (by rfl) s
theorem ZQd : execA E C (fg 103) B 34 E0 N Zdj s = blockX 2 (fun s => (forget s.1 [6, 16, 17, 18, 19], s.2)) (execA E C (fg 103) B 34 E0 N ZcF s) := Za (by rfl) (by rfl) s
theorem ZVZ : XQ 103 34 Z64 Zda Zdj := Z0 (by rfl) _
theorem ZRZ : XQ 103 34 Z6b Zd3 Z64 := Z0 (by rfl) _
theorem ZPb : execA E C (fg 103) B 34 E0 N ZdA s = blockX 1 (fun s => (forget s.1 [], s.2)) (execA E C (fg 103) B 34 E0 N Z6b s) := Za (by rfl) (by rfl) s
def Zdy := kR Z6y
def Z3h := kO Zdy
def ZgB := opN Z3h 0
def ZeE := opN Z3h 1
theorem ZZk : XG 103 34 Zdy Z3h [32] := Z1 (by rfl) (by rfl) _
theorem ZC1 : Z3h.toList = [ZgB, ZeE] := nf
theorem ZA7 : stepA E C B 34 Z3h ZgB (φ, H) = stp (some 32) φ H (just (aBin E.T .add 3 (fget φ 13) (.int .i64 1))) := nf
theorem ZCk : stepA E C B 34 Z3h ZeE (φ, H) = some (fput φ 13 (fget φ 32), H) := nf
theorem ZOb : XQ 103 34 Z6y ZdA Zdy := Z0 (by rfl) _
theorem ZUF : XQ 103 34 Z6v Z7c Z6y := Z0 (by rfl) _
theorem Z063 : XQ 103 34 Z4w Zc9 Z6v := Z0 (by rfl) _
theorem Z04g : execA E C (fg 103) B 34 E0 N ZjN s = iterA (execA E C (fg 103) B 34 E0 N Z4w) (headA E0) N s := ZY (by rfl) s
theorem Z01H : execA E C (fg 103) B 34 E0 N Zmw s = blockX 0 (fun s => (forget s.1 [0, 12, 13, 14], s.2)) (execA E C (fg 103) B 34 E0 N ZjN s) := Za (by rfl) (by rfl) s
theorem Z06P : XQ 103 34 Z91 Zo0 Zmw := Z0 (by rfl) _
def Z7e := kR Z92
def ZdB := kL Z7e
def Z37 := kO ZdB
def Zg6 := opN Z37 0
def ZeF := opN Z37 1
theorem ZSt : XG 103 34 ZdB Z37 [5, 33] := Z1 (by rfl) (by rfl) _
theorem ZCb : Z37.toList = [Zg6, ZeF] := nf
theorem ZCV : stepA E C B 34 Z37 Zg6 (φ, H) = some (fput φ 33 (fget φ 5), H) := nf
theorem ZEV : stepA E C B 34 Z37 ZeF (φ, H) = some (fput φ 4 (fget φ 33), H) := nf
def ZrJ := kR Z7e
theorem ZWc : execA E C (fg 103) B 34 E0 N ZrJ s = some (.ret, s) := Zk (by rfl) s
theorem ZRK : XQ 103 34 Z7e ZdB ZrJ := Z0 (by rfl) _
theorem Z03u : XQ 103 34 Z92 Z91 Z7e := Z0 (by rfl) _
theorem Z04P : XQ 103 34 ZbE ZmJ Z92 := Z0 (by rfl) _
theorem Z02M : XQ 103 34 Z59 Zja ZbE := Z0 (by rfl) _
theorem Z00C : fInfo E 103 = some ⟨34, #[.tmp 4], Z59⟩ := nf
theorem Z08k (args : List AV) : bodyA E C fg N 103 args H B = bodyX E [.tmp 4] (execA E C (fg 103) B 34 H N Z59 (Z5 args 0 [], H)) := Zo Z00C args H
abbrev Z66 := And.intro (And.intro (And.intro (And.intro (And.intro (And.intro @Z01E @ZJx) (And.intro @ZL2 (And.intro @Z03W @ZIz))) (And.intro (And.intro @ZIp (And.intro @ZLF @ZGD)) (And.intro @Z00i (And.intro @ZJQ @ZIJ)))) (And.intro (And.intro (And.intro @ZIt @ZL0) (And.intro @ZUR (And.intro @ZJM @ZGI))) (And.intro (And.intro @ZU8 (And.intro @ZXk @ZWs)) (And.intro @ZRz (And.intro @ZLr @ZJO))))) (And.intro (And.intro (And.intro (And.intro @ZIO @ZYu) (And.intro @ZLa (And.intro @ZHN @ZHB))) (And.intro (And.intro @ZLK (And.intro @ZRH @ZJR)) (And.intro @ZHL (And.intro @ZPR @ZOS)))) (And.intro (And.intro (And.intro @ZZ9 (And.intro @ZSY @ZJG)) (And.intro @ZGF (And.intro @ZJ0 @ZGj))) (And.intro (And.intro @ZTC (And.intro @ZLM @ZH4)) (And.intro @ZHy (And.intro @ZJ8 @ZPn)))))) (And.intro (And.intro (And.intro (And.intro (And.intro @ZK9 @ZKl) (And.intro @ZKR (And.intro @ZLe @ZI6))) (And.intro (And.intro @ZJp (And.intro @ZH1 @ZJs)) (And.intro @ZPC (And.intro @ZVl @ZZI)))) (And.intro (And.intro (And.intro @ZUQ @ZU1) (And.intro @ZVO (And.intro @ZEm @ZBi))) (And.intro (And.intro @ZBD (And.intro @Z00d @ZPk)) (And.intro @ZYB (And.intro @ZW9 @ZQd))))) (And.intro (And.intro (And.intro (And.intro @ZVZ @ZRZ) (And.intro @ZPb (And.intro @ZZk @ZC1))) (And.intro (And.intro @ZA7 (And.intro @ZCk @ZOb)) (And.intro @ZUF (And.intro @Z063 @Z04g)))) (And.intro (And.intro (And.intro @Z01H (And.intro @Z06P @ZSt)) (And.intro @ZCb (And.intro @ZCV @ZEV))) (And.intro (And.intro @ZWc (And.intro @ZRK @Z03u)) (And.intro @Z04P (And.intro @Z02M @Z08k))))))
def Zc2 := kBody Proofs.Try.f52
def ZyF := kL Zc2
def Z6q := kO ZyF
def ZwE := opN Z6q 0
def Zwp := opN Z6q 1
theorem Z07R : XG 52 26 ZyF Z6q [2, 3] := Z1 (by rfl) (by rfl) _
theorem ZPL : Z6q.toList = [ZwE, Zwp] := nf
theorem ZQy : stepA E C B 26 Z6q ZwE (φ, H) = some (fput φ 2 (.nilsl), H) := nf
theorem ZOB : stepA E C B 26 Z6q Zwp (φ, H) = some (fput φ 3 (.int .i64 0), H) := nf
def Zid := kR Zc2
def Zza := kL Zid
def Z3U := kO Zza
def Zw8 := opN Z3U 0
def Zss := opN Z3U 1
def Zsk := opN Z3U 2
theorem Z0aI : XG 52 26 Zza Z3U [5, 6] := Z1 (by rfl) (by rfl) _
theorem ZOn : Z3U.toList = [Zw8, Zss, Zsk] := nf
theorem ZRw : stepA E C B 26 Z3U Zw8 (φ, H) = some (fput φ 5 (fget φ 0), H) := nf
theorem ZTN : stepA E C B 26 Z3U Zss (φ, H) = stp (some 6) φ H (aCall C (fun j => B + j * 26 + 6) true 25 [(fget φ 5)]) := nf
theorem ZZ6 : stepA E C B 26 Z3U Zsk (φ, H) = some (fput φ 4 (fget φ 6), H) := nf
def ZhC := kR Zid
def ZzI := kL ZhC
def Zhz := kB ZzI
def ZzR := kL Zhz
def Z3Q := kO ZzR
def Zvl := opN Z3Q 0
def Zte := opN Z3Q 1
def Zr2 := opN Z3Q 2
theorem Z086 : XG 52 26 ZzR Z3Q [8, 9] := Z1 (by rfl) (by rfl) _
theorem ZOz : Z3Q.toList = [Zvl, Zte, Zr2] := nf
theorem ZZY : stepA E C B 26 Z3Q Zvl (φ, H) = some (fput φ 8 (fget φ 4), H) := nf
theorem ZRo : stepA E C B 26 Z3Q Zte (φ, H) = stp (some 9) φ H (just (aBin E.T .neq 24 (fget φ 8) (.int .i64 0))) := nf
theorem ZSj : stepA E C B 26 Z3Q Zr2 (φ, H) = some (fput φ 7 (fget φ 9), H) := nf
def Zhh := kR Zhz
def Zi4 := kT Zhh
def ZnW := kL Zi4
def Z3R := kO ZnW
def ZsZ := opN Z3R 0
def Zsu := opN Z3R 1
def Zrr := opN Z3R 2
theorem Z06R : XG 52 26 ZnW Z3R [0, 4, 7, 10] := Z1 (by rfl) (by rfl) _
theorem ZPT : Z3R.toList = [ZsZ, Zsu, Zrr] := nf
theorem ZWp : stepA E C B 26 Z3R ZsZ (φ, H) = some (fput φ 10 (fget φ 4), H) := nf
theorem ZX6 : stepA E C B 26 Z3R Zsu (φ, H) = some (fput φ 2 (.nilsl), H) := nf
theorem ZXX : stepA E C B 26 Z3R Zrr (φ, H) = some (fput φ 3 (fget φ 10), H) := nf
def ZBs := kR Zi4
theorem Z079 : execA E C (fg 52) B 26 E0 N ZBs s = some (.ret, s) := Zk (by rfl) s
theorem Z0af : XQ 52 26 Zi4 ZnW ZBs := Z0 (by rfl) _
def Zb2 := kE Zhh
def ZnR := kL Zb2
def Z1A := kO ZnR
def ZsS := opN Z1A 0
def ZtK := opN Z1A 1
def Zy8 := opN Z1A 2
def Zxd := opN Z1A 3
def Zsy := opN Z1A 4
theorem Z053 : XG 52 26 ZnR Z1A [4, 7, 12, 13, 14, 15] := Z1 (by rfl) (by rfl) _
theorem ZXK : Z1A.toList = [ZsS, ZtK, Zy8, Zxd, Zsy] := nf
theorem Z00a : stepA E C B 26 Z1A ZsS (φ, H) = some (fput φ 12 (fget φ 0), H) := nf
theorem ZWn : stepA E C B 26 Z1A ZtK (φ, H) = stp (some 13) φ H (just (Z2 E.T 22 (fget φ 12) (.int .i64 0))) := nf
theorem ZQv : stepA E C B 26 Z1A Zy8 (φ, H) = stp (some 14) φ H (just (aLoad E.T 3 (fget φ 13))) := nf
theorem ZTe : stepA E C B 26 Z1A Zxd (φ, H) = stp (some 15) φ H (just (aBin E.T .eql 3 (fget φ 14) (.int .i64 0))) := nf
theorem ZVB : stepA E C B 26 Z1A Zsy (φ, H) = some (fput φ 11 (fget φ 15), H) := nf
def Z9Z := kR Zb2
def Zaa := kT Z9Z
def ZkE := kL Zaa
def Z6m := kO ZkE
def Zs6 := opN Z6m 0
def ZxZ := opN Z6m 1
theorem Z01b : XG 52 26 ZkE Z6m [0, 11] := Z1 (by rfl) (by rfl) _
theorem ZX7 : Z6m.toList = [Zs6, ZxZ] := nf
theorem ZT0 : stepA E C B 26 Z6m Zs6 (φ, H) = some (fput φ 2 (.nilsl), H) := nf
theorem ZVT : stepA E C B 26 Z6m ZxZ (φ, H) = some (fput φ 3 (.int .i64 21), H) := nf
def ZBb := kR Zaa
theorem Z01o : execA E C (fg 52) B 26 E0 N ZBb s = some (.ret, s) := Zk (by rfl) s
theorem Z06z : XQ 52 26 Zaa ZkE ZBb := Z0 (by rfl) _
def ZaF := kE Z9Z
def ZmB := kL ZaF
def Z1C := kO ZmB
def Zx5 := opN Z1C 0
def Zy3 := opN Z1C 1
def Zsz := opN Z1C 2
def Zu8 := opN Z1C 3
def ZuQ := opN Z1C 4
theorem Z03L : XG 52 26 ZmB Z1C [11, 17, 18, 19, 20] := Z1 (by rfl) (by rfl) _
theorem ZYO : Z1C.toList = [Zx5, Zy3, Zsz, Zu8, ZuQ] := nf
theorem ZX3 : stepA E C B 26 Z1C Zx5 (φ, H) = some (fput φ 17 (fget φ 0), H) := nf
theorem ZP0 : stepA E C B 26 Z1C Zy3 (φ, H) = stp (some 18) φ H (just (Z2 E.T 22 (fget φ 17) (.int .i64 0))) := nf
theorem ZYg : stepA E C B 26 Z1C Zsz (φ, H) = stp (some 19) φ H (just (aLoad E.T 3 (fget φ 18))) := nf
theorem ZQS : stepA E C B 26 Z1C Zu8 (φ, H) = stp (some 20) φ H (just (aBin E.T .gtr 3 (fget φ 19) (.int .i64 6))) := nf
theorem ZOp : stepA E C B 26 Z1C ZuQ (φ, H) = some (fput φ 16 (fget φ 20), H) := nf
def ZaP := kR ZaF
def Z8u := kT ZaP
def ZkG := kL Z8u
def Z6E := kO ZkG
def Zt2 := opN Z6E 0
def ZsO := opN Z6E 1
theorem Z059 : XG 52 26 ZkG Z6E [0, 16] := Z1 (by rfl) (by rfl) _
theorem ZRx : Z6E.toList = [Zt2, ZsO] := nf
theorem ZVV : stepA E C B 26 Z6E Zt2 (φ, H) = some (fput φ 2 (.nilsl), H) := nf
theorem ZYG : stepA E C B 26 Z6E ZsO (φ, H) = some (fput φ 3 (.int .i64 3), H) := nf
def ZDY := kR Z8u
theorem Z07l : execA E C (fg 52) B 26 E0 N ZDY s = some (.ret, s) := Zk (by rfl) s
theorem Z077 : XQ 52 26 Z8u ZkG ZDY := Z0 (by rfl) _
def ZAL := kE ZaP
theorem Z02j : execA E C (fg 52) B 26 E0 N ZAL s = some (.normal, s) := Zb (by rfl) s
theorem Z05z : XC 52 26 ZaP 16 Z8u ZAL := Z8 (by rfl) _
theorem Z042 : XQ 52 26 ZaF ZmB ZaP := Z0 (by rfl) _
theorem Z06v : XC 52 26 Z9Z 11 Zaa ZaF := Z8 (by rfl) _
theorem Z02e : XQ 52 26 Zb2 ZnR Z9Z := Z0 (by rfl) _
theorem Z0ar : XC 52 26 Zhh 7 Zi4 Zb2 := Z8 (by rfl) _
theorem Z0aB : XQ 52 26 Zhz ZzR Zhh := Z0 (by rfl) _
theorem Z08y : execA E C (fg 52) B 26 E0 N ZzI s = blockX 0 (fun s => (forget s.1 [16], s.2)) (execA E C (fg 52) B 26 E0 N Zhz s) := Za (by rfl) (by rfl) s
def ZaO := kR ZhC
def Zlp := kL ZaO
def Z0G := kO Zlp
def ZwZ := opN Z0G 0
def ZvV := opN Z0G 1
def ZwO := opN Z0G 2
def Zu6 := opN Z0G 3
def Zr8 := opN Z0G 4
def Zy4 := opN Z0G 5
def Zs1 := opN Z0G 6
theorem Z06O : XG 52 26 Zlp Z0G [0, 21, 22, 23, 24, 25] := Z1 (by rfl) (by rfl) _
theorem ZXh : Z0G.toList = [ZwZ, ZvV, ZwO, Zu6, Zr8, Zy4, Zs1] := nf
theorem ZSH : stepA E C B 26 Z0G ZwZ (φ, H) = some (fput φ 21 (fget φ 0), H) := nf
theorem ZRt : stepA E C B 26 Z0G ZvV (φ, H) = some (fput φ 22 (fget φ 0), H) := nf
theorem ZVk : stepA E C B 26 Z0G ZwO (φ, H) = stp (some 23) φ H (just (Z2 E.T 22 (fget φ 22) (.int .i64 0))) := nf
theorem ZYZ : stepA E C B 26 Z0G Zu6 (φ, H) = stp (some 24) φ H (just (aLoad E.T 3 (fget φ 23))) := nf
theorem ZRP : stepA E C B 26 Z0G Zr8 (φ, H) = stp (some 25) φ H (aCall C (fun j => B + j * 26 + 25) true 103 [(fget φ 21), (fget φ 24)]) := nf
theorem ZWB : stepA E C B 26 Z0G Zy4 (φ, H) = some (fput φ 2 (fget φ 25), H) := nf
theorem ZP1 : stepA E C B 26 Z0G Zs1 (φ, H) = some (fput φ 3 (.int .i64 0), H) := nf
def ZG3 := kR ZaO
theorem Z02f : execA E C (fg 52) B 26 E0 N ZG3 s = some (.ret, s) := Zk (by rfl) s
theorem Z05H : XQ 52 26 ZaO Zlp ZG3 := Z0 (by rfl) _
theorem Z0av : XQ 52 26 ZhC ZzI ZaO := Z0 (by rfl) _
theorem Z07q : XQ 52 26 Zid Zza ZhC := Z0 (by rfl) _
theorem Z0b3 : XQ 52 26 Zc2 ZyF Zid := Z0 (by rfl) _
theorem Z09x : fInfo E 52 = some ⟨26, #[.tmp 2, .tmp 3], Zc2⟩ := nf
theorem b_52 (args : List AV) : bodyA E C fg N 52 args H B = bodyX E [.tmp 2, .tmp 3] (execA E C (fg 52) B 26 H N Zc2 (Z5 args 0 [], H)) := Zo Z09x args H
abbrev F_52 := And.intro (And.intro (And.intro (And.intro (And.intro (And.intro @Z07R @ZPL) (And.intro @ZQy @ZOB)) (And.intro (And.intro @Z0aI @ZOn) (And.intro @ZRw @ZTN))) (And.intro (And.intro (And.intro @ZZ6 @Z086) (And.intro @ZOz @ZZY)) (And.intro (And.intro @ZRo @ZSj) (And.intro @Z06R (And.intro @ZPT @ZWp))))) (And.intro (And.intro (And.intro (And.intro @ZX6 @ZXX) (And.intro @Z079 @Z0af)) (And.intro (And.intro @Z053 @ZXK) (And.intro @Z00a (And.intro @ZWn @ZQv)))) (And.intro (And.intro (And.intro @ZTe @ZVB) (And.intro @Z01b @ZX7)) (And.intro (And.intro @ZT0 @ZVT) (And.intro @Z01o (And.intro @Z06z @Z03L)))))) (And.intro (And.intro (And.intro (And.intro (And.intro @ZYO @ZX3) (And.intro @ZP0 @ZYg)) (And.intro (And.intro @ZQS @ZOp) (And.intro @Z059 @ZRx))) (And.intro (And.intro (And.intro @ZVV @ZYG) (And.intro @Z07l @Z077)) (And.intro (And.intro @Z02j @Z05z) (And.intro @Z042 (And.intro @Z06v @Z02e))))) (And.intro (And.intro (And.intro (And.intro @Z0ar @Z0aB) (And.intro @Z08y @Z06O)) (And.intro (And.intro @ZXh @ZSH) (And.intro @ZRt (And.intro @ZVk @ZYZ)))) (And.intro (And.intro (And.intro @ZRP @ZWB) (And.intro @ZP1 @Z02f)) (And.intro (And.intro @Z05H @Z0av) (And.intro @Z07q (And.intro @Z0b3 @b_52))))))
end Go.AM.Ytfmnoohhhokicaa
end
noncomputable section
namespace Go.AM.Ytfmnoohhhokicaa
open Go Go.AM
variable {C : Callee} {B N : Nat} {E0 : AHeap} (φ : AFr) (H : AHeap) (s : St)
def Z9l := kBody Proofs.Try.f24
def ZyB := kL Z9l
def Zhe := kO ZyB
def Zrv := opN Zhe 0
theorem Z07J : XG 24 26 ZyB Zhe [4] := Z1 (by rfl) (by rfl) _
theorem ZYI : Zhe.toList = [Zrv] := nf
theorem ZSm : stepA E C B 26 Zhe Zrv (φ, H) = some (fput φ 4 (.bool false), H) := nf
def Zis := kR Z9l
def Zio := kL Zis
def Zyz := kL Zio
def Z1K := kO Zyz
def Zvo := opN Z1K 0
def ZxC := opN Z1K 1
def Zux := opN Z1K 2
def Zx3 := opN Z1K 3
def Zxo := opN Z1K 4
theorem Z09r : XG 24 26 Zyz Z1K [6, 7, 8, 9] := Z1 (by rfl) (by rfl) _
theorem ZS4 : Z1K.toList = [Zvo, ZxC, Zux, Zx3, Zxo] := nf
theorem ZZV : stepA E C B 26 Z1K Zvo (φ, H) = some (fput φ 6 (fget φ 0), H) := nf
theorem ZYX : stepA E C B 26 Z1K ZxC (φ, H) = stp (some 7) φ H (Z3 E.T (B + 7) .len #[22] [(fget φ 6)]) := nf
theorem ZY9 : stepA E C B 26 Z1K Zux (φ, H) = some (fput φ 8 (fget φ 1), H) := nf
theorem ZPz : stepA E C B 26 Z1K Zx3 (φ, H) = stp (some 9) φ H (Z3 E.T (B + 9) .len #[22] [(fget φ 8)]) := nf
theorem ZUm : stepA E C B 26 Z1K Zxo (φ, H) = stp (some 10) φ H (just (aBin E.T .neq 3 (fget φ 7) (fget φ 9))) := nf
def Zi3 := kR Zio
def ZhQ := kT Zi3
def ZyI := kL ZhQ
def Zil := kO ZyI
def Zyi := opN Zil 0
theorem Z08f : XG 24 26 ZyI Zil [0, 1, 10] := Z1 (by rfl) (by rfl) _
theorem ZW0 : Zil.toList = [Zyi] := nf
theorem ZXZ : stepA E C B 26 Zil Zyi (φ, H) = some (fput φ 4 (.bool false), H) := nf
def ZNz := kR ZhQ
theorem Z0aZ : execA E C (fg 24) B 26 E0 N ZNz s = some (.ret, s) := Zk (by rfl) s
theorem Z07p : XQ 24 26 ZhQ ZyI ZNz := Z0 (by rfl) _
def ZNL := kE Zi3
theorem Z09R : execA E C (fg 24) B 26 E0 N ZNL s = some (.normal, s) := Zb (by rfl) s
theorem Z09V : XC 24 26 Zi3 10 ZhQ ZNL := Z8 (by rfl) _
theorem Z08X : XQ 24 26 Zio Zyz Zi3 := Z0 (by rfl) _
def Za1 := kR Zis
def ZaU := kL Za1
def ZjU := kL ZaU
def ZhS := kO ZjU
def Zrt := opN ZhS 0
theorem Z02Y : XG 24 26 ZjU ZhS [10] := Z1 (by rfl) (by rfl) _
theorem ZWv : ZhS.toList = [Zrt] := nf
theorem ZQA : stepA E C B 26 ZhS Zrt (φ, H) = some (fput φ 5 (.int .i64 0), H) := nf
def ZpQ := kR ZaU
def ZpT := kB ZpQ
def Z4z := kB ZpT
def Z8N := kL Z4z
def ZiD := kL Z8N
def Z2s := kO ZiD
def Zua := opN Z2s 0
def Zx1 := opN Z2s 1
def ZxK := opN Z2s 2
def ZsP := opN Z2s 3
theorem Z04b : XG 24 26 ZiD Z2s [11, 12, 13] := Z1 (by rfl) (by rfl) _
theorem ZOr : Z2s.toList = [Zua, Zx1, ZxK, ZsP] := nf
theorem ZQn : stepA E C B 26 Z2s Zua (φ, H) = some (fput φ 11 (fget φ 5), H) := nf
theorem ZQU : stepA E C B 26 Z2s Zx1 (φ, H) = some (fput φ 12 (fget φ 0), H) := nf
theorem ZYJ : stepA E C B 26 Z2s ZxK (φ, H) = stp (some 13) φ H (Z3 E.T (B + 13) .len #[22] [(fget φ 12)]) := nf
theorem ZUN : stepA E C B 26 Z2s ZsP (φ, H) = stp (some 14) φ H (just (aBin E.T .lss 3 (fget φ 11) (fget φ 13))) := nf
def Zbm := kR Z8N
def ZBz := kT Zbm
theorem Z00J : execA E C (fg 24) B 26 E0 N ZBz s = some (.normal, s) := Zb (by rfl) s
def ZAV := kE Zbm
theorem Z06o : execA E C (fg 24) B 26 E0 N ZAV s = some (.exit 0, s) := ZP (by rfl) s
theorem Z02g : XC 24 26 Zbm 14 ZBz ZAV := Z8 (by rfl) _
theorem Z07k : XQ 24 26 Z8N ZiD Zbm := Z0 (by rfl) _
def Za0 := kR Z4z
def ZiZ := kL Za0
def ZbY := kB ZiZ
def Zpl := kL ZbY
def ZK := kO Zpl
def ZrT := opN ZK 0
def ZvQ := opN ZK 1
def Zvi := opN ZK 2
def ZvB := opN ZK 3
def Zrp := opN ZK 4
def ZwI := opN ZK 5
def ZsG := opN ZK 6
def Zwq := opN ZK 7
def Zw3 := opN ZK 8
theorem Z04n : XD 24 26 Zpl ZK [14, 17, 18, 19, 20, 21, 22, 23, 24] := Z2E (by rfl) (by rfl) _
theorem ZTp : ZK.toList = [ZrT, ZvQ, Zvi, ZvB, Zrp, ZwI, ZsG, Zwq, Zw3] := nf
theorem ZLy : statOk ZK = true := by kernel_rfl
theorem ZLP : drawA E C B 26 ZK s = if neat 26 s = true then drX ZK (runT E C B 26 ZK ZK.toList 0 s) else none := Z1O ZLy s
theorem ZI0 (l : List (Nat × Tr)) : dynOk ZK l = (!writing l || Zl [[], [], [0, 1], [0, 1, 2], [], [], [4, 5], [4, 5, 6], [0, 1, 2, 3, 4, 5, 6, 7]] (Zj l)) := Z1c (by kernel_rfl) l
theorem ZRM : stepT E C B 26 ZK ZrT (φ, H) = some ((fput φ 17 (fget φ 0), H), ⟨false, [], []⟩) := Z6 rfl (Zf rfl rfl)
theorem ZT1 : stepT E C B 26 ZK ZvQ (φ, H) = some ((fput φ 18 (fget φ 5), H), ⟨false, [], []⟩) := Z6 rfl (Zf rfl rfl)
theorem ZOx : stepT E C B 26 ZK Zvi (φ, H) = stpT (some 19) φ H (just (Z2 E.T 22 (fget φ 17) (fget φ 18))) := Z6 rfl (Ze rfl rfl)
theorem ZZB : stepT E C B 26 ZK ZvB (φ, H) = stpT (some 20) φ H (just (aLoad E.T 3 (fget φ 19))) := Z6 rfl (Ze rfl rfl)
theorem ZXi : stepT E C B 26 ZK Zrp (φ, H) = some ((fput φ 21 (fget φ 1), H), ⟨false, [], []⟩) := Z6 rfl (Zf rfl rfl)
theorem ZXY : stepT E C B 26 ZK ZwI (φ, H) = some ((fput φ 22 (fget φ 5), H), ⟨false, [], []⟩) := Z6 rfl (Zf rfl rfl)
theorem ZW6 : stepT E C B 26 ZK ZsG (φ, H) = stpT (some 23) φ H (just (Z2 E.T 22 (fget φ 21) (fget φ 22))) := Z6 rfl (Ze rfl rfl)
theorem ZS0 : stepT E C B 26 ZK Zwq (φ, H) = stpT (some 24) φ H (just (aLoad E.T 3 (fget φ 23))) := Z6 rfl (Ze rfl rfl)
theorem ZRW : stepT E C B 26 ZK Zw3 (φ, H) = stpT (some 25) φ H (just (aBin E.T .neq 3 (fget φ 20) (fget φ 24))) := Z6 rfl (Ze rfl rfl)
def ZbZ := kR ZbY
def Zai := kT ZbZ
def ZiL := kL Zai
def ZhV := kO ZiL
def Zt8 := opN ZhV 0
theorem Z06g : XG 24 26 ZiL ZhV [0, 1, 5, 25] := Z1 (by rfl) (by rfl) _
theorem ZYQ : ZhV.toList = [Zt8] := nf
theorem ZYP : stepA E C B 26 ZhV Zt8 (φ, H) = some (fput φ 4 (.bool false), H) := nf
def ZE7 := kR Zai
theorem Z02b : execA E C (fg 24) B 26 E0 N ZE7 s = some (.ret, s) := Zk (by rfl) s
theorem Z019 : XQ 24 26 Zai ZiL ZE7 := Z0 (by rfl) _
def ZDo := kE ZbZ
theorem Z06H : execA E C (fg 24) B 26 E0 N ZDo s = some (.normal, s) := Zb (by rfl) s
theorem Z06m : XC 24 26 ZbZ 25 Zai ZDo := Z8 (by rfl) _
theorem Z060 : XQ 24 26 ZbY Zpl ZbZ := Z0 (by rfl) _
theorem Z00z : execA E C (fg 24) B 26 E0 N ZiZ s = blockX 1 (fun s => (forget s.1 [25], s.2)) (execA E C (fg 24) B 26 E0 N ZbY s) := Za (by rfl) (by rfl) s
def Zkz := kR Za0
def Z45 := kO Zkz
def Zve := opN Z45 0
def ZwG := opN Z45 1
def ZsJ := opN Z45 2
theorem Z02v : XG 24 26 Zkz Z45 [15, 16] := Z1 (by rfl) (by rfl) _
theorem ZPg : Z45.toList = [Zve, ZwG, ZsJ] := nf
theorem ZZO : stepA E C B 26 Z45 Zve (φ, H) = some (fput φ 15 (fget φ 5), H) := nf
theorem ZZW : stepA E C B 26 Z45 ZwG (φ, H) = stp (some 16) φ H (just (aBin E.T .add 3 (fget φ 15) (.int .i64 1))) := nf
theorem ZSq : stepA E C B 26 Z45 ZsJ (φ, H) = some (fput φ 5 (fget φ 16), H) := nf
theorem Z027 : XQ 24 26 Za0 ZiZ Zkz := Z0 (by rfl) _
theorem Z06E : XQ 24 26 Z4z Z8N Za0 := Z0 (by rfl) _
theorem Z04G : execA E C (fg 24) B 26 E0 N ZpT s = iterA (execA E C (fg 24) B 26 E0 N Z4z) (headA E0) N s := ZY (by rfl) s
theorem Z07j : execA E C (fg 24) B 26 E0 N ZpQ s = blockX 0 (fun s => (forget s.1 [0, 1, 5, 14], s.2)) (execA E C (fg 24) B 26 E0 N ZpT s) := Za (by rfl) (by rfl) s
theorem Z029 : XQ 24 26 ZaU ZjU ZpQ := Z0 (by rfl) _
def Zbw := kR Za1
def Zk7 := kL Zbw
def ZhY := kO Zk7
def ZqW := opN ZhY 0
theorem Z03m : XG 24 26 Zk7 ZhY [] := Z1 (by rfl) (by rfl) _
theorem ZRk : ZhY.toList = [ZqW] := nf
theorem ZYF : stepA E C B 26 ZhY ZqW (φ, H) = some (fput φ 4 (.bool true), H) := nf
def ZBM := kR Zbw
theorem Z02E : execA E C (fg 24) B 26 E0 N ZBM s = some (.ret, s) := Zk (by rfl) s
theorem Z047 : XQ 24 26 Zbw Zk7 ZBM := Z0 (by rfl) _
theorem Z03B : XQ 24 26 Za1 ZaU Zbw := Z0 (by rfl) _
theorem Z07L : XQ 24 26 Zis Zio Za1 := Z0 (by rfl) _
theorem Z0aK : XQ 24 26 Z9l ZyB Zis := Z0 (by rfl) _
theorem Z0aP : fInfo E 24 = some ⟨26, #[.tmp 4], Z9l⟩ := nf
theorem b_24 (args : List AV) : bodyA E C fg N 24 args H B = bodyX E [.tmp 4] (execA E C (fg 24) B 26 H N Z9l (Z5 args 0 [], H)) := Zo Z0aP args H
abbrev F_24 := And.intro (And.intro (And.intro (And.intro (And.intro (And.intro @Z07J @ZYI) (And.intro @ZSm @Z09r)) (And.intro (And.intro @ZS4 @ZZV) (And.intro @ZYX (And.intro @ZY9 @ZPz)))) (And.intro (And.intro (And.intro @ZUm @Z08f) (And.intro @ZW0 @ZXZ)) (And.intro (And.intro @Z0aZ @Z07p) (And.intro @Z09R (And.intro @Z09V @Z08X))))) (And.intro (And.intro (And.intro (And.intro @Z02Y @ZWv) (And.intro @ZQA @Z04b)) (And.intro (And.intro @ZOr @ZQn) (And.intro @ZQU (And.intro @ZYJ @ZUN)))) (And.intro (And.intro (And.intro @Z00J @Z06o) (And.intro @Z02g @Z07k)) (And.intro (And.intro @Z04n @ZTp) (And.intro @ZLP (And.intro @ZI0 @ZRM)))))) (And.intro (And.intro (And.intro (And.intro (And.intro @ZT1 @ZOx) (And.intro @ZZB @ZXi)) (And.intro (And.intro @ZXY @ZW6) (And.intro @ZS0 (And.intro @ZRW @Z06g)))) (And.intro (And.intro (And.intro @ZYQ @ZYP) (And.intro @Z02b @Z019)) (And.intro (And.intro @Z06H @Z06m) (And.intro @Z060 (And.intro @Z00z @Z02v))))) (And.intro (And.intro (And.intro (And.intro @ZPg @ZZO) (And.intro @ZZW @ZSq)) (And.intro (And.intro @Z027 @Z06E) (And.intro @Z04G (And.intro @Z07j @Z029)))) (And.intro (And.intro (And.intro @Z03m @ZRk) (And.intro @ZYF @Z02E)) (And.intro (And.intro @Z047 @Z03B) (And.intro @Z07L (And.intro @Z0aK @b_24))))))
def Z96 := kBody Proofs.Try.f56
def ZzQ := kL Z96
def Z7j := kO ZzQ
def Zv1 := opN Z7j 0
def Zyj := opN Z7j 1
theorem Z087 : XG 56 40 ZzQ Z7j [0, 6] := Z1 (by rfl) (by rfl) _
theorem ZWP : Z7j.toList = [Zv1, Zyj] := nf
theorem ZWo : stepA E C B 40 Z7j Zv1 (φ, H) = stp (some 3) φ H (opBox (B + 3) (acells (fget φ 0))) := nf
theorem ZOc : stepA E C B 40 Z7j Zyj (φ, H) = some (fput φ 6 (.nilsl), H) := nf
def ZhJ := kR Z96
def ZzW := kL ZhJ
def Zhj := kO ZzW
def Zub := opN Zhj 0
theorem Z08K : XG 56 40 ZzW Zhj [] := Z1 (by rfl) (by rfl) _
theorem ZT6 : Zhj.toList = [Zub] := nf
theorem ZVe : stepA E C B 40 Zhj Zub (φ, H) = some (fput φ 7 (.nilsl), H) := nf
def Zip := kR ZhJ
def ZhU := kL Zip
def ZzY := kL ZhU
def Z09 := kO ZzY
def Zv7 := opN Z09 0
def ZvA := opN Z09 1
def Zri := opN Z09 2
def Zwr := opN Z09 3
def Zv4 := opN Z09 4
def ZwS := opN Z09 5
def ZxU := opN Z09 6
def Zt6 := opN Z09 7
def Zrz := opN Z09 8
def Zr3 := opN Z09 9
theorem Z08D : XG 56 40 ZzY Z09 [1, 10, 11, 12, 13, 14, 15, 16] := Z1 (by rfl) (by rfl) _
theorem ZU2 : Z09.toList = [Zv7, ZvA, Zri, Zwr, Zv4, ZwS, ZxU, Zt6, Zrz, Zr3] := nf
theorem ZVc : stepA E C B 40 Z09 Zv7 (φ, H) = stp (some 10) φ H (just (Z0m E.T 49 (fget φ 3) 2)) := nf
theorem ZRN : stepA E C B 40 Z09 ZvA (φ, H) = stp (some 11) φ H (just (Z0m E.T 49 (fget φ 3) 0)) := nf
theorem Z002 : stepA E C B 40 Z09 Zri (φ, H) = stp (some 12) φ H (just (aLoad E.T 5 (fget φ 11))) := nf
theorem ZSU : stepA E C B 40 Z09 Zwr (φ, H) = stp (some 13) φ H (justO (aConv E.T 5 3 (fget φ 12))) := nf
theorem ZWI : stepA E C B 40 Z09 Zv4 (φ, H) = some (fput φ 14 (fget φ 1), H) := nf
theorem ZZD : stepA E C B 40 Z09 ZwS (φ, H) = stp (some 15) φ H (just (aBin E.T .rem 3 (fget φ 13) (fget φ 14))) := nf
theorem ZZK : stepA E C B 40 Z09 ZxU (φ, H) = stp (some 16) φ H (just (aBin E.T .add 3 (.int .i64 1) (fget φ 15))) := nf
theorem ZO6 : stepA E C B 40 Z09 Zt6 (φ, H) = stp (some 17) φ H (just (aSlice E.T 47 (fget φ 10) none (some (fget φ 16)) none)) := nf
theorem ZPG : stepA E C B 40 Z09 Zrz (φ, H) = stp (some 18) φ H (Z3 E.T (B + 18) .len #[93] [(fget φ 17)]) := nf
theorem ZWU : stepA E C B 40 Z09 Zr3 (φ, H) = some (fput φ 19 (.int .i64 0), H) := nf
def ZzS := kR ZhU
def Zzg := kB ZzS
def Z6c := kB Zzg
def Zkr := kL Z6c
def Zhs := kO Zkr
def ZrF := opN Zhs 0
theorem Z02I : XG 56 40 Zkr Zhs [] := Z1 (by rfl) (by rfl) _
theorem ZZp : Zhs.toList = [ZrF] := nf
theorem ZXu : stepA E C B 40 Zhs ZrF (φ, H) = stp (some 20) φ H (just (aBin E.T .lss 3 (fget φ 19) (fget φ 18))) := nf
def Z9U := kR Z6c
def Z9t := kL Z9U
def ZE6 := kT Z9t
theorem Z01J : execA E C (fg 56) B 40 E0 N ZE6 s = some (.normal, s) := Zb (by rfl) s
def ZFg := kE Z9t
theorem Z06f : execA E C (fg 56) B 40 E0 N ZFg s = some (.exit 0, s) := ZP (by rfl) s
theorem Z05X : XC 56 40 Z9t 20 ZE6 ZFg := Z8 (by rfl) _
def Z9K := kR Z9U
def ZiI := kL Z9K
def Z9b := kB ZiI
def ZmR := kL Z9b
def Z40 := kO ZmR
def Zyn := opN Z40 0
def Zxl := opN Z40 1
def Zxn := opN Z40 2
theorem Z01N : XG 56 40 ZmR Z40 [20, 21, 22] := Z1 (by rfl) (by rfl) _
theorem ZTT : Z40.toList = [Zyn, Zxl, Zxn] := nf
theorem ZOg : stepA E C B 40 Z40 Zyn (φ, H) = stp (some 21) φ H (just (Z2 E.T 93 (fget φ 17) (fget φ 19))) := nf
theorem ZYq : stepA E C B 40 Z40 Zxl (φ, H) = stp (some 22) φ H (just (aLoad E.T 5 (fget φ 21))) := nf
theorem ZRC : stepA E C B 40 Z40 Zxn (φ, H) = some (fput φ 9 (fget φ 22), H) := nf
def Zlv := kR Z9b
def ZC := kO Zlv
def Zwv := opN ZC 0
def ZtB := opN ZC 1
def ZrQ := opN ZC 2
def ZvH := opN ZC 3
def Zsx := opN ZC 4
def ZtX := opN ZC 5
def Zs7 := opN ZC 6
def ZxS := opN ZC 7
def Zvm := opN ZC 8
def Zu0 := opN ZC 9
def Zkc := opN ZC 10
def Zmh := opN ZC 11
def ZjL := opN ZC 12
def ZnE := opN ZC 13
theorem Z01Q : XG 56 40 Zlv ZC [9, 23, 24, 25, 26, 27, 28, 29, 30, 31, 32, 33, 34, 35] := Z1 (by rfl) (by rfl) _
theorem ZP8 : ZC.toList = [Zwv, ZtB, ZrQ, ZvH, Zsx, ZtX, Zs7, ZxS, Zvm, Zu0, Zkc, Zmh, ZjL, ZnE] := nf
theorem ZRr : stepA E C B 40 ZC Zwv (φ, H) = some (fput φ 23 (fget φ 7), H) := nf
theorem ZQs : stepA E C B 40 ZC ZtB (φ, H) = some (fput φ 24 (fget φ 9), H) := nf
theorem ZTk : stepA E C B 40 ZC ZrQ (φ, H) = stp (some 25) φ H (justO (aConv E.T 5 3 (fget φ 24))) := nf
theorem ZV8 : stepA E C B 40 ZC ZvH (φ, H) = stp (some 26) φ H (just (Z0m E.T 49 (fget φ 3) 1)) := nf
theorem ZPc : stepA E C B 40 ZC Zsx (φ, H) = stp (some 27) φ H (just (aLoad E.T 5 (fget φ 26))) := nf
theorem ZW8 : stepA E C B 40 ZC ZtX (φ, H) = stp (some 28) φ H (justO (aConv E.T 5 3 (fget φ 27))) := nf
theorem ZRa : stepA E C B 40 ZC Zs7 (φ, H) = some (fput φ 29 (fget φ 2), H) := nf
theorem ZUW : stepA E C B 40 ZC ZxS (φ, H) = stp (some 30) φ H (just (aBin E.T .rem 3 (fget φ 28) (fget φ 29))) := nf
theorem ZV0 : stepA E C B 40 ZC Zvm (φ, H) = stp (some 31) φ H (just (aBin E.T .add 3 (.int .i64 1) (fget φ 30))) := nf
theorem ZV1 : stepA E C B 40 ZC Zu0 (φ, H) = stp (some 32) φ H (just (aBin E.T .add 3 (fget φ 31) (.int .i64 1))) := nf
theorem ZGw : stepA E C B 40 ZC Zkc (φ, H) = stp (some 33) φ H (just (aBin E.T .rem 3 (fget φ 25) (fget φ 32))) := nf
theorem ZN0 : stepA E C B 40 ZC Zmh (φ, H) = stp (some 34) φ H (Z9 E.T (B + 34) 22 1 (evO E φ) [(0, Operand.tmp 33)]) := nf
theorem ZKe : stepA E C B 40 ZC ZjL (φ, H) = stp (some 35) φ H (Z3 E.T (B + 35) .append #[22, 22] [(fget φ 23), (fget φ 34)]) := nf
theorem ZIs : stepA E C B 40 ZC ZnE (φ, H) = some (fput φ 7 (fget φ 35), H) := nf
theorem Z057 : XQ 56 40 Z9b ZmR Zlv := Z0 (by rfl) _
theorem Z02c : execA E C (fg 56) B 40 E0 N ZiI s = blockX 1 (fun s => (forget s.1 [], s.2)) (execA E C (fg 56) B 40 E0 N Z9b s) := Za (by rfl) (by rfl) s
def ZjI := kR Z9K
def Z78 := kO ZjI
def ZrE := opN Z78 0
def Zx8 := opN Z78 1
theorem Z05C : XG 56 40 ZjI Z78 [36] := Z1 (by rfl) (by rfl) _
theorem ZSi : Z78.toList = [ZrE, Zx8] := nf
theorem ZUV : stepA E C B 40 Z78 ZrE (φ, H) = stp (some 36) φ H (just (aBin E.T .add 3 (fget φ 19) (.int .i64 1))) := nf
theorem ZQC : stepA E C B 40 Z78 Zx8 (φ, H) = some (fput φ 19 (fget φ 36), H) := nf
theorem Z01w : XQ 56 40 Z9K ZiI ZjI := Z0 (by rfl) _
theorem Z03A : XQ 56 40 Z9U Z9t Z9K := Z0 (by rfl) _
theorem Z07u : XQ 56 40 Z6c Zkr Z9U := Z0 (by rfl) _
theorem Z07V : execA E C (fg 56) B 40 E0 N Zzg s = iterA (execA E C (fg 56) B 40 E0 N Z6c) (headA E0) N s := ZY (by rfl) s
theorem Z09X : execA E C (fg 56) B 40 E0 N ZzS s = blockX 0 (fun s => (forget s.1 [2, 3, 17, 18, 19, 20], s.2)) (execA E C (fg 56) B 40 E0 N Zzg s) := Za (by rfl) (by rfl) s
theorem Z0a5 : XQ 56 40 ZhU ZzY ZzS := Z0 (by rfl) _
def Z8x := kR Zip
def Zms := kL Z8x
def Z6C := kO Zms
def Zxz := opN Z6C 0
def Zyh := opN Z6C 1
theorem Z02y : XG 56 40 Zms Z6C [37, 38] := Z1 (by rfl) (by rfl) _
theorem ZZz : Z6C.toList = [Zxz, Zyh] := nf
theorem ZRE : stepA E C B 40 Z6C Zxz (φ, H) = some (fput φ 37 (fget φ 7), H) := nf
theorem ZPp : stepA E C B 40 Z6C Zyh (φ, H) = mutX (some 38) φ (C 67 [(fget φ 37)] H (B + 40 * 8)) := nf
def Z9x := kR Z8x
def ZpR := kL Z9x
def Z75 := kO ZpR
def ZwD := opN Z75 0
def ZsR := opN Z75 1
theorem Z05P : XG 56 40 ZpR Z75 [7, 39] := Z1 (by rfl) (by rfl) _
theorem ZYW : Z75.toList = [ZwD, ZsR] := nf
theorem ZT2 : stepA E C B 40 Z75 ZwD (φ, H) = some (fput φ 39 (fget φ 7), H) := nf
theorem ZXy : stepA E C B 40 Z75 ZsR (φ, H) = some (fput φ 6 (fget φ 39), H) := nf
def ZB3 := kR Z9x
theorem Z05s : execA E C (fg 56) B 40 E0 N ZB3 s = some (.ret, s) := Zk (by rfl) s
theorem Z00n : XQ 56 40 Z9x ZpR ZB3 := Z0 (by rfl) _
theorem Z06W : XQ 56 40 Z8x Zms Z9x := Z0 (by rfl) _
theorem Z08p : XQ 56 40 Zip ZhU Z8x := Z0 (by rfl) _
theorem Z08G : XQ 56 40 ZhJ ZzW Zip := Z0 (by rfl) _
theorem Z08u : XQ 56 40 Z96 ZzQ ZhJ := Z0 (by rfl) _
theorem Z095 : fInfo E 56 = some ⟨40, #[.tmp 6], Z96⟩ := nf
theorem b_56 (args : List AV) : bodyA E C fg N 56 args H B = bodyX E [.tmp 6] (execA E C (fg 56) B 40 H N Z96 (Z5 args 0 [], H)) := Zo Z095 args H
abbrev F_56 := And.intro (And.intro (And.intro (And.intro (And.intro (And.intro @Z087 @ZWP) (And.intro @ZWo @ZOc)) (And.intro (And.intro @Z08K @ZT6) (And.intro @ZVe (And.intro @Z08D @ZU2)))) (And.intro (And.intro (And.intro @ZVc @ZRN) (And.intro @Z002 @ZSU)) (And.intro (And.intro @ZWI @ZZD) (And.intro @ZZK (And.intro @ZO6 @ZPG))))) (And.intro (And.intro (And.intro (And.intro @ZWU @Z02I) (And.intro @ZZp @ZXu)) (And.intro (And.intro @Z01J @Z06f) (And.intro @Z05X (And.intro @Z01N @ZTT)))) (And.intro (And.intro (And.intro @ZOg @ZYq) (And.intro @ZRC @Z01Q)) (And.intro (And.intro @ZP8 @ZRr) (And.intro @ZQs (And.intro @ZTk @ZV8)))))) (And.intro (And.intro (And.intro (And.intro (And.intro @ZPc @ZW8) (And.intro @ZRa @ZUW)) (And.intro (And.intro @ZV0 @ZV1) (And.intro @ZGw (And.intro @ZN0 @ZKe)))) (And.intro (And.intro (And.intro @ZIs @Z057) (And.intro @Z02c @Z05C)) (And.intro (And.intro @ZSi @ZUV) (And.intro @ZQC (And.intro @Z01w @Z03A))))) (And.intro (And.intro (And.intro (And.intro @Z07u @Z07V) (And.intro @Z09X @Z0a5)) (And.intro (And.intro @Z02y @ZZz) (And.intro @ZRE (And.intro @ZPp @Z05P)))) (And.intro (And.intro (And.intro @ZYW @ZT2) (And.intro @ZXy (And.intro @Z05s @Z00n))) (And.intro (And.intro @Z06W @Z08p) (And.intro @Z08G (And.intro @Z08u @b_56))))))
def Zhl := kBody Proofs.Try.f67
def Z6n := kO Zhl
def Zuu := opN Z6n 0
def ZxO := opN Z6n 1
theorem Z09K : XG 67 4 Zhl Z6n [0, 2, 3] := Z1 (by rfl) (by rfl) _
theorem ZRq : Z6n.toList = [Zuu, ZxO] := nf
theorem ZPu : stepA E C B 4 Z6n Zuu (φ, H) = some (fput φ 2 (fget φ 0), H) := nf
theorem ZTS : stepA E C B 4 Z6n ZxO (φ, H) = mutX (some 3) φ (C 108 [(fget φ 2), (.clo 109 [])] H (B + 4 * 8)) := nf
theorem Z08T : fInfo E 67 = some ⟨4, #[], Zhl⟩ := nf
theorem b_67 (args : List AV) : bodyA E C fg N 67 args H B = bodyX E [] (execA E C (fg 67) B 4 H N Zhl (Z5 args 0 [], H)) := Zo Z08T args H
abbrev F_67 := And.intro (And.intro @Z09K @ZRq) (And.intro @ZPu (And.intro @ZTS @b_67))
def Z56 := kBody Proofs.Try.f109
def Zjh := kL Z56
def ZbP := kO Zjh
def Zk1 := opN ZbP 0
theorem Z00v : XG 109 8 Zjh ZbP [4] := Z1 (by rfl) (by rfl) _
theorem ZGc : ZbP.toList = [Zk1] := nf
theorem ZMG : stepA E C B 8 ZbP Zk1 (φ, H) = some (fput φ 4 (.int .i64 0), H) := nf
def Z9i := kR Z56
def Zmt := kL Z9i
def Z1x := kO Zmt
def Zoc := opN Z1x 0
def Zkt := opN Z1x 1
def Zjs := opN Z1x 2
def ZiC := opN Z1x 3
theorem Z023 : XG 109 8 Zmt Z1x [0, 1, 5, 6, 7] := Z1 (by rfl) (by rfl) _
theorem ZLx : Z1x.toList = [Zoc, Zkt, Zjs, ZiC] := nf
theorem ZLD : stepA E C B 8 Z1x Zoc (φ, H) = some (fput φ 5 (fget φ 1), H) := nf
theorem ZKz : stepA E C B 8 Z1x Zkt (φ, H) = some (fput φ 6 (fget φ 0), H) := nf
theorem ZMw : stepA E C B 8 Z1x Zjs (φ, H) = stp (some 7) φ H (just (aBin E.T .sub 3 (fget φ 5) (fget φ 6))) := nf
theorem ZN4 : stepA E C B 8 Z1x ZiC (φ, H) = some (fput φ 4 (fget φ 7), H) := nf
def ZAR := kR Z9i
theorem Z02D : execA E C (fg 109) B 8 E0 N ZAR s = some (.ret, s) := Zk (by rfl) s
theorem Z04c : XQ 109 8 Z9i Zmt ZAR := Z0 (by rfl) _
theorem Z05o : XQ 109 8 Z56 Zjh Z9i := Z0 (by rfl) _
theorem Zjf : fInfo E 109 = some ⟨8, #[.tmp 4], Z56⟩ := nf
theorem Z08A (args : List AV) : bodyA E C fg N 109 args H B = bodyX E [.tmp 4] (execA E C (fg 109) B 8 H N Z56 (Z5 args 0 [], H)) := Zo Zjf args H
abbrev Z0aJ := And.intro (And.intro (And.intro @Z00v (And.intro @ZGc @ZMG)) (And.intro @Z023 (And.intro @ZLx @ZLD))) (And.intro (And.intro @ZKz (And.intro @ZMw @ZN4)) (And.intro (And.intro @Z02D @Z04c) (And.intro @Z05o @Z08A)))
def Z5r := kBody Proofs.Try.f106
def ZkC := kL Z5r
def Z93 := kO ZkC
def ZlP := opN Z93 0
theorem Z01t : XG 106 54 ZkC Z93 [2] := Z1 (by rfl) (by rfl) _
theorem ZIh : Z93.toList = [ZlP] := nf
theorem ZNv : stepA E C B 54 Z93 ZlP (φ, H) = some (fput φ 2 (.nilsl), H) := nf
def Zbx := kR Z5r
def Zkl := kL Zbx
def ZbC := kO Zkl
def ZiN := opN ZbC 0
theorem Z018 : XG 106 54 Zkl ZbC [] := Z1 (by rfl) (by rfl) _
theorem ZIc : ZbC.toList = [ZiN] := nf
theorem ZIq : stepA E C B 54 ZbC ZiN (φ, H) = some (fput φ 3 (.nilsl), H) := nf
def Z8Z := kR Zbx
def Zbe := kL Z8Z
def Zor := kL Zbe
def Z2M := kO Zor
def Zqk := opN Z2M 0
def ZiK := opN Z2M 1
def ZjK := opN Z2M 2
theorem Z03T : XG 106 54 Zor Z2M [7] := Z1 (by rfl) (by rfl) _
theorem ZNg : Z2M.toList = [Zqk, ZiK, ZjK] := nf
theorem ZM2 : stepA E C B 54 Z2M Zqk (φ, H) = some (fput φ 7 (fget φ 0), H) := nf
theorem ZLb : stepA E C B 54 Z2M ZiK (φ, H) = stp (some 8) φ H (Z3 E.T (B + 8) .len #[22] [(fget φ 7)]) := nf
theorem ZLv : stepA E C B 54 Z2M ZjK (φ, H) = some (fput φ 9 (.int .i64 0), H) := nf
def Zjq := kR Zbe
def Zq8 := kB Zjq
def Z4L := kB Zq8
def Zdo := kL Z4L
def Zam := kO Zdo
def ZiS := opN Zam 0
theorem ZXe : XG 106 54 Zdo Zam [] := Z1 (by rfl) (by rfl) _
theorem ZK6 : Zam.toList = [ZiS] := nf
theorem ZJZ : stepA E C B 54 Zam ZiS (φ, H) = stp (some 10) φ H (just (aBin E.T .lss 3 (fget φ 9) (fget φ 8))) := nf
def Z6F := kR Z4L
def Z7t := kL Z6F
def Zsg := kT Z7t
theorem ZQ9 : execA E C (fg 106) B 54 E0 N Zsg s = some (.normal, s) := Zb (by rfl) s
def ZrU := kE Z7t
theorem ZXl : execA E C (fg 106) B 54 E0 N ZrU s = some (.exit 0, s) := ZP (by rfl) s
theorem ZTJ : XC 106 54 Z7t 10 Zsg ZrU := Z8 (by rfl) _
def Z7n := kR Z6F
def Zcf := kL Z7n
def Z5P := kB Zcf
def Zdc := kL Z5P
def Z4y := kO Zdc
def ZpY := opN Z4y 0
def ZnJ := opN Z4y 1
theorem ZVK : XG 106 54 Zdc Z4y [10, 11] := Z1 (by rfl) (by rfl) _
theorem ZMo : Z4y.toList = [ZpY, ZnJ] := nf
theorem ZMj : stepA E C B 54 Z4y ZpY (φ, H) = some (fput φ 11 (fget φ 9), H) := nf
theorem ZIT : stepA E C B 54 Z4y ZnJ (φ, H) = some (fput φ 4 (fget φ 11), H) := nf
def Z6Z := kR Z5P
def Zcu := kL Z6Z
def Z2S := kO Zcu
def Zn4 := opN Z2S 0
def ZnZ := opN Z2S 1
def Zlx := opN Z2S 2
theorem ZTs : XG 106 54 Zcu Z2S [12] := Z1 (by rfl) (by rfl) _
theorem ZHe : Z2S.toList = [Zn4, ZnZ, Zlx] := nf
theorem ZMc : stepA E C B 54 Z2S Zn4 (φ, H) = some (fput φ 12 (fget φ 0), H) := nf
theorem ZN6 : stepA E C B 54 Z2S ZnZ (φ, H) = stp (some 13) φ H (Z3 E.T (B + 13) .len #[22] [(fget φ 12)]) := nf
theorem ZMQ : stepA E C B 54 Z2S Zlx (φ, H) = some (fput φ 14 (.int .i64 0), H) := nf
def Zd6 := kR Z6Z
def Zcz := kB Zd6
def Z3e := kB Zcz
def Zdk := kL Z3e
def Z8A := kO Zdk
def Zl2 := opN Z8A 0
theorem ZWH : XG 106 54 Zdk Z8A [] := Z1 (by rfl) (by rfl) _
theorem ZNf : Z8A.toList = [Zl2] := nf
theorem ZJF : stepA E C B 54 Z8A Zl2 (φ, H) = stp (some 15) φ H (just (aBin E.T .lss 3 (fget φ 14) (fget φ 13))) := nf
def Z6i := kR Z3e
def Z6u := kL Z6i
def Zw9 := kT Z6u
theorem ZPm : execA E C (fg 106) B 54 E0 N Zw9 s = some (.normal, s) := Zb (by rfl) s
def Zuq := kE Z6u
theorem ZPO : execA E C (fg 106) B 54 E0 N Zuq s = some (.exit 2, s) := ZP (by rfl) s
theorem ZVb : XC 106 54 Z6u 15 Zw9 Zuq := Z8 (by rfl) _
def Z7g := kR Z6i
def Zcx := kL Z7g
def Z6o := kB Zcx
def Zca := kL Z6o
def Z4k := kO Zca
def Znz := opN Z4k 0
def ZkW := opN Z4k 1
theorem ZYL : XG 106 54 Zca Z4k [15, 16] := Z1 (by rfl) (by rfl) _
theorem ZNh : Z4k.toList = [Znz, ZkW] := nf
theorem ZNl : stepA E C B 54 Z4k Znz (φ, H) = some (fput φ 16 (fget φ 14), H) := nf
theorem ZKm : stepA E C B 54 Z4k ZkW (φ, H) = some (fput φ 5 (fget φ 16), H) := nf
def Z68 := kR Z6o
def Z6O := kL Z68
def Zcn := kL Z6O
def Zv := kO Zcn
def Zpf := opN Zv 0
def Zlw := opN Zv 1
def Zoo := opN Zv 2
def Zna := opN Zv 3
def ZmZ := opN Zv 4
def ZjB := opN Zv 5
def ZjJ := opN Zv 6
def Zn6 := opN Zv 7
def ZnY := opN Zv 8
def Zkb := opN Zv 9
theorem ZYi : XD 106 54 Zcn Zv [17, 18, 19, 20, 21, 22, 23, 24, 25] := Z2E (by rfl) (by rfl) _
theorem ZJE : Zv.toList = [Zpf, Zlw, Zoo, Zna, ZmZ, ZjB, ZjJ, Zn6, ZnY, Zkb] := nf
theorem ZEU : statOk Zv = true := by kernel_rfl
theorem ZER : drawA E C B 54 Zv s = if neat 54 s = true then drX Zv (runT E C B 54 Zv Zv.toList 0 s) else none := Z1O ZEU s
theorem ZEl (l : List (Nat × Tr)) : dynOk Zv l = (!writing l || Zl [[], [], [0, 1], [0, 1, 2], [], [], [4, 5], [4, 5, 6], [0, 1, 2, 3, 4, 5, 6, 7], [0, 1, 2, 3, 4, 5, 6, 7, 8]] (Zj l)) := Z1c (by kernel_rfl) l
theorem ZKS : stepT E C B 54 Zv Zpf (φ, H) = some ((fput φ 17 (fget φ 0), H), ⟨false, [], []⟩) := Z6 rfl (Zf rfl rfl)
theorem ZIA : stepT E C B 54 Zv Zlw (φ, H) = some ((fput φ 18 (fget φ 4), H), ⟨false, [], []⟩) := Z6 rfl (Zf rfl rfl)
theorem ZKT : stepT E C B 54 Zv Zoo (φ, H) = stpT (some 19) φ H (just (Z2 E.T 22 (fget φ 17) (fget φ 18))) := Z6 rfl (Ze rfl rfl)
theorem ZJL : stepT E C B 54 Zv Zna (φ, H) = stpT (some 20) φ H (just (aLoad E.T 3 (fget φ 19))) := Z6 rfl (Ze rfl rfl)
theorem ZJd : stepT E C B 54 Zv ZmZ (φ, H) = some ((fput φ 21 (fget φ 0), H), ⟨false, [], []⟩) := Z6 rfl (Zf rfl rfl)
theorem ZHt : stepT E C B 54 Zv ZjB (φ, H) = some ((fput φ 22 (fget φ 5), H), ⟨false, [], []⟩) := Z6 rfl (Zf rfl rfl)
theorem ZM8 : stepT E C B 54 Zv ZjJ (φ, H) = stpT (some 23) φ H (just (Z2 E.T 22 (fget φ 21) (fget φ 22))) := Z6 rfl (Ze rfl rfl)
theorem ZMI : stepT E C B 54 Zv Zn6 (φ, H) = stpT (some 24) φ H (just (aLoad E.T 3 (fget φ 23))) := Z6 rfl (Ze rfl rfl)
theorem ZH6 : stepT E C B 54 Zv ZnY (φ, H) = stpT (some 25) φ H (just (aBin E.T .sub 3 (fget φ 20) (fget φ 24))) := Z6 rfl (Ze rfl rfl)
theorem ZJT : stepT E C B 54 Zv Zkb (φ, H) = stpT (some 26) φ H (just (aBin E.T .lss 3 (fget φ 25) (.int .i64 2))) := Z6 rfl (Ze rfl rfl)
def Z6D := kR Z6O
def ZuJ := kT Z6D
theorem ZRF : execA E C (fg 106) B 54 E0 N ZuJ s = some (.exit 3, s) := ZP (by rfl) s
def Zvy := kE Z6D
theorem ZUD : execA E C (fg 106) B 54 E0 N Zvy s = some (.normal, s) := Zb (by rfl) s
theorem ZSf : XC 106 54 Z6D 26 ZuJ Zvy := Z8 (by rfl) _
theorem ZY1 : XQ 106 54 Z6O Zcn Z6D := Z0 (by rfl) _
def Z7q := kR Z68
def Zcw := kL Z7q
def Z1p := kO Zcw
def ZlE := opN Z1p 0
def Zpp := opN Z1p 1
def ZmX := opN Z1p 2
def Zmo := opN Z1p 3
theorem ZSr : XG 106 54 Zcw Z1p [26, 27, 28] := Z1 (by rfl) (by rfl) _
theorem ZMx : Z1p.toList = [ZlE, Zpp, ZmX, Zmo] := nf
theorem ZHd : stepA E C B 54 Z1p ZlE (φ, H) = some (fput φ 27 (fget φ 0), H) := nf
theorem ZKi : stepA E C B 54 Z1p Zpp (φ, H) = stp (some 28) φ H (aCall C (fun j => B + j * 54 + 28) true 66 [(fget φ 27)]) := nf
theorem ZGJ : stepA E C B 54 Z1p ZmX (φ, H) = stp (some 6) φ H (opBox (B + 6) (zeroCells E.T 22)) := nf
theorem ZKp : stepA E C B 54 Z1p Zmo (φ, H) = stp none φ H (opStore E.T 22 (fget φ 6) (fget φ 28)) := nf
def Z7z := kR Z7q
def ZdH := kL Z7z
def Z05 := kO ZdH
def ZdK := opN Z05 0
def ZgX := opN Z05 1
def Zga := opN Z05 2
def Zet := opN Z05 3
def ZeY := opN Z05 4
def Zg5 := opN Z05 5
def ZfV := opN Z05 6
theorem ZOi : XG 106 54 ZdH Z05 [29, 30, 31, 32, 33, 34] := Z1 (by rfl) (by rfl) _
theorem ZEn : Z05.toList = [ZdK, ZgX, Zga, Zet, ZeY, Zg5, ZfV] := nf
theorem ZBv : stepA E C B 54 Z05 ZdK (φ, H) = stp (some 29) φ H (just (aLoad E.T 22 (fget φ 6))) := nf
theorem ZAa : stepA E C B 54 Z05 ZgX (φ, H) = some (fput φ 30 (fget φ 4), H) := nf
theorem ZFH : stepA E C B 54 Z05 Zga (φ, H) = stp (some 31) φ H (just (Z2 E.T 22 (fget φ 29) (fget φ 30))) := nf
theorem ZEL : stepA E C B 54 Z05 Zet (φ, H) = stp (some 32) φ H (just (aLoad E.T 3 (fget φ 31))) := nf
theorem ZAl : stepA E C B 54 Z05 ZeY (φ, H) = stp (some 33) φ H (just (aBin E.T .sub 3 (fget φ 32) (.int .i64 1))) := nf
theorem ZAM : stepA E C B 54 Z05 Zg5 (φ, H) = stp (some 34) φ H (just (Z2 E.T 22 (fget φ 29) (fget φ 30))) := nf
theorem ZAr : stepA E C B 54 Z05 ZfV (φ, H) = stp none φ H (opStore E.T 3 (fget φ 34) (fget φ 33)) := nf
def Z6W := kR Z7z
def ZcP := kL Z6W
def Z06 := kO ZcP
def ZgR := opN Z06 0
def Zef := opN Z06 1
def ZeI := opN Z06 2
def Zgt := opN Z06 3
def ZeP := opN Z06 4
def Zer := opN Z06 5
def Zeb := opN Z06 6
theorem ZWM : XG 106 54 ZcP Z06 [5, 35, 36, 37, 38, 39, 40] := Z1 (by rfl) (by rfl) _
theorem ZEw : Z06.toList = [ZgR, Zef, ZeI, Zgt, ZeP, Zer, Zeb] := nf
theorem ZD1 : stepA E C B 54 Z06 ZgR (φ, H) = stp (some 35) φ H (just (aLoad E.T 22 (fget φ 6))) := nf
theorem ZG8 : stepA E C B 54 Z06 Zef (φ, H) = some (fput φ 36 (fget φ 5), H) := nf
theorem ZBK : stepA E C B 54 Z06 ZeI (φ, H) = stp (some 37) φ H (just (Z2 E.T 22 (fget φ 35) (fget φ 36))) := nf
theorem ZAN : stepA E C B 54 Z06 Zgt (φ, H) = stp (some 38) φ H (just (aLoad E.T 3 (fget φ 37))) := nf
theorem ZBu : stepA E C B 54 Z06 ZeP (φ, H) = stp (some 39) φ H (just (aBin E.T .add 3 (fget φ 38) (.int .i64 1))) := nf
theorem ZDa : stepA E C B 54 Z06 Zer (φ, H) = stp (some 40) φ H (just (Z2 E.T 22 (fget φ 35) (fget φ 36))) := nf
theorem ZBR : stepA E C B 54 Z06 Zeb (φ, H) = stp none φ H (opStore E.T 3 (fget φ 40) (fget φ 39)) := nf
def Z6l := kR Z6W
def Zdf := kL Z6l
def Z3n := kO Zdf
def ZdR := opN Z3n 0
def ZfS := opN Z3n 1
theorem ZRs : XG 106 54 Zdf Z3n [41, 42] := Z1 (by rfl) (by rfl) _
theorem ZCF : Z3n.toList = [ZdR, ZfS] := nf
theorem ZFN : stepA E C B 54 Z3n ZdR (φ, H) = stp (some 41) φ H (just (aLoad E.T 22 (fget φ 6))) := nf
theorem ZCD : stepA E C B 54 Z3n ZfS (φ, H) = mutX (some 42) φ (C 67 [(fget φ 41)] H (B + 54 * 8)) := nf
def Z67 := kR Z6l
def Zcv := kL Z67
def Z15 := kO Zcv
def Zgs := opN Z15 0
def ZgH := opN Z15 1
def Zh2 := opN Z15 2
def Zgr := opN Z15 3
theorem ZP4 : XG 106 54 Zcv Z15 [43, 44, 45] := Z1 (by rfl) (by rfl) _
theorem ZDF : Z15.toList = [Zgs, ZgH, Zh2, Zgr] := nf
theorem ZDp : stepA E C B 54 Z15 Zgs (φ, H) = some (fput φ 43 (fget φ 3), H) := nf
theorem ZFO : stepA E C B 54 Z15 ZgH (φ, H) = stp (some 44) φ H (.pure (.clo 120 [(fget φ 6)], [])) := nf
theorem ZFx : stepA E C B 54 Z15 Zh2 (φ, H) = stp (some 45) φ H (aCall C (fun j => B + j * 54 + 45) true 73 [(fget φ 43), (fget φ 44)]) := nf
theorem ZCi : stepA E C B 54 Z15 Zgr (φ, H) = stp (some 46) φ H (justO (aUn .not (fget φ 45))) := nf
def Z6g := kR Z67
def Zdx := kT Z6g
def Z0s := kO Zdx
def Zgd := opN Z0s 0
def ZfI := opN Z0s 1
def ZeA := opN Z0s 2
def ZfO := opN Z0s 3
def ZgO := opN Z0s 4
theorem ZWg : XG 106 54 Zdx Z0s [6, 46, 47, 48, 49, 50] := Z1 (by rfl) (by rfl) _
theorem ZDP : Z0s.toList = [Zgd, ZfI, ZeA, ZfO, ZgO] := nf
theorem ZDU : stepA E C B 54 Z0s Zgd (φ, H) = some (fput φ 47 (fget φ 3), H) := nf
theorem ZEd : stepA E C B 54 Z0s ZfI (φ, H) = stp (some 48) φ H (just (aLoad E.T 22 (fget φ 6))) := nf
theorem ZCW : stepA E C B 54 Z0s ZeA (φ, H) = stp (some 49) φ H (Z9 E.T (B + 49) 39 1 (evO E φ) [(0, Operand.tmp 48)]) := nf
theorem ZE2 : stepA E C B 54 Z0s ZfO (φ, H) = stp (some 50) φ H (Z3 E.T (B + 50) .append #[39, 39] [(fget φ 47), (fget φ 49)]) := nf
theorem ZFC : stepA E C B 54 Z0s ZgO (φ, H) = some (fput φ 3 (fget φ 50), H) := nf
def ZwT := kE Z6g
theorem ZTD : execA E C (fg 106) B 54 E0 N ZwT s = some (.normal, s) := Zb (by rfl) s
theorem ZRT : XC 106 54 Z6g 46 Zdx ZwT := Z8 (by rfl) _
theorem ZTF : XQ 106 54 Z67 Zcv Z6g := Z0 (by rfl) _
theorem ZPD : XQ 106 54 Z6l Zdf Z67 := Z0 (by rfl) _
theorem ZZq : XQ 106 54 Z6W ZcP Z6l := Z0 (by rfl) _
theorem Z006 : XQ 106 54 Z7z ZdH Z6W := Z0 (by rfl) _
theorem ZWy : XQ 106 54 Z7q Zcw Z7z := Z0 (by rfl) _
theorem ZOt : XQ 106 54 Z68 Z6O Z7q := Z0 (by rfl) _
theorem ZUd : XQ 106 54 Z6o Zca Z68 := Z0 (by rfl) _
theorem ZW7 : execA E C (fg 106) B 54 E0 N Zcx s = blockX 3 (fun s => (forget s.1 [5, 6, 26, 46], s.2)) (execA E C (fg 106) B 54 E0 N Z6o s) := Za (by rfl) (by rfl) s
def Zcq := kR Z7g
def Z36 := kO Zcq
def Zfv := opN Z36 0
def Zeu := opN Z36 1
theorem ZOf : XG 106 54 Zcq Z36 [51] := Z1 (by rfl) (by rfl) _
theorem ZAq : Z36.toList = [Zfv, Zeu] := nf
theorem ZAO : stepA E C B 54 Z36 Zfv (φ, H) = stp (some 51) φ H (just (aBin E.T .add 3 (fget φ 14) (.int .i64 1))) := nf
theorem ZBd : stepA E C B 54 Z36 Zeu (φ, H) = some (fput φ 14 (fget φ 51), H) := nf
theorem ZXJ : XQ 106 54 Z7g Zcx Zcq := Z0 (by rfl) _
theorem ZVQ : XQ 106 54 Z6i Z6u Z7g := Z0 (by rfl) _
theorem ZXW : XQ 106 54 Z3e Zdk Z6i := Z0 (by rfl) _
theorem ZSZ : execA E C (fg 106) B 54 E0 N Zcz s = iterA (execA E C (fg 106) B 54 E0 N Z3e) (headA E0) N s := ZY (by rfl) s
theorem ZXa : execA E C (fg 106) B 54 E0 N Zd6 s = blockX 2 (fun s => (forget s.1 [4, 13, 14, 15], s.2)) (execA E C (fg 106) B 54 E0 N Zcz s) := Za (by rfl) (by rfl) s
theorem ZWi : XQ 106 54 Z6Z Zcu Zd6 := Z0 (by rfl) _
theorem ZO5 : XQ 106 54 Z5P Zdc Z6Z := Z0 (by rfl) _
theorem ZQI : execA E C (fg 106) B 54 E0 N Zcf s = blockX 1 (fun s => (forget s.1 [], s.2)) (execA E C (fg 106) B 54 E0 N Z5P s) := Za (by rfl) (by rfl) s
def Zd1 := kR Z7n
def Z3a := kO Zd1
def Zfj := opN Z3a 0
def Zez := opN Z3a 1
theorem ZOQ : XG 106 54 Zd1 Z3a [52] := Z1 (by rfl) (by rfl) _
theorem ZBO : Z3a.toList = [Zfj, Zez] := nf
theorem ZB9 : stepA E C B 54 Z3a Zfj (φ, H) = stp (some 52) φ H (just (aBin E.T .add 3 (fget φ 9) (.int .i64 1))) := nf
theorem ZCt : stepA E C B 54 Z3a Zez (φ, H) = some (fput φ 9 (fget φ 52), H) := nf
theorem ZQe : XQ 106 54 Z7n Zcf Zd1 := Z0 (by rfl) _
theorem ZYD : XQ 106 54 Z6F Z7t Z7n := Z0 (by rfl) _
theorem Z03c : XQ 106 54 Z4L Zdo Z6F := Z0 (by rfl) _
theorem Z06K : execA E C (fg 106) B 54 E0 N Zq8 s = iterA (execA E C (fg 106) B 54 E0 N Z4L) (headA E0) N s := ZY (by rfl) s
theorem Z05e : execA E C (fg 106) B 54 E0 N Zjq s = blockX 0 (fun s => (forget s.1 [0, 8, 9, 10], s.2)) (execA E C (fg 106) B 54 E0 N Zq8 s) := Za (by rfl) (by rfl) s
theorem Z06r : XQ 106 54 Zbe Zor Zjq := Z0 (by rfl) _
def Z6A := kR Z8Z
def Zc8 := kL Z6A
def Z3c := kO Zc8
def ZfP := opN Z3c 0
def Zf6 := opN Z3c 1
theorem ZV9 : XG 106 54 Zc8 Z3c [3, 53] := Z1 (by rfl) (by rfl) _
theorem ZCH : Z3c.toList = [ZfP, Zf6] := nf
theorem ZBU : stepA E C B 54 Z3c ZfP (φ, H) = some (fput φ 53 (fget φ 3), H) := nf
theorem ZAK : stepA E C B 54 Z3c Zf6 (φ, H) = some (fput φ 2 (fget φ 53), H) := nf
def ZvP := kR Z6A
theorem ZV7 : execA E C (fg 106) B 54 E0 N ZvP s = some (.ret, s) := Zk (by rfl) s
theorem ZPZ : XQ 106 54 Z6A Zc8 ZvP := Z0 (by rfl) _
theorem Z01F : XQ 106 54 Z8Z Zbe Z6A := Z0 (by rfl) _
theorem Z035 : XQ 106 54 Zbx Zkl Z8Z := Z0 (by rfl) _
theorem Z02K : XQ 106 54 Z5r ZkC Zbx := Z0 (by rfl) _
theorem Z03p : fInfo E 106 = some ⟨54, #[.tmp 2], Z5r⟩ := nf
theorem Z08M (args : List AV) : bodyA E C fg N 106 args H B = bodyX E [.tmp 2] (execA E C (fg 106) B 54 H N Z5r (Z5 args 0 [], H)) := Zo Z03p args H
abbrev Z2b := And.intro (And.intro (And.intro (And.intro (And.intro (And.intro (And.intro @Z01t @ZIh) (And.intro @ZNv @Z018)) (And.intro (And.intro @ZIc @ZIq) (And.intro @Z03T @ZNg))) (And.intro (And.intro (And.intro @ZM2 @ZLb) (And.intro @ZLv @ZXe)) (And.intro (And.intro @ZK6 @ZJZ) (And.intro @ZQ9 (And.intro @ZXl @ZTJ))))) (And.intro (And.intro (And.intro (And.intro @ZVK @ZMo) (And.intro @ZMj @ZIT)) (And.intro (And.intro @ZTs @ZHe) (And.intro @ZMc @ZN6))) (And.intro (And.intro (And.intro @ZMQ @ZWH) (And.intro @ZNf @ZJF)) (And.intro (And.intro @ZPm @ZPO) (And.intro @ZVb (And.intro @ZYL @ZNh)))))) (And.intro (And.intro (And.intro (And.intro (And.intro @ZNl @ZKm) (And.intro @ZYi @ZJE)) (And.intro (And.intro @ZER @ZEl) (And.intro @ZKS @ZIA))) (And.intro (And.intro (And.intro @ZKT @ZJL) (And.intro @ZJd @ZHt)) (And.intro (And.intro @ZM8 @ZMI) (And.intro @ZH6 (And.intro @ZJT @ZRF))))) (And.intro (And.intro (And.intro (And.intro @ZUD @ZSf) (And.intro @ZY1 @ZSr)) (And.intro (And.intro @ZMx @ZHd) (And.intro @ZKi @ZGJ))) (And.intro (And.intro (And.intro @ZKp @ZOi) (And.intro @ZEn @ZBv)) (And.intro (And.intro @ZAa @ZFH) (And.intro @ZEL (And.intro @ZAl @ZAM))))))) (And.intro (And.intro (And.intro (And.intro (And.intro (And.intro @ZAr @ZWM) (And.intro @ZEw @ZD1)) (And.intro (And.intro @ZG8 @ZBK) (And.intro @ZAN @ZBu))) (And.intro (And.intro (And.intro @ZDa @ZBR) (And.intro @ZRs @ZCF)) (And.intro (And.intro @ZFN @ZCD) (And.intro @ZP4 (And.intro @ZDF @ZDp))))) (And.intro (And.intro (And.intro (And.intro @ZFO @ZFx) (And.intro @ZCi @ZWg)) (And.intro (And.intro @ZDP @ZDU) (And.intro @ZEd @ZCW))) (And.intro (And.intro (And.intro @ZE2 @ZFC) (And.intro @ZTD @ZRT)) (And.intro (And.intro @ZTF @ZPD) (And.intro @ZZq (And.intro @Z006 @ZWy)))))) (And.intro (And.intro (And.intro (And.intro (And.intro @ZOt @ZUd) (And.intro @ZW7 @ZOf)) (And.intro (And.intro @ZAq @ZAO) (And.intro @ZBd @ZXJ))) (And.intro (And.intro (And.intro @ZVQ @ZXW) (And.intro @ZSZ @ZXa)) (And.intro (And.intro @ZWi @ZO5) (And.intro @ZQI (And.intro @ZOQ @ZBO))))) (And.intro (And.intro (And.intro (And.intro @ZB9 @ZCt) (And.intro @ZQe @ZYD)) (And.intro (And.intro @Z03c @Z06K) (And.intro @Z05e (And.intro @Z06r @ZV9)))) (And.intro (And.intro (And.intro @ZCH @ZBU) (And.intro @ZAK @ZV7)) (And.intro (And.intro @ZPZ @Z01F) (And.intro @Z035 (And.intro @Z02K @Z08M)))))))
def Z5g := kBody Proofs.Try.f120
def Zix := kL Z5g
def Z8I := kO Zix
def ZnM := opN Z8I 0
theorem Z038 : XG 120 7 Zix Z8I [3] := Z1 (by rfl) (by rfl) _
theorem ZKj : Z8I.toList = [ZnM] := nf
theorem ZHm : stepA E C B 7 Z8I ZnM (φ, H) = some (fput φ 3 (.bool false), H) := nf
def ZaN := kR Z5g
def Zlb := kL ZaN
def Z1y := kO Zlb
def Zq0 := opN Z1y 0
def ZnN := opN Z1y 1
def Znm := opN Z1y 2
def ZlN := opN Z1y 3
theorem Z00G : XG 120 7 Zlb Z1y [0, 1, 4, 5, 6] := Z1 (by rfl) (by rfl) _
theorem ZNw : Z1y.toList = [Zq0, ZnN, Znm, ZlN] := nf
theorem ZNs : stepA E C B 7 Z1y Zq0 (φ, H) = some (fput φ 4 (fget φ 0), H) := nf
theorem ZHk : stepA E C B 7 Z1y ZnN (φ, H) = stp (some 5) φ H (just (aLoad E.T 22 (fget φ 1))) := nf
theorem ZHM : stepA E C B 7 Z1y Znm (φ, H) = stp (some 6) φ H (aCall C (fun j => B + j * 7 + 6) true 24 [(fget φ 4), (fget φ 5)]) := nf
theorem ZLm : stepA E C B 7 Z1y ZlN (φ, H) = some (fput φ 3 (fget φ 6), H) := nf
def ZFJ := kR ZaN
theorem Z040 : execA E C (fg 120) B 7 E0 N ZFJ s = some (.ret, s) := Zk (by rfl) s
theorem Z06w : XQ 120 7 ZaN Zlb ZFJ := Z0 (by rfl) _
theorem Z00F : XQ 120 7 Z5g Zix ZaN := Z0 (by rfl) _
theorem ZFE : fInfo E 120 = some ⟨7, #[.tmp 3], Z5g⟩ := nf
theorem Z09B (args : List AV) : bodyA E C fg N 120 args H B = bodyX E [.tmp 3] (execA E C (fg 120) B 7 H N Z5g (Z5 args 0 [], H)) := Zo ZFE args H
abbrev Z09i := And.intro (And.intro (And.intro @Z038 (And.intro @ZKj @ZHm)) (And.intro @Z00G (And.intro @ZNw @ZNs))) (And.intro (And.intro @ZHk (And.intro @ZHM @ZLm)) (And.intro (And.intro @Z040 @Z06w) (And.intro @Z00F @Z09B)))
def Z9N := kBody Proofs.Try.f63
def Zz2 := kL Z9N
def Z7i := kO Zz2
def ZxM := opN Z7i 0
def Zug := opN Z7i 1
theorem Z08g : XG 63 47 Zz2 Z7i [2, 3] := Z1 (by rfl) (by rfl) _
theorem ZQD : Z7i.toList = [ZxM, Zug] := nf
theorem ZRe : stepA E C B 47 Z7i ZxM (φ, H) = some (fput φ 2 (.nilsl), H) := nf
theorem ZVr : stepA E C B 47 Z7i Zug (φ, H) = some (fput φ 3 (.nilsl), H) := nf
def Zhx := kR Z9N
def ZA0 := kL Zhx
def Z1J := kO ZA0
def ZvZ := opN Z1J 0
def Zu9 := opN Z1J 1
def ZrX := opN Z1J 2
def ZrK := opN Z1J 3
def Zsh := opN Z1J 4
theorem Z0b9 : XG 63 47 ZA0 Z1J [0, 9, 10, 11] := Z1 (by rfl) (by rfl) _
theorem ZPS : Z1J.toList = [ZvZ, Zu9, ZrX, ZrK, Zsh] := nf
theorem ZZZ : stepA E C B 47 Z1J ZvZ (φ, H) = some (fput φ 9 (fget φ 0), H) := nf
theorem ZW3 : stepA E C B 47 Z1J Zu9 (φ, H) = stp (some 10) φ H (Z9 E.T (B + 10) 39 1 (evO E φ) [(0, Operand.tmp 9)]) := nf
theorem ZVU : stepA E C B 47 Z1J ZrX (φ, H) = stp (some 11) φ H (Z9 E.T (B + 11) 22 1 (evO E φ) [(0, Operand.const (Value.int .i64 0))]) := nf
theorem ZWF : stepA E C B 47 Z1J ZrK (φ, H) = some (fput φ 4 (fget φ 10), H) := nf
theorem ZT4 : stepA E C B 47 Z1J Zsh (φ, H) = some (fput φ 5 (fget φ 11), H) := nf
def Zi7 := kR Zhx
def Zhd := kL Zi7
def Zz9 := kL Zhd
def ZhI := kO Zz9
def ZtP := opN ZhI 0
theorem Z0ad : XG 63 47 Zz9 ZhI [] := Z1 (by rfl) (by rfl) _
theorem ZYh : ZhI.toList = [ZtP] := nf
theorem ZZ0 : stepA E C B 47 ZhI ZtP (φ, H) = some (fput φ 6 (.int .i64 0), H) := nf
def Zzd := kR Zhd
def Zz0 := kB Zzd
def Z6I := kB Zz0
def Zbk := kL Z6I
def ZiW := kL Zbk
def Z2f := kO ZiW
def Zuj := opN Z2f 0
def Zvb := opN Z2f 1
def Zsb := opN Z2f 2
def Zrn := opN Z2f 3
theorem Z00D : XG 63 47 ZiW Z2f [12, 13, 14] := Z1 (by rfl) (by rfl) _
theorem ZY5 : Z2f.toList = [Zuj, Zvb, Zsb, Zrn] := nf
theorem ZWa : stepA E C B 47 Z2f Zuj (φ, H) = some (fput φ 12 (fget φ 6), H) := nf
theorem ZTg : stepA E C B 47 Z2f Zvb (φ, H) = some (fput φ 13 (fget φ 4), H) := nf
theorem ZXq : stepA E C B 47 Z2f Zsb (φ, H) = stp (some 14) φ H (Z3 E.T (B + 14) .len #[39] [(fget φ 13)]) := nf
theorem ZOR : stepA E C B 47 Z2f Zrn (φ, H) = stp (some 15) φ H (just (aBin E.T .lss 3 (fget φ 12) (fget φ 14))) := nf
def Zbb := kR Zbk
def ZC2 := kT Zbb
theorem Z02N : execA E C (fg 63) B 47 E0 N ZC2 s = some (.normal, s) := Zb (by rfl) s
def ZEy := kE Zbb
theorem Z00p : execA E C (fg 63) B 47 E0 N ZEy s = some (.exit 0, s) := ZP (by rfl) s
theorem Z02B : XC 63 47 Zbb 15 ZC2 ZEy := Z8 (by rfl) _
theorem Z03D : XQ 63 47 Zbk ZiW Zbb := Z0 (by rfl) _
def Zap := kR Z6I
def Zj6 := kL Zap
def Z99 := kB Zj6
def Zpo := kL Z99
def Z0E := kO Zpo
def Zsp := opN Z0E 0
def ZwP := opN Z0E 1
def Zwx := opN Z0E 2
def Zw5 := opN Z0E 3
def ZuN := opN Z0E 4
def Zud := opN Z0E 5
def ZsI := opN Z0E 6
theorem Z037 : XG 63 47 Zpo Z0E [15, 18, 19, 20, 21] := Z1 (by rfl) (by rfl) _
theorem ZXT : Z0E.toList = [Zsp, ZwP, Zwx, Zw5, ZuN, Zud, ZsI] := nf
theorem ZQX : stepA E C B 47 Z0E Zsp (φ, H) = some (fput φ 18 (fget φ 4), H) := nf
theorem ZPo : stepA E C B 47 Z0E ZwP (φ, H) = some (fput φ 19 (fget φ 6), H) := nf
theorem ZTv : stepA E C B 47 Z0E Zwx (φ, H) = stp (some 20) φ H (just (Z2 E.T 39 (fget φ 18) (fget φ 19))) := nf
theorem ZYR : stepA E C B 47 Z0E Zw5 (φ, H) = stp (some 21) φ H (just (aLoad E.T 22 (fget φ 20))) := nf
theorem ZQk : stepA E C B 47 Z0E ZuN (φ, H) = stp (some 22) φ H (aCall C (fun j => B + j * 47 + 22) true 106 [(fget φ 21)]) := nf
theorem ZRV : stepA E C B 47 Z0E Zud (φ, H) = stp (some 23) φ H (Z3 E.T (B + 23) .len #[39] [(fget φ 22)]) := nf
theorem ZRj : stepA E C B 47 Z0E ZsI (φ, H) = some (fput φ 24 (.int .i64 0), H) := nf
def ZiQ := kR Z99
def Zpt := kB ZiQ
def Z3u := kB Zpt
def Ziy := kL Z3u
def Zin := kO Ziy
def Zu4 := opN Zin 0
theorem Z076 : XG 63 47 Ziy Zin [] := Z1 (by rfl) (by rfl) _
theorem ZOJ : Zin.toList = [Zu4] := nf
theorem ZSR : stepA E C B 47 Zin Zu4 (φ, H) = stp (some 25) φ H (just (aBin E.T .lss 3 (fget φ 24) (fget φ 23))) := nf
def Z8n := kR Z3u
def ZaJ := kL Z8n
def ZC6 := kT ZaJ
theorem Z02T : execA E C (fg 63) B 47 E0 N ZC6 s = some (.normal, s) := Zb (by rfl) s
def ZFo := kE ZaJ
theorem Z05I : execA E C (fg 63) B 47 E0 N ZFo s = some (.exit 2, s) := ZP (by rfl) s
theorem Z026 : XC 63 47 ZaJ 25 ZC6 ZFo := Z8 (by rfl) _
def ZbA := kR Z8n
def Zqf := kL ZbA
def Z8B := kB Zqf
def ZqA := kL Z8B
def Z2o := kO ZqA
def ZrW := opN Z2o 0
def ZvI := opN Z2o 1
def ZsX := opN Z2o 2
def ZuW := opN Z2o 3
theorem Z01O : XG 63 47 ZqA Z2o [25, 26, 27] := Z1 (by rfl) (by rfl) _
theorem ZYY : Z2o.toList = [ZrW, ZvI, ZsX, ZuW] := nf
theorem ZSX : stepA E C B 47 Z2o ZrW (φ, H) = stp (some 26) φ H (just (Z2 E.T 39 (fget φ 22) (fget φ 24))) := nf
theorem ZQa : stepA E C B 47 Z2o ZvI (φ, H) = stp (some 27) φ H (just (aLoad E.T 22 (fget φ 26))) := nf
theorem ZZi : stepA E C B 47 Z2o ZsX (φ, H) = stp (some 8) φ H (opBox (B + 8) (zeroCells E.T 22)) := nf
theorem ZP7 : stepA E C B 47 Z2o ZuW (φ, H) = stp none φ H (opStore E.T 22 (fget φ 8) (fget φ 27)) := nf
def Z9u := kR Z8B
def Zp9 := kL Z9u
def Z2c := kO Zp9
def ZvJ := opN Z2c 0
def Zvt := opN Z2c 1
def Zvh := opN Z2c 2
def Zvu := opN Z2c 3
theorem Z054 : XG 63 47 Zp9 Z2c [28, 29, 30] := Z1 (by rfl) (by rfl) _
theorem ZQT : Z2c.toList = [ZvJ, Zvt, Zvh, Zvu] := nf
theorem ZWD : stepA E C B 47 Z2c ZvJ (φ, H) = some (fput φ 28 (fget φ 4), H) := nf
theorem ZRu : stepA E C B 47 Z2c Zvt (φ, H) = stp (some 29) φ H (.pure (.clo 107 [(fget φ 8)], [])) := nf
theorem ZU7 : stepA E C B 47 Z2c Zvh (φ, H) = stp (some 30) φ H (aCall C (fun j => B + j * 47 + 30) true 73 [(fget φ 28), (fget φ 29)]) := nf
theorem ZR5 : stepA E C B 47 Z2c Zvu (φ, H) = stp (some 31) φ H (justO (aUn .not (fget φ 30))) := nf
def Z9H := kR Z9u
def Zod := kT Z9H
def Zs := kO Zod
def ZwA := opN Zs 0
def ZrS := opN Zs 1
def Zx9 := opN Zs 2
def Zw2 := opN Zs 3
def Zye := opN Zs 4
def ZsB := opN Zs 5
def Zth := opN Zs 6
def ZrG := opN Zs 7
def Zxv := opN Zs 8
def ZvK := opN Zs 9
def Znn := opN Zs 10
def Zkq := opN Zs 11
def ZlW := opN Zs 12
def ZkJ := opN Zs 13
theorem Z01I : XD 63 47 Zod Zs [8, 31, 32, 33, 34, 35, 36, 37, 38, 39, 40, 41, 42, 43] := Z2E (by rfl) (by rfl) _
theorem ZPh : Zs.toList = [ZwA, ZrS, Zx9, Zw2, Zye, ZsB, Zth, ZrG, Zxv, ZvK, Znn, Zkq, ZlW, ZkJ] := nf
theorem ZHA : statOk Zs = true := by kernel_rfl
theorem ZHq : drawA E C B 47 Zs s = if neat 47 s = true then drX Zs (runT E C B 47 Zs Zs.toList 0 s) else none := Z1O ZHA s
theorem ZGz (l : List (Nat × Tr)) : dynOk Zs l = (!writing l || Zl [[], [], [1], [0, 1, 2], [], [], [], [5, 6], [5, 6, 7], [5, 6, 7, 8], [5, 6, 7, 8, 9], [0, 1, 2, 3, 4, 5, 6, 7, 8, 9, 10], [0, 1, 2, 3, 4, 5, 6, 7, 8, 9, 10, 11], [0, 1, 2, 3, 4, 5, 6, 7, 8, 9, 10, 11, 12]] (Zj l)) := Z1c (by kernel_rfl) l
theorem ZVa : stepT E C B 47 Zs ZwA (φ, H) = some ((fput φ 32 (fget φ 4), H), ⟨false, [], []⟩) := Z6 rfl (Zf rfl rfl)
theorem ZOd : stepT E C B 47 Zs ZrS (φ, H) = stpT (some 33) φ H (just (aLoad E.T 22 (fget φ 8))) := Z6 rfl (Ze rfl rfl)
theorem ZPH : stepT E C B 47 Zs Zx9 (φ, H) = stpT (some 34) φ H (Z9 E.T (B + 34) 39 1 (evO E φ) [(0, Operand.tmp 33)]) := Z6 rfl (Ze rfl rfl)
theorem ZPJ : stepT E C B 47 Zs Zw2 (φ, H) = stpT (some 35) φ H (Z3 E.T (B + 35) .append #[39, 39] [(fget φ 32), (fget φ 34)]) := Z6 rfl (Ze rfl rfl)
theorem ZR2 : stepT E C B 47 Zs Zye (φ, H) = some ((fput φ 36 (fget φ 5), H), ⟨false, [], []⟩) := Z6 rfl (Zf rfl rfl)
theorem ZPs : stepT E C B 47 Zs ZsB (φ, H) = some ((fput φ 37 (fget φ 5), H), ⟨false, [], []⟩) := Z6 rfl (Zf rfl rfl)
theorem ZVu : stepT E C B 47 Zs Zth (φ, H) = some ((fput φ 38 (fget φ 6), H), ⟨false, [], []⟩) := Z6 rfl (Zf rfl rfl)
theorem ZQl : stepT E C B 47 Zs ZrG (φ, H) = stpT (some 39) φ H (just (Z2 E.T 22 (fget φ 37) (fget φ 38))) := Z6 rfl (Ze rfl rfl)
theorem ZXd : stepT E C B 47 Zs Zxv (φ, H) = stpT (some 40) φ H (just (aLoad E.T 3 (fget φ 39))) := Z6 rfl (Ze rfl rfl)
theorem ZRf : stepT E C B 47 Zs ZvK (φ, H) = stpT (some 41) φ H (just (aBin E.T .add 3 (fget φ 40) (.int .i64 1))) := Z6 rfl (Ze rfl rfl)
theorem ZIR : stepT E C B 47 Zs Znn (φ, H) = stpT (some 42) φ H (Z9 E.T (B + 42) 22 1 (evO E φ) [(0, Operand.tmp 41)]) := Z6 rfl (Ze rfl rfl)
theorem ZKF : stepT E C B 47 Zs Zkq (φ, H) = stpT (some 43) φ H (Z3 E.T (B + 43) .append #[22, 22] [(fget φ 36), (fget φ 42)]) := Z6 rfl (Ze rfl rfl)
theorem ZJu : stepT E C B 47 Zs ZlW (φ, H) = some ((fput φ 4 (fget φ 35), H), ⟨false, [], []⟩) := Z6 rfl (Zf rfl rfl)
theorem ZLZ : stepT E C B 47 Zs ZkJ (φ, H) = some ((fput φ 5 (fget φ 43), H), ⟨false, [], []⟩) := Z6 rfl (Zf rfl rfl)
def ZAc := kE Z9H
theorem Z044 : execA E C (fg 63) B 47 E0 N ZAc s = some (.normal, s) := Zb (by rfl) s
theorem Z02z : XC 63 47 Z9H 31 Zod ZAc := Z8 (by rfl) _
theorem Z01r : XQ 63 47 Z9u Zp9 Z9H := Z0 (by rfl) _
theorem Z01x : XQ 63 47 Z8B ZqA Z9u := Z0 (by rfl) _
theorem Z012 : execA E C (fg 63) B 47 E0 N Zqf s = blockX 3 (fun s => (forget s.1 [8, 31], s.2)) (execA E C (fg 63) B 47 E0 N Z8B s) := Za (by rfl) (by rfl) s
def ZlH := kR ZbA
def Z4i := kO ZlH
def ZiB := opN Z4i 0
def Znj := opN Z4i 1
theorem Z04w : XG 63 47 ZlH Z4i [44] := Z1 (by rfl) (by rfl) _
theorem ZHn : Z4i.toList = [ZiB, Znj] := nf
theorem ZMv : stepA E C B 47 Z4i ZiB (φ, H) = stp (some 44) φ H (just (aBin E.T .add 3 (fget φ 24) (.int .i64 1))) := nf
theorem ZMn : stepA E C B 47 Z4i Znj (φ, H) = some (fput φ 24 (fget φ 44), H) := nf
theorem Z00r : XQ 63 47 ZbA Zqf ZlH := Z0 (by rfl) _
theorem Z03I : XQ 63 47 Z8n ZaJ ZbA := Z0 (by rfl) _
theorem Z01K : XQ 63 47 Z3u Ziy Z8n := Z0 (by rfl) _
theorem Z05W : execA E C (fg 63) B 47 E0 N Zpt s = iterA (execA E C (fg 63) B 47 E0 N Z3u) (headA E0) N s := ZY (by rfl) s
theorem Z04H : execA E C (fg 63) B 47 E0 N ZiQ s = blockX 2 (fun s => (forget s.1 [22, 23, 24, 25], s.2)) (execA E C (fg 63) B 47 E0 N Zpt s) := Za (by rfl) (by rfl) s
theorem Z00M : XQ 63 47 Z99 Zpo ZiQ := Z0 (by rfl) _
theorem Z068 : execA E C (fg 63) B 47 E0 N Zj6 s = blockX 1 (fun s => (forget s.1 [], s.2)) (execA E C (fg 63) B 47 E0 N Z99 s) := Za (by rfl) (by rfl) s
def Zom := kR Zap
def Z3L := kO Zom
def ZxA := opN Z3L 0
def Zxw := opN Z3L 1
def ZxN := opN Z3L 2
theorem Z04F : XG 63 47 Zom Z3L [16, 17] := Z1 (by rfl) (by rfl) _
theorem ZQP : Z3L.toList = [ZxA, Zxw, ZxN] := nf
theorem ZOK : stepA E C B 47 Z3L ZxA (φ, H) = some (fput φ 16 (fget φ 6), H) := nf
theorem ZWj : stepA E C B 47 Z3L Zxw (φ, H) = stp (some 17) φ H (just (aBin E.T .add 3 (fget φ 16) (.int .i64 1))) := nf
theorem ZSw : stepA E C B 47 Z3L ZxN (φ, H) = some (fput φ 6 (fget φ 17), H) := nf
theorem Z04p : XQ 63 47 Zap Zj6 Zom := Z0 (by rfl) _
theorem Z08l : XQ 63 47 Z6I Zbk Zap := Z0 (by rfl) _
theorem Z0aQ : execA E C (fg 63) B 47 E0 N Zz0 s = iterA (execA E C (fg 63) B 47 E0 N Z6I) (headA E0) N s := ZY (by rfl) s
theorem Z099 : execA E C (fg 63) B 47 E0 N Zzd s = blockX 0 (fun s => (forget s.1 [6, 15], s.2)) (execA E C (fg 63) B 47 E0 N Zz0 s) := Za (by rfl) (by rfl) s
theorem Z0b2 : XQ 63 47 Zhd Zz9 Zzd := Z0 (by rfl) _
def Za2 := kR Zi7
def Zq5 := kL Za2
def Z1t := kO Zq5
def ZlG := opN Z1t 0
def ZpD := opN Z1t 1
def Zl4 := opN Z1t 2
def Zou := opN Z1t 3
theorem Z03i : XG 63 47 Zq5 Z1t [4, 5, 45, 46] := Z1 (by rfl) (by rfl) _
theorem ZJV : Z1t.toList = [ZlG, ZpD, Zl4, Zou] := nf
theorem ZLi : stepA E C B 47 Z1t ZlG (φ, H) = some (fput φ 45 (fget φ 4), H) := nf
theorem ZK4 : stepA E C B 47 Z1t ZpD (φ, H) = some (fput φ 46 (fget φ 5), H) := nf
theorem ZN7 : stepA E C B 47 Z1t Zl4 (φ, H) = some (fput φ 2 (fget φ 45), H) := nf
theorem ZHU : stepA E C B 47 Z1t Zou (φ, H) = some (fput φ 3 (fget φ 46), H) := nf
def ZAQ := kR Za2
theorem Z05T : execA E C (fg 63) B 47 E0 N ZAQ s = some (.ret, s) := Zk (by rfl) s
theorem Z03t : XQ 63 47 Za2 Zq5 ZAQ := Z0 (by rfl) _
theorem Z09I : XQ 63 47 Zi7 Zhd Za2 := Z0 (by rfl) _
theorem Z0aO : XQ 63 47 Zhx ZA0 Zi7 := Z0 (by rfl) _
theorem Z07M : XQ 63 47 Z9N Zz2 Zhx := Z0 (by rfl) _
theorem Z09E : fInfo E 63 = some ⟨47, #[.tmp 2, .tmp 3], Z9N⟩ := nf
theorem b_63 (args : List AV) : bodyA E C fg N 63 args H B = bodyX E [.tmp 2, .tmp 3] (execA E C (fg 63) B 47 H N Z9N (Z5 args 0 [], H)) := Zo Z09E args H
abbrev F_63 := And.intro (And.intro (And.intro (And.intro (And.intro (And.intro @Z08g (And.intro @ZQD @ZRe)) (And.intro @ZVr (And.intro @Z0b9 @ZPS))) (And.intro (And.intro @ZZZ (And.intro @ZW3 @ZVU)) (And.intro (And.intro @ZWF @ZT4) (And.intro @Z0ad @ZYh)))) (And.intro (And.intro (And.intro @ZZ0 (And.intro @Z00D @ZY5)) (And.intro @ZWa (And.intro @ZTg @ZXq))) (And.intro (And.intro @ZOR (And.intro @Z02N @Z00p)) (And.intro (And.intro @Z02B @Z03D) (And.intro @Z037 @ZXT))))) (And.intro (And.intro (And.intro (And.intro @ZQX (And.intro @ZPo @ZTv)) (And.intro @ZYR (And.intro @ZQk @ZRV))) (And.intro (And.intro @ZRj (And.intro @Z076 @ZOJ)) (And.intro (And.intro @ZSR @Z02T) (And.intro @Z05I @Z026)))) (And.intro (And.intro (And.intro @Z01O (And.intro @ZYY @ZSX)) (And.intro (And.intro @ZQa @ZZi) (And.intro @ZP7 @Z054))) (And.intro (And.intro @ZQT (And.intro @ZWD @ZRu)) (And.intro (And.intro @ZU7 @ZR5) (And.intro @Z01I @ZPh)))))) (And.intro (And.intro (And.intro (And.intro (And.intro @ZHq (And.intro @ZGz @ZVa)) (And.intro @ZOd (And.intro @ZPH @ZPJ))) (And.intro (And.intro @ZR2 (And.intro @ZPs @ZVu)) (And.intro (And.intro @ZQl @ZXd) (And.intro @ZRf @ZIR)))) (And.intro (And.intro (And.intro @ZKF (And.intro @ZJu @ZLZ)) (And.intro (And.intro @Z044 @Z02z) (And.intro @Z01r @Z01x))) (And.intro (And.intro @Z012 (And.intro @Z04w @ZHn)) (And.intro (And.intro @ZMv @ZMn) (And.intro @Z00r @Z03I))))) (And.intro (And.intro (And.intro (And.intro @Z01K (And.intro @Z05W @Z04H)) (And.intro @Z00M (And.intro @Z068 @Z04F))) (And.intro (And.intro @ZQP (And.intro @ZOK @ZWj)) (And.intro (And.intro @ZSw @Z04p) (And.intro @Z08l @Z0aQ)))) (And.intro (And.intro (And.intro @Z099 (And.intro @Z0b2 @Z03i)) (And.intro (And.intro @ZJV @ZLi) (And.intro @ZK4 @ZN7))) (And.intro (And.intro @ZHU (And.intro @Z05T @Z03t)) (And.intro (And.intro @Z09I @Z0aO) (And.intro @Z07M @b_63))))))
def Z5z := kBody Proofs.Try.f107
def ZkR := kL Z5z
def Z9f := kO ZkR
def Zka := opN Z9f 0
theorem Z03w : XG 107 7 ZkR Z9f [3] := Z1 (by rfl) (by rfl) _
theorem ZJb : Z9f.toList = [Zka] := nf
theorem ZLS : stepA E C B 7 Z9f Zka (φ, H) = some (fput φ 3 (.bool false), H) := nf
def Zby := kR Z5z
def Zn8 := kL Zby
def Z1w := kO Zn8
def ZiJ := opN Z1w 0
def Zoe := opN Z1w 1
def ZpA := opN Z1w 2
def Zot := opN Z1w 3
theorem Z06D : XG 107 7 Zn8 Z1w [0, 1, 4, 5, 6] := Z1 (by rfl) (by rfl) _
theorem ZLl : Z1w.toList = [ZiJ, Zoe, ZpA, Zot] := nf
theorem ZJl : stepA E C B 7 Z1w ZiJ (φ, H) = stp (some 4) φ H (just (aLoad E.T 22 (fget φ 1))) := nf
theorem ZH7 : stepA E C B 7 Z1w Zoe (φ, H) = some (fput φ 5 (fget φ 0), H) := nf
theorem ZMb : stepA E C B 7 Z1w ZpA (φ, H) = stp (some 6) φ H (aCall C (fun j => B + j * 7 + 6) true 24 [(fget φ 4), (fget φ 5)]) := nf
theorem ZII : stepA E C B 7 Z1w Zot (φ, H) = some (fput φ 3 (fget φ 6), H) := nf
def ZF5 := kR Zby
theorem Z02r : execA E C (fg 107) B 7 E0 N ZF5 s = some (.ret, s) := Zk (by rfl) s
theorem Z02P : XQ 107 7 Zby Zn8 ZF5 := Z0 (by rfl) _
theorem Z05l : XQ 107 7 Z5z ZkR Zby := Z0 (by rfl) _
theorem ZCL : fInfo E 107 = some ⟨7, #[.tmp 3], Z5z⟩ := nf
theorem Z08F (args : List AV) : bodyA E C fg N 107 args H B = bodyX E [.tmp 3] (execA E C (fg 107) B 7 H N Z5z (Z5 args 0 [], H)) := Zo ZCL args H
abbrev Z0a7 := And.intro (And.intro (And.intro @Z03w (And.intro @ZJb @ZLS)) (And.intro @Z06D (And.intro @ZLl @ZJl))) (And.intro (And.intro @ZH7 (And.intro @ZMb @ZII)) (And.intro (And.intro @Z02r @Z02P) (And.intro @Z05l @Z08F)))
end Go.AM.Ytfmnoohhhokicaa
end
noncomputable section
namespace Go.AM.Ytfmnoohhhokicaa
open Go Go.AM Go.AM.Rub
def chE (l : List Int) (i : Nat) : Int := if rowF l i < 0 ∨ rowF l i > 8 then 1 else if 0 < i ∧ rowF l i > rowF l (i - 1) then 7 else 0
def chkR (l : List Int) : Int := if l.length = 0 then 4 else if l.length > 6 then 3 else fe (chE l) 0 l.length
theorem Z0O {l : List Int} : chkR l = 0 ↔ 0 < l.length ∧ l.length ≤ 6 ∧ Rw l.length l := by
 unfold chkR
 split
 · rename_i h; exact ⟨fun e => absurd e (by decide), fun e => by omega⟩
 · split
   · rename_i h; exact ⟨fun e => absurd e (by decide), fun e => by omega⟩
   · rename_i h1 h2
     rw [Z4l]
     constructor
     · intro h
       have h0 : ∀ i, i < l.length → 0 ≤ rowF l i ∧ rowF l i ≤ 8 ∧ (0 < i → rowF l i ≤ rowF l (i - 1)) := by
         intro i hi
         have := h i (by omega) (by omega)
         unfold chE at this
         split at this
         · exact absurd this (by decide)
         · split at this
           · exact absurd this (by decide)
           · rename_i a b
             exact ⟨by omega, by omega, fun hp => Int.not_lt.1 fun hh => b ⟨hp, hh⟩⟩
       refine ⟨by omega, by omega, rfl, Z4N (fun i hi => (h0 i hi).1) (fun hp => (h0 0 hp).2.1) fun i hi => ?_⟩
       have := (h0 (i + 1) hi).2.2 (by omega)
       simpa using this
     · rintro ⟨_, _, hr⟩ i _ hi
       have hb := rw_b hr (k := i) (by omega)
       unfold chE
       rw [if_neg (by omega), if_neg]
       rintro ⟨hp, hlt⟩
       have := Z0r hr.row (i - 1) (by omega)
       rw [show i - 1 + 1 = i by omega] at this
       omega
abbrev chS (l : List Int) (ex : Bool) (i : Nat) : St := ([(15, .int .i64 i), (14, .int .i64 l.length), (13, .imm (ics l) l.length ex), (0, .imm (ics l) l.length ex)], [])
theorem Z08O {C : Callee} {l : List Int} {ex : Bool} (h6 : l.length ≤ 6) (i : Nat) (hi : i < l.length) (he : chE l i = 0) :
   ∃ s', (execA E C (fg 25) 0 40 [] 1000000 Z3F) (chS l ex i) = some (.normal, s') ∧ headA [] s' = chS l ex (i + 1) := by
 have hlen := Z4 l
 have hat := Zz hi
 have hat1 := Zz (l := l) (k := i - 1) (by omega)
 have g1 : (i : Int) < l.length := by omega
 unfold chE at he
 split at he
 · exact absurd he (by decide)
 · split at he
   · exact absurd he (by decide)
   · rename_i a b
     have a1 : ¬ rowF l i < 0 := by omega
     have a2 : ¬ rowF l i > 8 := by omega
     rcases Nat.eq_zero_or_pos i with hz | hp
     · subst hz
       simp (disch := omega) only [ZF, ↓gd, stp, opPick, just, Rd.bind, Rd.run, Rd.opt, upds, tsz, rdCells, aLoad, Z2, aNum, aBin, aInt, Nat.reduceLT, Nat.reduceBEq, Nat.reduceEqDiff, Nat.reduceLeDiff, ↓reduceIte, reduceCtorEq, Int.reduceLE, Int.reduceToNat, ZT, F_25, hat, hlen, a1, a2, cl0, if_pos]
       exact ⟨_, rfl, rfl⟩
     · have b1 : ¬ rowF l i > rowF l (i - 1) := fun hh => b ⟨hp, hh⟩
       have g2 : (i : Int) > 0 := by omega
       have w1 : wrp .i64 ((i : Int) - 1) = ((i - 1 : Nat) : Int) := by rw [Z0d (by omega)]; omega
       have g3 : ((i - 1 : Nat) : Int) < l.length := by omega
       simp (disch := omega) only [ZF, ↓gd, stp, opPick, just, Rd.bind, Rd.run, Rd.opt, upds, tsz, rdCells, aLoad, Z2, aNum, aBin, aInt, Nat.reduceLT, Nat.reduceBEq, Nat.reduceEqDiff, Nat.reduceLeDiff, ↓reduceIte, reduceCtorEq, ZT, F_25, g1, g2, g3, hat, hat1, hlen, a1, a2, b1, w1, Zn (show i < 1000000 by omega)]
       exact ⟨_, rfl, rfl⟩
theorem Z06G {C : Callee} {l : List Int} {ex : Bool} (h6 : l.length ≤ 6) (i : Nat) (hi : i < l.length) (he : chE l i ≠ 0) :
   ∃ H, (execA E C (fg 25) 0 40 [] 1000000 Z3F) (chS l ex i) = some (.ret, ([(2, .int .i64 (chE l i))], H)) := by
 have hlen := Z4 l
 have hat := Zz hi
 have hat1 := Zz (l := l) (k := i - 1) (by omega)
 have g1 : (i : Int) < l.length := by omega
 unfold chE at he ⊢
 by_cases a : rowF l i < 0 ∨ rowF l i > 8
 · rw [if_pos a]
   rcases a with a | a
   · simp (disch := omega) only [ZF, ↓gd, stp, opPick, just, Rd.bind, Rd.run, Rd.opt, upds, tsz, rdCells, aLoad, Z2, aNum, aBin, aInt, Nat.reduceLT, Nat.reduceBEq, Nat.reduceEqDiff, Nat.reduceLeDiff, ↓reduceIte, reduceCtorEq, ZT, F_25, g1, hat, hlen, a]
     exact ⟨_, rfl⟩
   · have a1 : ¬ rowF l i < 0 := by omega
     simp (disch := omega) only [ZF, ↓gd, stp, opPick, just, Rd.bind, Rd.run, Rd.opt, upds, tsz, rdCells, aLoad, Z2, aNum, aBin, aInt, Nat.reduceLT, Nat.reduceBEq, Nat.reduceEqDiff, Nat.reduceLeDiff, ↓reduceIte, reduceCtorEq, ZT, F_25, g1, hat, hlen, a, a1]
     exact ⟨_, rfl⟩
 · rw [if_neg a] at he ⊢
   have a1 : ¬ rowF l i < 0 := by omega
   have a2 : ¬ rowF l i > 8 := by omega
   by_cases b : 0 < i ∧ rowF l i > rowF l (i - 1)
   · rw [if_pos b]
     obtain ⟨hp, b⟩ := b
     have g2 : (i : Int) > 0 := by omega
     have w1 : wrp .i64 ((i : Int) - 1) = ((i - 1 : Nat) : Int) := by rw [Z0d (by omega)]; omega
     have g3 : ((i - 1 : Nat) : Int) < l.length := by omega
     simp (disch := omega) only [ZF, ↓gd, stp, opPick, just, Rd.bind, Rd.run, Rd.opt, upds, tsz, rdCells, aLoad, Z2, aNum, aBin, aInt, Nat.reduceLT, Nat.reduceBEq, Nat.reduceEqDiff, Nat.reduceLeDiff, ↓reduceIte, reduceCtorEq, ZT, F_25, g1, g2, g3, hat, hat1, hlen, a1, a2, b, w1]
     exact ⟨_, rfl⟩
   · rw [if_neg b] at he; exact absurd rfl he
theorem ZCG {C : Callee} {l : List Int} {a : AV} (ha : IV l a) (hl : l.length ≤ 1000) : rsOf (bodyA E C fg 1000000 25 [a] [] 0) = some (.int .i64 (chkR l)) := by
 rcases ha with ⟨rfl, rfl⟩ | ⟨ex, rfl⟩
 · simp (disch := omega) only [ZF, Z5, stp, just, Rd.bind, Rd.run, Rd.opt, upds, resA, resL, aLen, Z3, aBin, aInt, Nat.reduceBEq, Nat.reduceEqDiff, Nat.reduceLeDiff, ↓reduceIte, reduceCtorEq, ZT, F_25, chkR]
 · unfold chkR
   by_cases h0 : l.length = 0
   · rw [if_pos h0]
     have g0 : (l.length : Int) = 0 := by omega
     simp (disch := omega) only [ZF, Z5, stp, just, Rd.bind, Rd.run, Rd.opt, upds, resA, resL, aLen, Z3, aBin, aInt, Nat.reduceBEq, Nat.reduceEqDiff, Nat.reduceLeDiff, ↓reduceIte, reduceCtorEq, ZT, F_25, g0]
   · rw [if_neg h0]
     have g0 : ¬ (l.length : Int) = 0 := by omega
     have g0' : ((l.length : Int) == 0) = false := by rw [beq_eq_false_iff_ne]; exact g0
     by_cases h6 : l.length > 6
     · rw [if_pos h6]
       have g1 : (l.length : Int) > 6 := by omega
       simp (disch := omega) only [ZF, Z5, stp, just, Rd.bind, Rd.run, Rd.opt, upds, resA, resL, aLen, Z3, aBin, aInt, Nat.reduceBEq, Nat.reduceEqDiff, Nat.reduceLeDiff, ↓reduceIte, reduceCtorEq, ZT, F_25, g0', g1]
     · rw [if_neg h6]
       have g1 : ¬ (l.length : Int) > 6 := by omega
       have hlen := Z4 l
       have hloop := loopE (f := (execA E C (fg 25) 0 40 [] 1000000 Z3F)) (e := chE l) (R := fun e H => ([(2, .int .i64 e)], H)) (chS l ex) l.length (E0 := []) rfl (by omega) (x := .exit 1) (se := ([(16, .bool false), (15, .int .i64 l.length), (14, .int .i64 l.length), (13, .imm (ics l) l.length ex), (0, .imm (ics l) l.length ex)], [])) (by simp)
         (fun i hi _ he => Z08O (by omega) i hi he) (fun i hi _ he => Z06G (by omega) i hi he) (fun _ => by simp (disch := omega) only [ZF, stp, just, Rd.bind, Rd.run, Rd.opt, upds, aBin, aInt, Nat.reduceEqDiff, Nat.reduceLeDiff, ↓reduceIte, F_25, chS])
       simp only [chS, cl0] at hloop
       rcases hloop with ⟨hz, hloop⟩ | ⟨hz, H, hloop⟩
       · rw [hz]
         simp (disch := omega) only [ZF, Z5, stp, just, Rd.bind, Rd.run, Rd.opt, upds, resA, resL, aLen, Z3, aBin, aInt, Nat.reduceBEq, Nat.reduceEqDiff, Nat.reduceLeDiff, ↓reduceIte, reduceCtorEq, ZT, F_25, g0', g1, hloop]
       · simp (disch := omega) only [ZF, Z5, stp, just, Rd.bind, Rd.run, Rd.opt, upds, resA, resL, aLen, Z3, aBin, aInt, Nat.reduceBEq, Nat.reduceEqDiff, Nat.reduceLeDiff, ↓reduceIte, reduceCtorEq, ZT, F_25, g0', g1, hloop]
theorem Z4M {d : Nat} {site : Nat → Nat} {seen : List Nat} {l : List Int} {a : AV} (ha : IV l a) (hl : l.length ≤ 1000) : aBack site true seen (thaw (kF (d + 1)) 25 [a] [] 0) = .pure (.int .i64 (chkR l), []) :=
 Z1P (Z1Z rfl (ZCG ha hl))
end Go.AM.Ytfmnoohhhokicaa
end
noncomputable section
namespace Go.AM.Ytfmnoohhhokicaa
open Go Go.AM Go.AM.Rub
def riP (l : List Int) (i : Nat) : List Int := (List.range (i + 1)).map (ps (rowF l))
def riL (l : List Int) : List Int := riP l l.length
theorem Z4H (l : List Int) (i : Nat) : (riP l i).length = i + 1 := by simp [riP]
theorem ZIS (l : List Int) (i : Nat) : riP l (i + 1) = riP l i ++ [ps (rowF l) i + rowF l i] := by simp [riP, List.range_succ, ps]
theorem Zbv {l : List Int} {i k : Nat} (h : k ≤ i) : (riP l i)[k]? = some (ps (rowF l) k) := by
 simp only [riP, List.getElem?_map]
 rw [List.getElem?_range (by omega)]; rfl
theorem Z6V {l : List Int} {k : Nat} (h : k ≤ l.length) : rowF (riL l) k = ps (rowF l) k := by
 have := Zbv (l := l) h
 show (riP l l.length).getD k 0 = _
 rw [List.getD_eq_getElem?_getD, this]; rfl
theorem ps_b {n : Nat} {l : List Int} (h : Rw n l) : ∀ k, k ≤ n → 0 ≤ ps (rowF l) k ∧ ps (rowF l) k ≤ 8 * k
 | 0, _ => by simp [ps]
 | k + 1, hk => by
   have := ps_b h k (by omega)
   have := rw_b h (k := k) (by omega)
   simp only [ps]; omega
abbrev riS (l : List Int) (ex : Bool) (i : Nat) : St := ([(9, .int .i64 i), (8, .int .i64 l.length), (7, .imm (ics l) l.length ex), (3, .ref 6 0 (i + 1) (i + 1) (i + 1) 1 false)], [(6, ⟨.row, ics (riP l i)⟩)])
theorem Z07Q {C : Callee} {n : Nat} {l : List Int} {ex : Bool} (h : Rw n l) (hn : n ≤ 8) (i : Nat) (hi : i < l.length) :
   ∃ s', (execA E C (fg 79) 0 25 [] 1000000 Z4W) (riS l ex i) = some (.normal, s') ∧ headA [] s' = riS l ex (i + 1) := by
 have hln := h.len
 have hlen := Z4 l
 have hat := Zz hi
 have hrl : (ics (riP l i)).length = i + 1 := by rw [Z4, Z4H]
 have hra := Z3y (Zbv (l := l) (i := i) (Nat.le_refl i))
 have hsn := Z4Y (riP l i) (ps (rowF l) i + rowF l i)
 have htk : List.take (i + 1) (ics (riP l i)) = ics (riP l i) := List.take_of_length_le (by omega)
 have b1 := ps_b h i (by omega)
 have b2 := rw_b h (k := i) (by omega)
 have g1 : (i : Int) < l.length := by omega
 have g2 : (i : Int) < ((i + 1 : Nat) : Int) := by omega
 have w1 : wrp .i64 (ps (rowF l) i + rowF l i) = ps (rowF l) i + rowF l i := Z0d (by omega)
 have hno : ¬ i + 1 + 1 ≤ i + 1 := by omega
 simp only [riS, ZIS]
 rw [← hsn]
 generalize ics (riP l i) = L at *
 generalize ps (rowF l) i = p at *
 simp (disch := omega) only [ZF, stp, just, Rd.bind, Rd.run, Rd.opt, upds, acells, zeroCells, tsz, elemT, rdCells, aLoad, fresh, Z2, aNum, Z3, aBin, aInt, putC, evO, Nat.reduceAdd, Nat.reduceLT, Nat.reduceBEq, Nat.reduceEqDiff, Nat.reduceLeDiff, ↓reduceIte, reduceCtorEq, Z9, ZI, partsOf, fillA, repC, ZU, aAppend, srcOf, window, snaps, ZT, F_79, g1, g2, hat, hlen, hrl, hra, htk, w1, hno, Z4E (show i + 1 + 1 ≤ 1000000 by omega), Zn (show i < 1000000 by omega)]
 exact ⟨_, rfl, rfl⟩
theorem ZEs {C : Callee} {n : Nat} {l : List Int} {a : AV} (ha : IV l a) (h : Rw n l) (hn : n ≤ 8) :
   ∃ H, bodyA E C fg 1000000 79 [a] [] 0 = some (.ref 6 0 (l.length + 1) (l.length + 1) (l.length + 1) 1 false, H) ∧ hget H 6 = some ⟨.row, ics (riL l)⟩ := by
 rcases ha with ⟨rfl, rfl⟩ | ⟨ex, rfl⟩
 · have hloop := Z8Y (f := (execA E C (fg 79) 0 25 [] 1000000 Z4W)) (E0 := []) (s0 := ([(9, .int .i64 0), (8, .int .i64 0), (7, .nilsl), (3, .ref 6 0 1 1 1 1 false)], [(6, ⟨.row, [.int .i64 0]⟩)])) rfl (e := .exit 0) (se := ([(10, .bool false), (9, .int .i64 0), (8, .int .i64 0), (7, .nilsl), (3, .ref 6 0 1 1 1 1 false)], [(6, ⟨.row, [.int .i64 0]⟩)]))
     (by simp (disch := omega) only [ZF, stp, just, Rd.bind, Rd.run, Rd.opt, upds, aBin, aInt, Nat.reduceEqDiff, Nat.reduceLeDiff, ↓reduceIte, F_79]) (by simp)
   simp (disch := omega) only [ZF, Z5, stp, just, Rd.bind, Rd.run, upds, acells, zeroCells, tsz, elemT, resA, resL, fresh, aLen, Z3, putC, evO, ofV, ofV1, Nat.reduceAdd, Nat.reduceLT, Nat.reduceBEq, Nat.reduceEqDiff, Nat.reduceLeDiff, ↓reduceIte, reduceCtorEq, Z9, ZI, partsOf, fillA, repC, snaps, ZT, F_79, hloop]
   exact ⟨_, rfl, rfl⟩
 · have hln := h.len
   have hlen := Z4 l
   have hloop := loopM (f := (execA E C (fg 79) 0 25 [] 1000000 Z4W)) (E0 := []) (riS l ex) l.length (fun i hi => Z07Q h hn i hi) rfl (by omega)
     (e := .exit 0) (se := ([(10, .bool false), (9, .int .i64 l.length), (8, .int .i64 l.length), (7, .imm (ics l) l.length ex), (3, .ref 6 0 (l.length + 1) (l.length + 1) (l.length + 1) 1 false)], [(6, ⟨.row, ics (riL l)⟩)]))
     (by simp (disch := omega) only [ZF, stp, just, Rd.bind, Rd.run, Rd.opt, upds, aBin, aInt, Nat.reduceEqDiff, Nat.reduceLeDiff, ↓reduceIte, F_79, riS, riL]) (by simp)
   have e0 : ics (riP l 0) = [.int .i64 0] := rfl
   simp only [riS, e0, cl0, Nat.zero_add] at hloop
   simp (disch := omega) only [ZF, Z5, stp, just, Rd.bind, Rd.run, upds, acells, zeroCells, tsz, elemT, resA, resL, fresh, aLen, Z3, putC, evO, ofV, ofV1, Nat.reduceAdd, Nat.reduceLT, Nat.reduceBEq, Nat.reduceEqDiff, Nat.reduceLeDiff, ↓reduceIte, reduceCtorEq, Z9, ZI, partsOf, fillA, repC, snaps, ZT, F_79, hloop]
   exact ⟨_, rfl, rfl⟩
theorem Z3s (l : List Int) : (ics (riL l)).length = l.length + 1 := by rw [Z4]; exact Z4H _ _
theorem Zab {d : Nat} {site : Nat → Nat} {seen : List Nat} {n : Nat} {l : List Int} {a : AV} (ha : IV l a) (h : Rw n l) (hn : n ≤ 8) : aBack site true seen (thaw (kF (d + 1)) 79 [a] [] 0) =
   Z0l (site 0) seen (fun k => .ref k 0 (l.length + 1) (l.length + 1) (l.length + 1) 1 false) ⟨.row, ics (riL l)⟩ := by
 obtain ⟨H, h1, h2⟩ := ZEs (C := kF d) ha h hn
 exact Z21 (by rw [Z0H rfl]; exact h1) h2 (Z3s l)
end Go.AM.Ytfmnoohhhokicaa
end
noncomputable section
namespace Go.AM.Ytfmnoohhhokicaa
open Go Go.AM Go.AM.Rub
theorem ZNI {l : List Int} {a : AV} (h : IV l a) : aLen E.T 22 a = .pure (.int .i64 (l.length : Int)) := by
 rcases h with ⟨rfl, rfl⟩ | ⟨ex, rfl⟩ <;> (simp only [aLen, T_22] <;> rfl)
def dfE (l m : List Int) (i : Nat) : Int := if rowF l i = rowF m i then 0 else 1
theorem Zlc {l m : List Int} (hl : l.length = m.length) : fe (dfE l m) 0 l.length = 0 ↔ l = m := by
 rw [Z4l]
 constructor
 · intro h
   refine Z3k hl fun i hi => ?_
   have := h i (by omega) (by omega)
   unfold dfE at this
   split at this
   · assumption
   · exact absurd this (by decide)
 · rintro rfl i _ _
   exact if_pos rfl
abbrev saS (a b : AV) (i : Nat) : St := ([(5, .int .i64 i), (1, b), (0, a)], [])
theorem ZKx {C : Callee} {l m : List Int} {a b : AV} (ha : IV l a) (hb : IV m b) (hl : l.length ≤ 1000) : rsOf (bodyA E C fg 1000000 24 [a, b] [] 0) = some (.bool (decide (l = m))) := by
 have la := ZNI ha
 have lb := ZNI hb
 by_cases hlm : l.length = m.length
 · have g1 : ¬ (l.length : Int) ≠ m.length := by omega
   have g2 : ((l.length : Int) != m.length) = false := by rw [bne_eq_false_iff_eq]; omega
   have g3 : (l.length : Int) = m.length := by omega
   by_cases h0 : l.length = 0
   · have e1 : l = [] := List.length_eq_zero_iff.1 h0
     have e2 : m = [] := List.length_eq_zero_iff.1 (by omega)
     subst e1 e2
     rw [decide_eq_true rfl]
     have hloop := Z8Y (f := (execA E C (fg 24) 0 26 [] 1000000 Z4z)) (E0 := []) (s0 := saS a b 0) (by rcases ha with ⟨_, rfl⟩ | ⟨_, rfl⟩ <;> rcases hb with ⟨_, rfl⟩ | ⟨_, rfl⟩ <;> rfl) (e := .exit 0) (se := ([(14, .bool false), (5, .int .i64 0), (1, b), (0, a)], []))
       (by simp (disch := omega) only [ZF, stp, just, Rd.bind, Rd.run, Rd.opt, upds, Z3, aBin, aInt, Nat.reduceBEq, Nat.reduceEqDiff, Nat.reduceLeDiff, ↓reduceIte, reduceCtorEq, F_24, la, saS, cl0]) (by simp)
     simp only [saS, cl0] at hloop
     simp (disch := omega) only [ZF, Z5, stp, just, Rd.bind, Rd.run, Rd.opt, upds, resA, resL, Z3, aBin, aInt, Nat.reduceBEq, Nat.reduceEqDiff, Nat.reduceLeDiff, ↓reduceIte, reduceCtorEq, F_24, la, lb, hloop]
   · obtain ⟨ea, rfl⟩ := ZbO ha (by omega)
     obtain ⟨eb, rfl⟩ := ZbO hb (by omega)
     have hlen := Z4 l
     have hlen2 := Z4 m
     have hloop := loopE (f := (execA E C (fg 24) 0 26 [] 1000000 Z4z)) (e := dfE l m) (R := fun _ H => ([(4, .bool false)], H)) (saS (.imm (ics l) l.length ea) (.imm (ics m) m.length eb)) l.length (E0 := []) rfl (by omega) (x := .exit 0) (se := ([(14, .bool false), (5, .int .i64 l.length), (1, .imm (ics m) m.length eb), (0, .imm (ics l) l.length ea)], [])) (by simp)
       (fun i hi _ he => by
         have a1 := Zz (l := l) (k := i) hi
         have a2 := Zz (l := m) (k := i) (by omega)
         have k1 : (i : Int) < l.length := by omega
         have k2 : (i : Int) < m.length := by omega
         have hq : rowF l i = rowF m i := by
           unfold dfE at he
           split at he
           · assumption
           · exact absurd he (by decide)
         rw [hq] at a1
         simp (disch := omega) only [ZF, stp, just, Rd.bind, Rd.run, Rd.opt, upds, tsz, rdCells, aLoad, Z2, aNum, aLen, Z3, aBin, aInt, Nat.reduceAdd, Nat.reduceLT, Nat.reduceBEq, Nat.reduceEqDiff, Nat.reduceLeDiff, ↓reduceIte, reduceCtorEq, stpT, Rd.foot, writing, Zj, Tr.empty, Zl, ZT, F_24, saS, k1, k2, a1, a2, hlen, hlen2, Zn (show i < 1000000 by omega)]
         exact ⟨_, rfl, rfl⟩)
       (fun i hi _ he => by
         have a1 := Zz (l := l) (k := i) hi
         have a2 := Zz (l := m) (k := i) (by omega)
         have k1 : (i : Int) < l.length := by omega
         have k2 : (i : Int) < m.length := by omega
         have hq : ¬ rowF l i = rowF m i := fun h => he (if_pos h)
         have hq2 : (rowF l i != rowF m i) = true := by rw [bne_iff_ne]; exact hq
         simp (disch := omega) only [ZF, stp, just, Rd.bind, Rd.run, Rd.opt, upds, tsz, rdCells, aLoad, Z2, aNum, aLen, Z3, aBin, aInt, Nat.reduceAdd, Nat.reduceLT, Nat.reduceBEq, Nat.reduceEqDiff, Nat.reduceLeDiff, ↓reduceIte, reduceCtorEq, stpT, Rd.foot, writing, Zj, Tr.empty, Zl, ZT, F_24, saS, k1, k2, a1, a2, hlen, hlen2, hq2]
         exact ⟨_, rfl⟩)
       (fun _ => by simp (disch := omega) only [ZF, stp, just, Rd.bind, Rd.run, Rd.opt, upds, aLen, Z3, aBin, aInt, Nat.reduceBEq, Nat.reduceEqDiff, Nat.reduceLeDiff, ↓reduceIte, reduceCtorEq, ZT, F_24, saS])
     simp only [saS, cl0] at hloop
     rcases hloop with ⟨hz, hloop⟩ | ⟨hz, H, hloop⟩
     · rw [decide_eq_true ((Zlc hlm).1 hz)]
       simp (disch := omega) only [ZF, Z5, stp, just, Rd.bind, Rd.run, Rd.opt, upds, resA, resL, aLen, Z3, aBin, aInt, Nat.reduceBEq, Nat.reduceEqDiff, Nat.reduceLeDiff, ↓reduceIte, reduceCtorEq, ZT, F_24, hloop, g3]
     · rw [decide_eq_false fun e => hz ((Zlc hlm).2 e)]
       simp (disch := omega) only [ZF, Z5, stp, just, Rd.bind, Rd.run, Rd.opt, upds, resA, resL, aLen, Z3, aBin, aInt, Nat.reduceBEq, Nat.reduceEqDiff, Nat.reduceLeDiff, ↓reduceIte, reduceCtorEq, ZT, F_24, hloop, g3]
 · rw [decide_eq_false fun e => hlm (by rw [e])]
   have g1 : (l.length : Int) ≠ m.length := by omega
   have g2 : ((l.length : Int) != m.length) = true := by rw [bne_iff_ne]; omega
   have g3 : ¬ (l.length : Int) = m.length := by omega
   simp (disch := omega) only [ZF, Z5, stp, just, Rd.bind, Rd.run, Rd.opt, upds, resA, resL, Z3, aBin, aInt, Nat.reduceBEq, Nat.reduceEqDiff, Nat.reduceLeDiff, ↓reduceIte, reduceCtorEq, F_24, la, lb, g2]
theorem Z5x {d : Nat} {site : Nat → Nat} {seen : List Nat} {l m : List Int} {a b : AV} (ha : IV l a) (hb : IV m b) (hl : l.length ≤ 1000) : aBack site true seen (thaw (kF (d + 1)) 24 [a, b] [] 0) = .pure (.bool (decide (l = m)), []) :=
 Z1m (Z1Z rfl (ZKx ha hb hl))
end Go.AM.Ytfmnoohhhokicaa
end
noncomputable section
namespace Go.AM.Rub
theorem ZgE (g : Int → Int) {a : Nat → Int} {i j : Nat} (hij : i < j) : ∀ n, ps (fun k => g (mvF a i j k)) n = ps (fun k => g (a k)) n + (if i < n then g (a i - 1) - g (a i) else 0) + (if j < n then g (a j + 1) - g (a j) else 0)
 | 0 => by simp [ps]
 | n + 1 => by
   simp only [ps, ZgE g hij n]
   have e : mvF a i j n = (if n = i then a n - 1 else if n = j then a n + 1 else a n) := rfl
   rw [e]
   by_cases h1 : n = i
   · subst h1
     simp only [if_true, if_pos (Nat.lt_succ_self n), if_neg (Nat.lt_irrefl n), if_neg (show ¬ j < n by omega), if_neg (show ¬ j < n + 1 by omega)]; omega
   · by_cases h2 : n = j
     · subst h2
       simp only [if_neg h1, if_true, if_pos (show i < n by omega), if_pos (show i < n + 1 by omega), if_neg (Nat.lt_irrefl n), if_pos (Nat.lt_succ_self n)]; omega
     · have e1 : (i < n + 1) = (i < n) := by apply propext; omega
       have e2 : (j < n + 1) = (j < n) := by apply propext; omega
       simp only [if_neg h1, if_neg h2, e1, e2]; omega
def sumG (g : Int → Int) : List Int → Int
 | [] => 0
 | x :: l => g x + sumG g l
theorem ZcE (g : Int → Int) : ∀ l : List Int, sumG g l = ps (fun k => g (rowF l k)) l.length
 | [] => rfl
 | x :: l => by
   have : ∀ k, ps (fun k => g (rowF (x :: l) k)) (k + 1) = g x + ps (fun k => g (rowF l k)) k := by
     intro k
     induction k with
     | zero => simp [ps, rowF]
     | succ k ih => rw [ps, ih, ps]; simp [rowF]; omega
   rw [sumG, ZcE g l, List.length_cons, this]
theorem ZYw (g : Int → Int) {n : Nat} {l : List Int} (h : Rw n l) {i j : Nat} (r : Rb n l i j) : sumG g (mvL l i j) = sumG g l + (g (rowF l i - 1) - g (rowF l i)) + (g (rowF l j + 1) - g (rowF l j)) := by
 have hl := h.len
 have hj : j < l.length := by have := r.lj; omega
 rw [ZcE, ZcE, ZE]
 have : ps (fun k => g (rowF (mvL l i j) k)) l.length = ps (fun k => g (mvF (rowF l) i j k)) l.length := Z0q _ fun k _ => by rw [Z0L r.lt hj]
 rw [this, ZgE g r.lt, if_pos (by have := r.lt; omega), if_pos hj]
def Conv (g : Int → Int) : Prop := ∀ x y : Int, 0 ≤ y → x ≤ 8 → x - y ≥ 2 → g (x - 1) + g (y + 1) ≤ g x + g y
theorem ZUz {g : Int → Int} (hg : Conv g) {n : Nat} {b : List Int} (hb : Rw n b) : ∀ (d : Nat) (a : List Int), Rw n a → MajL a b → apL a b = d → sumG g b ≤ sumG g a := by
 intro d
 induction d with
 | zero =>
   intro a ha h hd
   have c := Z0D a b
   have z := (Z1o (a := rowF a) (b := rowF b) a.length).1 (by omega)
   rw [Z3k (by rw [ha.len, hb.len]) (Z7W z h.eq)]
   exact Int.le_refl _
 | succ d ih =>
   intro a ha h hd
   have hne : a ≠ b := fun e => by
     subst e
     have := (Z1o (a := rowF a) (b := rowF a) a.length).2 fun k _ => Int.le_refl _
     unfold apL at hd; omega
   obtain ⟨i, j, r, h1, h2, h3, h4⟩ := Z43 ha hb h hne
   have := ih _ h1 h2 (by omega)
   have e := ZYw g ha r
   have x := ZV ha.row i (by have := r.lt; have := r.lj; have := ha.len; omega)
   have y := ZV ha.row j (by have := r.lj; have := ha.len; omega)
   have := hg (rowF a i) (rowF a j) y.1 x.2 r.df
   omega
def cntL (t : Int) : List Int → Int
 | [] => 0
 | x :: l => (if x > t then 1 else 0) + cntL t l
def cnjF (l : List Int) (t : Nat) : Int := cntL t l
theorem ZiE (l : List Int) : (∀ x ∈ l, 0 ≤ x) → ∀ k : Nat, ps (cnjF l) k = sumG (fun x => min x k) l := by
 induction l with
 | nil =>
   intro _ k
   induction k with
   | zero => rfl
   | succ k ih => rw [ps, ih]; simp [cnjF, cntL, sumG]
 | cons x l ih =>
   intro h k
   have ih := ih (fun y hy => h y (by simp [hy])) k
   have hx := h x (by simp)
   have e : ∀ k : Nat, ps (cnjF (x :: l)) k = min x k + ps (cnjF l) k := by
     intro k
     induction k with
     | zero => simp only [ps]; omega
     | succ k ihk =>
       rw [ps, ihk, ps]
       simp only [cnjF, cntL]
       split <;> omega
   rw [e, ih]; rfl
theorem ZXv {n : Nat} {a b : List Int} (ha : Rw n a) (hb : Rw n b) (h : MajL a b) (k : Nat) : ps (cnjF a) k ≤ ps (cnjF b) k := by
 have nn : ∀ l : List Int, Rw n l → ∀ x ∈ l, 0 ≤ x := fun l hl x hx => by
   obtain ⟨i, hi⟩ := List.mem_iff_getElem?.1 hx
   have hlt := (List.getElem?_eq_some_iff.1 hi).1
   have := ZV hl.row i hlt
   simp only [rowF, List.getD_eq_getElem?_getD, hi, Option.getD_some] at this
   exact this.1
 rw [ZiE a (nn a ha), ZiE b (nn b hb)]
 have cv : Conv (fun x => -min x (k : Int)) := fun x y h1 h2 h3 => by simp only; omega
 have := ZUz cv hb _ _ ha h rfl
 have e : ∀ l : List Int, sumG (fun x => -min x (k : Int)) l = -sumG (fun x => min x (k : Int)) l := by
   intro l
   induction l with
   | nil => rfl
   | cons x l ih => simp only [sumG, ih]; omega
 rw [e, e] at this
 omega
end Go.AM.Rub
end
noncomputable section
namespace Go.AM.Rub
def cnjL (l : List Int) (many : Nat) : List Int := (List.range many).map (cnjF l)
theorem Zd (l : List Int) (m : Nat) : (cnjL l m).length = m := by simp [cnjL]
theorem Z0R {l : List Int} {m t : Nat} (ht : t < m) : rowF (cnjL l m) t = cnjF l t := by simp [rowF, cnjL, ht]
theorem Z2z (t : Int) : ∀ l : List Int, 0 ≤ cntL t l ∧ cntL t l ≤ l.length
 | [] => by simp [cntL]
 | x :: l => by
   have := Z2z t l
   simp only [cntL, List.length_cons]
   split <;> omega
theorem ZdT (t : Int) : ∀ l : List Int, cntL (t + 1) l ≤ cntL t l
 | [] => by simp [cntL]
 | x :: l => by
   have := ZdT t l
   simp only [cntL]
   split <;> split <;> omega
theorem Zwm {n : Nat} {l : List Int} (h : l.length = n) (hn : n ≤ 8) (m : Nat) : Rw m (cnjL l m) := by
 refine ⟨Zd .., Z4N (fun k hk => ?_) (fun hk => ?_) (fun k hk => ?_)⟩
 · rw [Zd] at hk
   rw [Z0R hk]; exact (Z2z _ l).1
 · rw [Zd] at hk
   rw [Z0R hk]
   have := (Z2z ((0 : Nat) : Int) l).2
   unfold cnjF; omega
 · rw [Zd] at hk
   rw [Z0R hk, Z0R (by omega)]
   have := ZdT (k : Int) l
   unfold cnjF
   rw [show ((k + 1 : Nat) : Int) = (k : Int) + 1 by omega]
   exact this
theorem ZbV : ∀ {m : Int} {l : List Int}, IsRow m l → ∀ (t : Int) (i : Nat), i < l.length → (cntL t l > i ↔ rowF l i > t)
 | _, [], _, t, i, hi => by simp at hi
 | m, x :: l, ⟨h1, h2, h3⟩, t, i, hi => by
   have zero : x ≤ t → cntL t (x :: l) = 0 := fun hx => by
     have : ∀ {m : Int} {l : List Int}, IsRow m l → m ≤ t → cntL t l = 0 := by
       intro m l
       induction l generalizing m with
       | nil => intro _ _; rfl
       | cons y l ih =>
         rintro ⟨_, q, r⟩ hm
         simp only [cntL]
         rw [if_neg (by omega), ih r (by omega)]; rfl
     exact this (m := x) (l := x :: l) ⟨h1, Int.le_refl _, h3⟩ hx
   cases i with
   | zero =>
     have e : rowF (x :: l) 0 = x := by simp [rowF]
     rw [e]
     by_cases hx : x > t
     · have := (Z2z t l).1
       simp only [cntL]; rw [if_pos hx]; omega
     · rw [zero (by omega)]; omega
   | succ i =>
     have e : rowF (x :: l) (i + 1) = rowF l i := by simp [rowF]
     have ih := ZbV h3 t i (by simpa using hi)
     rw [e]
     by_cases hx : x > t
     · simp only [cntL]; rw [if_pos hx]
       rw [← ih]; omega
     · rw [zero (by omega)]
       have := ZV h3 i (by simpa using hi)
       omega
theorem Zgh (p : Nat → Int) (v : Int) : ∀ m : Nat, cntL v ((List.range m).map p) = ps (fun k => if p k > v then 1 else 0) m
 | 0 => rfl
 | m + 1 => by
   have app : ∀ (l : List Int) (x : Int), cntL v (l ++ [x]) = cntL v l + (if x > v then 1 else 0) := by
     intro l x
     induction l with
     | nil => simp [cntL]
     | cons y l ih => simp only [List.cons_append, cntL, ih]; omega
   rw [List.range_succ, List.map_append, List.map_singleton, app, Zgh p v m, ps]
theorem Zn3 (v : Int) : ∀ m : Nat, ps (fun k => if v > (k : Int) then 1 else 0) m = max 0 (min v m)
 | 0 => by simp only [ps]; omega
 | m + 1 => by
   rw [ps, Zn3 v m]
   split <;> omega
theorem ZWW {n : Nat} {l : List Int} (h : Rw n l) : cnjL (cnjL l 8) n = l := by
 have hl := h.len
 refine Z3k (by rw [Zd, hl]) fun i hi => ?_
 rw [Zd] at hi
 rw [Z0R hi, cnjF, cnjL, Zgh]
 have e : ps (fun k => if cnjF l k > (i : Int) then 1 else 0) 8 = ps (fun k => if rowF l i > (k : Int) then 1 else 0) 8 := Z0q 8 fun k _ => by
   have := ZbV h.row (k : Int) i (by omega)
   unfold cnjF
   by_cases h2 : rowF l i > (k : Int)
   · rw [if_pos h2, if_pos (this.2 h2)]
   · rw [if_neg h2, if_neg fun h3 => h2 (this.1 h3)]
 rw [e, Zn3]
 have := ZV h.row i (by omega)
 omega
theorem Zsq {k : Int} : ∀ {l : List Int}, (∀ x ∈ l, x ≤ k) → sumG (fun x => min x k) l = totL l
 | [], _ => rfl
 | x :: l, h => by
   have := Zsq (l := l) fun y hy => h y (by simp [hy])
   have := h x (by simp)
   simp only [sumG, totL]; omega
theorem ZWz {m : Int} {l : List Int} (h : IsRow m l) {x : Int} (hx : x ∈ l) : 0 ≤ x ∧ x ≤ m := by
 obtain ⟨i, hi⟩ := List.mem_iff_getElem?.1 hx
 have := ZV h i (List.getElem?_eq_some_iff.1 hi).1
 simp only [rowF, List.getD_eq_getElem?_getD, hi, Option.getD_some] at this
 exact this
theorem Z34 {n : Nat} {l : List Int} (h : Rw n l) {m : Nat} (hm : ∀ x ∈ l, x ≤ m) : totL (cnjL l m) = totL l := by
 have := ZiE l (fun x hx => (ZWz h.row hx).1) m
 rw [Zsq hm] at this
 rw [← this, ← Z0W, Zd]
 exact Z0q m fun k hk => Z0R hk
theorem ZjP {a b : List Int} (hl : a.length = b.length) : MajL a b → totL a = totL b := fun h => by
 have := h.eq
 rw [Z0W, hl, Z0W] at this
 exact this
theorem ZHv {n m : Nat} {a b : List Int} (ha : Rw n a) (hb : Rw n b) (h : MajL a b) (ma : ∀ x ∈ a, x ≤ m) (mb : ∀ x ∈ b, x ≤ m) : MajL (cnjL b m) (cnjL a m) := by
 unfold MajL
 rw [Zd]
 have e : ∀ l : List Int, ∀ k, k ≤ m → ps (rowF (cnjL l m)) k = ps (cnjF l) k := fun l k hk => Z0q k fun i hi => Z0R (by omega)
 refine ⟨?_, fun k hk => ?_⟩
 · have x := Z0W (cnjL b m)
   have y := Z0W (cnjL a m)
   rw [Zd] at x y
   rw [x, y, Z34 ha ma, Z34 hb mb, ZjP (by rw [ha.len, hb.len]) h]
 · rw [e _ k hk, e _ k hk]
   exact ZXv ha hb h k
end Go.AM.Rub
end
noncomputable section
namespace Go.AM.Ytfmnoohhhokicaa
open Go Go.AM Go.AM.Rub
theorem Zh6 {C : Callee} {site : Nat → Nat} {seen : List Nat} {f : FuncId} {args : List AV} {id id' n n' g g' sz sz' : Nat} {cells cells' : List AV} {k : IntKind} {z : Int} {H' : AHeap} (h : C f args [] 0 = some (.tup [.ref id 0 n n g sz false, .ref id' 0 n' n' g' sz' false, .int k z], H')) (hg : hget H' id = some ⟨.row, cells⟩) (hg' : hget H' id' = some ⟨.row, cells'⟩) (hne : id' ≠ id) (hs : site 1 ≠ site 0) (e1 : cells.length = g) (e2 : cells'.length = g') :
   aBack site true seen (thaw C f args [] 0) = Z2q (site 0) (site 1) seen (fun k0 k1 => .tup [.ref k0 0 n n g sz false, .ref k1 0 n' n' g' sz' false, .int k z]) ⟨.row, cells⟩ ⟨.row, cells'⟩ := by
 subst e1; subst e2
 have hb : ∀ off, (site 1 + off == site 0 + off) = false := fun off => by rw [beq_eq_false_iff_ne]; omega
 simp only [thaw, h, frzRet, aBack, sitesB, aBackAt, imp, imps, hg, hg', hne, hb, List.length_nil, List.length_cons, List.not_mem_nil, List.mem_cons, or_false, not_false_eq_true, and_true, if_true, List.map_cons, List.map_nil, AM.apart, List.elem_cons, List.elem_nil, Bool.not_false, Bool.and_true, AV.leads, AV.leads.leadsL, Bool.or_false, Bool.true_or, Nat.zero_add, Z2q]
def pairE (a b : List Int) : Int := if chkR a ≠ 0 then chkR a else if chkR b ≠ 0 then chkR b else if a.length ≠ b.length then 5 else if ps (rowF a) a.length ≠ ps (rowF b) b.length then 17 else 0
theorem Z4U {a b : List Int} : pairE a b = 0 ↔ ∃ n, 0 < n ∧ n ≤ 6 ∧ Rw n a ∧ Rw n b ∧ ps (rowF a) n = ps (rowF b) n := by
 unfold pairE
 by_cases ha : chkR a = 0
 · rw [if_neg (fun e => e ha)]
   by_cases hb : chkR b = 0
   · rw [if_neg (fun e => e hb)]
     obtain ⟨a1, a2, a3⟩ := Z0O.1 ha
     obtain ⟨b1, b2, b3⟩ := Z0O.1 hb
     by_cases hl : a.length = b.length
     · rw [if_neg (fun e => e hl)]
       by_cases hs : ps (rowF a) a.length = ps (rowF b) b.length
       · rw [if_neg (fun e => e hs)]
         rw [← hl] at hs b3
         exact ⟨fun _ => ⟨a.length, a1, a2, a3, b3, hs⟩, fun _ => rfl⟩
       · rw [if_pos hs]
         refine ⟨fun e => absurd e (by decide), fun ⟨n, _, _, r1, r2, r3⟩ => ?_⟩
         rw [r1.len, r2.len] at hs; exact absurd r3 hs
     · rw [if_pos hl]
       refine ⟨fun e => absurd e (by decide), fun ⟨n, _, _, r1, r2, r3⟩ => ?_⟩
       rw [r1.len, r2.len] at hl; exact absurd rfl hl
   · rw [if_pos hb]
     refine ⟨fun e => absurd e hb, fun ⟨n, h0, h6, r1, r2, r3⟩ => absurd (Z0O.2 ⟨by rw [r2.len]; exact h0, by rw [r2.len]; exact h6, by rw [r2.len]; exact r2⟩) hb⟩
 · rw [if_pos ha]
   refine ⟨fun e => absurd e ha, fun ⟨n, h0, h6, r1, r2, r3⟩ => absurd (Z0O.2 ⟨by rw [r1.len]; exact h0, by rw [r1.len]; exact h6, by rw [r1.len]; exact r1⟩) ha⟩
theorem ZLc {d : Nat} {l m : List Int} {a b : AV} (ha : IV l a) (hb : IV m b) (hl : l.length ≤ 1000) (hm : m.length ≤ 1000) :
   (pairE l m ≠ 0 ∧ ∃ H, bodyA E (kF (d + 1)) fg 1000000 85 [a, b] [] 0 = some (.tup [.nilsl, .nilsl, .int .i64 (pairE l m)], H)) ∨
   (pairE l m = 0 ∧ ∃ H, bodyA E (kF (d + 1)) fg 1000000 85 [a, b] [] 0 = some (.tup [.ref 20 0 (l.length + 1) (l.length + 1) (l.length + 1) 1 false, .ref 22 0 (m.length + 1) (m.length + 1) (m.length + 1) 1 false, .int .i64 0], H) ∧ hget H 20 = some ⟨.row, ics (riL l)⟩ ∧ hget H 22 = some ⟨.row, ics (riL m)⟩) := by
 have hc1 := fun (site : Nat → Nat) seen => Z4M (d := d) (site := site) (seen := seen) ha hl
 have hc2 := fun (site : Nat → Nat) seen => Z4M (d := d) (site := site) (seen := seen) hb hm
 have sa := Z4c ha
 have sb := Z4c hb
 unfold pairE
 by_cases h1 : chkR l = 0
 · rw [if_neg (fun e => e h1)]
   rw [h1] at hc1
   obtain ⟨a1, a2, a3⟩ := Z0O.1 h1
   by_cases h2 : chkR m = 0
   · rw [if_neg (fun e => e h2)]
     rw [h2] at hc2
     obtain ⟨b1, b2, b3⟩ := Z0O.1 h2
     have r1 := fun (site : Nat → Nat) seen => Zab (d := d) (site := site) (seen := seen) ha a3 (by omega)
     have r2 := fun (site : Nat → Nat) seen => Zab (d := d) (site := site) (seen := seen) hb b3 (by omega)
     obtain ⟨ea, rfl⟩ := ZbO ha a1
     obtain ⟨eb, rfl⟩ := ZbO hb b1
     have l1 := Z4 l
     have l2 := Z4 m
     have l3 := Z3s l
     have l4 := Z3s m
     generalize kF (d + 1) = C at *
     by_cases h3 : l.length = m.length
     · rw [if_neg (fun e => e h3)]
       have g1 : ¬ (l.length : Int) ≠ m.length := by omega
       have g2 : ((l.length : Int) != m.length) = false := by rw [bne_eq_false_iff_eq]; omega
       have g3 : (l.length : Int) = m.length := by omega
       have g4 : (l.length : Int) < ((l.length + 1 : Nat) : Int) := by omega
       have g5 : (m.length : Int) < ((m.length + 1 : Nat) : Int) := by omega
       have t1 : (ics (riL l))[l.length]? = some (.int .i64 (ps (rowF l) l.length)) := Z3y (Zbv (Nat.le_refl _))
       have t2 : (ics (riL m))[m.length]? = some (.int .i64 (ps (rowF m) m.length)) := Z3y (Zbv (Nat.le_refl _))
       by_cases h4 : ps (rowF l) l.length = ps (rowF m) m.length
       · rw [if_neg (fun e => e h4)]
         refine .inr ⟨rfl, ?_⟩
         generalize ps (rowF l) l.length = p at *
         generalize ps (rowF m) m.length = q at *
         subst h4
         simp (disch := omega) only [ZF, Z5, stp, just, Rd.bind, Rd.run, Rd.opt, upds, tsz, rdCells, aLoad, resA, resL, Z2, aNum, aLen, Z3, aBin, aInt, Nat.reduceAdd, Nat.reduceLT, Nat.reduceBEq, Nat.reduceEqDiff, Nat.reduceLeDiff, ↓reduceIte, reduceCtorEq, stpT, Rd.foot, writing, Zj, Tr.empty, Zl, apartT, disj, aCall, snaps, ZT, F_85, hc1, hc2, r1, r2, l3, l4, g2, g4, g5, t1, t2]
         exact ⟨_, rfl, rfl, rfl⟩
       · rw [if_pos h4]
         refine .inl ⟨by decide, ?_⟩
         generalize ps (rowF l) l.length = p at *
         generalize ps (rowF m) m.length = q at *
         have h4' : (p != q) = true := by rw [bne_iff_ne]; exact h4
         simp (disch := omega) only [ZF, Z5, stp, just, Rd.bind, Rd.run, Rd.opt, upds, tsz, rdCells, aLoad, resA, resL, Z2, aNum, aLen, Z3, aBin, aInt, Nat.reduceAdd, Nat.reduceLT, Nat.reduceBEq, Nat.reduceEqDiff, Nat.reduceLeDiff, ↓reduceIte, reduceCtorEq, stpT, Rd.foot, writing, Zj, Tr.empty, Zl, apartT, disj, aCall, snaps, ZT, F_85, hc1, hc2, r1, r2, l3, l4, g2, g4, g5, h4', t1, t2]
         exact ⟨_, rfl⟩
     · rw [if_pos h3]
       refine .inl ⟨by decide, ?_⟩
       have g1 : (l.length : Int) ≠ m.length := by omega
       have g2 : ((l.length : Int) != m.length) = true := by rw [bne_iff_ne]; omega
       have g3 : ¬ (l.length : Int) = m.length := by omega
       simp (disch := omega) only [ZF, Z5, stp, just, Rd.bind, Rd.run, Rd.opt, upds, tsz, rdCells, aLoad, resA, resL, Z2, aNum, aLen, Z3, aBin, aInt, Nat.reduceAdd, Nat.reduceLT, Nat.reduceBEq, Nat.reduceEqDiff, Nat.reduceLeDiff, ↓reduceIte, reduceCtorEq, stpT, Rd.foot, aCall, snaps, ZT, F_85, hc1, hc2, r1, r2, l3, g2, if_pos]
       exact ⟨_, rfl⟩
   · rw [if_pos h2]
     refine .inl ⟨h2, ?_⟩
     generalize kF (d + 1) = C at *
     generalize chkR m = z at *
     have h0' : (z == 0) = false := by rw [beq_eq_false_iff_ne]; exact h2
     simp (disch := omega) only [ZF, Z5, stp, just, Rd.bind, Rd.run, Rd.opt, upds, resA, resL, aBin, aInt, Nat.reduceBEq, Nat.reduceEqDiff, Nat.reduceLeDiff, ↓reduceIte, reduceCtorEq, aCall, snaps, F_85, hc1, hc2, h2, sa 198, sb 198]
     exact ⟨_, rfl⟩
 · rw [if_pos h1]
   refine .inl ⟨h1, ?_⟩
   generalize kF (d + 1) = C at *
   generalize chkR l = z at *
   have h0' : (z == 0) = false := by rw [beq_eq_false_iff_ne]; exact h1
   simp (disch := omega) only [ZF, Z5, stp, just, Rd.bind, Rd.run, Rd.opt, upds, resA, resL, aBin, aInt, Nat.reduceBEq, Nat.reduceEqDiff, Nat.reduceLeDiff, ↓reduceIte, reduceCtorEq, aCall, snaps, F_85, hc1, h1, sa 198]
   exact ⟨_, rfl⟩
def PaC (C : Callee) (a b : AV) (l m : List Int) : Prop :=
 (pairE l m ≠ 0 ∧ ∀ (site : Nat → Nat) seen, aBack site true seen (thaw C 85 [a, b] [] 0) = .pure (.tup [.nilsl, .nilsl, .int .i64 (pairE l m)], [])) ∨
 (pairE l m = 0 ∧ ∀ (site : Nat → Nat) seen, site 1 ≠ site 0 → aBack site true seen (thaw C 85 [a, b] [] 0) = Z2q (site 0) (site 1) seen (fun k k' => .tup [.ref k 0 (l.length + 1) (l.length + 1) (l.length + 1) 1 false, .ref k' 0 (m.length + 1) (m.length + 1) (m.length + 1) 1 false, .int .i64 0]) ⟨.row, ics (riL l)⟩ ⟨.row, ics (riL m)⟩)
theorem paC {d : Nat} {l m : List Int} {a b : AV} (ha : IV l a) (hb : IV m b) (hl : l.length ≤ 1000) (hm : m.length ≤ 1000) : PaC (kF (d + 2)) a b l m := by
 rcases ZLc (d := d) ha hb hl hm with ⟨h, H, h1⟩ | ⟨h, H, h1, h2, h3⟩
 · exact .inl ⟨h, fun site seen => Z13 (by rw [Z0H rfl]; exact h1) rfl (fun _ => rfl) rfl⟩
 · exact .inr ⟨h, fun site seen hs => Zh6 (by rw [Z0H rfl]; exact h1) h2 h3 (by decide) hs (Z3s l) (Z3s m)⟩
def ovE (a b : List Int) (i : Nat) : Int := if rowF a i < rowF b i then (i : Int) + 1 else 0
def ovV (a b : List Int) : Int := fe (ovE a b) 0 a.length - 1
abbrev ovS (a b : List Int) (x y : Bool) (i : Nat) : St := ([(8, .int .i64 i), (7, .int .i64 a.length), (1, .imm (ics b) b.length y), (0, .imm (ics a) a.length x)], [])
theorem ZM1 {C : Callee} {a b : List Int} {x y : Bool} (hl : a.length = b.length) (h9 : a.length ≤ 1000) : rsOf (bodyA E C fg 1000000 86 [.imm (ics a) a.length x, .imm (ics b) b.length y] [] 0) = some (.int .i64 (ovV a b)) := by
 have l1 := Z4 a
 have l2 := Z4 b
 have hloop := loopE (f := (execA E C (fg 86) 0 22 [] 1000000 Z8M)) (e := ovE a b) (R := fun e H => ([(4, .int .i64 (e - 1))], H)) (ovS a b x y) a.length (E0 := []) rfl (by omega) (x := .exit 0) (se := ([(9, .bool false), (8, .int .i64 a.length), (7, .int .i64 a.length), (1, .imm (ics b) b.length y), (0, .imm (ics a) a.length x)], [])) (by simp)
   (fun i hi _ he => by
     have a1 := Zz (l := a) (k := i) hi
     have a2 := Zz (l := b) (k := i) (by omega)
     have g1 : (i : Int) < a.length := by omega
     have g2 : (i : Int) < b.length := by omega
     have g3 : ¬ rowF a i < rowF b i := fun h => by unfold ovE at he; rw [if_pos h] at he; omega
     simp (disch := omega) only [ZF, stp, just, Rd.bind, Rd.run, Rd.opt, upds, tsz, rdCells, aLoad, Z2, aNum, aBin, aInt, Nat.reduceAdd, Nat.reduceLT, Nat.reduceBEq, Nat.reduceEqDiff, Nat.reduceLeDiff, ↓reduceIte, reduceCtorEq, stpT, Rd.foot, writing, Zj, Tr.empty, Zl, ZT, F_86, ovS, g1, g2, g3, a1, a2, l1, l2, Zn (show i < 1000000 by omega)]
     exact ⟨_, rfl, rfl⟩)
   (fun i hi _ he => by
     have a1 := Zz (l := a) (k := i) hi
     have a2 := Zz (l := b) (k := i) (by omega)
     have g1 : (i : Int) < a.length := by omega
     have g2 : (i : Int) < b.length := by omega
     by_cases g3 : rowF a i < rowF b i
     · have e : ovE a b i - 1 = i := by unfold ovE; rw [if_pos g3]; omega
       rw [e]
       simp (disch := omega) only [ZF, stp, just, Rd.bind, Rd.run, Rd.opt, upds, tsz, rdCells, aLoad, Z2, aNum, aBin, aInt, Nat.reduceAdd, Nat.reduceLT, Nat.reduceBEq, Nat.reduceEqDiff, Nat.reduceLeDiff, ↓reduceIte, reduceCtorEq, stpT, Rd.foot, writing, Zj, Tr.empty, Zl, ZT, F_86, ovS, g1, g2, g3, a1, a2, l1, l2]
       exact ⟨_, rfl⟩
     · unfold ovE at he; rw [if_neg g3] at he; exact absurd rfl he)
   (fun _ => by simp (disch := omega) only [ZF, stp, just, Rd.bind, Rd.run, Rd.opt, upds, aBin, aInt, Nat.reduceEqDiff, Nat.reduceLeDiff, ↓reduceIte, F_86, ovS])
 simp only [ovS, cl0] at hloop
 unfold ovV
 rcases hloop with ⟨hz, hloop⟩ | ⟨hz, H, hloop⟩
 · rw [hz]
   have e : (0 : Int) - 1 = -1 := rfl
   rw [e]
   simp (disch := omega) only [ZF, Z5, stp, just, Rd.bind, Rd.run, upds, resA, resL, aLen, Z3, Nat.reduceBEq, Nat.reduceEqDiff, Nat.reduceLeDiff, Int.reduceNeg, ↓reduceIte, reduceCtorEq, ZT, F_86, hloop]
 · simp (disch := omega) only [ZF, Z5, stp, just, Rd.bind, Rd.run, upds, resA, resL, aLen, Z3, Nat.reduceBEq, Nat.reduceEqDiff, Nat.reduceLeDiff, ↓reduceIte, reduceCtorEq, ZT, F_86, hloop]
theorem ZG2 {d : Nat} {site : Nat → Nat} {seen : List Nat} {a b : List Int} {n : Nat} {x y : Bool} (h1 : a.length = n) (h2 : b.length = n) (h9 : n ≤ 1000) : aBack site true seen (thaw (kF (d + 1)) 86 [.imm (ics a) n x, .imm (ics b) n y] [] 0) = .pure (.int .i64 (ovV a b), []) := by
 have := Z1P (site := site) (seen := seen) (Z1Z (d := d) (f := 86) rfl (ZM1 (C := kF d) (a := a) (b := b) (x := x) (y := y) (by omega) (by omega)))
 rw [h1, h2] at this
 exact this
def whV (a b : List Int) : Int := ovV (riL a) (riL b)
theorem ZCS {n : Nat} {a b : List Int} (ha : Rw n a) (hb : Rw n b) (he : ps (rowF a) n = ps (rowF b) n) : whV a b < 0 ↔ MajL a b := by
 have hla : (riL a).length = n + 1 := by show (riP a a.length).length = _; rw [Z4H, ha.len]
 have h0 : ∀ m k, 0 ≤ fe (ovE (riL a) (riL b)) k m := by
   intro m
   induction m with
   | zero => intro k; exact Int.le_refl _
   | succ m ih =>
     intro k
     simp only [fe]
     split
     · exact ih _
     · unfold ovE; split <;> omega
 have := h0 (riL a).length 0
 have hz : whV a b < 0 ↔ fe (ovE (riL a) (riL b)) 0 (riL a).length = 0 := by unfold whV ovV; omega
 rw [hz, Z4l, hla]
 constructor
 · intro h
   refine ⟨by rw [ha.len]; exact he, fun k hk => ?_⟩
   rw [ha.len] at hk
   have := h k (by omega) (by omega)
   unfold ovE at this
   split at this
   · omega
   · rename_i hno
     rw [Z6V (by rw [ha.len]; omega), Z6V (by rw [hb.len]; omega)] at hno
     omega
 · intro h i _ hi
   unfold ovE
   rw [if_neg]
   rw [Z6V (by rw [ha.len]; omega), Z6V (by rw [hb.len]; omega)]
   have := h.le i (by rw [ha.len]; omega)
   omega
def becV (a b : List Int) : Bool := decide (pairE a b = 0 ∧ whV a b < 0)
theorem ZqU {d : Nat} {l m : List Int} {a b : AV} (ha : IV l a) (hb : IV m b) (hl : l.length ≤ 1000) (hm : m.length ≤ 1000) : rsOf (bodyA E (kF (d + 2)) fg 1000000 27 [a, b] [] 0) = some (.tup [.bool (becV l m), .int .i64 (pairE l m)]) := by
 have hp := paC (d := d) ha hb hl hm
 have sa := Z4c ha
 have sb := Z4c hb
 unfold becV
 rcases hp with ⟨h, hp⟩ | ⟨h, hp⟩
 · rw [decide_eq_false fun e => h e.1]
   generalize kF (d + 2) = C at *
   generalize pairE l m = z at *
   have h0' : (z == 0) = false := by rw [beq_eq_false_iff_ne]; exact h
   simp (disch := omega) only [ZF, Z5, stp, justO, just, Rd.bind, Rd.run, Rd.opt, upds, Zm, resA, resL, aBin, aInt, Nat.reduceBEq, Nat.reduceEqDiff, Nat.reduceLeDiff, ↓reduceIte, reduceCtorEq, aCall, snaps, F_27, hp, h, sa 198, sb 197]
 · obtain ⟨n, n0, n6, r1, r2, re⟩ := Z4U.1 h
   have ho := fun (site : Nat → Nat) seen x y => ZG2 (d := d + 1) (site := site) (seen := seen) (a := riL l) (b := riL m) (n := n + 1) (x := x) (y := y) (by show (riP l l.length).length = _; rw [Z4H, r1.len]) (by show (riP m m.length).length = _; rw [Z4H, r2.len]) (by omega)
   have e1 : ovV (riL l) (riL m) = whV l m := rfl
   rw [e1] at ho
   rw [r1.len, r2.len] at hp
   have l1 := Z3s l
   have l2 := Z3s m
   rw [r1.len] at l1
   rw [r2.len] at l2
   have t1 : List.take (n + 1) (ics (riL l)) = ics (riL l) := List.take_of_length_le (by omega)
   have t2 : List.take (n + 1) (ics (riL m)) = ics (riL m) := List.take_of_length_le (by omega)
   rw [h]
   generalize kF (d + 2) = C at *
   generalize whV l m = w at *
   by_cases hw : w < 0
   · rw [decide_eq_true ⟨rfl, hw⟩]
     simp (disch := omega) only [ZF, Z5, stp, justO, just, Rd.bind, Rd.run, Rd.opt, upds, Zm, resA, resL, aBin, aInt, Nat.reduceAdd, Nat.reduceMul, Nat.reduceBEq, Nat.reduceEqDiff, Nat.reduceLeDiff, ↓reduceIte, reduceCtorEq, aCall, snaps, F_27, hp, ho, hw, l1, l2, t1, t2, sa 198, sb 197]
   · rw [decide_eq_false fun e => hw e.2]
     simp (disch := omega) only [ZF, Z5, stp, justO, just, Rd.bind, Rd.run, Rd.opt, upds, Zm, resA, resL, aBin, aInt, Nat.reduceAdd, Nat.reduceMul, Nat.reduceBEq, Nat.reduceEqDiff, Nat.reduceLeDiff, ↓reduceIte, reduceCtorEq, aCall, snaps, F_27, hp, ho, hw, l1, l2, t1, t2, sa 198, sb 197]
theorem Zkh {d : Nat} {site : Nat → Nat} {seen : List Nat} {l m : List Int} {a b : AV} (ha : IV l a) (hb : IV m b) (hl : l.length ≤ 1000) (hm : m.length ≤ 1000) : aBack site true seen (thaw (kF (d + 3)) 27 [a, b] [] 0) = .pure (.tup [.bool (becV l m), .int .i64 (pairE l m)], []) :=
 Zh7 (Z1Z rfl (ZqU ha hb hl hm))
end Go.AM.Ytfmnoohhhokicaa
end
noncomputable section
namespace Go.AM.Ytfmnoohhhokicaa
open Go Go.AM Go.AM.Rub
theorem Z58 (t x : Int) : ∀ l : List Int, cntL t (l ++ [x]) = cntL t l + (if x > t then 1 else 0)
 | [] => by simp [cntL]
 | y :: l => by rw [List.cons_append, cntL, Z58 t x l, cntL]; omega
def tuP (l : List Int) (m t : Nat) : List Int := (List.range t).map (cnjF l) ++ List.replicate (m - t) 0
theorem Zd4 (l : List Int) {m t : Nat} (h : t ≤ m) : (tuP l m t).length = m := by simp [tuP]; omega
theorem ZXR (l : List Int) (m : Nat) : tuP l m m = cnjL l m := by simp [tuP, cnjL]
theorem Z05f (l : List Int) {m t : Nat} (h : t < m) : (tuP l m t)[t]? = some 0 := by
 simp only [tuP]
 rw [List.getElem?_append_right (by simp)]
 simp only [List.length_map, List.length_range, Nat.sub_self]
 rw [List.getElem?_replicate, if_pos (by omega)]
def tuQ (l : List Int) (m t j : Nat) : List Int := (tuP l m t).set t (cntL t (l.take j))
theorem ZHj (l : List Int) {m t : Nat} (h : t < m) : tuQ l m t 0 = tuP l m t := by
 unfold tuQ
 rw [List.take_zero]
 have h1 := Z05f l h
 apply List.ext_getElem?
 intro i
 rw [List.getElem?_set]
 split
 · rename_i e; subst e
   rw [if_pos (by rw [Zd4 l (by omega)]; exact h), h1]; rfl
 · rfl
theorem ZYa {n : Nat} (l : List Int) (hl : l.length = n) {m t : Nat} (h : t < m) : tuQ l m t n = tuP l m (t + 1) := by
 unfold tuQ tuP
 rw [List.take_of_length_le (by omega), List.set_append_right _ _ (by simp)]
 simp only [List.length_map, List.length_range, Nat.sub_self, List.range_succ, List.map_append, List.map_cons, List.map_nil, List.append_assoc]
 obtain ⟨r, hr⟩ : ∃ r, m - t = r + 1 := ⟨m - t - 1, by omega⟩
 rw [hr, show m - (t + 1) = r by omega, List.replicate_succ, List.set_cons_zero]
 rfl
abbrev tuI (l : List Int) (n m : Nat) (a : AV) (t j : Nat) : St := ([(18, .int .i64 j), (17, .int .i64 n), (16, a), (13, .int .i64 t), (12, .int .i64 m), (6, .int .i64 t), (5, .ref 10 0 m m m 1 false), (0, a)], [(10, ⟨.row, ics (tuQ l m t j)⟩)])
abbrev tuS (l : List Int) (m : Nat) (a : AV) (t : Nat) : St := ([(13, .int .i64 t), (12, .int .i64 m), (5, .ref 10 0 m m m 1 false), (0, a)], [(10, ⟨.row, ics (tuP l m t)⟩)])
theorem ZYU (t : Int) (l : List Int) (n : Nat) (h : l.length ≤ n) : 0 ≤ cntL t l ∧ cntL t l ≤ n := by
 have := Z2z t l
 omega
theorem Z09L {C : Callee} {l : List Int} {n m : Nat} {x : Bool} (hl : l.length = n) (hn : n ≤ 100) {t : Nat} (ht : t < m) (_ : m ≤ 100) (j : Nat) (hj : j < n) :
   ∃ s', (execA E C (fg 103) 0 34 [] 1000000 Z39) (tuI l n m (.imm (ics l) n x) t j) = some (.normal, s') ∧ headA [] s' = tuI l n m (.imm (ics l) n x) t (j + 1) := by
 have hlen : (ics l).length = n := by rw [Z4, hl]
 have hat := Zz (l := l) (k := j) (by omega)
 have g1 : (j : Int) < n := by omega
 have g2 : (t : Int) < m := by omega
 have htk : l.take (j + 1) = l.take j ++ [rowF l j] := by rw [List.take_add_one, Z3i (by omega)]; rfl
 have hc := ZYU t (l.take j) 100 (by rw [List.length_take]; omega)
 have e1 : tuQ l m t (j + 1) = (tuP l m t).set t (cntL t (l.take j) + (if rowF l j > t then 1 else 0)) := by
   unfold tuQ; rw [htk, Z58]
 have hql : (ics (tuQ l m t j)).length = m := by
   rw [Z4]; unfold tuQ; rw [List.length_set, Zd4 l (by omega)]
 have hqa : (ics (tuQ l m t j))[t]? = some (.int .i64 (cntL t (l.take j))) := by
   refine Z3y ?_
   unfold tuQ
   rw [List.getElem?_set_self (by rw [Zd4 l (by omega)]; exact ht)]
 by_cases hx : rowF l j > t
 · rw [if_pos hx] at e1
   have hqs : (ics (tuQ l m t j)).set t (.int .i64 (cntL t (l.take j) + 1)) = ics (tuQ l m t (j + 1)) := by
     rw [Z35, e1]; unfold tuQ; rw [List.set_set]
   have w : wrp .i64 (cntL t (l.take j) + 1) = cntL t (l.take j) + 1 := Z0d (by omega)
   simp only [tuI]
   generalize ics (tuQ l m t (j + 1)) = Q1 at *
   generalize ics (tuQ l m t j) = Q0 at *
   simp (disch := omega) only [ZF, stp, just, Rd.bind, Rd.run, Rd.opt, upds, acells, tsz, rdCells, aLoad, aStore, opStore, Z2, aNum, aBin, aInt, putC, Nat.reduceLT, Nat.reduceBEq, Nat.reduceEqDiff, Nat.reduceLeDiff, ↓reduceIte, snaps, ZT, Z66, hlen, hat, hql, hqa, hqs, g1, g2, hx, w, if_pos, Zn (show j < 1000000 by omega)]
   exact ⟨_, rfl, rfl⟩
 · rw [if_neg hx, Int.add_zero] at e1
   have e2 : tuQ l m t (j + 1) = tuQ l m t j := e1
   simp only [tuI, e2]
   generalize ics (tuQ l m t j) = Q0 at *
   simp (disch := omega) only [ZF, stp, just, Rd.bind, Rd.run, Rd.opt, upds, tsz, rdCells, aLoad, Z2, aNum, aBin, aInt, Nat.reduceLT, Nat.reduceBEq, Nat.reduceEqDiff, Nat.reduceLeDiff, ↓reduceIte, ZT, Z66, hlen, hat, hql, g1, g2, hx, Zn (show j < 1000000 by omega)]
   exact ⟨_, rfl, rfl⟩
theorem Zzp {C : Callee} {l : List Int} {n m : Nat} {x : Bool} (hl : l.length = n) (hn : n ≤ 100) (hm : m ≤ 100) :
   ∃ H, bodyA E C fg 1000000 103 [.imm (ics l) n x, .int .i64 m] [] 0 = some (.ref 10 0 m m m 1 false, H) ∧ hget H 10 = some ⟨.row, ics (cnjL l m)⟩ := by
 have hlen : (ics l).length = n := by rw [Z4, hl]
 have hgo : ∀ t, t < m → ∃ s', (execA E C (fg 103) 0 34 [] 1000000 Z4w) (tuS l m (.imm (ics l) n x) t) = some (.normal, s') ∧ headA [] s' = tuS l m (.imm (ics l) n x) (t + 1) := by
   intro t ht
   have hloop := loopM (f := (execA E C (fg 103) 0 34 [] 1000000 Z39)) (E0 := []) (tuI l n m (.imm (ics l) n x) t) n (fun j hj => Z09L hl hn ht hm j hj) rfl (by omega)
     (e := .exit 2) (se := ([(19, .bool false), (18, .int .i64 n), (17, .int .i64 n), (16, .imm (ics l) n x), (13, .int .i64 t), (12, .int .i64 m), (6, .int .i64 t), (5, .ref 10 0 m m m 1 false), (0, .imm (ics l) n x)], [(10, ⟨.row, ics (tuP l m (t + 1))⟩)]))
     (by
       simp only [tuI, ZYa l hl ht]
       simp (disch := omega) only [ZF, stp, just, Rd.bind, Rd.run, Rd.opt, upds, aBin, aInt, Nat.reduceEqDiff, Nat.reduceLeDiff, ↓reduceIte, Z66]) (by simp)
   simp only [tuI, ZHj l ht, cl0] at hloop
   have g1 : (t : Int) < m := by omega
   simp only [tuS]
   generalize ics (tuP l m (t + 1)) = Q1 at *
   generalize ics (tuP l m t) = Q0 at *
   simp (disch := omega) only [ZF, stp, just, Rd.bind, Rd.run, Rd.opt, upds, aLen, Z3, aBin, aInt, Nat.reduceBEq, Nat.reduceEqDiff, Nat.reduceLeDiff, ↓reduceIte, reduceCtorEq, ZT, Z66, hloop, g1, Zn (show t < 1000000 by omega)]
   exact ⟨_, rfl, rfl⟩
 have hloop := loopM (f := (execA E C (fg 103) 0 34 [] 1000000 Z4w)) (E0 := []) (tuS l m (.imm (ics l) n x)) m hgo rfl (by omega)
   (e := .exit 0) (se := ([(14, .bool false), (13, .int .i64 m), (12, .int .i64 m), (5, .ref 10 0 m m m 1 false), (0, .imm (ics l) n x)], [(10, ⟨.row, ics (cnjL l m)⟩)]))
   (by
     simp only [tuS, ZXR]
     simp (disch := omega) only [ZF, stp, just, Rd.bind, Rd.run, Rd.opt, upds, aBin, aInt, Nat.reduceEqDiff, Nat.reduceLeDiff, ↓reduceIte, Z66]) (by simp)
 have e0 : tuP l m 0 = List.replicate m 0 := by simp [tuP]
 simp only [tuS, e0, cl0] at hloop
 have rep := Z80 m
 have hflat : [AV.int .i64 0].all AV.flat = true := rfl
 have hk : (m : Int) ≤ kHi .i64 := by simp only [kHi]; omega
 have hby : ((8 : Nat) : Int) * (m : Int) ≤ 281474976710656 := by omega
 have hil : (ics (List.replicate m 0)).length = m := by rw [Z4, List.length_replicate]
 simp (disch := omega) only [ZF, Z5, stp, just, Rd.bind, Rd.run, upds, zeroCells, elemT, resA, resL, fresh, aNum, aLen, Z3, Nat.reduceLT, Nat.reduceBEq, Nat.reduceEqDiff, Nat.reduceLeDiff, ↓reduceIte, ZT, Z66, aMake, rep, hflat, hk, hby, hil, hloop, if_pos]
 exact ⟨_, rfl, rfl⟩
theorem ZqS {d : Nat} {site : Nat → Nat} {seen : List Nat} {l : List Int} {n m : Nat} {x : Bool} (hl : l.length = n) (hn : n ≤ 100) (hm : m ≤ 100) : aBack site true seen (thaw (kF (d + 1)) 103 [.imm (ics l) n x, .int .i64 m] [] 0) =
   Z0l (site 0) seen (fun k => .ref k 0 m m m 1 false) ⟨.row, ics (cnjL l m)⟩ := by
 obtain ⟨H, h1, h2⟩ := Zzp (C := kF d) (x := x) hl hn hm
 exact Z21 (by rw [Z0H rfl]; exact h1) h2 (by rw [Z4, Zd])
end Go.AM.Ytfmnoohhhokicaa
end
noncomputable section
namespace Go.AM.Rub
theorem Zpq (t : Int) : ∀ a b : List Int, cntL t (a ++ b) = cntL t a + cntL t b
 | [], b => by simp [cntL]
 | x :: a, b => by simp only [List.cons_append, cntL, Zpq t a b]; omega
theorem ZaQ (t : Int) (h : 0 ≤ t) : ∀ m, cntL t (List.replicate m 0) = 0
 | 0 => rfl
 | m + 1 => by rw [List.replicate_succ]; simp only [cntL, ZaQ t h m]; rw [if_neg (by omega)]; omega
theorem ZOy {m : Int} {l : List Int} (h : ∀ x ∈ l, x ≤ m) {t : Int} (ht : m ≤ t) : cntL t l = 0 := by
 induction l with
 | nil => rfl
 | cons x l ih =>
   have := h x (by simp)
   simp only [cntL, ih fun y hy => h y (by simp [hy])]
   rw [if_neg (by omega)]; omega
theorem Z5a {l : List Int} {m : Nat} (h : ∀ x ∈ l, x ≤ (m : Int)) (k : Nat) : cnjL l (m + k) = cnjL l m ++ List.replicate k 0 := by
 unfold cnjL
 rw [List.range_add, List.map_append, List.map_map]
 congr 1
 apply List.ext_getElem
 · simp
 · intro i h1 h2
   simp only [List.getElem_map, List.getElem_range, List.getElem_replicate, Function.comp_apply]
   exact ZOy h (by omega)
theorem Zzb {a b : List Int} (h : ∀ t : Int, 0 ≤ t → cntL t a = cntL t b) (m : Nat) : cnjL a m = cnjL b m := by
 unfold cnjL
 apply List.map_congr_left
 intro t _
 exact h t (by omega)
theorem ZAS {n : Nat} {a : List Int} (h : Rw n a) {m : Nat} (hm : ∀ x ∈ a, x ≤ (m : Int)) (h8 : m ≤ 8) : cnjL (cnjL a m) n = a := by
 have e : cnjL (cnjL a 8) n = cnjL (cnjL a m) n := Zzb (fun t ht => by
   have := Z5a hm (8 - m)
   rw [show m + (8 - m) = 8 by omega] at this
   rw [this, Zpq, ZaQ t ht]; omega) n
 rw [← e]; exact ZWW h
theorem ZB7 {l : List Int} {k n : Nat} (h : k ≤ n) : cnjL l k = (cnjL l n).take k := by
 apply List.ext_getElem
 · rw [List.length_take, Zd, Zd]; omega
 · intro i h1 h2
   simp [cnjL]
theorem ZZU {n : Nat} {a : List Int} (h : Rw n a) {k : Nat} (hk : cntL 0 a = k) : k ≤ n ∧ (∀ i, i < k → rowF a i ≠ 0) ∧ ∀ i, k ≤ i → i < n → rowF a i = 0 := by
 have hb := Z2z 0 a
 rw [h.len] at hb
 refine ⟨by omega, fun i hi => ?_, fun i hi hin => ?_⟩
 · have := (ZbV h.row 0 i (by rw [h.len]; omega)).1 (by omega)
   omega
 · have h1 := (ZV h.row i (by rw [h.len]; exact hin)).1
   have h2 : ¬ rowF a i > 0 := fun hg => by
     have := (ZbV h.row 0 i (by rw [h.len]; exact hin)).2 hg
     omega
   omega
theorem Zfp {n : Nat} {a : List Int} (h : Rw n a) {x : Int} (hx : x ∈ a) : x ≤ rowF a 0 := by
 obtain ⟨i, hi, rfl⟩ := List.mem_iff_getElem.1 hx
 have := Z0M (Z0r h.row) (Nat.zero_le i) hi
 have e : rowF a i = a[i] := by simp [rowF, hi]
 rw [e] at this
 exact this
theorem Zrd {n : Nat} {a : List Int} (h : Rw n a) (h0 : rowF a 0 ≤ 0) (hn : 0 < n) : ∀ k, k ≤ n → ps (rowF a) k ≤ 0
 | 0, _ => by simp [ps]
 | k + 1, hk => by
   have ih := Zrd h h0 hn k (by omega)
   have := Z0M (Z0r h.row) (Nat.zero_le k) (by rw [h.len]; omega)
   rw [ps]; omega
end Go.AM.Rub
end
end
