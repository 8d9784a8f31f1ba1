/- A part of the proof of muleDue_card: DuQ. Own work of this project; texts printed by own programs among it. -/
import Derived.KernelRfl
import Derived.Test.YtgfnbmfjbjopkaaDoorDwN
set_option maxRecDepth 1000000
set_option maxHeartbeats 16000000
noncomputable section
noncomputable section
namespace Go.AM.YtgfnbmfjbjopkaaDoor
open Go Go.AM Go.AM.Mule
abbrev toI (os : List Nat) : List Int := os.map (fun (i : Nat) => (i : Int))
theorem Z0lQ (os : List Nat) (i : Nat) : (toI os).take i = toI (os.take i) := by simp [toI]
theorem Zmz {n : Nat} (hn : n ≤ 6) {os : List Nat} (hl : ∀ i ∈ os, i < n) : ∀ i, i ≤ os.length → lst (odR n (toI (os.take i))) = leftL n (os.take i)
 | 0, _ => by
   have e : odR n (toI (os.take 0)) = 2 ^ n - 1 := rfl
   rw [e, Z62 n hn]
   exact (List.filter_eq_self.2 (by simp)).symm
 | i + 1, h => by
   have hk : os[i]? = some os[i] := List.getElem?_eq_getElem (by omega)
   have ht : os.take (i + 1) = os.take i ++ [os[i]] := by rw [List.take_add_one, hk]; rfl
   have ih := Zmz hn hl i (by omega)
   have h64 : odR n (toI (os.take i)) < 64 := Nat.lt_of_lt_of_le (ZqS n _) (Nat.pow_le_pow_right (n := 2) (by omega) hn)
   have hx := hl _ (List.mem_of_getElem? hk)
   rw [ht, Zyz, ← ih]
   have e : odR n (toI (os.take i ++ [os[i]])) = odR n (toI (os.take i)) &&& (63 - 1 <<< os[i]) := by
     have : toI (os.take i ++ [os[i]]) = toI (os.take i) ++ [(os[i] : Int)] := List.map_append ..
     rw [this, ZVR]; rfl
   rw [e, Za7 _ h64 _ (by omega)]
theorem Z0ub {B : List Nat} {n : Nat} (hn : n ≤ 6) {os : List Nat} (h : IsO B n os) : ordersE B n (toI os) = 0 := by
 have hl : ∀ i ∈ os, i < n := fun i hi => h.lt hi
 have hlen : (toI os).length = n := by rw [List.length_map, h.len]
 unfold ordersE
 rw [if_neg (by omega)]
 refine Z11.2 fun i hi => ?_
 have hi' : i < os.length := by rw [h.len]; omega
 have hk : os[i]? = some os[i] := List.getElem?_eq_getElem hi'
 have hg : (toI os).getD i 0 = (os[i] : Int) := by simp [toI, hi']
 have hx := hl _ (List.mem_of_getElem? hk)
 have h64 : ∀ l : List Int, odR n l < 64 := fun l => Nat.lt_of_lt_of_le (ZqS n _) (Nat.pow_le_pow_right (n := 2) (by omega) hn)
 have ht : os.take (i + 1) = os.take i ++ [os[i]] := by rw [List.take_add_one, hk]; rfl
 rw [hg, Z0lQ]
 unfold odE
 rw [if_neg (by omega), Int.toNat_natCast]
 have hnin : os[i] ∉ os.take i := by
   intro hc
   have hnd := h.nd
   have : (os.take i ++ [os[i]]).Nodup := by rw [← ht]; exact (List.take_sublist _ _).nodup hnd
   exact (List.nodup_append.1 this).2.2 _ hc _ (by simp) rfl
 have hm : os[i] ∈ lst (odR n (toI (os.take i))) := by
   rw [Zmz hn hl i (by omega)]
   exact ZJI.2 ⟨hx, hnin⟩
 rw [if_neg (by rw [(Zir (h64 _)).1 hm]; simp)]
 rw [if_neg]
 intro hc
 obtain ⟨k, k1, k2⟩ := List.any_eq_true.1 hc
 have e : lst (odR n (toI (os.take i)) &&& (63 - 1 <<< os[i])) = leftL n (os.take (i + 1)) := by
   rw [Za7 _ (h64 _) _ (by omega), Zmz hn hl i (by omega), ht, Zyz]
 rw [e] at k1
 obtain ⟨k3, k4⟩ := ZJI.1 k1
 have hko : k ∈ os := h.pm.mem_iff.2 (List.mem_range.2 k3)
 obtain ⟨j, hj, rfl⟩ := List.mem_iff_getElem.1 hko
 have hji : i < j := by
   refine Classical.byContradiction fun hlt => k4 ?_
   have : os[j] ∈ os.take (i + 1) := List.mem_iff_getElem.2 ⟨j, by rw [List.length_take]; omega, by rw [List.getElem_take]⟩
   exact this
 have := (List.pairwise_iff_getElem.1 h.gd') i j hi' hj hji
 rw [k2] at this
 exact absurd this (by simp)
theorem Z0lM {ls : List Ld} {es : List Pr} (hk : chk ls es = 0) {os : List Nat} (h : IsO (sets ls.length es) ls.length os) {ds : List Int} (hl : ds.length = ls.length) (hd : ∀ i, i < ls.length → (ls.getD i default).lo ≤ ds.getD i 0 ∧ ds.getD i 0 ≤ (ls.getD i default).hi) : toldE ls es (toI os) ds = 0 := by
 have hle := (Z1x hk).1.le
 have hv : validE ls es (toI os) = 0 := by
   unfold validE
   rw [if_neg (by simpa using hk)]
   exact Z0ub hle h
 unfold toldE
 rw [if_neg (by simpa using hv), if_neg (by rw [List.length_map, h.len]; omega)]
 refine Z11.2 fun i hi => ?_
 have := hd i (by omega)
 unfold dayE
 rw [if_neg (by omega)]
structure MuG' (C : Callee) (ls : List Ld) (es : List Pr) : Prop where
 chk : ∀ (site : Nat → Nat) seen a b, SV lc ls a → SV bc es b → aBack site true seen (thaw C 68 [.agg [a, b]] [] 0) = .pure (.int .i64 0, [])
 count : ∀ (site : Nat → Nat) seen a b, SV lc ls a → SV bc es b → aBack site true seen (thaw C 61 [.agg [a, b]] [] 0) = .pure (.tup [.int .i64 (ordN ls (sets ls.length es) ls.length 100000 : Nat), .int .i64 0], [])
 least : ∀ (site : Nat → Nat) seen a b, SV lc ls a → SV bc es b → aBack site true seen (thaw C 19 [.agg [a, b]] [] 0) = .pure (.tup [.int .i64 (ruC ls (sets ls.length es) ls.length), .int .i64 0], [])
 bests : ∀ (site : Nat → Nat) seen a b, SV lc ls a → SV bc es b → aBack site true seen (thaw C 24 [.agg [a, b]] [] 0) = .pure (.tup [.int .i64 (ordN ls (sets ls.length es) ls.length (ruC ls (sets ls.length es) ls.length) : Nat), .int .i64 0], [])
 saved : ∀ (site : Nat → Nat) seen a b snow, SV lc ls a → SV bc es b → 0 ≤ snow ∧ snow ≤ 54 → aBack site true seen (thaw C 36 [.agg [a, b], .int .i64 snow] [] 0) = .pure (.tup [.int .i64 (svN ls (sets ls.length es) ls.length snow (2 ^ ls.length) : Nat), .int .i64 0], [])
theorem Z0xA {ls : List Ld} {es : List Pr} (hk : chk ls es = 0) {snow : Int} (h : 0 ≤ snow ∧ snow ≤ 54) : savedE ls es snow = 0 := by
 unfold savedE
 rw [if_neg (by simpa using hk), if_neg (by omega)]
theorem muG {ls : List Ld} {es : List Pr} (hk : Go.AM.YtgfnbmfjbjopkaaDoor.chk ls es = 0) (d : Nat) : MuG' (callA E fg 1000 (d + 7)) ls es :=
 ⟨fun site seen _ _ ha hb => by have := Z0J (site := site) (seen := seen) (Z0O (Z0gQ (d := d + 3) ha hb)); rw [hk] at this; exact this,
   fun _ _ _ _ ha hb => Z5q (Z0O (Z0eO (d := d) ha hb hk)),
   fun _ _ _ _ ha hb => Z5q (Z0O (Z0eA (d := d) ha hb hk)),
   fun _ _ _ _ ha hb => Z5q (Z0O (Z0dw (d := d) ha hb hk)),
   fun _ _ _ _ _ ha hb h => Z5q (Z0O (Z0eL (d := d + 1) ha hb (Z0xA hk h)))⟩
theorem Z0e6 {m : Int} : ∀ (l : List Int) (x : Int), mxI x l ≤ m ↔ x ≤ m ∧ ∀ y ∈ l, y ≤ m
 | [], x => by simp [mxI]
 | y :: l, x => by
   have ih := Z0e6 (m := m) l (if y > x then y else x)
   have e : mxI x (y :: l) = mxI (if y > x then y else x) l := rfl
   rw [e, ih]
   simp only [List.mem_cons, forall_eq_or_imp]
   constructor
   · rintro ⟨a, b⟩; split at a <;> exact ⟨by omega, by omega, b⟩
   · rintro ⟨a, b, c⟩; exact ⟨by split <;> omega, c⟩
theorem Z0Fm {ls : List Ld} {B : List Nat} {n : Nat} (h : TrOk ls B n) {i : Nat} (hi : i < n) (x : Int) : 0 ≤ cF ls i x := by
 have hy := h.ld _ (List.mem_of_getElem? (Z09 (l := ls) (i := i) (by rw [h.l]; exact hi)))
 unfold cF ldC
 have := Int.mul_nonneg hy.rate.1 (show 0 ≤ max 0 (x - (ls.getD i default).due) by omega)
 have := hy.base
 omega
end Go.AM.YtgfnbmfjbjopkaaDoor
end
noncomputable section
namespace Go.AM.YtgfnbmfjbjopkaaDoor
open Go Go.AM Go.AM.Mule
theorem Z0ij {ls : List Ld} {B : List Nat} {n : Nat} (h : TrOk ls B n) {os : List Nat} {ds : List Int} (hol : os.length = n) {x : Int} {l : List Int} (hx : cstL ls (arrL ds os) = x :: l) : mxI x l = dearV ls os ds := by
 have hal : (arrL ds os).length = n := by rw [← hol]; exact Z1e ds os.length os
 have key : ∀ m, 0 ≤ m → (mxI x l ≤ m ↔ dearV ls os ds ≤ m) := by
   intro m h0
   unfold dearV
   rw [Z0e6, Zft, hol]
   have hmem : (x ≤ m ∧ ∀ y ∈ l, y ≤ m) ↔ ∀ y ∈ cstL ls (arrL ds os), y ≤ m := by rw [hx]; simp
   rw [hmem]
   unfold cstL
   rw [hal]
   constructor
   · exact fun a => ⟨h0, fun i hi => a _ (List.mem_map.2 ⟨i, List.mem_range.2 hi, rfl⟩)⟩
   · rintro ⟨_, a⟩ y hy
     obtain ⟨i, hi, rfl⟩ := List.mem_map.1 hy
     exact a i (List.mem_range.1 hi)
 have n1 : 0 ≤ mxI x l := by
   have hx0 : x = cF ls 0 ((arrL ds os).getD 0 0) := by
     have hne := h.ne
     have := congrArg List.head? hx
     unfold cstL at this
     rw [hal] at this
     obtain ⟨m, rfl⟩ : ∃ m, n = m + 1 := ⟨n - 1, by omega⟩
     rw [List.range_succ_eq_map] at this
     simp at this
     rw [← this]; rfl
   have h1 := ((Z0e6 (m := mxI x l) l x).1 (Int.le_refl _)).1
   have h2 := Z0Fm h h.ne ((arrL ds os).getD 0 0)
   omega
 have n2 : 0 ≤ dearV ls os ds := by
   refine Classical.byContradiction fun hc => ?_
   have := (Zft (ls := ls) (l := arrL ds os) (m := dearV ls os ds) os.length).1 (Int.le_refl _)
   omega
 have a := (key _ n2).2 (Int.le_refl _)
 have b := (key _ n1).1 (Int.le_refl _)
 omega
theorem Z0p0 {ls : List Ld} {B : List Nat} {n : Nat} {os : List Nat} (ho : IsO B n os) : dearV ls os (hisL ls) = mcO ls os := by
 rw [Z0tf ho.nd (fun i => by rw [ho.pm.mem_iff, List.mem_range, ho.len])]
 unfold mcO
 congr 1
 funext i
 exact ZvV ls i
theorem Z0EF {ls : List Ld} {os : List Nat} {ds : List Int} {n : Nat} (hol : os.length = n) (h0 : 0 < n) : ∃ x l, cstL ls (arrL ds os) = x :: l := by
 have hal : (arrL ds os).length = n := by rw [← hol]; exact Z1e ds os.length os
 cases e : cstL ls (arrL ds os) with
 | nil => have := Z7f ls (arrL ds os); rw [e, hal] at this; simp at this; omega
 | cons x l => exact ⟨x, l, rfl⟩
theorem Z0eD {d : Nat} {ls : List Ld} {es : List Pr} {n : Nat} (hn : ls.length = n) (hk : chk ls es = 0) {os : List Nat} (ho : IsO (sets n es) n os) {ds : List Int} (hl : ds.length = n) (hd : ∀ i, i < n → (ls.getD i default).lo ≤ ds.getD i 0 ∧ ds.getD i 0 ≤ (ls.getD i default).hi)
   {site : Nat → Nat} {seen : List Nat} {a b : AV} {e1 e2 : Bool} (ha : SV lc ls a) (hb : SV bc es b) :
   aBack site true seen (thaw (callA E fg 1000 (d + 8)) 49 [.agg [a, b], .imm (ins os) n e1, .imm (ics ds) n e2] [] 0) = .pure (.tup [.int .i64 (dearV ls os ds), .int .i64 0], []) := by
 subst hn
 obtain ⟨tr, _⟩ := Z1x hk
 have hle := tr.le
 obtain ⟨x, l, hx⟩ := Z0EF (ls := ls) (ds := ds) ho.len tr.ne
 have hc : IV (toI os) (.imm (ins os) ls.length e1) := .inr ⟨e1, by rw [ZsO, List.length_map, ho.len]⟩
 have he : IV ds (.imm (ics ds) ls.length e2) := .inr ⟨e2, by rw [hl]⟩
 have hC := csC d ha hb hc he (by rw [List.length_map, ho.len]; omega) (by omega)
 have := Z0j5 (d := d + 6) hC ha hb hc he (Z0lM hk ho hl hd) rfl (fun i hi => by rw [ho.len]; exact ho.lt hi) ho.len hx
 rw [Z0ij tr ho.len hx] at this
 exact Z5q (Z0O this)
end Go.AM.YtgfnbmfjbjopkaaDoor
end
noncomputable section
namespace Go.AM.YtgfnbmfjbjopkaaDoor
open Go Go.AM Go.AM.Mule
theorem noB {n : Nat} : ∀ i k, bit (sets n []) i k = false := by
 intro i k
 cases e : bit (sets n []) i k with
 | false => rfl
 | true =>
   have := ((Z9j (n := n) (es := []) (by simp)).2 i k).1 e
   exfalso
   have step : ∀ {a b : Nat}, Mule.Reach [] a b → False := by
     intro a b h
     cases h with
     | single e => simp [Mule.Edge] at e
     | tail _ e => simp [Mule.Edge] at e
   exact step this
theorem Z0f5 {ls : List Ld} {n : Nat} (hk : chk ls [] = 0) (hl : ls.length = n) (hf : ∀ x ∈ ls, x.rate = 1 ∧ x.base = 0) :
   IsO (sets n []) n (srtI (dueF ls) (List.range n)) ∧ mcO ls (srtI (dueF ls) (List.range n)) = ruC ls (sets n []) n ∧ ordN ls (sets n []) n 100000 = factN n := by
 obtain ⟨tr, ord, _⟩ := Z1x hk
 rw [hl] at tr ord
 obtain ⟨p1, p2⟩ := Z0fk (F := dueF ls) (l := List.range n) (by rw [List.length_range]; exact tr.ne)
 have hi : IsO (sets n []) n (srtI (dueF ls) (List.range n)) := ⟨p1, List.pairwise_of_forall fun a b => noB b a⟩
 refine ⟨hi, ?_, ?_⟩
 · have a := Z0lZ tr ord hi
   have hr := Z0CZ (ls := ls) (n := n) ord
   have hcf : ∀ i, i < n → ∀ x, cF ls i x = max 0 (x - dueF ls i) := by
     intro i hi x
     have hm := List.mem_of_getElem? (Z09 (l := ls) (i := i) (by omega))
     obtain ⟨q1, q2⟩ := hf _ hm
     unfold cF ldC dueF
     rw [q1, q2]; omega
   have b := Z0qs (T := bit (sets n [])) ord noB (ZoP tr) (ZZd tr) (o := srtI (dueF ls) (List.range n)) (p := ruO ls (sets n []) n) (by
     refine List.Pairwise.imp_of_mem (fun {x y} hx hy h z => ?_) p2
     rw [hcf x (hi.lt hx), hcf y (hi.lt hy)]
     have h : dueF ls x ≤ dueF ls y := h
     omega) hi.nd (hr.pm.trans p1.symm)
   exact Int.le_antisymm b a
 · unfold ordN cntN
   rw [Z62 n tr.le, List.length_range]
   exact ZTi noB (X := 54) (ZoP tr) (Z0BF tr) n (List.range n) (List.length_range ..) (by
     have := (ZhX tr (l := List.range n) fun i hi => List.mem_range.1 hi).2
     rw [List.length_range] at this
     have := tr.le
     omega)
theorem ZXG {D : Dro} (h : DOk D) (hw : ∃ H0, callA E fg 1000 40 17 [] [] 0 = some (.bool true, H0)) :
   rsOf (bodyA E (callA E fg 1000 40) fg 1000 15 [.agg (dcs D)] [] 0) = some (.bool true) := by
 have hm : (6 : Int) = 5 ∨ (6 : Int) = 6 := .inr rfl
 obtain ⟨n1, n2⟩ := ZBW h hm
 have h6 : nOf D 6 ≤ 6 := by omega
 have hmade0 := fun site seen he => Z0eG (d := 38) (site := site) (seen := seen) h hm he
 have hmade1 := fun site seen he hs => Z0em (d := 38) (site := site) (seen := seen) h hm he hs
 have hll := ZaP h h6
 have hok : ∀ x ∈ mdL D (nOf D 6), LdOk x ∧ ldE x = 0 := fun x hx => by
   obtain ⟨q, hq, e⟩ := List.mem_map.1 hx
   rw [← e]
   exact Z0F3 (h.xs q (List.mem_of_mem_take hq))
 generalize nOf D 6 = n at *
 generalize mdL D n = ls at *
 generalize mdP D n = es at *
 have hfix : fixL ls n = ls.map fixD := by
   rw [fixL, List.take_of_length_le (by omega), List.drop_eq_nil_of_le (by omega), List.append_nil]
 have hok2 := Z0Ee hok
 have hfl : (ls.map fixD).length = n := by rw [List.length_map, hll]
 have hfr : ∀ x ∈ ls.map fixD, x.rate = 1 ∧ x.base = 0 := fun x hx => by
   obtain ⟨y, _, rfl⟩ := List.mem_map.1 hx
   exact ⟨rfl, rfl⟩
 have hgo := fun i hi => Z0HX (C := callA E fg 1000 40) hll h6 i hi
 have hk : chk (ls.map fixD) [] = 0 := Z0DD (by omega) (by omega) (by simp) (fun x hx => (hok2 x hx).2) (by simp) List.Pairwise.nil (fun i hr => by
   have := (Z9j (n := n) (es := []) (by simp)).2 i i
   have := this.2 hr
   have e := noB (n := n) i i
   simp only [sets, adj] at e
   exact absurd this (by rw [show closed n [] = fw n ((List.map tN []).foldl addE (List.replicate n 0)) from rfl, e]; simp))
 obtain ⟨tr, ord, _⟩ := Z1x hk
 rw [hfl] at tr ord
 obtain ⟨io, p1, p2⟩ := Z0f5 hk hfl hfr
 have hG := muG hk 33
 have hcnt := fun site seen ex => hG.count site seen (.imm (cls lc (ls.map fixD)) n ex) .nilsl (.inr ⟨ex, by rw [hfl]⟩) (.inl ⟨rfl, rfl⟩)
 have hlea := fun site seen ex => hG.least site seen (.imm (cls lc (ls.map fixD)) n ex) .nilsl (.inr ⟨ex, by rw [hfl]⟩) (.inl ⟨rfl, rfl⟩)
 have hds : (hisL (ls.map fixD)).length = n := by rw [List.length_map, hfl]
 have hdb : ∀ i, i < n → ((ls.map fixD).getD i default).lo ≤ (hisL (ls.map fixD)).getD i 0 ∧ (hisL (ls.map fixD)).getD i 0 ≤ ((ls.map fixD).getD i default).hi := fun i hi => by
   rw [ZvV]
   have hm := List.mem_of_getElem? (Z09 (l := ls.map fixD) (i := i) (by omega))
   have he := (hok2 _ hm).2
   unfold ldE at he
   unfold hiF
   generalize (ls.map fixD).getD i default = x at *
   split at he
   · split at he
     · simp at he
     · omega
   · simp at he
 have hcst := fun site seen ex e1 e2 => Z0eD (d := 32) hfl hk io hds hdb (site := site) (seen := seen) (a := .imm (cls lc (ls.map fixD)) n ex) (b := .nilsl) (e1 := e1) (e2 := e2) (.inr ⟨ex, by rw [hfl]⟩) (.inl ⟨rfl, rfl⟩)
 have hd9 : ∀ i, 0 ≤ (hisL (ls.map fixD)).getD i 0 ∧ (hisL (ls.map fixD)).getD i 0 ≤ 9 := fun i => by
   rw [ZvV]
   by_cases hi : i < n
   · obtain ⟨l, _, q, e⟩ := ZkB tr hi
     have := q.hi
     omega
   · have := ZoP tr i
     unfold hiF
     rw [ZfK (by omega)]
     exact ⟨Int.le_refl _, by show (0 : Int) ≤ 9; omega⟩
 have hdea := fun site seen ex x1 x2 => Z0hK (d := 38) (site := site) (seen := seen) (ex := ex) (x1 := x1) (x2 := x2) (b := .nilsl) tr (.inl rfl) io.len hds (fun i hi => io.lt hi) hd9
 have hmost := fun site seen ex => Z0kF (d := 39) (site := site) (seen := seen) (ls := ls.map fixD) (n := n) (ex := ex) (b := .nilsl) hfl (by omega) (by omega)
 have hsort := fun B => dsort (d := 36) (B := B) (ls := ls.map fixD) (n := n) (l := List.range n) ⟨hfl, by omega, h6, fun x hx => (hok2 x hx).1⟩ (List.length_range ..) (fun x hx => List.mem_range.1 hx)
 have hrl : (srtI (dueF (ls.map fixD)) (List.range n)).length = n := io.len
 have hr2 : (ins (srtI (dueF (ls.map fixD)) (List.range n))).length = n := by rw [Zn, hrl]
 rw [Z0p0 io, p1] at hcst hdea
 rw [hrl, hds] at hdea
 rw [hfl, p2] at hcnt
 rw [hfl] at hlea
 have hf := ZtN n h6
 have hfull := Z62 n h6
 have h2 : 2 ^ n ≤ 64 := Nat.pow_le_pow_right (by omega) (show n ≤ 6 from h6)
 have h21 : 1 ≤ 2 ^ n := Nat.one_le_two_pow
 have h22 : 2 ≤ 2 ^ n := by
   have := Nat.pow_le_pow_right (n := 2) (by omega) (show 1 ≤ n by omega)
   omega
 have hmem := fun (site : Nat → Nat) seen => Z0z4 (d := 39) (site := site) (seen := seen) (s := 2 ^ n - 1) (by omega) (by omega)
 rw [hfull, List.length_range] at hmem
 have hworks := fun site seen => Z5p (site := site) (seen := seen) hw
 generalize callA E fg 1000 40 = C at *
 have hl := fun s0 h0 => loopS (f := (execA E C (fg 15) 0 96 [] 1000 Zem)) (fun k => duS ls n k) n s0 hgo h0 (by omega)
   (e := .exit 0) (se := ([(20, .bool false), (19, .int .i64 n), (18, .int .i64 n), (4, .int .i64 (factN n : Nat)), (3, .ptr 3 0 2)], [(3, ⟨.box, [.ref 14 0 n n (n * 5) 5 false, .nilsl]⟩), (14, ⟨.row, cls lc (fixL ls n)⟩)])) (by
     simp only [duS]
     simp (disch := omega) only [ZG, Z9, Zc, Za, Z4, Z2, Z3, Z0, Zo, stp, just, Rd.bind, Rd.run, Rd.opt, upds, aBin, aInt, Nat.reduceEqDiff, Nat.reduceLeDiff, ↓reduceIte, decide_false, Z5, List.elem_nil, seqN, bindN, regN, Int.lt_irrefl, Bool.false_eq_true, Z0ku, Z027, Z062, Z0k0, Z0jM, Z0fo, Z0g4, Z0hR]) (by simp)
 rw [hfix] at hl
 have hclL : (cls lc ls).length = n * 5 := by rw [Zv ZJ, hll]
 have hcl : (cls lc (ls.map fixD)).length = n * 5 := by rw [Zv ZJ, hfl]
 have tcl : List.take (n * 5) (cls lc (ls.map fixD)) = cls lc (ls.map fixD) := List.take_of_length_le (by omega)
 have hcb := Zv Z2U es
 have tcb : List.take (es.length * 2) (cls bc es) = cls bc es := List.take_of_length_le (by omega)
 have hdl := ZaJ h
 have tdl : List.take 38 (dcs D) = dcs D := List.take_of_length_le (by omega)
 have hsn := Zga h (d := 198) (by omega)
 have hsh := shlI (i := n) (by omega)
 have ws : wrp .i64 (((1 <<< n : Nat) : Int) - 1) = ((2 ^ n - 1 : Nat) : Int) := by
   rw [Nat.one_shiftLeft, Z0q (by omega)]; omega
 have hri : (ins (List.range n)).length = n := by rw [Zn, List.length_range]
 have hhi : (ics (hisL (ls.map fixD))).length = n := by rw [ZC, hds]
 have tri : List.take n (ins (srtI (dueF (ls.map fixD)) (List.range n))) = ins (srtI (dueF (ls.map fixD)) (List.range n)) := List.take_of_length_le (by omega)
 have thi : List.take n (ics (hisL (ls.map fixD))) = ics (hisL (ls.map fixD)) := List.take_of_length_le (by omega)
 generalize ruC (ls.map fixD) (sets n []) n = z at *
 generalize hso : srtI (dueF (ls.map fixD)) (List.range n) = so at *
 generalize hisL (ls.map fixD) = hs at *
 generalize hL' : ls.map fixD = ls' at *
 generalize factN n = fN at *
 generalize 2 ^ n - 1 = s1 at *
 simp only [dH] at hsort
 by_cases he : es = []
 · subst he
   have hm0 := fun site seen => hmade0 site seen rfl
   have l1 := hl ([(19, .int .i64 0), (18, .int .i64 n), (4, .int .i64 1), (3, .ptr 3 0 2)], [(1, ⟨.box, dcs D⟩), (3, ⟨.box, [.ref 14 0 n n (n * 5) 5 false, .nilsl]⟩), (14, ⟨.row, cls lc ls⟩)]) (ZlF (Z0f _ Z0H) rfl rfl)
   simp (disch := omega) only [Zz, ZN, Bool.not_true, Bool.not_false, Zp, Zc, Za, Z4, Z0e, Z2, Z3, Z0, Zk, Zd, Zq, Zi, Zm, Zo, Zj, stp, opPick, opBox, justO, just, Rd.bind, Rd.run, Rd.opt, upds, acells, zeroCells, tsz, rdCells, fieldOf, Zb, aLoad, aStore, opStore, Zx, resA, resL, fresh, aLen, Zf, aBin, aInt, putC, Nat.reduceAdd, Nat.reduceMul, Nat.reduceBEq, Nat.reduceEqDiff, Nat.reduceLeDiff, ↓reduceIte, reduceCtorEq, Ze, Nat.zero_add, Nat.add_zero, List.nil_append, List.getElem?_toArray, ZS, ZR, ZX, ZW, ZM, Z02, ZD, ZA, ZP, ZL, stpT, ↓gdT, Rd.foot, writing, Zr, Tr.empty, Zu, apartT, disj, List.isEmpty_nil, List.isEmpty_cons, List.map_nil, List.map_cons, Bool.not_false, Bool.not_true, Bool.true_or, Bool.or_true, Bool.or_false, Bool.and_true, Bool.true_and, Bool.and_self, decide_true, Z5, Zl, and_true, mutX, aCall, snaps, List.append_nil, Option.map_some, List.elem_cons, List.elem_nil, List.length_cons, List.length_nil, List.getElem?_cons_zero, List.getElem?_cons_succ, List.drop_zero, List.take_succ_cons, List.take_nil, List.set_cons_zero, List.set_cons_succ, Zs, Zdm, Z63, ZgT, seqN, bindN, regN, Zw, ZU, ZH, ZE, List.all_cons, List.all_nil, Z0Z, ZaG, List.cons_append, Nat.le_refl, Nat.mul_one, Nat.zero_mul, List.not_mem_nil, beq_self_eq_true, Bool.false_eq_true, T_22, T_23, T_25, T_58, List.all_cons, List.all_nil, List.getD_cons_zero, List.getD_cons_succ, beq_self_eq_true, Z0s3, Z00y, Z034, Z05J, Z0rw, Z05A, ZZS, Z03W, Z0bo, ZYY, Z0rY, ZZj, Z05k, Z09R, Z0rr, Z02b, Z04C, Z0jP, Z03P, ZYA, ZZo, Z01t, ZYs, Z0fi, Z0f8, Z0rv, Z0jy, ZGF, ZWf, ZH3, ZRC, ZHA, ZTp, ZOs, ZFI, Z0id, ZKA, ZPE, ZS6, ZOS, Z0h6, ZFJ, ZKK, ZOP, ZIF, ZRo, ZMp, ZMy, ZTo, Z0kV, ZUS, ZKS, ZSA, ZXm, ZVs, ZGw, ZGJ, ZTa, Z0ky, ZJT, ZyR, ZzG, ZQK, ZX6, ZNq, ZVh, ZM2, ZW7, ZL6, ZCx, ZQF, ZK2, Z0l7, ZHE, Zzf, Zx4, ZNh, ZSu, ZRV, ZDC, ZIu, ZSa, ZEj, ZTh, ZTn, ZU7, ZzM, Zy2, Zzj, Zyw, ZAj, Zx0, ZzS, ZxP, ZyG, ZA3, ZAk, Zzq, ZzP, Zxj, ZxQ, Zzv, ZxS, Zz7, Zyr, Zzr, Zxv, ZAh, ZyM, Z0jT, Z0hB, Z0gn, Z0jv, Z0ia, Z0h9, Z0kr, Z0rN, Z0s7, Z0rS, Z0rm, Z0rL, b_15, hm0, l1, hworks, hclL, hcl, tcl, hdl, tdl, hsn, hsh, ws, hmem, hsort, hr2, tri, hcnt, hlea, hmost, hhi, thi, hcst, hdea]
   done
 · have hm1 := fun site seen hs => hmade1 site seen he hs
   have l1 := hl ([(19, .int .i64 0), (18, .int .i64 n), (4, .int .i64 1), (3, .ptr 3 0 2)], [(1, ⟨.box, dcs D⟩), (3, ⟨.box, [.ref 14 0 n n (n * 5) 5 false, .nilsl]⟩), (14, ⟨.row, cls lc ls⟩), (110, ⟨.row, cls bc es⟩)]) (ZlF (Z0f _ Z0H) rfl rfl)
   simp (disch := omega) only [Zz, ZN, Bool.not_true, Bool.not_false, Zp, Zc, Za, Z4, Z0e, Z2, Z3, Z0, Zk, Zd, Zq, Zi, Zm, Zo, Zj, stp, opPick, opBox, justO, just, Rd.bind, Rd.run, Rd.opt, upds, acells, zeroCells, tsz, rdCells, fieldOf, Zb, aLoad, aStore, opStore, Zx, resA, resL, fresh, aLen, Zf, aBin, aInt, putC, Nat.reduceAdd, Nat.reduceMul, Nat.reduceBEq, Nat.reduceEqDiff, Nat.reduceLeDiff, ↓reduceIte, reduceCtorEq, Ze, Nat.zero_add, Nat.add_zero, List.nil_append, List.getElem?_toArray, ZS, ZR, ZX, ZW, ZM, Z02, ZD, ZA, ZP, ZL, stpT, ↓gdT, Rd.foot, writing, Zr, Tr.empty, Zu, apartT, disj, List.isEmpty_nil, List.isEmpty_cons, List.map_nil, List.map_cons, Bool.not_false, Bool.not_true, Bool.true_or, Bool.or_true, Bool.or_false, Bool.and_true, Bool.true_and, Bool.and_self, decide_true, Z5, Zl, and_true, mutX, aCall, snaps, List.append_nil, Option.map_some, List.elem_cons, List.elem_nil, List.length_cons, List.length_nil, List.getElem?_cons_zero, List.getElem?_cons_succ, List.drop_zero, List.take_succ_cons, List.take_nil, List.set_cons_zero, List.set_cons_succ, Zs, Zdm, Z63, ZgT, seqN, bindN, regN, Zw, ZU, ZH, ZE, List.all_cons, List.all_nil, Z0Z, ZaG, Z1V, List.cons_append, Nat.le_refl, Nat.mul_one, Nat.zero_mul, List.not_mem_nil, beq_self_eq_true, Bool.false_eq_true, T_22, T_23, T_25, T_58, List.all_cons, List.all_nil, List.getD_cons_zero, List.getD_cons_succ, beq_self_eq_true, Z0s3, Z00y, Z034, Z05J, Z0rw, Z05A, ZZS, Z03W, Z0bo, ZYY, Z0rY, ZZj, Z05k, Z09R, Z0rr, Z02b, Z04C, Z0jP, Z03P, ZYA, ZZo, Z01t, ZYs, Z0fi, Z0f8, Z0rv, Z0jy, ZGF, ZWf, ZH3, ZRC, ZHA, ZTp, ZOs, ZFI, Z0id, ZKA, ZPE, ZS6, ZOS, Z0h6, ZFJ, ZKK, ZOP, ZIF, ZRo, ZMp, ZMy, ZTo, Z0kV, ZUS, ZKS, ZSA, ZXm, ZVs, ZGw, ZGJ, ZTa, Z0ky, ZJT, ZyR, ZzG, ZQK, ZX6, ZNq, ZVh, ZM2, ZW7, ZL6, ZCx, ZQF, ZK2, Z0l7, ZHE, Zzf, Zx4, ZNh, ZSu, ZRV, ZDC, ZIu, ZSa, ZEj, ZTh, ZTn, ZU7, ZzM, Zy2, Zzj, Zyw, ZAj, Zx0, ZzS, ZxP, ZyG, ZA3, ZAk, Zzq, ZzP, Zxj, ZxQ, Zzv, ZxS, Zz7, Zyr, Zzr, Zxv, ZAh, ZyM, Z0jT, Z0hB, Z0gn, Z0jv, Z0ia, Z0h9, Z0kr, Z0rN, Z0s7, Z0rS, Z0rm, Z0rL, b_15, hm1, l1, hworks, hclL, hcl, tcl, hdl, tdl, hsn, hsh, ws, hmem, hsort, hr2, tri, hcnt, hlea, hmost, hhi, thi, hcst, hdea]
   done
end Go.AM.YtgfnbmfjbjopkaaDoor
end
noncomputable section
namespace Go.AM.YtgfnbmfjbjopkaaDoor
open Go Go.AM
theorem Z0kl : isTrue (callA E fg 1000 40 17 [] [] 0) = true := by kernel_rfl
end Go.AM.YtgfnbmfjbjopkaaDoor
end
end
