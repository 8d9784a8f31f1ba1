/- Operations that only compute, and addresses: the machine does what the abstract machine does. Own work of this project. -/
import Derived.Test.YtikchlfbjdfioaaAmG
import Derived.Laws.Cover3
import Derived.Laws.Small
namespace Go.AM
section
variable {P : Program} {E : Env} {g : Gh}

/-! ### Values of the text -/
theorem ofV1_ok (v : Value) : (ofV1 v).isAny = false → v.oneCell' = true ∧ ∀ fz w rf, VR fz w (ofV1 v) rf v := by
  unfold ofV1
  intro h
  split at h <;> simp [Value.oneCell', VR, AV.isAny] at h ⊢

theorem ofV_ok (v : Value) (fz : Nat → Prop) (w : World) (rf : RFt) : VR fz w (ofV v) rf v := by
  unfold ofV
  split
  · rename_i cs
    split
    · rename_i h
      simp only [VR]
      refine ⟨cs, rfl, ?_⟩
      rw [VRo_iff]
      refine ⟨by simp, fun i a u h1 h2 => ?_⟩
      rw [List.getElem?_map] at h1
      rw [h2] at h1
      obtain rfl := Option.some.inj h1
      rw [List.all_eq_true] at h
      have := h u (List.mem_of_getElem? h2)
      obtain ⟨q1, q2⟩ := ofV1_ok u (by simpa using this)
      exact ⟨q1, q2 _ _ _⟩
    · simp only [VR]
  · rename_i cs
    split
    · rename_i h
      simp only [VR, VRs]
      exact ⟨cs, rfl, by simpa using h⟩
    · simp only [VR]
  · rename_i h1 h2
    cases h : (ofV1 v).isAny with
    | false => exact (ofV1_ok v h).2 _ _ _
    | true =>
      have : ofV1 v = .any := by
        cases hv : ofV1 v <;> rw [hv] at h <;> first | rfl | (simp [AV.isAny] at h; done)
      rw [this]; simp only [VR]

/-- The frame's slots. -/
def FR (g : Gh) (φ : AFr) (tmps : Array Value) : Prop := ∀ i, g.R (fget φ i) (tmps.getD i undef)

theorem ev_ok (hI : Inv E g) {φ : AFr} {a : Act} (hφ : FR g φ a.tmps) (x : Operand) : g.R (evO E φ x) (a.eval x) := by
  cases x with
  | tmp t => exact hφ t
  | const v => exact ofV_ok v _ _ _
  | func f => simp only [evO, Act.eval, Gh.R, VR, VRs]; exact ⟨#[], rfl, rfl⟩
  | global k =>
    simp only [evO, Act.eval]
    split
    · rename_i cs h
      obtain ⟨h1, h2⟩ := hI.glob k cs h
      simp only [Gh.R, VR]
      exact ⟨k, 0, rfl, h1, h2⟩
    · simp only [Gh.R, VR]

theorem evs_ok (hI : Inv E g) {φ : AFr} {a : Act} (hφ : FR g φ a.tmps) : ∀ (xs : List Operand), g.Rs (xs.map (evO E φ)) (xs.map a.eval)
  | [] => by simp only [List.map_nil, Gh.Rs, VRs]
  | x :: xs => by simp only [List.map_cons, Gh.Rs, VRs]; exact ⟨_, _, rfl, ev_ok hI hφ x, evs_ok hI hφ xs⟩

/-! ### Integers, strings, bools -/
theorem aInt_ok {op : BinOp} {k : IntKind} {a b : Int} {r : AV} (h : aInt op k a b = some r) (t : TypeId) (w : World) :
    ∃ v', (binOp op t (.int k a) (.int k b)).run P w = .ok v' w ∧ ∀ fz w' rf, VR fz w' r rf v' := by
  cases op <;> simp only [aInt, Option.some.injEq] at h
  · subst h; exact ⟨_, by simp [binOp, Op.intArith]; rfl, fun _ _ _ => by simp only [VR, wrp_eq]⟩
  · subst h; exact ⟨_, by simp [binOp, Op.intArith]; rfl, fun _ _ _ => by simp only [VR, wrp_eq]⟩
  · subst h; exact ⟨_, by simp [binOp, Op.intArith]; rfl, fun _ _ _ => by simp only [VR, wrp_eq]⟩
  · split at h
    · exact absurd h (by simp)
    · rename_i hb; obtain rfl := Option.some.inj h; exact ⟨_, by simp [binOp, Op.intDiv, hb]; rfl, fun _ _ _ => by simp only [VR, wrp_eq]⟩
  · split at h
    · exact absurd h (by simp)
    · rename_i hb; obtain rfl := Option.some.inj h; exact ⟨_, by simp [binOp, Op.intDiv, hb]; rfl, fun _ _ _ => by simp only [VR]⟩
  · subst h; exact ⟨_, by simp only [binOp, Op.intBits]; simp only [ne_eq, not_true_eq_false, if_false]; rfl, fun _ _ _ => by simp only [bk, bt, VR, wrp_eq]⟩
  · subst h; exact ⟨_, by simp only [binOp, Op.intBits]; simp only [ne_eq, not_true_eq_false, if_false]; rfl, fun _ _ _ => by simp only [bk, bt, VR, wrp_eq]⟩
  · subst h; exact ⟨_, by simp only [binOp, Op.intBits]; simp only [ne_eq, not_true_eq_false, if_false]; rfl, fun _ _ _ => by simp only [bk, bt, VR, wrp_eq]⟩
  · exact absurd h (by simp)
  · exact absurd h (by simp)
  · subst h; exact ⟨_, by simp only [binOp, Op.intBits]; simp only [ne_eq, not_true_eq_false, if_false]; rfl, fun _ _ _ => by simp only [bk, bt, VR, wrp_eq]⟩
  · subst h; exact ⟨_, by simp [binOp, Op.intCmp]; rfl, fun _ _ _ => by simp only [VR]⟩
  · subst h; exact ⟨_, by simp [binOp, Op.intCmp]; rfl, fun _ _ _ => by simp only [VR]⟩
  · subst h; exact ⟨_, by simp [binOp, Op.intCmp]; rfl, fun _ _ _ => by simp only [VR]⟩
  · subst h; exact ⟨_, by simp [binOp, Op.intCmp]; rfl, fun _ _ _ => by simp only [VR]⟩
  · subst h; exact ⟨_, by simp [binOp, Op.intCmp]; rfl, fun _ _ _ => by simp only [VR]⟩
  · subst h; exact ⟨_, by simp [binOp, Op.intCmp]; rfl, fun _ _ _ => by simp only [VR]⟩

theorem aShift_ok {op : BinOp} {k k' : IntKind} {a b : Int} {r : AV} (h : aShift op k a b = some r) (t : TypeId) (w : World) :
    ∃ v', (binOp op t (.int k a) (.int k' b)).run P w = .ok v' w ∧ ∀ fz w' rf, VR fz w' r rf v' := by
  unfold aShift at h
  split at h
  · exact absurd h (by simp)
  · rename_i hb
    have hp : ∀ n : Nat, pw2 n = (2 : Int) ^ n := fun n => by simp [pw2]
    cases op <;> simp only [Option.some.injEq] at h <;> try (simp at h; done)
    · subst h; exact ⟨_, by simp [binOp, Op.shift, hb]; rfl, fun _ _ _ => by simp only [VR, wrp_eq, hp]⟩
    · subst h; exact ⟨_, by simp [binOp, Op.shift, hb]; rfl, fun _ _ _ => by simp only [VR, hp]⟩

theorem aStr_ok {op : BinOp} {x y : ByteArray} {r : AV} (h : aStr op x y = some r) (t : TypeId) (w : World) :
    ∃ v', (binOp op t (.string x) (.string y)).run P w = .ok v' w ∧ ∀ fz w' rf, VR fz w' r rf v' := by
  cases op <;> simp only [aStr, Option.some.injEq] at h <;> try (simp at h; done)
  all_goals (subst h; exact ⟨_, by simp only [binOp, Op.stringOp]; rfl, fun _ _ _ => by simp only [VR]⟩)

theorem guard_int (op : BinOp) (t : TypeId) (x y : Operand) (a b : Value) (w : World) (ha : ∀ cs, a ≠ .agg cs) (hn : a ≠ .nilIface) : (eqGuard op t x y a b).run P w = .ok () w := by
  cases op <;> simp [eqGuard] <;> (cases a <;> first | rfl | exact absurd rfl (ha _) | exact absurd rfl hn)

theorem aNil_ok (_ : Inv E g) {x : AV} {xv : Value} {b : Bool} (h : (aNil x).run g.H = some b) (hx : g.R x xv) : ∃ a l c, xv = .slice a l c ∧ a.isNone = b := by
  cases x <;> simp only [aNil] at h <;> try (simp [Rd.run] at h; done)
  · simp only [Rd.run, Option.some.injEq] at h; subst h
    simp only [Gh.R, VR] at hx
    exact ⟨_, _, _, hx, rfl⟩
  · simp only [Rd.run, Option.some.injEq] at h; subst h
    simp only [Gh.R, VR] at hx
    obtain ⟨b, o, cap, rfl, _⟩ := hx
    exact ⟨_, _, _, rfl, rfl⟩
  · obtain ⟨b', h1, h2⟩ := Rd.run_bind_some h
    simp only [Rd.run, Option.some.injEq] at h2; subst h2
    obtain ⟨h3, h4⟩ := liveBlk_run h1
    simp only [Gh.R, VR, RF] at hx
    obtain ⟨_, b'', h6, h7, h8⟩ := hx
    rw [h3] at h6; obtain rfl := Option.some.inj h6
    obtain ⟨o, c, rfl, _⟩ := h8 h4
    exact ⟨_, _, _, rfl, rfl⟩

theorem eqInts_ok {k : IntKind} {e : TypeId} (he : P.underlying e = some (.int k)) (hn : P.cellsOf e = 1) (d : Nat) (w : World) {fz : Nat → Prop} {rf : RFt} :
    ∀ (xs ys : List AV) (r : Bool) (X Y : Array Value) (i : Nat), eqInts k xs ys = some r → VRo fz w xs rf (X.toList.drop i) → VRo fz w ys rf (Y.toList.drop i) →
      (Op.eqItems (d + 1) e 1 X Y (List.range' i xs.length)).run P w = .ok r w
  | [], [], r, X, Y, i, h, _, _ => by simp only [eqInts, Option.some.injEq] at h; subst h; simp [Op.eqItems]
  | [], _ :: _, r, X, Y, i, h, _, _ => by simp [eqInts] at h
  | x :: xs, [], r, X, Y, i, h, _, _ => by cases x <;> simp [eqInts] at h
  | x :: xs, y :: ys, r, X, Y, i, h, hx, hy => by
    cases x <;> cases y <;> simp only [eqInts] at h <;> try (simp at h; done)
    rename_i k1 a k2 b
    split at h
    · rename_i hk
      obtain ⟨rfl, rfl⟩ := hk
      simp only [VRo] at hx hy
      obtain ⟨xv, xt, ex, _, hxv, hxs⟩ := hx
      obtain ⟨yv, yt, ey, _, hyv, hys⟩ := hy
      simp only [VR] at hxv hyv
      subst hxv; subst hyv
      have hX : X[i]? = some (.int k2 a) := by
        have := congrArg (fun l => l[0]?) ex
        simpa [List.getElem?_drop] using this
      have hY : Y[i]? = some (.int k2 b) := by
        have := congrArg (fun l => l[0]?) ey
        simpa [List.getElem?_drop] using this
      have hxs' : VRo fz w xs rf (X.toList.drop (i + 1)) := by
        have : X.toList.drop (i + 1) = xt := by rw [← List.drop_drop, ex]; rfl
        rw [this]; exact hxs
      have hys' : VRo fz w ys rf (Y.toList.drop (i + 1)) := by
        have : Y.toList.drop (i + 1) = yt := by rw [← List.drop_drop, ey]; rfl
        rw [this]; exact hys
      have hp : ∀ (A : Array Value) (v : Value), A[i]? = some v → (part e A (i * 1)).run P w = .ok v w := by
        intro A v hA
        simp only [part, Sem.run_bind, run_isAgg he, aggD, Result.andThen_ok, Bool.false_eq_true, if_false, Nat.mul_one, hA, Sem.run_pure]
      have heq : (Op.equalIn (d + 1) e (.int k2 a) (.int k2 b)).run P w = .ok (a == b) w := by
        simp [Op.equalIn, run_under he]
      simp only [List.length_cons, List.range'_succ, Op.eqItems, Sem.run_bind, hp X _ hX, hp Y _ hY, heq, Result.andThen_ok]
      split at h
      · rename_i hab
        rw [hab]
        simp only [Bool.not_true, Bool.false_eq_true, if_false]
        exact eqInts_ok he hn d w xs ys r X Y (i + 1) h hxs' hys'
      · rename_i hab
        split at h
        · obtain rfl := Option.some.inj h
          have : (a == b) = false := by simpa using hab
          rw [this]; simp
        · exact absurd h (by simp)
    · exact absurd h (by simp)

theorem eqFs_ok (hE : EnvOK P E) (d : Nat) {xs ys : List AV} {X Y : Array Value} (hx : VRo g.fz g.w xs (RF g) X.toList) (hy : VRo g.fz g.w ys (RF g) Y.toList) :
    ∀ (fa : List Field) (r : Bool), eqFs E.T xs ys (fa.map fun f => (f.offset, f.type, P.cellsOf f.type)) = some r → (∀ f ∈ fa, f.name ≠ "_") →
      (Op.eqFields (d + 1) X Y fa).run P g.w = .ok r g.w
  | [], r, h, _ => by simp only [List.map_nil, eqFs, Option.some.injEq] at h; subst h; simp [Op.eqFields]
  | f :: fa, r, h, hn => by
    simp only [List.map_cons, eqFs] at h
    split at h
    · rename_i k z1 z2 z3 k1 a k2 b hT ha hb
      obtain ⟨inf, h1, h2, _, _, h3⟩ := hE.ty _ _ hT
      simp only [KindOK] at h3
      split at h
      · rename_i hk
        obtain ⟨rfl, rfl⟩ := hk
        rw [VRo_iff] at hx hy
        have hp : ∀ (A : Array Value) (zs : List AV) (z : Int), (zs.length = A.toList.length ∧ ∀ (i : Nat) (a : AV) (v : Value), zs[i]? = some a → A.toList[i]? = some v → v.oneCell' = true ∧ VR g.fz g.w a (RF g) v) → zs[f.offset]? = some (.int k2 z) → (part f.type A f.offset).run P g.w = .ok (.int k2 z) g.w := by
          intro A zs z hA hz
          have hlt : f.offset < A.toList.length := by rw [← hA.1]; exact (List.getElem?_eq_some_iff.1 hz).1
          obtain ⟨_, hv⟩ := hA.2 f.offset _ _ hz (List.getElem?_eq_getElem hlt)
          simp only [VR] at hv
          have hA' : A[f.offset]? = some (.int k2 z) := by
            rw [← Array.getElem?_toList, List.getElem?_eq_getElem hlt, hv]
          simp only [part, Sem.run_bind, run_isAgg h3, aggD, Result.andThen_ok, Bool.false_eq_true, if_false, hA', Sem.run_pure]
        have heq : (Op.equalIn (d + 1) f.type (.int k2 a) (.int k2 b)).run P g.w = .ok (a == b) g.w := by
          simp [Op.equalIn, run_under h3]
        have hne : f.name ≠ "_" := hn f (by simp)
        simp only [Op.eqFields, if_pos hne, Sem.run_bind, hp X xs a hx ha, hp Y ys b hy hb, heq, Result.andThen_ok]
        split at h
        · rename_i hab
          rw [hab]
          simp only [Bool.not_true, Bool.false_eq_true, if_false]
          exact eqFs_ok hE d (by rw [VRo_iff]; exact hx) (by rw [VRo_iff]; exact hy) fa r h (fun f hf => hn f (by simp [hf]))
        · rename_i hab
          obtain rfl := Option.some.inj h
          have : (a == b) = false := by simpa using hab
          rw [this]; simp
      · exact absurd h (by simp)
    · exact absurd h (by simp)

theorem eqArr_ok (hE : EnvOK P E) {t : TypeId} {xs ys : List AV} {X Y : Array Value} {r : Bool} (h : eqArr E.T t xs ys = some r)
    (hx : VRo g.fz g.w xs (RF g) X.toList) (hy : VRo g.fz g.w ys (RF g) Y.toList) :
    (Op.equalIn 10000 t (.agg X) (.agg Y)).run P g.w = .ok r g.w ∧ P.eqGuardType P.depth t = false := by
  unfold eqArr at h
  split at h
  · rename_i n e z1 z2 z3 hT
    obtain ⟨inf, h1, h2, _, _, h3⟩ := hE.ty t _ hT
    simp only [KindOK] at h3
    obtain ⟨h4, h5⟩ := h3
    obtain ⟨h5, h6⟩ := h5 trivial
    split at h
    · rename_i k z4 z5 z6 hT2
      obtain ⟨inf2, q1, q2, _, _, q3⟩ := hE.ty e _ hT2
      simp only [KindOK] at q3
      split at h
      · rename_i hn
        refine ⟨?_, h5⟩
        rw [run_equalIn_array (w := g.w) 9999 X Y h4 q1, h6, List.range_eq_range', ← hn]
        exact eqInts_ok q3 h6 9998 g.w xs ys r X Y 0 h (by simpa using hx) (by simpa using hy)
      · exact absurd h (by simp)
    · exact absurd h (by simp)
  · rename_i fs z1 z2 z3 hT
    obtain ⟨inf, h1, h2, _, _, h3⟩ := hE.ty t _ hT
    simp only [KindOK] at h3
    obtain ⟨fa, h4, rfl, _, h5⟩ := h3
    obtain ⟨h5, h6, h7⟩ := h5 trivial
    refine ⟨?_, h5⟩
    have hfo : P.fieldsOf t = fa := by simp only [Program.fieldsOf, h4]
    rw [run_equalIn_struct g.w 9999 t X Y (by rw [hfo]; exact h4) h6, hfo]
    exact eqFs_ok hE 9998 hx hy fa.toList r h h7
  · exact absurd h (by simp)

theorem guard_agg (op : BinOp) (t : TypeId) (x y : Operand) (a b : Array Value) (w : World) (ht : P.eqGuardType P.depth t = false) : (eqGuard op t x y (.agg a) (.agg b)).run P w = .ok () w := by
  cases op <;> simp [eqGuard, ht]

theorem bin_ok (hE : EnvOK P E) (hI : Inv E g) {op : BinOp} {t : TypeId} {x y r : AV} {xv yv : Value} (h : (aBin E.T op t x y).run g.H = some r) (hx : g.R x xv) (hy : g.R y yv) (ox oy : Operand) :
    ∃ v', (do eqGuard op t ox oy xv yv; binOp op t xv yv : Sem Value).run P g.w = .ok v' g.w ∧ g.R r v' := by
  unfold aBin at h
  split at h
  · -- integers
    rename_i k a k' b
    simp only [Gh.R, VR] at hx hy
    subst hx; subst hy
    have hg : (eqGuard op t ox oy (.int k a) (.int k' b)).run P g.w = .ok () g.w := guard_int op t ox oy _ _ _ (fun _ => by simp) (by simp)
    simp only [Sem.run_bind, hg, Result.andThen_ok]
    split at h
    · obtain ⟨v', h1, h2⟩ := aShift_ok (P := P) (opt_run h) t g.w
      exact ⟨v', h1, h2 _ _ _⟩
    · obtain ⟨v', h1, h2⟩ := aShift_ok (P := P) (opt_run h) t g.w
      exact ⟨v', h1, h2 _ _ _⟩
    · split at h
      · rename_i hk; subst hk
        obtain ⟨v', h1, h2⟩ := aInt_ok (P := P) (opt_run h) t g.w
        exact ⟨v', h1, h2 _ _ _⟩
      · simp [Rd.run] at h
  · -- strings
    rename_i a b
    simp only [Gh.R, VR] at hx hy
    subst hx; subst hy
    have hg : (eqGuard op t ox oy (.string a) (.string b)).run P g.w = .ok () g.w := guard_int op t ox oy _ _ _ (fun _ => by simp) (by simp)
    simp only [Sem.run_bind, hg, Result.andThen_ok]
    obtain ⟨v', h1, h2⟩ := aStr_ok (P := P) (opt_run h) t g.w
    exact ⟨v', h1, h2 _ _ _⟩
  · -- bools
    rename_i a b
    simp only [Gh.R, VR] at hx hy
    subst hx; subst hy
    have hg : (eqGuard op t ox oy (.bool a) (.bool b)).run P g.w = .ok () g.w := guard_int op t ox oy _ _ _ (fun _ => by simp) (by simp)
    simp only [Sem.run_bind, hg, Result.andThen_ok]
    split at h
    · rename_i ht
      have hu : P.underlying t = some .bool := by
        unfold isBoolT at ht
        split at ht
        · rename_i hT
          obtain ⟨inf, _, _, _, _, h3⟩ := hE.ty t _ hT
          exact h3
        · exact absurd ht (by simp)
      split at h
      · simp only [Rd.run, Option.some.injEq] at h; subst h
        refine ⟨.bool (a == b), ?_, by simp only [Gh.R, VR]⟩
        show (do pure (.bool (← Op.equal t (.bool a) (.bool b))) : Sem Value).run P g.w = _
        simp only [Sem.run_bind, run_equal_bool g.w t a b hu, Result.andThen_ok, Sem.run_pure]
      · simp only [Rd.run, Option.some.injEq] at h; subst h
        refine ⟨.bool !(a == b), ?_, by simp only [Gh.R, VR]⟩
        show (do pure (.bool (!(← Op.equal t (.bool a) (.bool b)))) : Sem Value).run P g.w = _
        simp only [Sem.run_bind, run_equal_bool g.w t a b hu, Result.andThen_ok, Sem.run_pure]
      · simp [Rd.run] at h
    · simp [Rd.run] at h
  · -- arrays
    rename_i xs ys
    simp only [Gh.R, VR] at hx hy
    obtain ⟨X, rfl, hx⟩ := hx
    obtain ⟨Y, rfl, hy⟩ := hy
    split at h
    · have h1 := opt_run h
      cases hr : eqArr E.T t xs ys with
      | none => rw [hr] at h1; simp at h1
      | some b =>
        rw [hr] at h1; simp only [Option.map_some, Option.some.injEq] at h1; subst h1
        obtain ⟨q1, q2⟩ := eqArr_ok hE hr hx hy
        refine ⟨.bool b, ?_, by simp only [Gh.R, VR]⟩
        simp only [Sem.run_bind, guard_agg _ _ _ _ _ _ _ q2, Result.andThen_ok]
        show (do pure (.bool (← Op.equalIn 10000 t (.agg X) (.agg Y))) : Sem Value).run P g.w = _
        simp only [Sem.run_bind, q1, Result.andThen_ok, Sem.run_pure]
    · have h1 := opt_run h
      cases hr : eqArr E.T t xs ys with
      | none => rw [hr] at h1; simp at h1
      | some b =>
        rw [hr] at h1; simp only [Option.map_some, Option.some.injEq] at h1; subst h1
        obtain ⟨q1, q2⟩ := eqArr_ok hE hr hx hy
        refine ⟨.bool !b, ?_, by simp only [Gh.R, VR]⟩
        simp only [Sem.run_bind, guard_agg _ _ _ _ _ _ _ q2, Result.andThen_ok]
        show (do pure (.bool (!(← Op.equalIn 10000 t (.agg X) (.agg Y)))) : Sem Value).run P g.w = _
        simp only [Sem.run_bind, q1, Result.andThen_ok, Sem.run_pure]
    · simp [Rd.run] at h
  · -- a slice and nil
    simp only [Gh.R, VR] at hy
    subst hy
    split at h
    · rename_i ht
      have hu : ∃ e, P.underlying t = some (.slice e) := by
        unfold isSliceT at ht
        split at ht
        · rename_i hT
          obtain ⟨inf, _, _, _, _, h3⟩ := hE.ty t _ hT
          exact ⟨_, h3⟩
        · exact absurd ht (by simp)
      obtain ⟨e, hu⟩ := hu
      split at h
      · obtain ⟨b, h1, h2⟩ := Rd.run_bind_some h
        simp only [Rd.run, Option.some.injEq] at h2; subst h2
        obtain ⟨a, l, c, rfl, h3⟩ := aNil_ok hI h1 hx
        have hg := guard_int (P := P) BinOp.eql t ox oy (.slice a l c) (.slice none 0 0) g.w (fun _ => by simp) (by simp)
        refine ⟨.bool b, ?_, by simp only [Gh.R, VR]⟩
        simp only [Sem.run_bind, hg, Result.andThen_ok]
        show (do pure (.bool (← Op.equal t (.slice a l c) (.slice none 0 0))) : Sem Value).run P g.w = _
        simp only [Sem.run_bind, run_equal_slice_nil g.w t e a l c hu, Result.andThen_ok, Sem.run_pure, h3]
      · obtain ⟨b, h1, h2⟩ := Rd.run_bind_some h
        simp only [Rd.run, Option.some.injEq] at h2; subst h2
        obtain ⟨a, l, c, rfl, h3⟩ := aNil_ok hI h1 hx
        have hg := guard_int (P := P) BinOp.neq t ox oy (.slice a l c) (.slice none 0 0) g.w (fun _ => by simp) (by simp)
        refine ⟨.bool !b, ?_, by simp only [Gh.R, VR]⟩
        simp only [Sem.run_bind, hg, Result.andThen_ok]
        show (do pure (.bool (!(← Op.equal t (.slice a l c) (.slice none 0 0)))) : Sem Value).run P g.w = _
        simp only [Sem.run_bind, run_equal_slice_nil g.w t e a l c hu, Result.andThen_ok, Sem.run_pure, h3]
      · simp [Rd.run] at h
    · simp [Rd.run] at h
  · simp [Rd.run] at h

end
end Go.AM
