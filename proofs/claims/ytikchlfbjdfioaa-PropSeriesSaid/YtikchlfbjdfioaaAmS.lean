/- Every operation: the machine does what the abstract one told. Own work of this project. -/
import Derived.Test.YtikchlfbjdfioaaAmMp
namespace Go.AM
section
variable {P : Program} {E : Env} {g : Gh}

/-- An operation goes well, to what the abstract one told. -/
def Goes (P : Program) (E : Env) (o : Oper) (a : Act) (g : Gh) (x : AV × Ups) : Prop :=
  ∀ (next : Act → World → Prop) (Q : Exit → Act → World → Prop), (∀ v' g', g'.H = upds g.H x.2 → Inv E g' → Adv g g' → g'.R x.1 v' → next (a.put o.dst v') g'.w) → o.wp P a g.w next Q

theorem goes_value {o : Oper} {a : Act} {x : AV × Ups} {s : Sem Value} (he : execOp a.eval o = (do pure (.value (← s)))) (h : Done E g x (s.run P g.w)) : Goes P E o a g x := by
  intro next Q hn
  obtain ⟨v', g', h1, h2, h3, h4, h5⟩ := h
  simp only [Oper.wp, he, Sem.run_bind, h1, Result.andThen_ok, Sem.run_pure, Oper.upon_value]
  exact hn v' g' h2 h3 h4 h5

theorem goes_pure {o : Oper} {a : Act} {av : AV} {v : Value} (hI : Inv E g) (he : (execOp a.eval o).run P g.w = .ok (.value v) g.w) (h : g.R av v) : Goes P E o a g (av, []) := by
  intro next Q hn
  simp only [Oper.wp, he, Oper.upon_value]
  exact hn v g rfl hI (Adv.refl g) h

theorem ers_ok (hI : Inv E g) {φ : AFr} {a : Act} (hφ : FR g φ a.tmps) (xs : Array Operand) : g.Rs (xs.toList.map (evO E φ)) (xs.map a.eval).toList := by
  rw [Array.toList_map]; exact evs_ok hI hφ xs.toList

theorem optR (hI : Inv E g) {φ : AFr} {a : Act} (hφ : FR g φ a.tmps) : ∀ (x : Option Operand), OR g (x.map (evO E φ)) (x.map a.eval)
  | none => by simp [OR]
  | some x => by simpa [OR] using ev_ok hI hφ x

theorem fInfo_ok (hE : EnvOK P E) {f : FuncId} {fi : FI} (h : fInfo E f = some fi) : ∃ fn c, P.funcs[f]? = some fn ∧ (fn.name == "runtime.NumGoroutine") = false ∧ fn.body = some c ∧ fi = ⟨fn.ntmps, fn.results, c⟩ := by
  unfold fInfo at h
  split at h
  · rename_i fn hf
    obtain ⟨h1, h2⟩ := hE.fn f fn hf
    split at h
    · rename_i c hc
      exact ⟨fn, c, h1, h2, hc, (Option.some.inj h).symm⟩
    · exact absurd h (by simp)
  · exact absurd h (by simp)

theorem goes_build (hE : EnvOK P E) (hI : Inv E g) {o : Oper} {a : Act} {ρ : Operand → AV} (ev : ∀ y, g.R (ρ y) (a.eval y)) {t : TypeId} {parts : Array (Nat × Operand)} (ho : o.op = .build t parts) {x : AV × Ups}
    (h : aBuild E.T t ρ parts.toList = some x.1) (h2 : x.2 = []) : Goes P E o a g x :=
  goes_value (s := Instr.build t (parts.map fun p => (p.1, a.eval p.2))) (by simp only [execOp, ho]) (Done.of hI h2 (build_ok hE ev h))

theorem exec_buildSlice {o : Oper} {a : Act} {t : TypeId} {len : Nat} {parts : Array (Nat × Operand)} (ho : o.op = .buildSlice t len parts) :
    execOp a.eval o = ((Instr.buildSlice t len (parts.map fun (i, x) => (i, a.eval x))) >>= fun v => pure (Next.value v)) := by
  simp only [execOp, ho]

theorem pairs_eq (ev : Operand → Value) (parts : Array (Nat × Operand)) : (parts.map fun (i, x) => (i, ev x)) = parts.map fun p => (p.1, ev p.2) := by
  congr 1

theorem goes_buildSlice (hE : EnvOK P E) (hI : Inv E g) {o : Oper} {a : Act} {ρ : Operand → AV} (ev : ∀ y, g.R (ρ y) (a.eval y)) {t : TypeId} {site len : Nat} {parts : Array (Nat × Operand)} (ho : o.op = .buildSlice t len parts) {x : AV × Ups}
    (h : (aBuildSlice E.T site t len ρ parts.toList).run g.H = some x) : Goes P E o a g x := by
  have h2 := exec_buildSlice (a := a) ho
  have hb : Done E g x ((Instr.buildSlice t len (parts.map fun p => (p.1, a.eval p.2))).run P g.w) := buildSlice_ok (ρv := a.eval) hE hI ev h
  rw [pairs_eq] at h2
  revert h2 hb
  generalize Instr.buildSlice t len (parts.map fun p => (p.1, a.eval p.2)) = s
  intro h2 hb
  exact goes_value h2 hb

/-- A call by a value: the machine enters the function. -/
theorem enter_ok (hE : EnvOK P E) {o : Oper} {c : Call} (ho : o.op = .call c) {fv : Operand} (hc : c.callee = .value fv) {a : Act} {f : FuncId} {first caps : Array Value} (hv : a.eval fv = .func (.func f) first caps) {fi : FI} (hf : fInfo E f = some fi) (w : World) :
    (execOp a.eval o).run P w = .ok (.enter f (first ++ c.args.map a.eval ++ caps)) w := by
  obtain ⟨fn, cd, h1, h2, h3, _⟩ := fInfo_ok hE hf
  simp only [execOp, ho, resolve, hc, hv, Deferred.ofValue]
  have h2' : ¬ fn.name = "runtime.NumGoroutine" := by simpa using h2
  simp [invoke, callFunc, h1, h2', h3]

theorem goes_call {o : Oper} {a : Act} {x : AV × Ups} {f : FuncId} {args : Array Value} (he : (execOp a.eval o).run P g.w = .ok (.enter f args) g.w) (h : Calls P f args g.w (Back E g x)) : Goes P E o a g x := by
  intro next Q hn
  simp only [Oper.wp, he, Oper.upon_enter]
  refine h.mono ?_
  intro e w' hb
  cases e with
  | returned v =>
    obtain ⟨g', rfl, h1, h2, h3, h4⟩ := hb
    exact hn v g' h1 h2 h3 h4
  | panicked => exact hb.elim
  | outgrown => exact hb.elim

theorem alloc_eq (t : TypeId) (zv : Value) {inf : TypeInfo} (h1 : P.info? t = some inf) (h2 : inf.zero = some zv) (w : World) : (Instr.alloc t true (.tuple #[])).run P w = (Instr.box t zv).run P w := by
  simp [Instr.alloc, Instr.box, zeroValue, run_info h1, h2]

theorem done_congr {x : AV × Ups} {r r' : Result Value} (h : Done E g x r) (e : r' = r) : Done E g x r' := e ▸ h

theorem op_ok (hE : EnvOK P E) (hI : Inv E g) {C : Callee} (hC : CS P E C) {φ : AFr} {a : Act} (hφ : FR g φ a.tmps) {site : Nat → Nat} {o : Oper} {x : AV × Ups} (h : (aOp E C site φ o).run g.H = some x) : Goes P E o a g x := by
  have ev := fun y => ev_ok (E := E) hI hφ y
  unfold aOp at h
  split at h
  · rename_i y ho
    simp only [Rd.run, Option.some.injEq] at h; subst h
    exact goes_pure hI (by simp [execOp, ho]) (ev y)
  · rename_i y ho
    simp only [Rd.run, Option.some.injEq] at h; subst h
    exact goes_pure hI (by simp [execOp, ho]) (ev y)
  · rename_i c y z ho
    unfold opPick at h
    split at h
    · rename_i b hb
      simp only [Rd.run, Option.some.injEq] at h; subst h
      have hc := ev c
      rw [hb] at hc
      simp only [Gh.R, VR] at hc
      refine goes_pure hI (v := if b then a.eval y else a.eval z) (by simp [execOp, ho, hc, asBool]) ?_
      cases b
      · exact ev z
      · exact ev y
    · simp [Rd.run] at h
  · rename_i t ho
    cases hz : zeroCells E.T t with
    | none => rw [hz] at h; simp [opBox, Rd.run] at h
    | some z =>
      rw [hz] at h
      obtain ⟨i, inf, zv, hTe, h1, h2, h3, h4, h5, h6⟩ := zeroCells_ok g hE hz
      exact goes_value (s := Instr.alloc t true (.tuple #[])) (by simp only [execOp, ho]) (done_congr (box_ok (t := t) (v := zv) hI (h6 _ _ _) h) (alloc_eq t zv h1 h2 g.w))
  · rename_i t y ho
    cases hz : acells (evO E φ y) with
    | none => rw [hz] at h; simp [opBox, Rd.run] at h
    | some z =>
      rw [hz] at h
      exact goes_value (s := Instr.box t (a.eval y)) (by simp only [execOp, ho]) (box_ok (t := t) hI (acells_ok hz (ev y)) h)
  · rename_i t parts ho
    obtain ⟨h1, h2⟩ := justO_run h
    exact goes_build hE hI ev ho h1 h2
  · rename_i t len parts ho
    exact goes_buildSlice hE hI ev ho h
  · rename_i t y ho
    obtain ⟨h1, h2⟩ := just_run h
    exact goes_value (s := Instr.loadAt t (a.eval y)) (by simp only [execOp, ho]) (Done.of hI h2 (load_ok hE hI h1 (ev y)))
  · rename_i t y z ho
    unfold opStore at h
    obtain ⟨us, h1, h2⟩ := Rd.run_bind_some h
    simp only [Rd.run, Option.some.injEq] at h2; subst h2
    obtain ⟨g', k1, k2, k3, k4⟩ := store_ok hE hI h1 (ev y) (ev z)
    intro next Q hn
    simp only [Oper.wp, execOp, ho, Sem.run_bind, k1, Result.andThen_ok, Sem.run_pure, Oper.upon_skip]
    exact hn undef g' k2 k3 k4 (by simp only [Gh.R, VR, VRs]; exact ⟨#[], rfl, rfl⟩)
  · rename_i y ho
    have hy := ev y
    unfold opNil at h
    split at h
    · rename_i id off gl he
      obtain ⟨b, h1, h2⟩ := Rd.run_bind_some h
      simp only [Rd.run, Option.some.injEq] at h2; subst h2
      rw [he] at hy
      obtain ⟨q1, q2, q3⟩ := live_ptr hy h1
      exact goes_pure hI (v := a.eval y) (by simp [execOp, ho, q3]) hy
    · rename_i cells off he
      simp only [Rd.run, Option.some.injEq] at h; subst h
      rw [he] at hy
      have hy' := hy
      simp only [Gh.R, VR] at hy'
      obtain ⟨b, o', q, _⟩ := hy'
      exact goes_pure hI (v := a.eval y) (by simp [execOp, ho, q]) hy
    · rename_i f caps he
      simp only [Rd.run, Option.some.injEq] at h; subst h
      rw [he] at hy
      have hy' := hy
      simp only [Gh.R, VR] at hy'
      obtain ⟨b, q, _⟩ := hy'
      exact goes_pure hI (v := a.eval y) (by simp [execOp, ho, q]) hy
    · rename_i f caps he
      simp only [Rd.run, Option.some.injEq] at h; subst h
      rw [he] at hy
      have hy' := hy
      simp only [Gh.R, VR] at hy'
      obtain ⟨b, q, _⟩ := hy'
      exact goes_pure hI (v := a.eval y) (by simp [execOp, ho, q]) hy
    · simp [Rd.run] at h
  · rename_i op t y z k ho
    obtain ⟨h1, h2⟩ := just_run h
    exact goes_value (s := (do eqGuard op t y z (a.eval y) (a.eval z); binOp op t (a.eval y) (a.eval z))) (by simp only [execOp, ho]) (Done.of hI h2 (bin_ok hE hI h1 (ev y) (ev z) y z))
  · rename_i op t y ho
    obtain ⟨h1, h2⟩ := justO_run h
    exact goes_value (s := Op.unary op (a.eval y)) (by simp only [execOp, ho]) (Done.of hI h2 (un_ok h1 (ev y)))
  · rename_i s d y ho
    obtain ⟨h1, h2⟩ := justO_run h
    exact goes_value (s := convert s d (a.eval y)) (by simp only [execOp, ho]) (Done.of hI h2 (conv_ok hE h1 (ev y)))
  · rename_i fn first captured ho
    unfold opFunc at h
    split at h
    · rename_i f hfirst
      simp only [Rd.run, Option.some.injEq] at h; subst h
      have hfr : first.map a.eval = #[] := by
        have : first = #[] := by simpa using hfirst
        simp [this]
      refine goes_pure hI (v := .func (.func f) #[] (captured.map a.eval)) (by simp [execOp, ho, Instr.makeFunc, hfr]) ?_
      simp only [Gh.R, VR]
      exact ⟨_, rfl, ers_ok hI hφ captured⟩
    · rename_i f v vs hfirst
      split at h
      · rename_i hcap
        simp only [Rd.run, Option.some.injEq] at h; subst h
        have hcr : captured.map a.eval = #[] := by
          have : captured = #[] := by simpa using hcap
          simp [this]
        refine goes_pure hI (v := .func (.func f) (first.map a.eval) #[]) (by simp [execOp, ho, Instr.makeFunc, hcr]) ?_
        simp only [Gh.R, VR, ← hfirst]
        exact ⟨_, rfl, ers_ok hI hφ first⟩
      · simp [Rd.run] at h
    · simp [Rd.run] at h
  · rename_i t l c ho
    exact goes_value (s := Instr.makeSlice t (a.eval l) (a.eval c)) (by simp only [execOp, ho]) (make_ok hE hI (ev l) (ev c) h)
  · rename_i t y lo hi mx ho
    obtain ⟨h1, h2⟩ := just_run h
    exact goes_value (s := Instr.sliceAt t (a.eval y) (lo.map a.eval) (hi.map a.eval) (mx.map a.eval)) (by simp only [execOp, ho]) (Done.of hI h2 (slice_ok hE hI (optR hI hφ lo) (optR hI hφ hi) (optR hI hφ mx) h1 (ev y)))
  · rename_i t y f ho
    obtain ⟨h1, h2⟩ := just_run h
    exact goes_value (s := Instr.fieldAt t (a.eval y) f) (by simp only [execOp, ho]) (Done.of hI h2 (fieldAddr_ok hE h1 (ev y)))
  · rename_i t y f ho
    obtain ⟨h1, h2⟩ := justO_run h
    exact goes_value (s := Instr.field t (a.eval y) f) (by simp only [execOp, ho]) (Done.of hI h2 (field_ok hE h1 (ev y)))
  · rename_i t y ix ho
    obtain ⟨h1, h2⟩ := just_run h
    exact goes_value (s := Instr.indexAt t (a.eval y) (a.eval ix)) (by simp only [execOp, ho]) (Done.of hI h2 (indexAddr_ok hE hI h1 (ev y) (ev ix)))
  · rename_i t y ix ho
    obtain ⟨h1, h2⟩ := justO_run h
    exact goes_value (s := Instr.index t (a.eval y) (a.eval ix)) (by simp only [execOp, ho]) (Done.of hI h2 (index_ok hE h1 (ev y) (ev ix)))
  · rename_i y i ho
    have hy := ev y
    unfold opExtract at h
    split at h
    · rename_i vs he
      obtain ⟨h1, h2⟩ := justO_run h
      rw [he] at hy
      simp only [Gh.R, VR] at hy
      obtain ⟨A, q1, q2⟩ := hy
      obtain ⟨v, r1, r2⟩ := VRs_get q2 h1
      obtain ⟨xa, xu⟩ := x
      simp only at h2; subst h2
      exact goes_pure hI (v := v) (by
        have : A[i]? = some v := by simpa using r1
        simp [execOp, ho, q1, Instr.extract, this]) r2
    · simp [Rd.run] at h
  · rename_i c ho
    unfold opCall at h
    split at h
    · rename_i b hb
      obtain ⟨s, h1, h2⟩ := builtin_ok hE hI (ers_ok hI hφ c.args) h o.type (c.args.map fun | .const _ => true | _ => false)
      refine goes_value (s := s) ?_ h2
      simp only [execOp, ho, resolve, hb]
      rw [← h1]
      rfl
    · rename_i fv hfv
      unfold opCallV at h
      split at h
      · rename_i f caps he
        split at h
        · rename_i fi hf
          have hv := ev fv
          rw [he] at hv
          simp only [Gh.R, VR] at hv
          obtain ⟨A, q1, q2⟩ := hv
          refine goes_call (enter_ok hE ho hfv q1 hf g.w) ?_
          have hargs := VRs_append (ers_ok hI hφ c.args) q2
          have := call_ok hC hI hargs h
          rw [show ((c.args.map a.eval).toList ++ A.toList).toArray = #[] ++ c.args.map a.eval ++ A from by simp] at this
          exact this
        · simp [Rd.run] at h
      · rename_i f caps he
        split at h
        · rename_i fi hf
          have hv := ev fv
          rw [he] at hv
          simp only [Gh.R, VR] at hv
          obtain ⟨A, q1, q2⟩ := hv
          refine goes_call (enter_ok hE ho hfv q1 hf g.w) ?_
          have hargs := VRs_append q2 (ers_ok hI hφ c.args)
          have := call_ok hC hI hargs h
          rw [show (A.toList ++ (c.args.map a.eval).toList).toArray = A ++ c.args.map a.eval ++ #[] from by simp] at this
          exact this
        · simp [Rd.run] at h
      · simp [Rd.run] at h
    · simp [Rd.run] at h
  · rename_i t r ho
    cases r with
    | some _ => simp [opMkMap, Rd.run] at h
    | none => exact goes_value (s := Instr.makeMap t none) (by simp only [execOp, ho, Option.map_none]) (map_new hI h)
  · rename_i t m k ok ho
    exact goes_value (s := Instr.lookup t (a.eval m) (a.eval k) ok) (by simp only [execOp, ho]) (lookup_ok hE hI (ev m) (ev k) h)
  · rename_i t m k y ho
    obtain ⟨g', k1, k2, k3, k4, k5⟩ := mapSet_ok hE hI (ev m) (ev k) (ev y) h
    intro next Q hn
    simp only [Oper.wp, execOp, ho, Sem.run_bind, k1, Result.andThen_ok, Sem.run_pure, Oper.upon_skip]
    exact hn undef g' k2 k3 k4 (by rw [k5]; simp only [Gh.R, VR, VRs]; exact ⟨#[], rfl, rfl⟩)
  · rename_i t m k y ho
    obtain ⟨g', k1, k2, k3, k4, k5⟩ := mapSet_ok hE hI (ev m) (ev k) (ev y) h
    intro next Q hn
    simp only [Oper.wp, execOp, ho, Sem.run_bind, k1, Result.andThen_ok, Sem.run_pure, Oper.upon_skip]
    exact hn undef g' k2 k3 k4 (by rw [k5]; simp only [Gh.R, VR, VRs]; exact ⟨#[], rfl, rfl⟩)
  · rename_i t m k ho
    exact goes_value (s := Instr.mapEntry t (a.eval m) (a.eval k)) (by simp only [execOp, ho]) (mapEntry_ok hE hI (ev m) (ev k) h)
  · rename_i t m k y ho
    obtain ⟨g', k1, k2, k3, k4, k5⟩ := entryStore_ok (P := P) (t := t) hI (ev m) (ev k) (ev y) h
    intro next Q hn
    simp only [Oper.wp, execOp, ho, Sem.run_bind, k1, Result.andThen_ok, Sem.run_pure, Oper.upon_skip]
    exact hn undef g' k2 k3 k4 (by rw [k5]; simp only [Gh.R, VR, VRs]; exact ⟨#[], rfl, rfl⟩)
  · simp [Rd.run] at h

end
end Go.AM
