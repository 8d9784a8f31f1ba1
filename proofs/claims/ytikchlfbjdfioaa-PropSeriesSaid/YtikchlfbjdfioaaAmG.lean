/- The table of types, and operations that only compute: the machine does what the abstract machine does. Own work of this project. -/
import Derived.Test.YtikchlfbjdfioaaAmF
import Derived.ChangeKeysEq
namespace Go.AM

def KindOK (P : Program) (t : TypeId) : TK → Prop
  | .bool => P.underlying t = some .bool
  | .int k => P.underlying t = some (.int k)
  | .str => P.underlying t = some .string
  | .slice e => P.underlying t = some (.slice e)
  | .arr n e q => P.underlying t = some (.array n e) ∧ (q = true → P.eqGuardType P.depth t = false ∧ P.cellsOf e = 1)
  | .struct fs q => ∃ fa : Array Field, P.underlying t = some (.struct fa) ∧ fs = fa.toList.map (fun f => (f.offset, f.type, P.cellsOf f.type)) ∧ (∀ f ∈ fa.toList, ∃ i, P.info? f.type = some i) ∧ (q = true → P.eqGuardType P.depth t = false ∧ P.stoodInHeld t = false ∧ ∀ f ∈ fa.toList, f.name ≠ "_")
  | .map k e z => P.underlying t = some (.map k e) ∧ ∃ inf zv, P.info? e = some inf ∧ inf.zero = some zv ∧ z = ofV zv
  | .other => ∃ d, P.underlying t = some d ∧ (∀ fs, d ≠ .struct fs) ∧ ∀ n e, d ≠ .array n e

structure EnvOK (P : Program) (E : Env) : Prop where
  ty : ∀ t i, E.T t = some i → ∃ inf, P.info? t = some inf ∧ inf.size = i.size ∧ inf.bytes = i.bytes ∧ (∀ z, i.zero = some z → ∃ zv, inf.zero = some zv ∧ acells (ofV zv) = some z) ∧ KindOK P t i.k
  fn : ∀ f fn, E.fn f = some fn → P.funcs[f]? = some fn ∧ (fn.name == "runtime.NumGoroutine") = false

section
variable {P : Program} {E : Env}

theorem run_under {t : TypeId} {d : TypeDesc} (h : P.underlying t = some d) (w : World) : (underlying t).run P w = .ok d w := by
  simp [underlying, h]
theorem run_info {t : TypeId} {i : TypeInfo} (h : P.info? t = some i) (w : World) : (typeInfo t).run P w = .ok i w := by
  simp [typeInfo, h]
theorem run_size {t : TypeId} {i : TypeInfo} (h : P.info? t = some i) (w : World) : (sizeOf t).run P w = .ok i.size w := by
  simp [sizeOf, run_info h]
def aggD : TypeDesc → Bool
  | .struct _ => true
  | .array _ _ => true
  | _ => false
theorem run_isAgg {t : TypeId} {d : TypeDesc} (h : P.underlying t = some d) (w : World) : (isAgg t).run P w = .ok (aggD d) w := by
  simp only [isAgg, Sem.run_bind, run_under h, Result.andThen_ok]
  cases d <;> rfl

theorem tsz_ok (hE : EnvOK P E) {t : TypeId} {n : Nat} (h : tsz E.T t = some n) : ∃ i, P.info? t = some i ∧ i.size = n := by
  unfold tsz at h
  split at h
  · rename_i i hi
    obtain ⟨inf, h1, h2, _⟩ := hE.ty t i hi
    exact ⟨inf, h1, h2.trans (Option.some.inj h)⟩
  · exact absurd h (by simp)

/-! ### Looks -/
theorem Rd.run_bind {α β : Type} (r : Rd α) (f : α → Rd β) (H : AHeap) : (r.bind f).run H = match r.run H with | some a => (f a).run H | none => none := by
  induction r with
  | pure a => rfl
  | fail => rfl
  | get i k ih => simp only [Rd.bind, Rd.run, ih]

theorem Rd.run_bind_some {α β : Type} {r : Rd α} {f : α → Rd β} {H : AHeap} {b : β} (h : (r.bind f).run H = some b) : ∃ a, r.run H = some a ∧ (f a).run H = some b := by
  rw [Rd.run_bind] at h
  split at h
  · rename_i a ha; exact ⟨a, ha, h⟩
  · exact absurd h (by simp)

theorem liveBlk_run' {i gl : Nat} {H : AHeap} {b : Blk} (h : (Rd.liveBlk i gl).run H = some b) : hget H i = some b ∧ gl = b.cells.length ∧ b.st ≠ .mp := by
  simp only [Rd.liveBlk, Rd.run] at h
  split at h
  · rename_i x hx
    cases hb : Nat.beq gl x.cells.length with
    | true =>
      rw [hb] at h
      simp only [cond_true] at h
      split at h
      · simp [Rd.run] at h
      · rename_i hst
        simp only [Rd.run, Option.some.injEq] at h
        subst h
        exact ⟨hx, beq_iff.1 hb, hst⟩
    | false => rw [hb] at h; simp [Rd.run] at h
  · simp [Rd.run] at h
theorem liveBlk_run {i gl : Nat} {H : AHeap} {b : Blk} (h : (Rd.liveBlk i gl).run H = some b) : hget H i = some b ∧ gl = b.cells.length := ⟨(liveBlk_run' h).1, (liveBlk_run' h).2.1⟩
theorem liveBlk_st {i gl : Nat} {H : AHeap} {b : Blk} (h : (Rd.liveBlk i gl).run H = some b) : b.st ≠ .mp := (liveBlk_run' h).2.2

theorem opt_run {α : Type} {o : Option α} {H : AHeap} {a : α} (h : (Rd.opt o).run H = some a) : o = some a := by
  cases o with
  | none => simp [Rd.opt, Rd.run] at h
  | some b => simpa [Rd.opt, Rd.run] using h

variable {g : Gh}

theorem R_of_noRef {a : AV} {v : Value} (h : VR g.fz g.w a noRef v) : g.R a v :=
  VR.mono (K := fun _ => True) (fun _ hk => ⟨hk, rfl⟩) (fun _ _ _ h => h.elim) a v (fun _ _ => trivial) h
theorem rfOf_R (st : BS) {a : AV} {v : Value} (h : VR g.fz g.w a (rfOf g st) v) : g.R a v := by
  cases st
  · exact h
  · exact R_of_noRef h
  · exact R_of_noRef h
  · exact R_of_noRef h

/-- A value of a type, out of cells that lie there. -/
theorem rd_ok (hE : EnvOK P E) {fz : Nat → Prop} {w : World} {rf : RFt} {cells : List AV} {b o : Nat} (hc : VRc fz w cells rf b o) {t : TypeId} {off : Nat} {v : AV}
    (h : rdCells E.T t cells off = some v) : ∃ v', (loadVar t ⟨b, o + off, none⟩).run P w = .ok v' w ∧ VR fz w v rf v' := by
  have hagg : ∀ n, (∃ i, P.info? t = some i ∧ i.size = n) → (∃ d, P.underlying t = some d ∧ aggD d = true) →
      (if off + n ≤ cells.length then some (AV.agg ((cells.drop off).take n)) else none) = some v → ∃ v', (loadVar t ⟨b, o + off, none⟩).run P w = .ok v' w ∧ VR fz w v rf v' := by
    rintro n ⟨i, h1, h2⟩ ⟨d, h3, h4⟩ h
    split at h
    · rename_i hle
      obtain rfl := Option.some.inj h
      have hw := VRc_window hc off n
      have hlen : (window cells off n).length = n := window_length cells off n hle
      obtain ⟨vs, h5, h6⟩ := run_loadCells (P := P) hw
      rw [hlen] at h5
      refine ⟨.agg vs.toArray, ?_, ?_⟩
      · simp only [loadVar, Sem.run_bind, run_isAgg h3, Result.andThen_ok, h4, if_true, run_size h1, h2, h5, Sem.run_pure]
      · simp only [VR]
        exact ⟨vs.toArray, rfl, by simpa [window] using h6⟩
    · exact absurd h (by simp)
  have hone : ∀ d, P.underlying t = some d → aggD d = false → cells[off]? = some v → ∃ v', (loadVar t ⟨b, o + off, none⟩).run P w = .ok v' w ∧ VR fz w v rf v' := by
    intro d q1 q2 h
    obtain ⟨v', h5, h6, h7⟩ := VRc_get hc h
    refine ⟨v', ?_, h7⟩
    simp only [loadVar, Sem.run_bind, run_isAgg q1, Result.andThen_ok, q2, Bool.false_eq_true, if_false, run_load_cell h5]
  unfold rdCells at h
  cases hT : E.T t with
  | none => rw [hT] at h; exact absurd h (by simp)
  | some i =>
    obtain ⟨inf, h1, h2, _, _, h3⟩ := hE.ty t i hT
    rw [hT] at h
    obtain ⟨k, n, m, z⟩ := i
    cases k <;> simp only [KindOK] at h3
    · exact hone _ h3 rfl h
    · exact hone _ h3 rfl h
    · exact hone _ h3 rfl h
    · exact hone _ h3 rfl h
    · exact hagg n ⟨inf, h1, h2⟩ ⟨_, h3.1, rfl⟩ h
    · obtain ⟨fa, h4, _⟩ := h3
      exact hagg n ⟨inf, h1, h2⟩ ⟨_, h4, rfl⟩ h
    · exact hone _ h3.1 rfl h
    · obtain ⟨d, q1, q2, q3⟩ := h3
      refine hone d q1 ?_ h
      cases d <;> first | rfl | exact absurd rfl (q2 _) | exact absurd rfl (q3 _ _)

theorem blk_cells (hI : Inv E g) {id : Nat} {b : Blk} (h : hget g.H id = some b) (hs : b.st ≠ .mp) : VRc g.fz g.w b.cells (rfOf g b.st) (g.mu id).1 (g.mu id).2 := by
  obtain ⟨cs, t, _, h2⟩ := (hI.blk id b h).cells hs
  exact h2

theorem load_ok (hE : EnvOK P E) (hI : Inv E g) {t : TypeId} {x v : AV} {xv : Value} (h : (aLoad E.T t x).run g.H = some v) (hx : g.R x xv) :
    ∃ v', (Instr.loadAt t xv).run P g.w = .ok v' g.w ∧ g.R v v' := by
  cases x <;> simp only [aLoad] at h <;> try (simp [Rd.run] at h; done)
  · rename_i id off gl
    obtain ⟨b, h1, h2⟩ := Rd.run_bind_some h
    obtain ⟨h3, h4⟩ := liveBlk_run h1
    have h5 := opt_run h2
    simp only [Gh.R, VR, RF] at hx
    obtain ⟨_, b', h6, h7, h8⟩ := hx
    rw [h3] at h6; obtain rfl := Option.some.inj h6
    rw [h8 h4]
    obtain ⟨v', h9, h10⟩ := rd_ok hE (blk_cells hI h3 (liveBlk_st h1)) h5
    exact ⟨v', by simp only [Instr.loadAt, Instr.sureAddr, Sem.run_bind, Sem.run_pure, Result.andThen_ok, h9], rfOf_R b.st h10⟩
  · rename_i cells off
    have h5 := opt_run h
    simp only [Gh.R, VR] at hx
    obtain ⟨b, o, rfl, h6, h7⟩ := hx
    obtain ⟨v', h9, h10⟩ := rd_ok hE h7 h5
    exact ⟨v', by simp only [Instr.loadAt, Instr.sureAddr, Sem.run_bind, Sem.run_pure, Result.andThen_ok, h9], R_of_noRef h10⟩

/-! ### Integers -/
theorem wrp_eq (k : IntKind) (n : Int) : wrp k n = k.wrap n := by
  unfold wrp
  split
  · rename_i h
    cases k <;> simp only [kLo, kHi] at h <;> simp only [IntKind.wrap, IntKind.bits, IntKind.signed] <;> simp <;> omega
  · rfl

end
end Go.AM
