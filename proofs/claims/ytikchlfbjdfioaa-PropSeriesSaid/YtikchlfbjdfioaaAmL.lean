/- Freezing; operations that make blocks or write into them. Own work of this project. -/
import Derived.Test.YtikchlfbjdfioaaAmK
import Derived.Laws.Append
import Derived.Laws.AppendOwn
namespace Go.AM
section
variable {P : Program} {E : Env} {g : Gh}

theorem acells_ok {fz : Nat → Prop} {w : World} {rf : RFt} {a : AV} {vs : List AV} {v : Value} (h : acells a = some vs) (hv : VR fz w a rf v) : VRo fz w vs rf v.cells.toList := by
  cases a <;> simp only [acells, Option.some.injEq] at h <;> try (simp at h; done)
  all_goals subst h
  case agg => 
    simp only [VR] at hv
    obtain ⟨A, rfl, hA⟩ := hv
    exact hA
  all_goals
    have hv' := hv
    simp only [VR] at hv
  case int => subst hv; exact ⟨_, [], rfl, rfl, hv', rfl⟩
  case bool => subst hv; exact ⟨_, [], rfl, rfl, hv', rfl⟩
  case str => subst hv; exact ⟨_, [], rfl, rfl, hv', rfl⟩
  case nilsl => subst hv; exact ⟨_, [], rfl, rfl, hv', rfl⟩
  case nilptr => subst hv; exact ⟨_, [], rfl, rfl, hv', rfl⟩
  case nilfunc => subst hv; exact ⟨_, [], rfl, rfl, hv', rfl⟩
  case nilmap => subst hv; exact ⟨_, [], rfl, rfl, hv', rfl⟩
  case imm => obtain ⟨b, o, cap, rfl, _⟩ := hv; exact ⟨_, [], rfl, rfl, hv', rfl⟩
  case iptr => obtain ⟨b, o, rfl, _⟩ := hv; exact ⟨_, [], rfl, rfl, hv', rfl⟩
  case clo => obtain ⟨a, rfl, _⟩ := hv; exact ⟨_, [], rfl, rfl, hv', rfl⟩
  case bnd => obtain ⟨a, rfl, _⟩ := hv; exact ⟨_, [], rfl, rfl, hv', rfl⟩
  case ref => 
    cases v <;> simp only [Value.oneCell'] at hv <;> first | exact ⟨_, [], rfl, rfl, hv', rfl⟩ | (simp at hv; done)
  case ptr => 
    cases v <;> simp only [Value.oneCell'] at hv <;> first | exact ⟨_, [], rfl, rfl, hv', rfl⟩ | (simp at hv; done)
  case mapv => 
    cases v <;> simp only [Value.oneCell'] at hv <;> first | exact ⟨_, [], rfl, rfl, hv', rfl⟩ | (simp at hv; done)

theorem upds_append (H : AHeap) (a b : Ups) : upds H (a ++ b) = upds (upds H a) b := by
  induction a generalizing H with
  | nil => rfl
  | cons x t ih => obtain ⟨i, c⟩ := x; exact ih _

/-- A block that may be frozen. -/
def CanFrz (b : Blk) : Prop := (b.st = .box → b.cells.all AV.flat = true) ∧ b.st ≠ .mp

/-- One block is frozen. -/
theorem freeze_block (hI : Inv E g) {i : Nat} {b : Blk} (h : hget g.H i = some b) (hf : CanFrz b) :
    ∃ g', g'.w = g.w ∧ g'.mu = g.mu ∧ g'.H = hset g.H i ⟨.froz, b.cells⟩ ∧ Inv E g' ∧ Adv g g' ∧ g'.fz (g.mu i).1 := by
  by_cases ho : b.st.open_ = true
  · obtain ⟨cs, t, h1, h2⟩ := (hI.blk i b h).cells hf.2
    let g' : Gh := { mu := g.mu, fz := fun k => g.fz k ∨ k = (g.mu i).1, H := hset g.H i ⟨.froz, b.cells⟩, w := g.w }
    have hs := step_block (g' := g') hI i ⟨.froz, b.cells⟩ rfl (fun _ _ => rfl) (fun k => by simp [g', BS.open_]) rfl rfl rfl (Nat.le_refl _) (fun _ _ _ => rfl)
      (.inl ⟨b, h, ho, rfl⟩) (.inl rfl)
      (fun b1 hb1 => by rw [h] at hb1; obtain rfl := Option.some.inj hb1; exact ⟨ho, Nat.le_refl _, fun _ => ⟨rfl, rfl⟩⟩)
      ((Array.getElem?_eq_some_iff.1 h1).1)
      (fun hvr hvn => ⟨cs, t, h1, by
        rw [VRc_iff] at h2 ⊢
        intro j a hj
        obtain ⟨v, q1, q2, q3⟩ := h2 j a hj
        refine ⟨v, q1, q2, hvn a v ?_⟩
        cases hst : b.st
        · have hfl := hf.1 hst
          rw [hst] at q3
          rw [List.all_eq_true] at hfl
          exact flat_ok (hfl a (List.mem_of_getElem? hj)) q3
        · rw [hst] at q3; exact q3
        · rw [hst] at q3; exact q3
        · exact absurd hst hf.2⟩ ) (by simp) (fun b1 hb1 => by rw [h] at hb1; obtain rfl := Option.some.inj hb1; exact hf.2)
    exact ⟨g', rfl, rfl, rfl, hs.1, hs.2, .inr rfl⟩
  · have ho : b.st.open_ = false := by simpa using ho
    have hst : b.st = .froz := by cases hst : b.st <;> rw [hst] at ho <;> first | rfl | (simp [BS.open_] at ho; done)
    have hsame : ∀ j, hget (hset g.H i ⟨.froz, b.cells⟩) j = hget g.H j := by
      intro j
      rw [hget_hset]
      split
      · rename_i hj; subst hj; rw [h, ← hst]
      · rfl
    have hs := step_same hI hsame
    exact ⟨{ g with H := hset g.H i ⟨.froz, b.cells⟩ }, rfl, rfl, rfl, hs.1, hs.2, hI.frz i b h ho⟩

/-- Blocks as they were, but for what is frozen. -/
def Froz (H0 H : AHeap) : Prop := ∀ i b, hget H0 i = some b → hget H i = some b ∨ hget H i = some ⟨.froz, b.cells⟩

theorem frz_go {H0 : AHeap} : ∀ (V : List Nat) (us : Ups) (g : Gh), Inv E g → Froz H0 g.H → (frz V).run H0 = some us →
    ∃ g', g'.w = g.w ∧ g'.mu = g.mu ∧ g'.H = upds g.H us ∧ Inv E g' ∧ Adv g g' ∧ (∀ i ∈ V, g'.fz (g.mu i).1) ∧ (∀ j, j ∉ V → hget g'.H j = hget g.H j) ∧ (∀ i ∈ V, ∃ b, hget H0 i = some b) ∧
      (∀ p ∈ us, p.1 ∈ V)
  | [], us, g, hI, hF, h => by
    simp only [frz, Rd.run, Option.some.injEq] at h; subst h
    exact ⟨g, rfl, rfl, rfl, hI, Adv.refl g, fun i hi => by simp at hi, fun _ _ => rfl, fun i hi => by simp at hi, fun p hp => by simp at hp⟩
  | i :: is, us, g, hI, hF, h => by
    simp only [frz, Rd.run] at h
    cases hb : hget H0 i with
    | none => rw [hb] at h; simp [Rd.run] at h
    | some b =>
      rw [hb] at h
      simp only at h
      have key : ∃ us2, (frz is).run H0 = some us2 ∧ us = (i, ⟨.froz, b.cells⟩) :: us2 ∧ CanFrz b := by
        split at h
        · simp [Rd.run] at h
        · simp [Rd.run] at h
        · rename_i hnm hne
          obtain ⟨us2, h1, h2⟩ := Rd.run_bind_some h
          simp only [Rd.run, Option.some.injEq] at h2
          refine ⟨us2, h1, h2.symm, fun hb2 => ?_, fun hm => ?_⟩
          · cases hfl : b.cells.all AV.flat with
            | true => rfl
            | false => first | exact (hne hb2 hfl).elim | exact (hnm hb2 hfl).elim
          · first | exact hnm hm | exact hne hm
      obtain ⟨us2, h1, rfl, hfl⟩ := key
      have hcur : ∃ b1, hget g.H i = some b1 ∧ b1.cells = b.cells ∧ CanFrz b1 := by
        rcases hF i b hb with q | q
        · exact ⟨b, q, rfl, hfl⟩
        · exact ⟨_, q, rfl, fun h => by simp at h, by simp⟩
      obtain ⟨b1, k1, k2, k3⟩ := hcur
      obtain ⟨g1, e1, e2, e3, e4, e5, e6⟩ := freeze_block hI k1 k3
      rw [k2] at e3
      have hF1 : Froz H0 g1.H := by
        intro j c hj
        rw [e3, hget_hset]
        split
        · rename_i hji; subst hji
          rw [hb] at hj; obtain rfl := Option.some.inj hj
          exact .inr rfl
        · exact hF j c hj
      obtain ⟨g2, d1, d2, d3, d4, d5, d6, d7, d8, d9⟩ := frz_go is us2 g1 e4 hF1 h1
      refine ⟨g2, d1.trans e1, d2.trans e2, by rw [d3, e3]; rfl, d4, e5.trans d5, ?_, ?_, ?_, ?_⟩
      · intro j hj
        rcases List.mem_cons.1 hj with rfl | hj
        · exact d5.fz' _ e6
        · have := d6 j hj; rwa [e2] at this
      · intro j hj
        simp only [List.mem_cons, not_or] at hj
        rw [d7 j hj.2, e3, hget_hset, if_neg hj.1]
      · intro j hj
        rcases List.mem_cons.1 hj with rfl | hj
        · exact ⟨b, hb⟩
        · exact d8 j hj
      · intro p hp
        rcases List.mem_cons.1 hp with rfl | hp
        · simp
        · exact List.mem_cons_of_mem _ (d9 p hp)

theorem frz_ok (hI : Inv E g) {V : List Nat} {us : Ups} (h : (frz V).run g.H = some us) :
    ∃ g', g'.w = g.w ∧ g'.mu = g.mu ∧ g'.H = upds g.H us ∧ Inv E g' ∧ Adv g g' ∧ (∀ i ∈ V, g'.fz (g.mu i).1) ∧ (∀ j, j ∉ V → hget g'.H j = hget g.H j) ∧ (∀ i ∈ V, ∃ b, hget g.H i = some b) ∧ (∀ p ∈ us, p.1 ∈ V) :=
  frz_go V us g hI (fun _ _ h => .inl h) h

/-- What an operation of the machine comes to, by what the abstract one told. -/
def Done (E : Env) (g : Gh) (x : AV × Ups) (r : Result Value) : Prop :=
  ∃ v' g', r = .ok v' g'.w ∧ g'.H = upds g.H x.2 ∧ Inv E g' ∧ Adv g g' ∧ g'.R x.1 v'

theorem Done.same {a : AV} {v : Value} {r : Result Value} (hI : Inv E g) (h : r = .ok v g.w) (hv : g.R a v) : Done E g (a, []) r := ⟨v, g, h, rfl, hI, Adv.refl g, hv⟩

theorem fresh_run {site : Nat} {b : Blk} {H : AHeap} {us : Ups} (h : (fresh site b).run H = some us) : hget H site = none ∧ us = [(site, b)] := by
  unfold fresh at h
  simp only [Rd.run] at h
  split at h
  · rename_i h1; simp only [Rd.run, Option.some.injEq] at h; exact ⟨h1, h.symm⟩
  · simp [Rd.run] at h

/-! ### A new variable -/
theorem box_ok (hI : Inv E g) {t : TypeId} {site : Nat} {z : List AV} {v : Value} (hz : VRo g.fz g.w z (RF g) v.cells.toList) {x : AV × Ups} (h : (opBox site (some z)).run g.H = some x) :
    Done E g x ((Instr.box t v).run P g.w) := by
  simp only [opBox] at h
  obtain ⟨us, h1, h2⟩ := Rd.run_bind_some h
  obtain ⟨h3, rfl⟩ := fresh_run h1
  simp only [Rd.run, Option.some.injEq] at h2; subst h2
  have hs := new_block (st := .box) (cells := z) (cs := v.cells) (t := t) hI h3 rfl (by simp) (fun i a hi => by
    obtain ⟨u, q1, q2, q3⟩ := VRo_get hz hi
    exact ⟨u, by simpa using q1, q2, q3⟩) (w' := { g.w with heap := g.w.heap.push (.cells v.cells t) }) rfl rfl rfl rfl
  refine ⟨.pointer (some ⟨g.w.heap.size, 0, none⟩), g.new site .box z { g.w with heap := g.w.heap.push (.cells v.cells t) }, ?_, rfl, hs.1, hs.2, ?_⟩
  · simp only [Instr.box, newVar, newRow, Sem.run_bind, run_newObj, Result.andThen_ok, Sem.run_pure]
    exact rfl
  · have := ptr_R (off := 0) (new_get (g := g) site .box z { g.w with heap := g.w.heap.push (.cells v.cells t) }) rfl
    simpa [Gh.new] using this

theorem zero_ok (g : Gh) (hE : EnvOK P E) {t : TypeId} {i : TI} {z : List AV} (h : E.T t = some i) (hz : i.zero = some z) :
    ∃ inf zv, P.info? t = some inf ∧ inf.zero = some zv ∧ inf.size = i.size ∧ inf.bytes = i.bytes ∧ zv.cells.size = z.length ∧ ∀ fz w rf, VRo fz w z rf zv.cells.toList := by
  obtain ⟨inf, h1, h2, h3, h4, _⟩ := hE.ty t i h
  obtain ⟨zv, h5, h6⟩ := h4 z hz
  have hr : ∀ fz w rf, VRo fz w z rf zv.cells.toList := fun fz w rf => acells_ok h6 (ofV_ok zv fz w rf)
  exact ⟨inf, zv, h1, h5, h2, h3, by simpa using (VRo_length (hr (fun _ => False) g.w noRef)).symm, hr⟩

end
end Go.AM
