/- More operations that change nothing. Own work of this project. -/
import Derived.Test.YtikchlfbjdfioaaAmI
namespace Go.AM
section
variable {P : Program} {E : Env} {g : Gh}

theorem live_ref {id off len cap gl sz : Nat} {ex : Bool} {xv : Value} {b : Blk} (hx : g.R (.ref id off len cap gl sz ex) xv) (h : (Rd.liveBlk id gl).run g.H = some b) :
    hget g.H id = some b ∧ gl = b.cells.length ∧ ∃ o cap' : Nat, xv = .slice (some ⟨(g.mu id).1, o, none⟩) len cap' ∧ len ≤ cap' ∧ cap ≤ cap' ∧ (ex = true → cap' = cap) ∧
        (cap' = 0 ∨ (o = (g.mu id).2 + off ∧ o + cap' * sz ≤ bsz g.w (g.mu id).1)) := by
  obtain ⟨h1, h2⟩ := liveBlk_run h
  simp only [Gh.R, VR, RF] at hx
  obtain ⟨_, b', h6, h7, h8⟩ := hx
  rw [h1] at h6; obtain rfl := Option.some.inj h6
  exact ⟨h1, h2, h8 h2⟩

theorem live_ptr {id off gl : Nat} {xv : Value} {b : Blk} (hx : g.R (.ptr id off gl) xv) (h : (Rd.liveBlk id gl).run g.H = some b) :
    hget g.H id = some b ∧ gl = b.cells.length ∧ xv = .pointer (some ⟨(g.mu id).1, (g.mu id).2 + off, none⟩) := by
  obtain ⟨h1, h2⟩ := liveBlk_run h
  simp only [Gh.R, VR, RF] at hx
  obtain ⟨_, b', h6, h7, h8⟩ := hx
  rw [h1] at h6; obtain rfl := Option.some.inj h6
  exact ⟨h1, h2, h8 h2⟩

/-- An address into a block that is as long as told. -/
theorem ptr_R {id off gl : Nat} {b : Blk} (h : hget g.H id = some b) (hg : gl = b.cells.length) : g.R (.ptr id off gl) (.pointer (some ⟨(g.mu id).1, (g.mu id).2 + off, none⟩)) := by
  simp only [Gh.R, VR, RF]
  exact ⟨(by first | rfl | trivial), b, h, (by omega), (by intros; first | rfl | trivial)⟩

theorem kind_slice (hE : EnvOK P E) {t : TypeId} {e : TypeId} {a b : Nat} {z : Option (List AV)} (hT : E.T t = some ⟨.slice e, a, b, z⟩) : P.underlying t = some (.slice e) := by
  obtain ⟨inf, _, _, _, _, hu⟩ := hE.ty t _ hT; exact hu
theorem kind_arr (hE : EnvOK P E) {t : TypeId} {n e : Nat} {q : Bool} {a b : Nat} {z : Option (List AV)} (hT : E.T t = some ⟨.arr n e q, a, b, z⟩) : P.underlying t = some (.array n e) := by
  obtain ⟨inf, _, _, _, _, hu⟩ := hE.ty t _ hT; exact hu.1
theorem kind_str (hE : EnvOK P E) {t : TypeId} {a b : Nat} {z : Option (List AV)} (hT : E.T t = some ⟨.str, a, b, z⟩) : P.underlying t = some .string := by
  obtain ⟨inf, _, _, _, _, hu⟩ := hE.ty t _ hT; exact hu
theorem kind_int (hE : EnvOK P E) {t : TypeId} {k : IntKind} {a b : Nat} {z : Option (List AV)} (hT : E.T t = some ⟨.int k, a, b, z⟩) : P.underlying t = some (.int k) := by
  obtain ⟨inf, _, _, _, _, hu⟩ := hE.ty t _ hT; exact hu
theorem kind_some (hE : EnvOK P E) {t : TypeId} {i : TI} (hT : E.T t = some i) : ∃ d, P.underlying t = some d := by
  obtain ⟨inf, _, _, _, _, hu⟩ := hE.ty t _ hT
  obtain ⟨k, _, _, _⟩ := i
  cases k <;> simp only [KindOK] at hu
  · exact ⟨_, hu⟩
  · exact ⟨_, hu⟩
  · exact ⟨_, hu⟩
  · exact ⟨_, hu⟩
  · exact ⟨_, hu.1⟩
  · obtain ⟨fa, h, _⟩ := hu; exact ⟨_, h⟩
  · exact ⟨_, hu.1⟩
  · obtain ⟨d, h, _⟩ := hu; exact ⟨d, h⟩

theorem indexAddr_ok (hE : EnvOK P E) (_ : Inv E g) {t : TypeId} {x ix r : AV} {xv iv : Value} (h : (aIndexAddr E.T t x ix).run g.H = some r) (hx : g.R x xv) (hi : g.R ix iv) :
    ∃ v', (Instr.indexAt t xv iv).run P g.w = .ok v' g.w ∧ g.R r v' := by
  unfold aIndexAddr at h
  split at h
  · simp [Rd.run] at h
  · rename_i i hn
    obtain ⟨k, rfl⟩ := aNum_ok hn hi
    split at h
    · -- a slice that nobody writes
      rename_i e _ _ _ cells len ex hT
      have hu := kind_slice hE hT
      simp only [Gh.R, VR] at hx
      obtain ⟨b, o, cap, rfl, hle, hex, hc⟩ := hx
      split at h
      · rename_i sz hs
        obtain ⟨inf, hi2, hsz⟩ := tsz_ok hE hs
        split at h
        · rename_i hr
          simp only [Rd.run, Option.some.injEq] at h; subst h
          refine ⟨.pointer (some ⟨b, o + i.toNat * sz, none⟩), ?_, ?_⟩
          · simp only [Instr.indexAt, asIntOf, Sem.run_bind, Sem.run_pure, Result.andThen_ok, run_under hu, Sem.run_ite]
            rw [if_pos ⟨hr.1, hr.2.1⟩]
            simp only [run_size hi2, Result.andThen_ok, hsz, add_none]
          · simp only [Gh.R, VR]
            rcases hc with hc | ⟨h1, h2⟩
            · omega
            · exact ⟨b, o, rfl, h1, h2⟩
        · simp [Rd.run] at h
      · simp [Rd.run] at h
    · -- a slice of ours
      rename_i e _ _ _ id off len cap gl sz ex hT
      have hu := kind_slice hE hT
      split at h
      · rename_i s hs
        obtain ⟨inf, hi2, hsz⟩ := tsz_ok hE hs
        split at h
        · rename_i hr
          obtain ⟨hr1, hr2, rfl, hr4⟩ := hr
          obtain ⟨bl, k1, k2⟩ := Rd.run_bind_some h
          obtain ⟨q1, q2, o, cap', rfl, c0, c1, c2, c3⟩ := live_ref hx k1
          simp only [Rd.run, Option.some.injEq] at k2; subst k2
          have hcap : cap' ≠ 0 → o = (g.mu id).2 + off := fun h => (c3.resolve_left h).1
          refine ⟨.pointer (some ⟨(g.mu id).1, o + i.toNat * s, none⟩), ?_, ?_⟩
          · simp only [Instr.indexAt, asIntOf, Sem.run_bind, Sem.run_pure, Result.andThen_ok, run_under hu, Sem.run_ite]
            rw [if_pos ⟨hr1, hr2⟩]
            simp only [run_size hi2, Result.andThen_ok, hsz, add_none]
          · by_cases h0 : cap' = 0
            · exact absurd h0 (by omega)
            · rw [hcap h0, Nat.add_assoc]; exact ptr_R q1 q2
        · simp [Rd.run] at h
      · simp [Rd.run] at h
    · -- an array of ours
      rename_i n e q _ _ _ id off gl hT
      have hu := kind_arr hE hT
      split at h
      · rename_i sz hs
        obtain ⟨inf, hi2, hsz⟩ := tsz_ok hE hs
        split at h
        · rename_i hr
          obtain ⟨bl, k1, k2⟩ := Rd.run_bind_some h
          obtain ⟨q1, q2, rfl⟩ := live_ptr hx k1
          simp only [Rd.run, Option.some.injEq] at k2; subst k2
          refine ⟨.pointer (some ⟨(g.mu id).1, (g.mu id).2 + (off + i.toNat * sz), none⟩), ?_, ptr_R q1 q2⟩
          simp only [Instr.indexAt, Instr.sureAddr, asIntOf, Sem.run_bind, Sem.run_pure, Result.andThen_ok, run_under hu, Sem.run_ite]
          rw [if_pos ⟨hr.1, hr.2⟩]
          simp only [run_size hi2, Result.andThen_ok, hsz, add_none, Nat.add_assoc]
        · simp [Rd.run] at h
      · simp [Rd.run] at h
    · -- an array that nobody writes
      rename_i n e q _ _ _ cells off hT
      have hu := kind_arr hE hT
      simp only [Gh.R, VR] at hx
      obtain ⟨b, o, rfl, h1, h2⟩ := hx
      split at h
      · rename_i sz hs
        obtain ⟨inf, hi2, hsz⟩ := tsz_ok hE hs
        split at h
        · rename_i hr
          simp only [Rd.run, Option.some.injEq] at h; subst h
          refine ⟨.pointer (some ⟨b, o + (off + i.toNat * sz), none⟩), ?_, ?_⟩
          · simp only [Instr.indexAt, Instr.sureAddr, asIntOf, Sem.run_bind, Sem.run_pure, Result.andThen_ok, run_under hu, Sem.run_ite]
            rw [if_pos ⟨hr.1, hr.2⟩]
            simp only [run_size hi2, Result.andThen_ok, hsz, add_none, Nat.add_assoc]
          · simp only [Gh.R, VR]; exact ⟨b, o, rfl, h1, h2⟩
        · simp [Rd.run] at h
      · simp [Rd.run] at h
    · simp [Rd.run] at h

/-- A part of a value. -/
theorem part_ok (hE : EnvOK P E) {fz : Nat → Prop} {w : World} {rf : RFt} {cs : List AV} {C : Array Value} (hc : VRo fz w cs rf C.toList) {t : TypeId} {off : Nat} {v : AV}
    (h : rdCells E.T t cs off = some v) (w2 : World) : ∃ v', (part t C off).run P w2 = .ok v' w2 ∧ VR fz w v rf v' := by
  have hagg : ∀ n, (∃ i, P.info? t = some i ∧ i.size = n) → (∃ d, P.underlying t = some d ∧ aggD d = true) →
      (if off + n ≤ cs.length then some (AV.agg ((cs.drop off).take n)) else none) = some v → ∃ v', (part t C off).run P w2 = .ok v' w2 ∧ VR fz w v rf v' := by
    rintro n ⟨i, h1, h2⟩ ⟨d, h3, h4⟩ h
    split at h
    · obtain rfl := Option.some.inj h
      refine ⟨.agg (C.extract off (off + n)), ?_, ?_⟩
      · simp only [part, Sem.run_bind, run_isAgg h3, Result.andThen_ok, h4, if_true, run_size h1, h2, Sem.run_pure]
      · simp only [VR]
        refine ⟨_, rfl, ?_⟩
        have := VRo_take (VRo_drop hc off) n
        simpa [Array.toList_extract, List.extract_eq_take_drop] using this
    · exact absurd h (by simp)
  have hone : ∀ d, P.underlying t = some d → aggD d = false → cs[off]? = some v → ∃ v', (part t C off).run P w2 = .ok v' w2 ∧ VR fz w v rf v' := by
    intro d q1 q2 h
    obtain ⟨v', h5, _, h7⟩ := VRo_get hc h
    refine ⟨v', ?_, h7⟩
    have h6 : C[off]? = some v' := by simpa using h5
    simp only [part, Sem.run_bind, run_isAgg q1, Result.andThen_ok, q2, Bool.false_eq_true, if_false, h6, Sem.run_pure]
  unfold rdCells at h
  cases hT : E.T t with
  | none => rw [hT] at h; exact absurd h (by simp)
  | some i =>
    obtain ⟨inf, h1, h2, _, _, h3⟩ := hE.ty t i hT
    rw [hT] at h
    obtain ⟨k, n, m, z⟩ := i
    cases k <;> simp only [KindOK] at h3
    · exact hone _ h3 rfl h
    · exact hone _ h3 rfl h
    · exact hone _ h3 rfl h
    · exact hone _ h3 rfl h
    · exact hagg n ⟨inf, h1, h2⟩ ⟨_, h3.1, rfl⟩ h
    · obtain ⟨fa, h4, _⟩ := h3
      exact hagg n ⟨inf, h1, h2⟩ ⟨_, h4, rfl⟩ h
    · exact hone _ h3.1 rfl h
    · obtain ⟨d, q1, q2, q3⟩ := h3
      refine hone d q1 ?_ h
      cases d <;> first | rfl | exact absurd rfl (q2 _) | exact absurd rfl (q3 _ _)

theorem index_ok (hE : EnvOK P E) {t : TypeId} {x ix r : AV} {xv iv : Value} (h : aIndex E.T t x ix = some r) (hx : g.R x xv) (hi : g.R ix iv) :
    ∃ v', (Instr.index t xv iv).run P g.w = .ok v' g.w ∧ g.R r v' := by
  unfold aIndex at h
  split at h
  · rename_i i n e q _ _ _ cs hn hT
    have hu := kind_arr hE hT
    obtain ⟨k, rfl⟩ := aNum_ok hn hi
    simp only [Gh.R, VR] at hx
    obtain ⟨C, rfl, hc⟩ := hx
    split at h
    · rename_i sz hs
      obtain ⟨inf, hi2, hsz⟩ := tsz_ok hE hs
      split at h
      · rename_i hr
        obtain ⟨v', h1, h2⟩ := part_ok (P := P) hE hc h g.w
        refine ⟨v', ?_, h2⟩
        simp only [Instr.index, asIntOf, Sem.run_bind, Sem.run_pure, Result.andThen_ok, run_under hu, Sem.run_ite]
        rw [if_pos ⟨hr.1, hr.2⟩]
        simp only [run_size hi2, Result.andThen_ok, hsz, h1]
      · exact absurd h (by simp)
    · exact absurd h (by simp)
  · rename_i i _ _ _ s hn hT
    have hu := kind_str hE hT
    obtain ⟨k, rfl⟩ := aNum_ok hn hi
    simp only [Gh.R, VR] at hx
    subst hx
    split at h
    · rename_i h0
      split at h
      · rename_i b hb
        obtain rfl := Option.some.inj h
        refine ⟨.int .u8 b.toNat, ?_, by simp only [Gh.R, VR]⟩
        simp only [Instr.index, asIntOf, Sem.run_bind, Sem.run_pure, Result.andThen_ok, run_under hu, if_pos h0, hb]
      · exact absurd h (by simp)
    · exact absurd h (by simp)
  · exact absurd h (by simp)

theorem fieldOf_ok (hE : EnvOK P E) {t : TypeId} {f o u s : Nat} (h : fieldOf E.T t f = some (o, u, s)) :
    ∃ (fa : Array Field) (fd : Field) (i : TypeInfo), P.underlying t = some (.struct fa) ∧ fa[f]? = some fd ∧ fd.offset = o ∧ fd.type = u ∧ P.info? u = some i ∧ i.size = s := by
  unfold fieldOf at h
  split at h
  · rename_i fs _ _ _ hT
    obtain ⟨inf, _, _, _, _, hu⟩ := hE.ty t _ hT
    obtain ⟨fa, h1, h2, h3⟩ := hu
    rw [h2, List.getElem?_map] at h
    cases hf : fa.toList[f]? with
    | none => rw [hf] at h; exact absurd h (by simp)
    | some fd =>
      rw [hf] at h
      simp only [Option.map_some, Option.some.injEq, Prod.mk.injEq] at h
      obtain ⟨e1, e2, e3⟩ := h
      obtain ⟨i, hi⟩ := h3.1 fd (List.mem_of_getElem? hf)
      refine ⟨fa, fd, i, h1, by simpa using hf, e1, e2, e2 ▸ hi, ?_⟩
      rw [← e3]; simp [Program.cellsOf, hi]
  · exact absurd h (by simp)

theorem fieldAddr_ok (hE : EnvOK P E) {t : TypeId} {f : Nat} {x r : AV} {xv : Value} (h : (aFieldAddr E.T t x f).run g.H = some r) (hx : g.R x xv) :
    ∃ v', (Instr.fieldAt t xv f).run P g.w = .ok v' g.w ∧ g.R r v' := by
  unfold aFieldAddr at h
  split at h
  · rename_i o u s hf
    obtain ⟨fa, fd, i, h1, h2, rfl, rfl, h5, h6⟩ := fieldOf_ok hE hf
    have hrun : ∀ b o2, (Instr.fieldAt t (.pointer (some ⟨b, o2, none⟩)) f).run P g.w = .ok (.pointer (some ⟨b, o2 + fd.offset, none⟩)) g.w := by
      intro b o2
      simp only [Instr.fieldAt, Instr.sureAddr, Sem.run_bind, Sem.run_pure, Result.andThen_ok, run_under h1, h2, fieldPlace, run_size h5, h6]
      simp [add_none]
    split at h
    · obtain ⟨bl, k1, k2⟩ := Rd.run_bind_some h
      obtain ⟨q1, q2, rfl⟩ := live_ptr hx k1
      simp only [Rd.run, Option.some.injEq] at k2; subst k2
      exact ⟨_, hrun _ _, by rw [Nat.add_assoc]; exact ptr_R q1 q2⟩
    · simp only [Rd.run, Option.some.injEq] at h; subst h
      simp only [Gh.R, VR] at hx
      obtain ⟨b, o2, rfl, q1, q2⟩ := hx
      exact ⟨_, hrun _ _, by simp only [Gh.R, VR]; exact ⟨b, o2, by rw [Nat.add_assoc], q1, q2⟩⟩
    · simp [Rd.run] at h
  · simp [Rd.run] at h

theorem field_ok (hE : EnvOK P E) {t : TypeId} {f : Nat} {x r : AV} {xv : Value} (h : aField E.T t x f = some r) (hx : g.R x xv) :
    ∃ v', (Instr.field t xv f).run P g.w = .ok v' g.w ∧ g.R r v' := by
  unfold aField at h
  split at h
  · rename_i o u s cs hf
    obtain ⟨fa, fd, i, h1, h2, rfl, rfl, h5, h6⟩ := fieldOf_ok hE hf
    simp only [Gh.R, VR] at hx
    obtain ⟨C, rfl, hc⟩ := hx
    obtain ⟨v', h7, h8⟩ := part_ok (P := P) hE hc h g.w
    refine ⟨v', ?_, h8⟩
    simp only [Instr.field, asAgg, Sem.run_bind, Sem.run_pure, Result.andThen_ok, run_under h1, h2, h7]
  · exact absurd h (by simp)

theorem len_ok (hE : EnvOK P E) {ts : Array TypeId} {t u : TypeId} (ht : ts[0]? = some t) {x r : AV} {xv : Value} (h : (aLen E.T t x).run g.H = some r) (hx : g.R x xv) :
    ∃ v', (Builtin.len_ ts u #[xv]).run P g.w = .ok v' g.w ∧ g.R r v' := by
  unfold aLen at h
  split at h
  · rename_i _ _ _ s hT
    have hu := kind_str hE hT
    simp only [Rd.run, Option.some.injEq] at h; subst h
    simp only [Gh.R, VR] at hx; subst hx
    exact ⟨.int .i64 s.size, by simp [Builtin.len_, ht, run_under hu, goInt], by simp only [Gh.R, VR]⟩
  · rename_i e _ _ _ hT
    have hu := kind_slice hE hT
    simp only [Rd.run, Option.some.injEq] at h; subst h
    simp only [Gh.R, VR] at hx; subst hx
    exact ⟨.int .i64 0, by simp [Builtin.len_, ht, run_under hu, goInt], by simp only [Gh.R, VR]⟩
  · rename_i e _ _ _ cells len ex hT
    have hu := kind_slice hE hT
    simp only [Rd.run, Option.some.injEq] at h; subst h
    simp only [Gh.R, VR] at hx
    obtain ⟨b, o, cap, rfl, _⟩ := hx
    exact ⟨.int .i64 len, by simp [Builtin.len_, ht, run_under hu, goInt], by simp only [Gh.R, VR]⟩
  · rename_i e _ _ _ id off len cap gl sz ex hT
    have hu := kind_slice hE hT
    obtain ⟨bl, k1, k2⟩ := Rd.run_bind_some h
    obtain ⟨q1, q2, o, cap', rfl, _⟩ := live_ref hx k1
    simp only [Rd.run, Option.some.injEq] at k2; subst k2
    exact ⟨.int .i64 len, by simp [Builtin.len_, ht, run_under hu, goInt], by simp only [Gh.R, VR]⟩
  · rename_i n e q _ _ _ hT
    have hu := kind_arr hE hT
    simp only [Rd.run, Option.some.injEq] at h; subst h
    exact ⟨.int .i64 n, by simp [Builtin.len_, ht, run_under hu, goInt], by simp only [Gh.R, VR]⟩
  · simp [Rd.run] at h

theorem un_ok {op : UnOp} {x r : AV} {xv : Value} (h : aUn op x = some r) (hx : g.R x xv) : ∃ v', (Op.unary op xv).run P g.w = .ok v' g.w ∧ g.R r v' := by
  unfold aUn at h
  split at h
  · obtain rfl := Option.some.inj h
    simp only [Gh.R, VR] at hx; subst hx
    exact ⟨_, by simp only [Op.unary, Op.intArith]; rfl, by simp only [Gh.R, VR, wrp_eq]⟩
  · rename_i k n
    simp only [Gh.R, VR] at hx; subst hx
    simp only [aInt, Option.some.injEq] at h; subst h
    exact ⟨_, by simp only [Op.unary, Op.intBits]; rfl, by simp only [Gh.R, bk, bt, VR, wrp_eq]⟩
  · obtain rfl := Option.some.inj h
    simp only [Gh.R, VR] at hx; subst hx
    exact ⟨_, by simp only [Op.unary]; rfl, by simp only [Gh.R, VR]⟩
  · exact absurd h (by simp)

theorem conv_ok (hE : EnvOK P E) {s d : TypeId} {x r : AV} {xv : Value} (h : aConv E.T s d x = some r) (hx : g.R x xv) : ∃ v', (convert s d xv).run P g.w = .ok v' g.w ∧ g.R r v' := by
  unfold aConv at h
  split at h
  · rename_i i k _ _ _ k2 n hT1 hT2
    obtain ⟨ds, hs⟩ := kind_some hE hT1
    have hu := kind_int hE hT2
    obtain rfl := Option.some.inj h
    simp only [Gh.R, VR] at hx; subst hx
    refine ⟨.int k (k.wrap n), ?_, by simp only [Gh.R, VR, wrp_eq]⟩
    simp only [convert, Sem.run_bind, run_under hs, run_under hu, Result.andThen_ok]
    cases ds <;> rfl
  · rename_i i _ _ _ s2 hT1 hT2
    obtain ⟨ds, hs⟩ := kind_some hE hT1
    have hu := kind_str hE hT2
    obtain rfl := Option.some.inj h
    simp only [Gh.R, VR] at hx; subst hx
    refine ⟨.string s2, ?_, by simp only [Gh.R, VR]⟩
    simp only [convert, Sem.run_bind, run_under hs, run_under hu, Result.andThen_ok]
    cases ds <;> rfl
  · exact absurd h (by simp)

theorem min_ok : ∀ (as : List AV) (a r : AV) (av : Value) (vs : List Value), aMin a as = some r → g.R a av → g.Rs as vs → ∃ v', (vs.foldlM Builtin.min2 av).run P g.w = .ok v' g.w ∧ g.R r v'
  | [], a, r, av, vs, h, ha, hs => by
    simp only [Gh.Rs, VRs] at hs; subst hs
    cases a <;> simp only [aMin, Option.some.injEq] at h <;> try (simp at h; done)
    subst h
    exact ⟨av, rfl, ha⟩
  | b :: bs, a, r, av, vs, h, ha, hs => by
    simp only [Gh.Rs, VRs] at hs
    obtain ⟨bv, t, rfl, hb, hs⟩ := hs
    cases a <;> cases b <;> simp only [aMin] at h <;> try (simp at h; done)
    rename_i k x k2 y
    simp only [Gh.R, VR] at ha hb
    subst ha; subst hb
    obtain ⟨v', h1, h2⟩ := min_ok bs _ r (.int k (if y < x then y else x)) t h (by simp only [Gh.R, VR]) hs
    refine ⟨v', ?_, h2⟩
    simp only [List.foldlM_cons, Sem.run_bind, Builtin.min2, Sem.run_pure, Result.andThen_ok, h1]

theorem max_ok : ∀ (as : List AV) (a r : AV) (av : Value) (vs : List Value), aMax a as = some r → g.R a av → g.Rs as vs → ∃ v', (vs.foldlM Builtin.max2 av).run P g.w = .ok v' g.w ∧ g.R r v'
  | [], a, r, av, vs, h, ha, hs => by
    simp only [Gh.Rs, VRs] at hs; subst hs
    cases a <;> simp only [aMax, Option.some.injEq] at h <;> try (simp at h; done)
    subst h
    exact ⟨av, rfl, ha⟩
  | b :: bs, a, r, av, vs, h, ha, hs => by
    simp only [Gh.Rs, VRs] at hs
    obtain ⟨bv, t, rfl, hb, hs⟩ := hs
    cases a <;> cases b <;> simp only [aMax] at h <;> try (simp at h; done)
    rename_i k x k2 y
    simp only [Gh.R, VR] at ha hb
    subst ha; subst hb
    obtain ⟨v', h1, h2⟩ := max_ok bs _ r (.int k (if y > x then y else x)) t h (by simp only [Gh.R, VR]) hs
    refine ⟨v', ?_, h2⟩
    simp only [List.foldlM_cons, Sem.run_bind, Builtin.max2, Sem.run_pure, Result.andThen_ok, h1]

end
end Go.AM
