/- PropShown: up to what is wanted. Own work of this project. -/
import Derived.Test.YtikchlfbjdfioaaShA
namespace Go.AM.Ytikchlfbjdfioaa
open Go Go.AM
set_option maxRecDepth 100000
set_option maxHeartbeats 4000000

theorem take_pc (l : List Stone) : List.take (l.length * 4) (pcells l) = pcells l := List.take_of_length_le (by rw [pcells_length]; exact Nat.le_refl _)
theorem snaps_ints : ∀ (l : List AV) (d : Nat), (∀ a ∈ l, ∃ k z, a = AV.int k z) → l.length + 2 ≤ d → snaps d l = .pure (l, [])
  | [], d + 1, _, _ => by simp only [snaps]
  | a :: l, d + 1, h, hd => by
    obtain ⟨k, z, rfl⟩ := h a (List.mem_cons_self ..)
    have hd2 : l.length + 2 ≤ d := by simp only [List.length_cons] at hd; omega
    have ih := snaps_ints l d (fun a ha => h a (List.mem_cons_of_mem _ ha)) hd2
    obtain ⟨e, rfl⟩ : ∃ e, d = e + 1 := ⟨d - 1, by omega⟩
    simp only [snaps, snap, ih, Rd.bind, List.nil_append]
theorem qcells_ints : ∀ (l : List Q), ∀ a ∈ qcells l, ∃ k z, a = AV.int k z
  | [], a, h => by simp [qcells] at h
  | q :: l, a, h => by
    simp only [qcells, qc, List.cons_append, List.nil_append, List.mem_cons] at h
    rcases h with rfl | rfl | rfl | rfl | h
    · exact ⟨_, _, rfl⟩
    · exact ⟨_, _, rfl⟩
    · exact ⟨_, _, rfl⟩
    · exact ⟨_, _, rfl⟩
    · exact qcells_ints l a h
theorem hcells_snap {m : Int} {qs : List Q} (h : qs.length = 5) (d : Nat) (hd : 30 ≤ d) : snaps d (hcells m qs) = .pure (hcells m qs, []) := by
  refine snaps_ints _ d (fun a ha => ?_) (by rw [hcells_length h]; omega)
  simp only [hcells, List.mem_cons] at ha
  rcases ha with rfl | ha
  · exact ⟨_, _, rfl⟩
  · exact qcells_ints qs a ha
theorem hcells_take {m : Int} {qs : List Q} (h : qs.length = 5) : List.take 21 (hcells m qs) = hcells m qs := List.take_of_length_le (by rw [hcells_length h]; exact Nat.le_refl _)

theorem sh_loop {C : Callee} {l : List Stone} {bs : List Int} (h : OkP l) (hbs : BOk bs) (hc : List AV) (lo sd lv : Int) :
    iterA (execA E C (fg 5) 0 249 [] 1000 c5_13) (headA []) 1000 ([(35, .int .i64 0), (34, .int .i64 l.length), (33, .ref 32 0 l.length l.length (l.length * 4) 4 false), (13, .int .i64 0), (12, .nilsl), (11, .ref 32 0 l.length l.length (l.length * 4) 4 false), (6, .ptr 6 0 5), (4, .int .u8 lo), (3, .int .u8 sd), (2, .int .u8 lv)], [(5, ⟨.box, hc⟩), (6, ⟨.box, bcells bs⟩), (32, ⟨.row, pcells l⟩)]) =
      some (.exit 0, [(36, .bool false), (35, .int .i64 l.length), (34, .int .i64 l.length), (33, .ref 32 0 l.length l.length (l.length * 4) 4 false), (13, .int .i64 (wantN l bs l.length)), (12, .ref 87 0 l.length l.length l.length 1 false), (11, .ref 32 0 l.length l.length (l.length * 4) 4 false), (6, .ptr 6 0 5), (4, .int .u8 lo), (3, .int .u8 sd), (2, .int .u8 lv)], [(6, ⟨.box, bcells bs⟩), (32, ⟨.row, pcells l⟩), (87, ⟨.row, icells (wsI l bs l.length)⟩)]) := by
  have hle := h.le
  obtain ⟨e1, e2⟩ := outV_ne (id := 87) (l := wsI l bs l.length) (by rw [wsI_length]; exact h.ne)
  rw [wsI_length] at e1
  exact iter_all (f := execA E C (fg 5) 0 249 [] 1000 c5_13) (hd := headA []) (fun i => ([(35, .int .i64 i), (34, .int .i64 l.length), (33, .ref 32 0 l.length l.length (l.length * 4) 4 false), (13, .int .i64 (wantN l bs i)), (12, outV 87 (wsI l bs i)), (11, .ref 32 0 l.length l.length (l.length * 4) 4 false), (6, .ptr 6 0 5), (4, .int .u8 lo), (3, .int .u8 sd), (2, .int .u8 lv)], (6, ⟨.box, bcells bs⟩) :: (32, ⟨.row, pcells l⟩) :: outH 87 (wsI l bs i))) l.length 1000 0 _ (by
      obtain ⟨hl5, _⟩ := hbs
      match bs, hl5 with
      | [_, _, _, _, _], _ => rfl) (by omega) (fun i h1 h2 => by
      have := sh_round (C := C) h hbs i (by omega) (wsI l bs i) (wsI_length l bs i) (wantN l bs i) lo sd lv
      rw [wsI_succ]
      exact this) (by
      rw [Nat.zero_add]
      simp only [e1, e2]
      simp only [seqX_normal, seqX_exit, bindR_some, regX_some, condX_bool, run_nil, run_cons, fget_cons', fput_cons', forget_nil, forget_cons', gcM, stp, just, Rd.bind, Rd.run, Rd.opt, upds, aBin, aInt, Nat.reduceEqDiff, Nat.reduceLeDiff, ↓reduceIte, decide_false, putD_some, List.elem_nil, x5_14, r5_5_l, s5_5_0, x5_17, x5_18, x5_16, x5_15, x5_13, Int.lt_irrefl, decide_false, Bool.false_eq_true]) (by simp)

end Go.AM.Ytikchlfbjdfioaa
