/- PropStands: the law's run. Own work of this project. -/
import Derived.Test.YteellnlcligpfaaLawA
namespace Go.AM
theorem aBack_refint' {C : Callee} {site : Nat → Nat} {seen : List Nat} {f : FuncId} {args : List AV} {id n sz : Nat} {k : IntKind} {z : Int} {cells : List AV} {H' : AHeap} (h : C f args [] 0 = some (.tup [.ref id 0 n n cells.length sz false, .int k z], H')) (hg : hget H' id = some ⟨.row, cells⟩) :
    aBack site true seen (thaw C f args [] 0) = (freeAll [site 0]).bind fun _ => (frz seen).bind fun us => .pure (.tup [.ref (site 0) 0 n n cells.length sz false, .int k z], us ++ [(site 0, ⟨.row, cells⟩)]) := by
  simp only [thaw, h, frzRet, aBack, imp, imps, hg, List.length_nil, List.not_mem_nil, not_false_eq_true, and_true, if_true, List.map_cons, List.map_nil, AM.apart, List.elem_nil, Bool.not_false, Bool.and_true, AV.leads, AV.leads.leadsL, Bool.or_false]
end Go.AM
namespace Go.AM.Yteellnlcligpfaa
open Go Go.AM
set_option maxRecDepth 100000
set_option maxHeartbeats 4000000

theorem Worst_call_ok {d : Nat} {site : Nat → Nat} {seen : List Nat} {l : List Stone} {ex : Bool} {k : Nat} {side : Int} (h0 : sidedE l k side = 0) :
    aBack site true seen (thaw (callA E fg 1000 (d + 5)) 12 [.imm (pcells l) l.length ex, .int .i64 k, .int .i64 side] [] 0) = (freeAll [site 0]).bind fun _ => (frz seen).bind fun us => .pure (.tup [.ref (site 0) 0 l.length l.length l.length 1 false, .int .i64 0], us ++ [(site 0, ⟨.row, icells (worstI l k side l.length)⟩)]) := by
  have hl : (icells (worstI l k side l.length)).length = l.length := by rw [icells_length, worstI_length]
  have e := worst_list_run (d := d) (ex := ex) h0
  have := aBack_refint' (site := site) (seen := seen) (n := l.length) (sz := 1) (id := 45) (k := .i64) (z := 0) (cells := icells (worstI l k side l.length)) (H' := [(45, ⟨.row, icells (worstI l k side l.length)⟩)]) (C := callA E fg 1000 (d + 5)) (f := 12) (args := [.imm (pcells l) l.length ex, .int .i64 k, .int .i64 side]) (by rw [hl]; exact e) (by rw [hget_cons']; simp)
  rw [hl] at this
  exact this
theorem rWorst_call_ok {d : Nat} {site : Nat → Nat} {seen : List Nat} {l : List Stone} {ex : Bool} {k : Nat} {side : Int} (h0 : sidedE l k side = 0) :
    aBack site true seen (thaw (callA E fg 1000 (d + 5)) 13 [.imm (pcells l) l.length ex, .int .i64 k, .int .i64 side] [] 0) = (freeAll [site 0]).bind fun _ => (frz seen).bind fun us => .pure (.tup [.ref (site 0) 0 l.length l.length l.length 1 false, .int .i64 0], us ++ [(site 0, ⟨.row, icells (worstI l k side l.length)⟩)]) := by
  have hl : (icells (worstI l k side l.length)).length = l.length := by rw [icells_length, worstI_length]
  obtain ⟨id, e⟩ := rWorst_ok (d := d) (ex := ex) h0
  have := aBack_refint' (site := site) (seen := seen) (n := l.length) (sz := 1) (id := id) (k := .i64) (z := 0) (cells := icells (worstI l k side l.length)) (H' := [(id, ⟨.row, icells (worstI l k side l.length)⟩)]) (C := callA E fg 1000 (d + 5)) (f := 13) (args := [.imm (pcells l) l.length ex, .int .i64 k, .int .i64 side]) (by rw [hl]; exact e) (by rw [hget_cons']; simp)
  rw [hl] at this
  exact this
theorem poutV_ne {id : Nat} {l : List Stone} (h : 0 < l.length) : poutV id l = .ref id 0 l.length l.length (l.length * 4) 4 false ∧ poutH id l = [(id, ⟨.row, pcells l⟩)] := by
  cases l with
  | nil => simp at h
  | cons a o => exact ⟨rfl, rfl⟩
theorem inner_call {d : Nat} {site : Nat → Nat} {l : List Stone} {ex : Bool} (hl : l.length < 900) (h : 0 < l.length) :
    aBack site true [] (thaw (callA E fg 1000 (d + 1)) 7 [.imm (pcells l) l.length ex] [] 0) = (fresh (site 0) ⟨.row, pcells l⟩).bind fun f => .pure (.ref (site 0) 0 l.length l.length (l.length * 4) 4 false, f) := by
  obtain ⟨e1, e2⟩ := poutV_ne (id := 17) h
  have e := inner_run (C := callA E fg 1000 d) (ex := ex) hl
  rw [e1, e2] at e
  have := aBack_ref (site := site) (n := l.length) (sz := 4) (id := 17) (cells := pcells l) (H' := [(17, ⟨.row, pcells l⟩)]) (C := callA E fg 1000 (d + 1)) (f := 7) (args := [.imm (pcells l) l.length ex]) (by rw [pcells_length]; exact e) (by rw [hget_cons']; simp)
  rw [pcells_length] at this
  exact this
theorem inner_call_nil {d : Nat} {site : Nat → Nat} {seen : List Nat} {a : AV} (ha : IsP a []) : aBack site true seen (thaw (callA E fg 1000 (d + 1)) 7 [a] [] 0) = .pure (.nilsl, []) := by
  rcases ha with ⟨rfl, _⟩ | ⟨ex, rfl⟩
  · exact aBack_plain (inner_nil (C := callA E fg 1000 d)) rfl rfl rfl
  · exact aBack_plain (inner_run (C := callA E fg 1000 d) (l := []) (ex := ex) (by simp)) rfl rfl rfl

theorem take_pc (l : List Stone) : List.take (l.length * 4) (pcells l) = pcells l := List.take_of_length_le (by rw [pcells_length]; exact Nat.le_refl _)
theorem take_wi (l : List Stone) (k : Nat) (side : Int) : List.take l.length (icells (worstI l k side l.length)) = icells (worstI l k side l.length) := List.take_of_length_le (by rw [icells_length, worstI_length]; exact Nat.le_refl _)
theorem len_wi (l : List Stone) (k : Nat) (side : Int) : (icells (worstI l k side l.length)).length = l.length := by rw [icells_length, worstI_length]

end Go.AM.Yteellnlcligpfaa
