/- A part of the proof of muleShown_card: ShI. Own work of this project; texts printed by own programs among it. -/
import Derived.KernelRfl
import Derived.Test.YtgfnbmfjbjopkaaDoorSjH
set_option maxRecDepth 1000000
set_option maxHeartbeats 16000000
noncomputable section
noncomputable section
namespace Go.AM
def Z0g (k : Nat) (seen : List Nat) (r : Nat → AV) (b : Blk) : Rd (AV × Ups) :=
 (freeOff [k] 6 0).bind fun off => (freeAll [k + off]).bind fun _ => (frz seen).bind fun us => .pure (r (k + off), us ++ [(k + off, b)])
theorem Zy8 (k : Nat) (seen : List Nat) (r : Nat → AV) (b : Blk) : ∃ no : Blk → Rd (AV × Ups), Z0g k seen r b = .get k fun
   | none => .get k fun
     | none => (frz seen).bind fun us => .pure (r k, us ++ [(k, b)])
     | some _ => .fail
   | some b => no b := by
 refine ⟨fun _ => (freeOff [k] 5 1048576).bind fun off => (freeAll [k + off]).bind fun _ => (frz seen).bind fun us => .pure (r (k + off), us ++ [(k + off, b)]), ?_⟩
 simp only [Z0g, freeOff, List.map_cons, List.map_nil, allFree, Rd.bind, Nat.add_zero]
 congr 1
 funext x
 cases x with
 | none =>
   simp only [Rd.bind, freeAll, Nat.add_zero]
   congr 1
   funext y
   cases y <;> rfl
 | some _ => rfl
theorem ZJl {k : Nat} {seen : List Nat} {r : Nat → AV} {b : Blk} {H : AHeap} (h : hget H k = none) : (Z0g k seen r b).run H = ((frz seen).bind fun us => .pure (r k, us ++ [(k, b)])).run H := by
 obtain ⟨no, e⟩ := Zy8 k seen r b
 rw [e]; simp only [Rd.run, h]
theorem ZFK {k : Nat} {seen : List Nat} {r : Nat → AV} {b : Blk} {H : AHeap} (h : hget H k = none) : (Z0g k seen r b).foot H = k :: k :: ((frz seen).bind fun us => .pure (r k, us ++ [(k, b)])).foot H := by
 obtain ⟨no, e⟩ := Zy8 k seen r b
 rw [e]; simp only [Rd.foot, h]
def ZIA (k : Nat) (seen : List Nat) (r : Nat → AV) (b : Blk) : Rd (AV × Ups) := Z0g k seen r b
theorem Z0aN {k : Nat} {seen : List Nat} {r : Nat → AV} {b : Blk} {H : AHeap} : (Z0g k seen r b).run H = match hget H k with
   | none => ((frz seen).bind fun us => .pure (r k, us ++ [(k, b)])).run H
   | some _ => (ZIA k seen r b).run H := by
 cases h : hget H k with
 | none => exact ZJl h
 | some _ => rfl
theorem Z02W {k : Nat} {seen : List Nat} {r : Nat → AV} {b : Blk} {H : AHeap} : (Z0g k seen r b).foot H = match hget H k with
   | none => k :: k :: ((frz seen).bind fun us => .pure (r k, us ++ [(k, b)])).foot H
   | some _ => (ZIA k seen r b).foot H := by
 cases h : hget H k with
 | none => exact ZFK h
 | some _ => rfl
def Z2V (k0 k1 : Nat) (seen : List Nat) (r : Nat → Nat → AV) (b0 b1 : Blk) : Rd (AV × Ups) :=
 (freeOff [k1, k0] 6 0).bind fun off => (freeAll [k1 + off, k0 + off]).bind fun _ => (frz seen).bind fun us => .pure (r (k0 + off) (k1 + off), us ++ [(k1 + off, b1), (k0 + off, b0)])
def ZIQ (k0 k1 : Nat) (seen : List Nat) (r : Nat → Nat → AV) (b0 b1 : Blk) : Rd (AV × Ups) := Z2V k0 k1 seen r b0 b1
theorem ZSH (k0 k1 : Nat) (seen : List Nat) (r : Nat → Nat → AV) (b0 b1 : Blk) : ∃ no no' : Blk → Rd (AV × Ups), Z2V k0 k1 seen r b0 b1 = .get k1 fun
   | none => .get k0 fun
     | none => .get k1 fun
       | none => .get k0 fun
         | none => (frz seen).bind fun us => .pure (r k0 k1, us ++ [(k1, b1), (k0, b0)])
         | some _ => .fail
       | some _ => .fail
     | some b => no b
   | some b => no' b := by
 refine ⟨fun _ => (freeOff [k1, k0] 5 1048576).bind fun off => (freeAll [k1 + off, k0 + off]).bind fun _ => (frz seen).bind fun us => .pure (r (k0 + off) (k1 + off), us ++ [(k1 + off, b1), (k0 + off, b0)]),
   fun _ => (freeOff [k1, k0] 5 1048576).bind fun off => (freeAll [k1 + off, k0 + off]).bind fun _ => (frz seen).bind fun us => .pure (r (k0 + off) (k1 + off), us ++ [(k1 + off, b1), (k0 + off, b0)]), ?_⟩
 simp only [Z2V, freeOff, List.map_cons, List.map_nil, allFree, Rd.bind, Nat.add_zero]
 congr 1
 funext x
 cases x with
 | some _ => rfl
 | none =>
   simp only [Rd.bind]
   congr 1
   funext y
   cases y with
   | some _ => rfl
   | none =>
     simp only [Rd.bind, freeAll, Nat.add_zero]
     congr 1
     funext x
     cases x with
     | some _ => rfl
     | none =>
       simp only [Rd.bind]
       congr 1
       funext y
       cases y <;> rfl
theorem Z0bl {k0 k1 : Nat} {seen : List Nat} {r : Nat → Nat → AV} {b0 b1 : Blk} {H : AHeap} : (Z2V k0 k1 seen r b0 b1).run H = match hget H k1 with
   | none => match hget H k0 with
     | none => ((frz seen).bind fun us => .pure (r k0 k1, us ++ [(k1, b1), (k0, b0)])).run H
     | some _ => (ZIQ k0 k1 seen r b0 b1).run H
   | some _ => (ZIQ k0 k1 seen r b0 b1).run H := by
 cases h : hget H k1 with
 | some _ => rfl
 | none =>
   cases h2 : hget H k0 with
   | some _ => rfl
   | none =>
     obtain ⟨no, no', e⟩ := ZSH k0 k1 seen r b0 b1
     rw [e]; simp only [Rd.run, h, h2]
theorem ZIm {C : Callee} {site : Nat → Nat} {seen : List Nat} {f : FuncId} {args : List AV} {id n sz : Nat} {cells : List AV} {H' : AHeap} (h : C f args [] 0 = some (.ref id 0 n n cells.length sz false, H')) (hg : hget H' id = some ⟨.row, cells⟩) :
   aBack site true seen (thaw C f args [] 0) = Z0g (site 0) seen (fun k => .ref k 0 n n cells.length sz false) ⟨.row, cells⟩ := by
 simp only [thaw, h, frzRet, aBack, sitesB, aBackAt, imp, hg, List.length_nil, List.not_mem_nil, not_false_eq_true, and_true, if_true, List.map_cons, List.map_nil, AM.apart, List.elem_nil, Bool.not_false, Bool.and_true, AV.leads, Z0g]
theorem ZKt {C : Callee} {site : Nat → Nat} {seen : List Nat} {f : FuncId} {args : List AV} (h : ∃ H', C f args [] 0 = some (.nilsl, H')) : aBack site true seen (thaw C f args [] 0) = .pure (.nilsl, []) := by
 obtain ⟨H', h⟩ := h; exact Z0l h rfl (fun _ => rfl) rfl
end Go.AM
end
noncomputable section
namespace Go.AM
theorem seqN (s : St) (k) : seqX (some (.normal, s)) k = k s := nf
theorem bindN (s : St) (k) : bindR (some s) k = k s := nf
theorem regN (s : St) (k) : regX (some s) k = some (.normal, k s) := nf
theorem ZXm (d : Nat) (k : IntKind) (z : Int) : snap (d + 1) (.int k z) = .pure (.int k z, []) := rfl
theorem ZGN (d : Nat) : snap (d + 1) .nilsl = .pure (.nilsl, []) := rfl
theorem ZM5 (d : Nat) (c : List AV) (n : Nat) (ex : Bool) : snap (d + 1) (.imm c n ex) = .pure (.imm c n ex, []) := rfl
theorem ZYu (d id off len cap gl sz : Nat) (ex : Bool) : snap (d + 1) (.ref id off len cap gl sz ex) = (Rd.liveBlk id gl).bind fun b =>
     if off + len * sz ≤ b.cells.length then
       match b.st with
       | .box => (snaps d ((b.cells.drop off).take (len * sz))).bind fun x =>
         .pure (.imm x.1 len (ex && decide (cap = len)), id :: x.2)
       | _ => .pure (.imm ((b.cells.drop off).take (len * sz)) len (ex && decide (cap = len)), [id])
     else .fail := rfl
theorem ZJ2 (d id off gl : Nat) : snap (d + 1) (.ptr id off gl) = (Rd.liveBlk id gl).bind fun b =>
     match b.st with
     | .box => (snaps d b.cells).bind fun x => .pure (.iptr x.1 off, id :: x.2)
     | _ => .pure (.iptr b.cells off, [id]) := rfl
theorem ZIG (d : Nat) (c : List AV) (n : Nat) : snap (d + 1) (.iptr c n) = .pure (.iptr c n, []) := rfl
theorem ZJd (d : Nat) (b : Bool) : snap (d + 1) (.bool b) = .pure (.bool b, []) := rfl
theorem Zrt (d : Nat) : snap (d + 1) .nilfunc = .pure (.nilfunc, []) := rfl
theorem ZXB (d : Nat) (vs : List AV) : snap (d + 1) (.agg vs) = (snaps d vs).bind fun x => .pure (.agg x.1, x.2) := rfl
theorem ZZ2 (d : Nat) (vs : List AV) : snap (d + 1) (.tup vs) = (snaps d vs).bind fun x => .pure (.tup x.1, x.2) := rfl
theorem ZOT (d : Nat) (f : FuncId) (vs : List AV) : snap (d + 1) (.clo f vs) = (snaps d vs).bind fun x => .pure (.clo f x.1, x.2) := rfl
def frzB (s : BS) (cs : List AV) (i : Nat) (r : Rd Ups) : Rd Ups :=
 match s, cs.all AV.flat with
 | .box, false => .fail
 | .mp, _ => .fail
 | .froz, _ => r
 | _, _ => r.bind fun us => .pure ((i, ⟨.froz, cs⟩) :: us)
theorem Z08M : frz [] = .pure [] := rfl
theorem Z0dQ (i : Nat) (is : List Nat) : frz (i :: is) = .get i fun
   | some b => frzB b.st b.cells i (frz is)
   | none => .fail := rfl
theorem ZWx (cs : List AV) (i : Nat) (r : Rd Ups) : frzB .row cs i r = r.bind fun us => .pure ((i, ⟨.froz, cs⟩) :: us) := rfl
theorem ZHA (cs : List AV) (i : Nat) (r : Rd Ups) : frzB .froz cs i r = r := by unfold frzB; cases cs.all AV.flat <;> rfl
theorem ZNJ (cs : List AV) (i : Nat) (r : Rd Ups) : frzB .box cs i r = if cs.all AV.flat = true then r.bind fun us => .pure ((i, ⟨.froz, cs⟩) :: us) else .fail := by
 unfold frzB; cases cs.all AV.flat <;> rfl
theorem ZaC : ∀ (l : List AV) (d : Nat), (∀ a ∈ l, ∃ k z, a = AV.int k z) → l.length + 2 ≤ d → snaps d l = .pure (l, [])
 | [], d + 1, _, _ => by simp only [snaps]
 | a :: l, d + 1, h, hd => by
   obtain ⟨k, z, rfl⟩ := h a (List.mem_cons_self ..)
   have hd2 : l.length + 2 ≤ d := by simp only [List.length_cons] at hd; omega
   have ih := ZaC l d (fun a ha => h a (List.mem_cons_of_mem _ ha)) hd2
   obtain ⟨e, rfl⟩ : ∃ e, d = e + 1 := ⟨d - 1, by omega⟩
   simp only [snaps, snap, ih, Rd.bind, List.nil_append]
end Go.AM
namespace Go.AM.YtgfnbmfjbjopkaaDoor
open Go Go.AM
theorem cl0 : ((0 : Nat) : Int) = 0 := rfl
theorem cl1 : ((1 : Nat) : Int) = 1 := rfl
end Go.AM.YtgfnbmfjbjopkaaDoor
end
noncomputable section
namespace Go.AM
abbrev ZF := And.intro (And.intro (And.intro (And.intro (And.intro (And.intro (And.intro @ZRm @ZLb) (And.intro @ZJN (And.intro @ZLY
 @ZGk))) (And.intro (And.intro @ZHQ @ZHM) (And.intro @ZX9 (And.intro @ZH3 @ZyI)))) (And.intro (And.intro
 (And.intro @ZiN @ZFI) (And.intro @ZyP (And.intro @ZG9 @ZXQ))) (And.intro (And.intro @ZIt @Bool.not_true)
 (And.intro @Bool.not_false (And.intro @ZHV @ZHS))))) (And.intro (And.intro (And.intro (And.intro @ZtP @Z07m) (And.intro
 @ZPa (And.intro @ZTu @ZFM))) (And.intro (And.intro @ZSW @ZHc) (And.intro @ZGB (And.intro @Zkq
 @Zhs)))) (And.intro (And.intro (And.intro @Z2o @ZHu) (And.intro @ZGJ (And.intro @Z76 @Z0mS))) (And.intro (And.intro
 @Z0n3 (And.intro @ZGl @decide_eq_true_eq)) (And.intro @decide_eq_false_iff_not (And.intro @Nat.zero_add @Nat.add_zero)))))) (And.intro
 (And.intro (And.intro (And.intro (And.intro @Z0bz @Z04H) (And.intro @Z0kK (And.intro @Z0bG @Z0jx))) (And.intro (And.intro @ZKM
 @bne_iff_ne.{0}) (And.intro @ne_eq.{1} (And.intro @beq_iff_eq.{0} @ite_not.{1})))) (And.intro (And.intro (And.intro @Z2s @List.nil_append.{0})
 (And.intro @List.getElem?_toArray.{0} (And.intro @ZUT @ZPy))) (And.intro (And.intro @Z09v (And.intro @ZJQ @ZL5)) (And.intro
 @ZYM (And.intro @ZTh @ZWu))))) (And.intro (And.intro (And.intro (And.intro @Z01l @ZPJ) (And.intro @ZI5 (And.intro @Z084
 @ZGP))) (And.intro (And.intro @ZyD @Zhr) (And.intro @Zde (And.intro @List.isEmpty_nil.{0} @List.isEmpty_cons.{0}))))
 (And.intro (And.intro (And.intro @List.map_nil.{0,0} @List.map_cons.{0,0}) (And.intro @Bool.true_or (And.intro @Bool.or_true @Bool.false_or)))
 (And.intro (And.intro @Bool.or_false (And.intro @Bool.and_true @Bool.true_and)) (And.intro @Bool.and_self (And.intro @decide_true @decide_false)))))))
 (And.intro (And.intro (And.intro (And.intro (And.intro (And.intro @not_true_eq_false @not_false_eq_true) (And.intro @or_false (And.intro @false_or
 @or_true))) (And.intro (And.intro @true_or @or_self) (And.intro @fo6 (And.intro @fo5 @Bool.not_eq_true)))) (And.intro (And.intro (And.intro
 @Bool.not_eq_false @Bool.not_eq_eq_eq_not) (And.intro @ZL2 (And.intro @ZHP @and_true))) (And.intro (And.intro @true_and
 @Int.natCast_nonneg) (And.intro @Int.ofNat_lt (And.intro @Int.toNat_natCast @List.append_nil.{0}))))) (And.intro (And.intro (And.intro (And.intro
 @if_true.{1} @if_false.{1}) (And.intro @Option.map_some.{0,0} (And.intro @Option.map_none.{0,0} @List.elem_cons.{0}))) (And.intro (And.intro
 @List.elem_nil.{0} @cond_true.{1}) (And.intro @cond_false.{1} (And.intro @List.length_cons.{0} @List.length_nil.{0})))) (And.intro (And.intro
 (And.intro @List.getElem?_cons_zero.{0} @List.getElem?_cons_succ.{0}) (And.intro @List.drop_zero.{0} (And.intro @List.drop_succ_cons.{0}
 @List.take_succ_cons.{0}))) (And.intro (And.intro @List.take_zero.{0} (And.intro @List.take_nil.{0} @List.set_cons_zero.{0})) (And.intro
 @List.set_cons_succ.{0} (And.intro @Z08M @Z0dQ)))))) (And.intro (And.intro (And.intro (And.intro (And.intro @ZWx @ZHA) (And.intro
 @ZNJ (And.intro @seqN @bindN))) (And.intro (And.intro @regN @ZXm) (And.intro @ZJd (And.intro @ZGN @Zrt)))) (And.intro
 (And.intro (And.intro @ZM5 @ZYu) (And.intro @ZJ2 (And.intro @ZIG @ZXB))) (And.intro (And.intro @ZZ2 (And.intro
 @ZOT @List.all_cons.{0})) (And.intro @List.all_nil.{0} (And.intro @Z0aN @Z02W))))) (And.intro (And.intro (And.intro (And.intro @Z0bl
 @List.cons_append.{0}) (And.intro @Nat.le_refl (And.intro @Nat.sub_zero @Nat.mul_one))) (And.intro (And.intro @Nat.zero_mul @Nat.mul_zero) (And.intro
 @List.not_mem_nil.{0} (And.intro @beq_self_eq_true.{0} @bne_self_eq_false.{0})))) (And.intro (And.intro (And.intro @Int.lt_irrefl @Nat.lt_irrefl)
 (And.intro @Bool.false_eq_true (And.intro @Bool.false_and @Option.getD_none.{0}))) (And.intro (And.intro @Option.getD_some.{0} (And.intro
 @List.contains_cons.{0} @List.contains_nil.{0})) (And.intro @List.getD_cons_zero.{0} (And.intro @List.getD_cons_succ.{0} @List.getD_nil.{0})))))))
end Go.AM
end
noncomputable section
namespace Go.AM
def cls {α : Type} (f : α → List AV) (l : List α) : List AV := l.flatMap f
noncomputable section
variable {α : Type} {f : α → List AV} {sz : Nat}
theorem Z9f : cls f [] = [] := rfl
theorem Z3O (a : α) (l : List α) : cls f (a :: l) = f a ++ cls f l := by simp [cls]
theorem Z9 (h : ∀ a, (f a).length = sz) : ∀ l : List α, (cls f l).length = l.length * sz
 | [] => by simp [cls]
 | a :: l => by rw [Z3O, List.length_append, h, Z9 h l, List.length_cons, Nat.succ_mul]; omega
theorem Z0T (h : ∀ a, (f a).length = sz) : ∀ {l : List α} {k : Nat} {s : α}, l[k]? = some s → ((cls f l).drop (k * sz)).take sz = f s
 | [], k, s, e => by simp at e
 | a :: l, 0, s, e => by simp at e; subst e; rw [Z3O, Nat.zero_mul, List.drop_zero, List.take_append_of_le_length (by rw [h]; exact Nat.le_refl _), List.take_of_length_le (by rw [h]; exact Nat.le_refl _)]
 | a :: l, k + 1, s, e => by
   simp at e
   rw [Z3O, Nat.succ_mul, Nat.add_comm, ← List.drop_drop, List.drop_left' (h a)]
   exact Z0T h e
theorem Ziv (h : ∀ a, (f a).length = sz) {l : List α} {k j : Nat} {s : α} (e : l[k]? = some s) (hj : j < sz) : (cls f l)[k * sz + j]? = (f s)[j]? := by
 rw [← Z0T h e, List.getElem?_take, if_pos hj, List.getElem?_drop]
theorem Z6u (l : List α) (a : α) : cls f l ++ f a = cls f (l ++ [a]) := by simp [cls]
theorem Z6w (h : ∀ a, (f a).length = sz) (l : List α) : List.take (l.length * sz) (cls f l) = cls f l := List.take_of_length_le (by rw [Z9 h]; exact Nat.le_refl _)
theorem Z6V (h : ∀ a, (f a).length = sz) : ∀ (l : List α) (n : Nat), List.take (n * sz) (cls f l) = cls f (l.take n)
 | [], n => by simp [cls]
 | a :: l, 0 => by simp [cls]
 | a :: l, n + 1 => by
   rw [Z3O, List.take_succ_cons, Z3O, ← Z6V h l n, Nat.succ_mul, Nat.add_comm, List.take_add, List.take_left' (h a), List.drop_left' (h a)]
end
def ics (l : List Int) : List AV := l.map (AV.int .i64)
theorem Zj (l : List Int) : (ics l).length = l.length := by simp [ics]
theorem Z1V {l : List Int} {k : Nat} {z : Int} (h : l[k]? = some z) : (ics l)[k]? = some (.int .i64 z) := by simp [ics, h]
theorem Zab (l : List Int) (z : Int) : ics l ++ [.int .i64 z] = ics (l ++ [z]) := by simp [ics]
theorem ZnA (l : List Int) (n : Nat) : (ics l).take n = ics (l.take n) := by simp [ics]
theorem ZOd (l : List Int) (n : Nat) : (ics l).drop n = ics (l.drop n) := by simp [ics]
theorem ZKg (l : List Int) : (ics l).take l.length = ics l := List.take_of_length_le (by rw [Zj]; exact Nat.le_refl _)
def ins (l : List Nat) : List AV := l.map fun (i : Nat) => AV.int .i64 (i : Int)
theorem Zk (l : List Nat) : (ins l).length = l.length := by simp [ins]
theorem Z22 {l : List Nat} {k i : Nat} (h : l[k]? = some i) : (ins l)[k]? = some (.int .i64 (i : Int)) := by simp [ins, h]
theorem Zhi (l : List Nat) : (ins l).take l.length = ins l := List.take_of_length_le (by rw [Zk]; exact Nat.le_refl _)
theorem Z046 (l : List Nat) (k i : Nat) : (ins l).set k (.int .i64 (i : Int)) = ins (l.set k i) := by simp [ins]
theorem Z9c (l : List Nat) : ins l = ics (l.map fun (i : Nat) => (i : Int)) := by simp [ins, ics, Function.comp_def]
def ucs (l : List Nat) : List AV := l.map fun (i : Nat) => AV.int .u64 (i : Int)
theorem ZM (l : List Nat) : (ucs l).length = l.length := by simp [ucs]
theorem Z30 {l : List Nat} {k i : Nat} (h : l[k]? = some i) : (ucs l)[k]? = some (.int .u64 (i : Int)) := by simp [ucs, h]
theorem ZBC (l : List Nat) (k i : Nat) : (ucs l).set k (.int .u64 (i : Int)) = ucs (l.set k i) := by simp [ucs]
def oV (k sz n : Nat) : AV := match n with
 | 0 => .nilsl
 | n + 1 => .ref k 0 (n + 1) (n + 1) ((n + 1) * sz) sz false
def oH (k : Nat) (cells : List AV) : AHeap := match cells with
 | [] => []
 | c :: cs => [(k, ⟨.row, c :: cs⟩)]
theorem Z6n {C : Callee} {site : Nat → Nat} {seen : List Nat} {f : FuncId} {args : List AV} {id m c sz gl : Nat} {cells : List AV} {H' : AHeap} (h : C f args [] 0 = some (.ref id 0 m c gl sz false, H')) (hg : hget H' id = some ⟨.row, cells⟩) (hl : cells.length = gl) :
   aBack site true seen (thaw C f args [] 0) = Z0g (site 0) seen (fun k => .ref k 0 m c gl sz false) ⟨.row, cells⟩ := by
 subst hl
 simp only [thaw, h, frzRet, aBack, sitesB, aBackAt, imp, hg, List.length_nil, List.not_mem_nil, not_false_eq_true, and_true, if_true, List.map_cons, List.map_nil, AM.apart, List.elem_nil, Bool.not_false, Bool.and_true, AV.leads, Z0g]
theorem ZLu {k j : Nat} (h : k ≠ j) (c : List AV) : hget (oH k c) j = none := by
 cases c with
 | nil => rfl
 | cons a c => simp only [oH, Z2o, if_neg h, Zhs]
theorem Z6z (k : Nat) {c : List AV} (h : 0 < c.length) : oH k c = [(k, ⟨.row, c⟩)] := by
 cases c with
 | nil => simp at h
 | cons a c => rfl
theorem loopN {f : St → XR} (st : Nat → St) (n : Nat) (h : ∀ i, i < n → ∃ s', f (st i) = some (.normal, s') ∧ headA [] s' = st (i + 1)) (h0 : headA [] (st 0) = st 0) (hn : n < 1000) {e : Ex} {se : St} (he : f (st n) = some (e, se)) (hne : e ≠ .normal) :
   iterA f (headA []) 1000 (st 0) = some (e, se) :=
 Z19 st n 1000 0 (st 0) h0 hn (fun i _ hi => h i (by omega)) (by rw [Nat.zero_add]; exact he) hne
theorem Zew {f : St → XR} {s0 : St} (h0 : headA [] s0 = s0) {e : Ex} {se : St} (he : f s0 = some (e, se)) (hne : e ≠ .normal) : iterA f (headA []) 1000 s0 = some (e, se) :=
 loopN (fun _ => s0) 0 (fun i hi => by omega) h0 (by omega) he hne
theorem wrpU {n : Nat} (h : n < 18446744073709551616) : wrp .u64 (n : Int) = n := ZvK (by simp only [kLo]; omega) (by simp only [kHi]; omega)
theorem Z5Q {n : Nat} : bt .u64 (n : Int) = BitVec.ofNat 64 n := by
 simp only [bt, IntKind.bits, BitVec.ofInt_natCast]
theorem Zvv (x : BitVec 64) : bk .u64 x = .int .u64 (x.toNat : Int) := by
 show AV.int .u64 (wrp .u64 (x.toNat : Int)) = _
 rw [wrpU x.isLt]
theorem ZHH {a b : Nat} (ha : a < 18446744073709551616) (hb : b < 18446744073709551616) : bk .u64 (bt .u64 (a : Int) &&& bt .u64 (b : Int)) = .int .u64 ((a &&& b : Nat) : Int) := by
 rw [Z5Q, Z5Q]
 refine (Zvv _).trans (congrArg (fun x : Nat => AV.int .u64 (x : Int)) ?_)
 exact (show (BitVec.ofNat 64 a &&& BitVec.ofNat 64 b).toNat = a &&& b by rw [BitVec.toNat_and, BitVec.toNat_ofNat, BitVec.toNat_ofNat, Nat.mod_eq_of_lt ha, Nat.mod_eq_of_lt hb])
theorem ZH7 {a b : Nat} (ha : a < 18446744073709551616) (hb : b < 18446744073709551616) : bk .u64 (bt .u64 (a : Int) ||| bt .u64 (b : Int)) = .int .u64 ((a ||| b : Nat) : Int) := by
 rw [Z5Q, Z5Q]
 refine (Zvv _).trans (congrArg (fun x : Nat => AV.int .u64 (x : Int)) ?_)
 exact (show (BitVec.ofNat 64 a ||| BitVec.ofNat 64 b).toNat = a ||| b by rw [BitVec.toNat_or, BitVec.toNat_ofNat, BitVec.toNat_ofNat, Nat.mod_eq_of_lt ha, Nat.mod_eq_of_lt hb])
theorem Z2E {a : Nat} (ha : a < 18446744073709551616) : bk .u64 (bt .u64 (a : Int) &&& bt .u64 1) = .int .u64 ((a &&& 1 : Nat) : Int) := ZHH (b := 1) ha (by omega)
theorem ZSq : ∀ s, s < 64 → ∀ t, t < 64 → (BitVec.ofNat 64 s &&& ~~~(BitVec.ofNat 64 t)).toNat = s &&& (63 - t) := by decide +kernel
theorem ZhF {s t : Nat} (hs : s < 64) (ht : t < 64) : bk .u64 (bt .u64 (s : Int) &&& ~~~(bt .u64 (t : Int))) = .int .u64 ((s &&& (63 - t) : Nat) : Int) := by
 rw [Z5Q, Z5Q]
 exact (Zvv _).trans (congrArg (fun x : Nat => AV.int .u64 (x : Int)) (ZSq s hs t ht))
theorem Zbt {i : Nat} (h : i < 7) : aShift .shl .u64 1 (i : Int) = some (.int .u64 ((1 <<< i : Nat) : Int)) := by
 have : i = 0 ∨ i = 1 ∨ i = 2 ∨ i = 3 ∨ i = 4 ∨ i = 5 ∨ i = 6 := by omega
 rcases this with rfl | rfl | rfl | rfl | rfl | rfl | rfl <;> rfl
theorem Z6j {b i : Nat} (hi : i < 64) : aShift .shr .u64 (b : Int) (i : Int) = some (.int .u64 ((b >>> i : Nat) : Int)) := by
 have h1 : ¬ (i : Int) < 0 := by omega
 simp only [aShift, if_neg h1, pw2, IntKind.bits, Int.toNat_natCast]
 rw [Nat.min_eq_left (by omega), Nat.shiftRight_eq_div_pow]
 congr 2
 exact (Int.fdiv_eq_ediv_of_nonneg _ (Int.natCast_nonneg _)).trans (Int.natCast_ediv _ _).symm
theorem Z3Q {b i : Nat} (h : b < 18446744073709551616) : b >>> i < 18446744073709551616 := by
 rw [Nat.shiftRight_eq_div_pow]; exact Nat.lt_of_le_of_lt (Nat.div_le_self ..) h
theorem ZgG (b i : Nat) : ((((b >>> i) &&& 1 : Nat) : Int) == 1) = b.testBit i := by
 rw [Nat.testBit, Nat.and_comm 1]
 have h : b >>> i &&& 1 < 2 := Nat.lt_of_le_of_lt Nat.and_le_right (by omega)
 generalize b >>> i &&& 1 = x at *
 match x, h with
 | 0, _ => rfl
 | 1, _ => rfl
theorem Z5a (b i : Nat) : ((((b >>> i) &&& 1 : Nat) : Int) = 1) = (b.testBit i = true) := by
 rw [← ZgG, beq_iff_eq]
theorem ZE1 (b i : Nat) : ((((b >>> i) &&& 1 : Nat) : Int) = 0) = (b.testBit i = false) := by
 have := ZgG b i
 have h : b >>> i &&& 1 < 2 := Nat.lt_of_le_of_lt Nat.and_le_right (by omega)
 rw [← this]
 generalize b >>> i &&& 1 = x at *
 match x, h with
 | 0, _ => simp
 | 1, _ => simp
theorem ZWP (x : Nat) : ((x : Int) != 0) = (x != 0) := by
 cases x <;> rfl
end Go.AM
end
noncomputable section
namespace Go.AM.Mule
structure Ord (T : Nat → Nat → Bool) : Prop where
 irr : ∀ i, T i i = false
 tr : ∀ i j k, T i j = true → T j k = true → T i k = true
def days (d : Nat → Int) : List Nat → Int
 | [] => 0
 | i :: l => d i + days d l
theorem Za1 (d : Nat → Int) : ∀ a b : List Nat, days d (a ++ b) = days d a + days d b
 | [], b => by simp [days]
 | i :: a, b => by simp only [List.cons_append, days, Za1 d a b]; omega
def lastsL (T : Nat → Nat → Bool) (S : List Nat) : List Nat := S.filter fun i => S.all fun k => !T i k
theorem Z7g {T : Nat → Nat → Bool} {S : List Nat} {i : Nat} : i ∈ lastsL T S ↔ i ∈ S ∧ ∀ k ∈ S, T i k = false := by
 simp [lastsL, List.mem_filter, List.all_eq_true]
theorem ZTw {T : Nat → Nat → Bool} (hT : Ord T) {S : List Nat} : ∀ (m : Nat) (x : Nat), x ∈ S → (S.filter (T x)).length ≤ m → ∃ i, i ∈ lastsL T S := by
 intro m
 induction m with
 | zero =>
   intro x hx hm
   refine ⟨x, Z7g.2 ⟨hx, fun k hk => ?_⟩⟩
   cases e : T x k with
   | false => rfl
   | true =>
     have : k ∈ S.filter (T x) := List.mem_filter.2 ⟨hk, e⟩
     have := List.length_pos_of_mem this
     omega
 | succ m ih =>
   intro x hx hm
   by_cases h : ∃ k, k ∈ S ∧ T x k = true
   · obtain ⟨k, hk, e⟩ := h
     refine ih k hk ?_
     have hsub : ∀ l : List Nat, (l.filter (T k)).length ≤ (l.filter (T x)).length ∧ (k ∈ l → (l.filter (T k)).length < (l.filter (T x)).length) := by
       intro l
       induction l with
       | nil => simp
       | cons y l ihl =>
         obtain ⟨i1, i2⟩ := ihl
         simp only [List.filter_cons]
         constructor
         · cases ek : T k y with
           | true => rw [if_pos rfl, if_pos (hT.tr x k y e ek)]; simp only [List.length_cons]; omega
           | false => simp only [Bool.false_eq_true, if_false]; split <;> (try simp only [List.length_cons]) <;> omega
         · intro hm
           by_cases ey : y = k
           · subst ey
             rw [if_neg (by simp [hT.irr]), if_pos e]; simp only [List.length_cons]; omega
           · have hm : k ∈ l := by
               rcases List.mem_cons.1 hm with h | h
               · exact absurd h.symm ey
               · exact h
             have := i2 hm
             cases ek : T k y with
             | true => rw [if_pos rfl, if_pos (hT.tr x k y e ek)]; simp only [List.length_cons]; omega
             | false => simp only [Bool.false_eq_true, if_false]; split <;> (try simp only [List.length_cons]) <;> omega
     have := (hsub S).2 hk
     omega
   · refine ⟨x, Z7g.2 ⟨hx, fun k hk => ?_⟩⟩
     cases e : T x k with
     | false => rfl
     | true => exact absurd ⟨k, hk, e⟩ h
theorem Zpr {T : Nat → Nat → Bool} (hT : Ord T) {S : List Nat} (h : S ≠ []) : ∃ i, i ∈ lastsL T S := by
 obtain ⟨x, hx⟩ : ∃ x, x ∈ S := List.exists_mem_of_ne_nil S h
 exact ZTw hT _ x hx (Nat.le_refl _)
def Good (T : Nat → Nat → Bool) (o : List Nat) : Prop := o.Pairwise fun a b => T b a = false
def pick (f : Nat → Int) : List Nat → Nat
 | [] => 0
 | [i] => i
 | i :: j :: l => let k := pick f (j :: l); if f i < f k then i else k
end Go.AM.Mule
end
noncomputable section
namespace Go.AM.Mule
def Cok (d : Nat → Int) (c : Nat → Int → Int) (lim : Int) : Int → List Nat → Prop
 | _, [] => True
 | now, i :: o => c i (now + d i) ≤ lim ∧ Cok d c lim (now + d i) o
def bk (T : Nat → Nat → Bool) (d : Nat → Int) (c : Nat → Int → Int) (lim : Int) : Nat → List Nat → List (List Nat)
 | 0, _ => [[]]
 | m + 1, S => match S with
   | [] => [[]]
   | x :: r => ((lastsL T (x :: r)).filter fun i => decide (c i (days d (x :: r)) ≤ lim)).flatMap fun i => (bk T d c lim m ((x :: r).erase i)).map (· ++ [i])
end Go.AM.Mule
end
noncomputable section
namespace Go.AM.Mule
abbrev Edge (es : List (Nat × Nat)) (i k : Nat) : Prop := (i, k) ∈ es
abbrev Reach (es : List (Nat × Nat)) : Nat → Nat → Prop := Relation.TransGen (Edge es)
def bit (B : List Nat) (i k : Nat) : Bool := (B.getD i 0).testBit k
def addE (B : List Nat) (p : Nat × Nat) : List Nat := B.set p.1 (B.getD p.1 0 ||| 1 <<< p.2)
theorem Z2J (B : List Nat) (p) : (addE B p).length = B.length := by simp [addE]
theorem Zvs (B : List Nat) (i j x : Nat) (h : i < B.length) : (B.set i x).getD j 0 = if i = j then x else B.getD j 0 := by
 simp only [List.getD_eq_getElem?_getD, List.getElem?_set]
 split
 · rename_i e; subst e; simp []
 · rfl
theorem ZSV {B : List Nat} {p : Nat × Nat} (h : p.1 < B.length) (i k : Nat) : bit (addE B p) i k = true ↔ bit B i k = true ∨ (i, k) = p := by
 obtain ⟨a, b⟩ := p
 simp only [bit, addE] at *
 rw [Zvs _ _ _ _ h]
 split
 · rename_i e; subst e
   simp only [Nat.testBit_or, Bool.or_eq_true, Nat.one_shiftLeft, Nat.testBit_two_pow, decide_eq_true_eq, Prod.mk.injEq, true_and]
   exact or_congr Iff.rfl ⟨Eq.symm, Eq.symm⟩
 · rename_i e
   constructor
   · intro h; exact .inl h
   · rintro (h | h)
     · exact h
     · simp at h; exact absurd h.1.symm e
theorem Zve : ∀ {es : List (Nat × Nat)} {B : List Nat}, (∀ p ∈ es, p.1 < B.length) → (es.foldl addE B).length = B.length ∧ ∀ i k, bit (es.foldl addE B) i k = true ↔ bit B i k = true ∨ (i, k) ∈ es
 | [], B, _ => by simp
 | p :: es, B, h => by
   have hp := h p (by simp)
   obtain ⟨a, b⟩ := Zve (es := es) (B := addE B p) (fun q hq => by rw [Z2J]; exact h q (by simp [hq]))
   refine ⟨by simp [a, Z2J], fun i k => ?_⟩
   simp only [List.foldl_cons, b i k, ZSV hp, List.mem_cons, or_assoc]
def fwI (k : Nat) (B : List Nat) (i : Nat) : List Nat := if bit B i k = true then B.set i (B.getD i 0 ||| B.getD k 0) else B
def fwK (n : Nat) (B : List Nat) (k : Nat) : List Nat := (List.range n).foldl (fwI k) B
def fw (n : Nat) (B : List Nat) : List Nat := (List.range n).foldl (fwK n) B
theorem Zf3 (k : Nat) (B : List Nat) (i : Nat) : (fwI k B i).length = B.length := by unfold fwI; split <;> simp
theorem Z07g {k : Nat} {B : List Nat} {i : Nat} (h : i < B.length) (a b : Nat) : bit (fwI k B i) a b = true ↔ bit B a b = true ∨ (a = i ∧ bit B i k = true ∧ bit B k b = true) := by
 unfold fwI
 split
 · rename_i hb
   simp only [bit] at *
   rw [Zvs _ _ _ _ h]
   split
   · rename_i e; subst e
     simp only [Nat.testBit_or, Bool.or_eq_true, hb, true_and]
   · rename_i e
     constructor
     · intro h; exact .inl h
     · rintro (h | ⟨h, _⟩)
       · exact h
       · exact absurd h.symm e
 · rename_i hb
   constructor
   · intro h; exact .inl h
   · rintro (h | ⟨_, h, _⟩)
     · exact h
     · exact absurd h hb
theorem ZrZ {k : Nat} {B : List Nat} : ∀ (m : Nat), m ≤ B.length → ((List.range m).foldl (fwI k) B).length = B.length ∧ ∀ a b, bit ((List.range m).foldl (fwI k) B) a b = true ↔ bit B a b = true ∨ (a < m ∧ bit B a k = true ∧ bit B k b = true)
 | 0, _ => by simp
 | m + 1, hm => by
   obtain ⟨h1, h2⟩ := ZrZ (k := k) (B := B) m (by omega)
   rw [List.range_succ, List.foldl_append]
   simp only [List.foldl_cons, List.foldl_nil]
   refine ⟨by rw [Zf3, h1], fun a b => ?_⟩
   rw [Z07g (by omega), h2 a b, h2 m k, h2 k b]
   constructor
   · rintro (h | ⟨rfl, h3, h4⟩)
     · rcases h with h | ⟨x, y, z⟩
       · exact .inl h
       · exact .inr ⟨by omega, y, z⟩
     · have h3' : bit B a k = true := h3.elim id fun h => h.2.1
       have h4' : bit B k b = true := h4.elim id fun h => h.2.2
       exact .inr ⟨by omega, h3', h4'⟩
   · rintro (h | ⟨x, y, z⟩)
     · exact .inl (.inl h)
     · by_cases e : a = m
       · exact .inr ⟨e, .inl (e ▸ y), .inl z⟩
       · exact .inl (.inr ⟨by omega, y, z⟩)
theorem ZWy {n : Nat} {B : List Nat} (hB : B.length = n) (k : Nat) : (fwK n B k).length = n ∧ ∀ a b, bit (fwK n B k) a b = true ↔ bit B a b = true ∨ (bit B a k = true ∧ bit B k b = true) := by
 obtain ⟨h1, h2⟩ := ZrZ (k := k) (B := B) n (by omega)
 refine ⟨by rw [← hB] at h1 ⊢; exact h1, fun a b => ?_⟩
 unfold fwK
 rw [h2 a b]
 constructor
 · rintro (h | h)
   · exact .inl h
   · exact .inr h.2
 · rintro (h | h)
   · exact .inl h
   · refine .inr ⟨?_, h⟩
     have := h.1
     simp only [bit] at this
     by_cases hl : a < B.length
     · omega
     · rw [List.getD_eq_getElem?_getD, List.getElem?_eq_none (by omega)] at this
       simp at this
theorem ZgI {n : Nat} {B : List Nat} (hB : B.length = n) : ∀ m, ((List.range m).foldl (fwK n) B).length = n ∧ (∀ a b, bit B a b = true → bit ((List.range m).foldl (fwK n) B) a b = true) ∧
   (∀ a b, bit ((List.range m).foldl (fwK n) B) a b = true → Relation.TransGen (fun i k => bit B i k = true) a b) ∧
   (∀ k a b, k < m → bit ((List.range m).foldl (fwK n) B) a k = true → bit ((List.range m).foldl (fwK n) B) k b = true → bit ((List.range m).foldl (fwK n) B) a b = true)
 | 0 => by
   refine ⟨by simpa using hB, fun a b h => h, fun a b h => .single h, fun k a b h => by omega⟩
 | m + 1 => by
   obtain ⟨h1, h2, h3, h4⟩ := ZgI hB m
   rw [List.range_succ, List.foldl_append]
   simp only [List.foldl_cons, List.foldl_nil]
   generalize (List.range m).foldl (fwK n) B = D at *
   obtain ⟨g1, g2⟩ := ZWy h1 m
   refine ⟨g1, fun a b h => (g2 a b).2 (.inl (h2 a b h)), fun a b h => ?_, fun k a b hk ha hb => ?_⟩
   · rcases (g2 a b).1 h with h | ⟨x, y⟩
     · exact h3 a b h
     · exact (h3 _ _ x).trans (h3 _ _ y)
   · have ha' := (g2 a k).1 ha
     have hb' := (g2 k b).1 hb
     refine (g2 a b).2 ?_
     by_cases e : k = m
     · subst e
       have x : bit D a k = true := ha'.elim id fun h => h.1
       have y : bit D k b = true := hb'.elim id fun h => h.2
       exact .inr ⟨x, y⟩
     · have hk' : k < m := by omega
       rcases ha' with x | ⟨x, x'⟩
       · rcases hb' with y | ⟨y, y'⟩
         · exact .inl (h4 k a b hk' x y)
         · exact .inr ⟨h4 k a m hk' x y, y'⟩
       · rcases hb' with y | ⟨y, y'⟩
         · exact .inr ⟨x, h4 k m b hk' x' y⟩
         · exact .inr ⟨x, y'⟩
theorem Z08n {n : Nat} {B : List Nat} (hB : B.length = n) (hb : ∀ i k, bit B i k = true → k < n) (a b : Nat) : bit (fw n B) a b = true ↔ Relation.TransGen (fun i k => bit B i k = true) a b := by
 obtain ⟨h1, h2, h3, h4⟩ := ZgI hB n
 refine ⟨h3 a b, fun h => ?_⟩
 induction h with
 | single h => exact h2 _ _ h
 | tail h1' h ih =>
   rename_i b c
   refine h4 b _ _ ?_ ih (h2 _ _ h)
   cases h1' with
   | single h => exact hb _ _ h
   | tail _ h => exact hb _ _ h
theorem ZJh {n : Nat} {B : List Nat} (hB : B.length = n) : (fw n B).length = n := (ZgI hB n).1
def closed (n : Nat) (es : List (Nat × Nat)) : List Nat := fw n (es.foldl addE (List.replicate n 0))
theorem Z0ax (n i k : Nat) : bit (List.replicate n 0) i k = false := by
 simp only [bit, List.getD_eq_getElem?_getD, List.getElem?_replicate]
 split <;> simp
theorem Z9Y {n : Nat} {es : List (Nat × Nat)} (h : ∀ p ∈ es, p.1 < n ∧ p.2 < n) : (closed n es).length = n ∧ ∀ a b, bit (closed n es) a b = true ↔ Reach es a b := by
 obtain ⟨h1, h2⟩ := Zve (es := es) (B := List.replicate n 0) (fun p hp => by simpa using (h p hp).1)
 have e : ∀ i k, bit (es.foldl addE (List.replicate n 0)) i k = true ↔ Edge es i k := fun i k => by rw [h2, Z0ax]; simp
 have hl : (es.foldl addE (List.replicate n 0)).length = n := by rw [h1]; simp
 refine ⟨ZJh hl, fun a b => ?_⟩
 unfold closed
 rw [Z08n hl (fun i k hik => (h (i, k) ((e i k).1 hik)).2)]
 have : (fun i k => bit (es.foldl addE (List.replicate n 0)) i k = true) = Edge es := by funext i k; exact propext (e i k)
 rw [this]
theorem ZYv {n : Nat} {es : List (Nat × Nat)} (h : ∀ p ∈ es, p.1 < n ∧ p.2 < n) {a b : Nat} (hr : Reach es a b) : a < n ∧ b < n := by
 induction hr with
 | single e => exact h _ e
 | tail _ e ih => exact ⟨ih.1, (h _ e).2⟩
end Go.AM.Mule
end
noncomputable section
namespace Go.AM.Mule
def lst (s : Nat) : List Nat := (List.range 6).filter s.testBit
theorem Z2D {s i : Nat} (h : s < 64) : i ∈ lst s ↔ s.testBit i = true := by
 simp only [lst, List.mem_filter, List.mem_range]
 constructor
 · exact fun h => h.2
 · intro hb
   refine ⟨?_, hb⟩
   rcases Nat.lt_or_ge i 6 with h6 | h6
   · exact h6
   · rw [Nat.testBit_lt_two_pow (Nat.lt_of_lt_of_le h (show 2 ^ 6 ≤ 2 ^ i from Nat.pow_le_pow_right (by omega) h6))] at hb
     exact absurd hb (by simp)
theorem Zdr (s : Nat) : (lst s).Pairwise (· < ·) := List.pairwise_lt_range.filter _
theorem Zig : ∀ s, s < 64 → ∀ i, i < 6 → lst (s &&& (63 - 1 <<< i)) = (lst s).erase i := by decide +kernel
theorem ZZB : ∀ n, n ≤ 6 → lst (2 ^ n - 1) = List.range n := by decide +kernel
theorem Z9F : ∀ s, s < 64 → (lst s = [] ↔ s = 0) := by decide +kernel
def msk (l : List Nat) : Nat := l.foldl (fun s i => s ||| 1 <<< i) 0
theorem Z7h : ∀ (l : List Nat) (s k : Nat), (l.foldl (fun s i => s ||| 1 <<< i) s).testBit k = (s.testBit k || l.contains k)
 | [], s, k => by simp
 | i :: l, s, k => by
   rw [List.foldl_cons, Z7h l, List.contains_cons]
   simp only [Nat.testBit_or, Nat.one_shiftLeft, Nat.testBit_two_pow, Bool.or_assoc]
   congr 2
   by_cases e : i = k
   · subst e; simp
   · have : (k == i) = false := by rw [beq_eq_false_iff_ne]; exact fun h => e h.symm
     simp [this, e]
theorem Z4T (l : List Nat) (k : Nat) : (msk l).testBit k = l.contains k := by rw [msk, Z7h]; simp
theorem Z0iC {l : List Nat} {n : Nat} (h : ∀ i ∈ l, i < n) : msk l < 2 ^ n := by
 apply Nat.lt_pow_two_of_testBit
 intro i hi
 rw [Z4T]
 cases hc : l.contains i with
 | false => rfl
 | true => have := h i (by simpa using hc); omega
theorem Z09u {s : Nat} (h : s < 64) : msk (lst s) = s := by
 apply Nat.eq_of_testBit_eq
 intro i
 rw [Z4T]
 have := Z2D (i := i) h
 cases hb : s.testBit i <;> cases hc : (lst s).contains i <;> simp_all
theorem ZXZ {a s : Nat} (hs : s < 64) : (a &&& s = 0) ↔ ∀ k ∈ lst s, a.testBit k = false := by
 constructor
 · intro h k hk
   have hb := (Z2D hs).1 hk
   have : (a &&& s).testBit k = false := by rw [h]; simp
   rw [Nat.testBit_and, hb] at this
   simpa using this
 · intro h
   apply Nat.eq_of_testBit_eq
   intro k
   rw [Nat.testBit_and]
   cases hb : s.testBit k with
   | false => simp
   | true => simp [h k ((Z2D hs).2 hb)]
theorem ZGA (B : List Nat) {s : Nat} (hs : s < 64) : lastsL (bit B) (lst s) = (lst s).filter fun i => B.getD i 0 &&& s == 0 := by
 simp only [lastsL]
 apply List.filter_congr
 intro i _
 rw [Bool.eq_iff_iff, List.all_eq_true, beq_iff_eq, ZXZ hs]
 simp only [bit, Bool.not_eq_true']
end Go.AM.Mule
end
noncomputable section
namespace Go.AM.Mule
def firstsL (T : Nat → Nat → Bool) (S : List Nat) : List Nat := S.filter fun i => S.all fun k => !T k i
def fr (T : Nat → Nat → Bool) : Nat → List Nat → List (List Nat)
 | 0, _ => [[]]
 | m + 1, S => match S with
   | [] => [[]]
   | x :: r => (firstsL T (x :: r)).flatMap fun i => (fr T m ((x :: r).erase i)).map (i :: ·)
def hd1 (T : Nat → Nat → Bool) : Nat → List Nat → List Nat
 | 0, _ => []
 | m + 1, S => match firstsL T S with
   | [] => []
   | i :: _ => i :: hd1 T m (S.erase i)
def leftL (n : Nat) (begun : List Nat) : List Nat := (List.range n).filter fun i => !begun.contains i
theorem Z6l {n : Nat} {begun : List Nat} {i : Nat} : i ∈ leftL n begun ↔ i < n ∧ i ∉ begun := by simp [leftL, List.mem_filter]
theorem ZG7 (n begun) : (leftL n begun).Nodup := List.nodup_range.filter _
theorem ZhA {n : Nat} {begun : List Nat} {i : Nat} : leftL n (begun ++ [i]) = (leftL n begun).erase i := by
 rw [(ZG7 n begun).erase_eq_filter]
 simp only [leftL, List.filter_filter]
 apply List.filter_congr
 intro k _
 simp only [List.contains_append, Bool.not_or, bne, List.contains_cons, List.contains_nil, Bool.or_false]
 cases begun.contains k <;> simp
noncomputable instance {d : Nat → Int} {c : Nat → Int → Int} {lim now : Int} {o : List Nat} : Decidable (Cok d c lim now o) := Classical.propDecidable _
end Go.AM.Mule
end
noncomputable section
namespace Go.AM.YtgfnbmfjbjopkaaDoor
open Go Go.AM Go.AM.Mule
structure Ld where
 lo : Int
 hi : Int
 due : Int
 rate : Int
 base : Int
deriving Inhabited
def lc (l : Ld) : List AV := [.int .i64 l.lo, .int .i64 l.hi, .int .i64 l.due, .int .i64 l.rate, .int .i64 l.base]
theorem Zq (l : Ld) : (lc l).length = 5 := rfl
abbrev trA (ls : List Ld) (B : List Nat) (n : Nat) (e1 e2 : Bool) : List AV := [.imm (cls lc ls) n e1, .imm (ucs B) n e2]
structure LdOk (l : Ld) : Prop where
 lo : 1 ≤ l.lo ∧ l.lo ≤ 9
 hi : 1 ≤ l.hi ∧ l.hi ≤ 9
 due : 0 ≤ l.due ∧ l.due ≤ 54
 rate : 0 ≤ l.rate ∧ l.rate ≤ 9
 base : 0 ≤ l.base ∧ l.base ≤ 20
structure TrOk (ls : List Ld) (B : List Nat) (n : Nat) : Prop where
 ne : 0 < n
 le : n ≤ 6
 l : ls.length = n
 b : B.length = n
 ld : ∀ x ∈ ls, LdOk x
 bb : ∀ x ∈ B, x < 2 ^ n
def listB (s : Nat) (r : Option (AV × AHeap)) : Bool :=
 match r with
 | some (.nilsl, _) => Nat.beq s 0
 | some (.ref 14 0 l c g 1 false, [(14, ⟨.row, cells⟩)]) => !Nat.beq s 0 && Nat.beq l (lst s).length && Nat.beq c (lst s).length && Nat.beq g (lst s).length && (match eqInts .i64 cells (ins (lst s)) with | some true => true | _ => false)
 | _ => false
theorem ZVn (d : Nat) : (List.range 64).all (fun s => listB s (callA E fg 1000 (d + 4) 97 [.int .u64 s] [] 0)) = true := by kernel_rfl
theorem Z6Z {k : IntKind} : ∀ {xs ys : List AV}, eqInts k xs ys = some true → xs = ys
 | [], [], _ => rfl
 | [], _ :: _, h => by simp [eqInts] at h
 | .int k1 a :: xs, .int k2 b :: ys, h => by
   simp only [eqInts] at h
   split at h
   · rename_i hk
     split at h
     · rename_i hab
       rw [Z6Z h, hk.1, hk.2, eq_of_beq hab]
     · split at h <;> simp at h
   · simp at h
 | .int _ _ :: _, [], h => by simp [eqInts] at h
theorem Zmz {d s : Nat} (h : s < 64) : (s = 0 ∧ ∃ H, callA E fg 1000 (d + 4) 97 [.int .u64 s] [] 0 = some (.nilsl, H)) ∨
   (s ≠ 0 ∧ callA E fg 1000 (d + 4) 97 [.int .u64 s] [] 0 = some (.ref 14 0 (lst s).length (lst s).length (lst s).length 1 false, [(14, ⟨.row, ins (lst s)⟩)])) := by
 have := List.all_eq_true.1 (ZVn d) s (List.mem_range.2 h)
 revert this
 generalize callA E fg 1000 (d + 4) 97 [.int .u64 s] [] 0 = r
 intro this
 unfold listB at this
 split at this
 · exact .inl ⟨Nat.eq_of_beq_eq_true this, _, rfl⟩
 · rename_i l c g cells
   simp only [Bool.and_eq_true, Bool.not_eq_true'] at this
   obtain ⟨⟨⟨⟨h1, h2⟩, h3⟩, h4⟩, h5⟩ := this
   refine .inr ⟨Nat.ne_of_beq_eq_false h1, ?_⟩
   rw [Nat.eq_of_beq_eq_true h2, Nat.eq_of_beq_eq_true h3, Nat.eq_of_beq_eq_true h4]
   have : eqInts .i64 cells (ins (lst s)) = some true := by
     split at h5 <;> simp_all
   rw [Z6Z this]
 · simp at this
theorem Zxf {d : Nat} {site : Nat → Nat} {seen : List Nat} : aBack site true seen (thaw (callA E fg 1000 (d + 4)) 97 [.int .u64 0] [] 0) = .pure (.nilsl, []) := by
 rcases Zmz (d := d) (s := 0) (by omega) with h | h
 · exact ZKt h.2
 · exact absurd rfl h.1
theorem Zaj {d s : Nat} {site : Nat → Nat} {seen : List Nat} (h : s < 64) (h0 : s ≠ 0) : aBack site true seen (thaw (callA E fg 1000 (d + 4)) 97 [.int .u64 s] [] 0) =
   Z0g (site 0) seen (fun k => .ref k 0 (lst s).length (lst s).length (lst s).length 1 false) ⟨.row, ins (lst s)⟩ := by
 rcases Zmz (d := d) h with h1 | h1
 · exact absurd h1.1 h0
 · have := ZIm (site := site) (seen := seen) (id := 14) (n := (lst s).length) (sz := 1) (cells := ins (lst s)) (by rw [Zk]; exact h1.2) rfl
   rw [Zk] at this
   exact this
theorem Z06j {C : Callee} {ls : List Ld} {B : List Nat} {n : Nat} {e1 e2 : Bool} (hn : n ≤ 6) : rsOf (bodyA E C fg 1000 95 [.agg (trA ls B n e1 e2)] [] 0) = some (.int .u64 ((2 ^ n - 1 : Nat) : Int)) := by
 have h1 := Zbt (i := n) (by omega)
 have h2 : wrp .u64 (((1 <<< n : Nat) : Int) - 1) = ((2 ^ n - 1 : Nat) : Int) := by
   have : n = 0 ∨ n = 1 ∨ n = 2 ∨ n = 3 ∨ n = 4 ∨ n = 5 ∨ n = 6 := by omega
   rcases this with rfl | rfl | rfl | rfl | rfl | rfl | rfl <;> rfl
 simp (disch := omega) only [ZF, Z7, stp, opBox, just, Rd.bind, Rd.run, Rd.opt, upds, acells, rdCells, fieldOf, Z3, aLoad, resA, resL, fresh, aLen, Z4, aBin, aInt, Nat.reduceAdd, Nat.reduceBEq, Nat.reduceEqDiff, Nat.reduceLeDiff, ↓reduceIte, reduceCtorEq, ZT, F_95, h1, h2]
theorem Znh {d : Nat} {site : Nat → Nat} {seen : List Nat} {ls : List Ld} {B : List Nat} {n : Nat} {e1 e2 : Bool} (hn : n ≤ 6) : aBack site true seen (thaw (callA E fg 1000 (d + 1)) 95 [.agg (trA ls B n e1 e2)] [] 0) = .pure (.int .u64 ((2 ^ n - 1 : Nat) : Int), []) :=
 ZE (ZV (Z06j (C := callA E fg 1000 d) hn))
def ldC (l : Ld) (day : Int) : Int := l.base + l.rate * max 0 (day - l.due)
theorem ZZH {l : Ld} (h : LdOk l) {day : Int} (h1 : 0 ≤ day ∧ day ≤ 1000) : 0 ≤ ldC l day ∧ ldC l day ≤ 9020 := by
 obtain ⟨_, _, hd, hr, hb⟩ := h
 have hm : 0 ≤ max 0 (day - l.due) ∧ max 0 (day - l.due) ≤ 1000 := by omega
 have h2 : 0 ≤ l.rate * max 0 (day - l.due) := Int.mul_nonneg hr.1 hm.1
 have h3 : l.rate * max 0 (day - l.due) ≤ 9 * 1000 := Int.mul_le_mul hr.2 hm.2 hm.1 (by omega)
 unfold ldC
 omega
theorem ZRx {C : Callee} {l : Ld} {day : Int} (h : LdOk l) (h1 : 0 ≤ day ∧ day ≤ 1000) : rsOf (bodyA E C fg 1000 99 [.agg (lc l), .int .i64 day] [] 0) = some (.int .i64 (ldC l day)) := by
 have hb := ZZH h h1
 obtain ⟨_, _, hd, hr, hbb⟩ := h
 have hm : 0 ≤ max 0 (day - l.due) ∧ max 0 (day - l.due) ≤ 1000 := by omega
 have h2 : 0 ≤ l.rate * max 0 (day - l.due) := Int.mul_nonneg hr.1 hm.1
 have h3 : l.rate * max 0 (day - l.due) ≤ 9 * 1000 := Int.mul_le_mul hr.2 hm.2 hm.1 (by omega)
 have w1 : wrp .i64 (day - l.due) = day - l.due := ZC (by omega)
 have e : (if day - l.due > 0 then day - l.due else 0) = max 0 (day - l.due) := by split <;> omega
 have w2 : wrp .i64 (l.rate * max 0 (day - l.due)) = l.rate * max 0 (day - l.due) := ZC (by omega)
 have w3 : wrp .i64 (l.base + l.rate * max 0 (day - l.due)) = ldC l day := by rw [ZC (by omega)]; rfl
 simp (disch := omega) only [ZF, Z7, stp, opBox, justO, just, Rd.bind, Rd.run, Rd.opt, upds, acells, tsz, rdCells, aLoad, resA, resL, fresh, Z2, aNum, Z4, aMax, aBin, aInt, Nat.reduceAdd, Nat.reduceBEq, Nat.reduceEqDiff, Nat.reduceLeDiff, ↓reduceIte, reduceCtorEq, Int.reduceLE, Int.reduceToNat, ZT, F_99, lc, w1, e, w2, w3, if_pos]
theorem ZJp {d : Nat} {site : Nat → Nat} {seen : List Nat} {l : Ld} {day : Int} (h : LdOk l) (h1 : 0 ≤ day ∧ day ≤ 1000) : aBack site true seen (thaw (callA E fg 1000 (d + 1)) 99 [.agg (lc l), .int .i64 day] [] 0) = .pure (.int .i64 (ldC l day), []) :=
 ZE (ZV (ZRx (C := callA E fg 1000 d) h h1))
end Go.AM.YtgfnbmfjbjopkaaDoor
end
noncomputable section
namespace Go.AM.YtgfnbmfjbjopkaaDoor
open Go Go.AM Go.AM.Mule
def hiF (ls : List Ld) (i : Nat) : Int := (ls.getD i default).hi
theorem ZGd {ls : List Ld} {B : List Nat} {n : Nat} (h : TrOk ls B n) {i : Nat} (hi : i < n) : ∃ l, ls[i]? = some l ∧ LdOk l ∧ hiF ls i = l.hi := by
 have hl : i < ls.length := by rw [h.l]; exact hi
 refine ⟨ls[i], List.getElem?_eq_getElem hl, h.ld _ (List.getElem_mem hl), ?_⟩
 simp [hiF, hl]
theorem ZhI (d : Nat → Int) (l : List Nat) (i : Nat) : days d (l ++ [i]) = days d l + d i := by rw [Za1]; simp [days]
theorem Z7r {ls : List Ld} {B : List Nat} {n : Nat} (h : TrOk ls B n) : ∀ {l : List Nat}, (∀ i ∈ l, i < n) → 0 ≤ days (hiF ls) l ∧ days (hiF ls) l ≤ 9 * l.length
 | [], _ => by simp [days]
 | i :: l, hl => by
   obtain ⟨x, _, h2, h3⟩ := ZGd h (hl i (by simp))
   have ih := Z7r h (l := l) fun k hk => hl k (by simp [hk])
   have := h2.hi
   simp only [days, h3, List.length_cons]
   omega
abbrev dyS (ls : List Ld) (B : List Nat) (n : Nat) (e1 e2 : Bool) (l : List Nat) (i : Nat) : St := ([(11, .int .i64 i), (10, .int .i64 l.length), (9, .ref 9 0 l.length l.length l.length 1 false), (5, .int .i64 (days (hiF ls) (l.take i))), (2, .ptr 2 0 2)],
 [(2, ⟨.box, trA ls B n e1 e2⟩), (9, ⟨.row, ins l⟩)])
theorem Z0nG {C : Callee} {ls : List Ld} {B : List Nat} {n : Nat} {e1 e2 : Bool} {l : List Nat} (h : TrOk ls B n) (hl : ∀ i ∈ l, i < n) (h6 : l.length ≤ 6) (i : Nat) (hi : i < l.length) :
   ∃ s', execA E C (fg 100) 0 25 [] 1000 Z40 (dyS ls B n e1 e2 l i) = some (.normal, s') ∧ headA [] s' = dyS ls B n e1 e2 l (i + 1) := by
 have hk : l[i]? = some l[i] := List.getElem?_eq_getElem hi
 have hkn := hl _ (List.getElem_mem hi)
 obtain ⟨x, hx, hx2, hx3⟩ := ZGd h hkn
 have e : days (hiF ls) (l.take (i + 1)) = days (hiF ls) (l.take i) + x.hi := by
   rw [List.take_add_one, hk, Option.toList_some, ZhI, hx3]
 have b := Z7r h (l := l.take i) fun k hk => hl k (List.mem_of_mem_take hk)
 rw [List.length_take] at b
 have hb := hx2.hi
 generalize l[i] = k at *
 have hf : (cls lc ls)[k * 5 + 1]? = some (.int .i64 x.hi) := Ziv Zq hx (by omega)
 have hlen : (cls lc ls).length = n * 5 := by rw [Z9 Zq, h.l]
 have g1 : (i : Int) < l.length := by omega
 have w : wrp .i64 (days (hiF ls) (l.take i) + x.hi) = days (hiF ls) (l.take i) + x.hi := ZC (by omega)
 have hin := Zk l
 have hat := Z22 hk
 simp only [dyS, e]
 simp (disch := omega) only [ZF, stp, just, Rd.bind, Rd.run, Rd.opt, upds, tsz, rdCells, fieldOf, Z3, aLoad, Z2, aNum, aBin, aInt, Nat.reduceAdd, Nat.reduceLT, Nat.reduceBEq, Nat.reduceEqDiff, Nat.reduceLeDiff, ↓reduceIte, Int.reduceLE, Int.reduceToNat, ZT, ZdW, g1, hat, hf, hlen, hin, w, if_pos, Zc (show i < 1000000 by omega)]
 exact ⟨_, rfl, rfl⟩
theorem lt64 {s n : Nat} (hn : n ≤ 6) (h : s < 2 ^ n) : s < 64 := Nat.lt_of_lt_of_le h (Nat.pow_le_pow_right (by omega) hn)
theorem Z1C {s n : Nat} (hn : n ≤ 6) (h : s < 2 ^ n) : ∀ i ∈ lst s, i < n := by
 intro i hi
 have hb := (Z2D (lt64 hn h)).1 hi
 rcases Nat.lt_or_ge i n with h1 | h1
 · exact h1
 · rw [Nat.testBit_lt_two_pow (Nat.lt_of_lt_of_le h (Nat.pow_le_pow_right (by omega) h1))] at hb
   exact absurd hb (by simp)
theorem Z1G (s : Nat) : (lst s).length ≤ 6 := by
 have := List.length_filter_le s.testBit (List.range 6)
 simpa [lst] using this
theorem ZEy {s : Nat} (h : s < 64) (h0 : s ≠ 0) : 0 < (lst s).length := by
 rcases Nat.eq_zero_or_pos (lst s).length with h1 | h1
 · exact absurd ((Z9F s h).1 (List.length_eq_zero_iff.1 h1)) h0
 · exact h1
def daysS (ls : List Ld) (s : Nat) : Int := days (hiF ls) (lst s)
theorem ZEW {ls : List Ld} {B : List Nat} {n s : Nat} (h : TrOk ls B n) (hs : s < 2 ^ n) : 0 ≤ daysS ls s ∧ daysS ls s ≤ 54 := by
 have := Z7r h (Z1C h.le hs)
 have := Z1G s
 unfold daysS
 omega
theorem ZXe {d : Nat} {ls : List Ld} {B : List Nat} {n s : Nat} {e1 e2 : Bool} (h : TrOk ls B n) (hs : s < 2 ^ n) : rsOf (bodyA E (callA E fg 1000 (d + 4)) fg 1000 100 [.agg (trA ls B n e1 e2), .int .u64 s] [] 0) = some (.int .i64 (daysS ls s)) := by
 have h64 := lt64 h.le hs
 by_cases h0 : s = 0
 · subst h0
   have hr := fun (site : Nat → Nat) seen => Zxf (d := d) (site := site) (seen := seen)
   have z : lst 0 = [] := rfl
   simp only [daysS, z, days]
   have z0 : ((0 : Nat) : Int) = 0 := rfl
   rw [z0]
   generalize callA E fg 1000 (d + 4) = C at *
   have hloop := Z19 (f := execA E C (fg 100) 0 25 [] 1000 Z40) (hd := headA []) (fun _ => ([(11, .int .i64 0), (10, .int .i64 0), (9, .nilsl), (5, .int .i64 0), (2, .ptr 2 0 2)], [(2, ⟨.box, trA ls B n e1 e2⟩)])) 0 1000 0
     ([(11, .int .i64 0), (10, .int .i64 0), (9, .nilsl), (5, .int .i64 0), (2, .ptr 2 0 2)], [(2, ⟨.box, trA ls B n e1 e2⟩)]) rfl (by omega) (fun i _ hi => by omega)
     (e := .exit 0) (se := ([(12, .bool false), (11, .int .i64 0), (10, .int .i64 0), (9, .nilsl), (5, .int .i64 0), (2, .ptr 2 0 2)], [(2, ⟨.box, trA ls B n e1 e2⟩)]))
     (by simp (disch := omega) only [ZF, stp, just, Rd.bind, Rd.run, Rd.opt, upds, aBin, aInt, Nat.reduceEqDiff, Nat.reduceLeDiff, ↓reduceIte, ZdW]) (by simp)
   simp (disch := omega) only [ZF, Z7, stp, opBox, just, Rd.bind, Rd.run, upds, acells, resA, resL, fresh, aLen, Z4, Nat.reduceAdd, Nat.reduceBEq, Nat.reduceEqDiff, Nat.reduceLeDiff, ↓reduceIte, reduceCtorEq, aCall, snaps, ZT, ZdW, hr, hloop]
 · have hr := fun (site : Nat → Nat) seen => Zaj (d := d) (site := site) (seen := seen) h64 h0
   have hl6 := Z1G s
   have hin := Zk (lst s)
   have hln := Z1C h.le hs
   have hS : daysS ls s = days (hiF ls) (lst s) := rfl
   have b := Z7r h hln
   rw [hS]
   generalize lst s = l at *
   generalize callA E fg 1000 (d + 4) = C at *
   have hloop := Z19 (f := execA E C (fg 100) 0 25 [] 1000 Z40) (hd := headA []) (dyS ls B n e1 e2 l) l.length 1000 0 (dyS ls B n e1 e2 l 0) rfl (by omega) (fun i _ hi => Z0nG h hln hl6 i (by omega))
     (e := .exit 0) (se := ([(12, .bool false), (11, .int .i64 l.length), (10, .int .i64 l.length), (9, .ref 9 0 l.length l.length l.length 1 false), (5, .int .i64 (days (hiF ls) l)), (2, .ptr 2 0 2)], [(2, ⟨.box, trA ls B n e1 e2⟩), (9, ⟨.row, ins l⟩)]))
     (by simp (disch := omega) only [ZF, stp, just, Rd.bind, Rd.run, Rd.opt, upds, aBin, aInt, Nat.reduceEqDiff, Nat.reduceLeDiff, ↓reduceIte, ZdW, dyS, List.take_length]) (by simp)
   simp only [dyS, List.take_zero, days, cl0] at hloop
   simp (disch := omega) only [ZF, Z7, stp, opBox, just, Rd.bind, Rd.run, upds, acells, resA, resL, fresh, aLen, Z4, Nat.reduceAdd, Nat.reduceBEq, Nat.reduceEqDiff, Nat.reduceLeDiff, ↓reduceIte, reduceCtorEq, aCall, snaps, ZT, ZdW, hr, hin, hloop]
theorem ZKk {d : Nat} {site : Nat → Nat} {seen : List Nat} {ls : List Ld} {B : List Nat} {n s : Nat} {e1 e2 : Bool} (h : TrOk ls B n) (hs : s < 2 ^ n) : aBack site true seen (thaw (callA E fg 1000 (d + 5)) 100 [.agg (trA ls B n e1 e2), .int .u64 s] [] 0) = .pure (.int .i64 (daysS ls s), []) :=
 ZE (ZV (ZXe (d := d) h hs))
end Go.AM.YtgfnbmfjbjopkaaDoor
end
noncomputable section
namespace Go.AM.YtgfnbmfjbjopkaaDoor
open Go Go.AM Go.AM.Mule
structure Prd (C : Callee) (f : AV) (l : List Nat) (p : Nat → Bool) : Prop where
 mt : ∀ args, mutV E f args = none
 call : ∀ (site : Nat → Nat) i, i ∈ l → opCallV E C site true f [.int .i64 (i : Int)] = .pure (.bool (p i), [])
 refs : refsOf f = []
abbrev ixS (l : List Nat) (ex : Bool) (f : AV) (i : Nat) : St := ([(8, .int .i64 i), (7, .int .i64 l.length), (1, f), (0, .imm (ins l) l.length ex)], [])
theorem Zgl (l : List Nat) (ex : Bool) (f : AV) (i : Nat) (φ : AFr) (H : AHeap) (hr : refsOf f = []) (h : φ = (ixS l ex f i).1) : headA [] (φ, H) = ixS l ex f i := by
 subst h
 rw [Z2s]
 simp only [refsF, refsOf, hr, List.append_nil]
theorem Z0eM {C : Callee} {f : AV} {l : List Nat} {p : Nat → Bool} {ex : Bool} (h : Prd C f l p) (hl : l.length < 900) :
   rsOf (bodyA E C fg 1000 54 [.imm (ins l) l.length ex, f] [] 0) = some (.int .i64 (if l.findIdx p < l.length then (l.findIdx p : Int) else -1)) := by
 obtain ⟨hm, hc, hr⟩ := h
 have hin := Zk l
 have hle := List.findIdx_le_length (xs := l) (p := p)
 have hlo : ∀ i, i < l.findIdx p → ∃ s', (execA E C (fg 54) 0 19 [] 1000 Z9L) (ixS l ex f i) = some (.normal, s') ∧ headA [] s' = ixS l ex f (i + 1) := by
   intro i hi
   have hil : i < l.length := by omega
   have hk : l[i]? = some l[i] := List.getElem?_eq_getElem hil
   have hp : p l[i] = false := by simpa using List.not_of_lt_findIdx hi
   have hcall := fun site => hc site l[i] (List.getElem_mem hil)
   generalize l[i] = k at *
   have g1 : (i : Int) < l.length := by omega
   have hat := Z22 hk
   rw [hp] at hcall
   simp (disch := omega) only [ixS]
   simp (disch := omega) only [ZF, stp, just, Rd.bind, Rd.run, Rd.opt, upds, tsz, rdCells, aLoad, Z2, aNum, aBin, aInt, Nat.reduceMul, Nat.reduceLT, Nat.reduceBEq, Nat.reduceEqDiff, Nat.reduceLeDiff, ↓reduceIte, reduceCtorEq, ZT, F_54, g1, hat, hin, Zc (show i < 1000000 by omega), Z0q (hm _), hcall]
   exact ⟨_, rfl, Zgl _ _ _ _ _ _ hr rfl⟩
 by_cases hlt : l.findIdx p < l.length
 · rw [if_pos hlt]
   have hk : l[l.findIdx p]? = some l[l.findIdx p] := List.getElem?_eq_getElem hlt
   have hp : p l[l.findIdx p] = true := List.findIdx_getElem
   have hcall := fun site => hc site l[l.findIdx p] (List.getElem_mem hlt)
   rw [hp] at hcall
   have g1 : (l.findIdx p : Int) < l.length := by omega
   have hat := Z22 hk
   generalize l[l.findIdx p] = k at *
   generalize l.findIdx p = m at *
   have hloop := loopN (ixS l ex f) m hlo (Zgl _ _ _ _ _ _ hr rfl) (by omega)
     (e := .ret) (se := ([(4, .int .i64 m)], []))
     (by simp (disch := omega) only [ZF, stp, just, Rd.bind, Rd.run, Rd.opt, upds, tsz, rdCells, aLoad, Z2, aNum, aBin, aInt, Nat.reduceMul, Nat.reduceLT, Nat.reduceBEq, Nat.reduceEqDiff, Nat.reduceLeDiff, ↓reduceIte, reduceCtorEq, ZT, F_54, ixS, g1, hat, hin, Z0q (hm _), hcall]) (by simp)
   simp only [ixS, cl0] at hloop
   simp (disch := omega) only [ZF, Z7, stp, just, Rd.bind, Rd.run, upds, resA, resL, aLen, Z4, Nat.reduceBEq, Nat.reduceEqDiff, Nat.reduceLeDiff, ↓reduceIte, reduceCtorEq, ZT, F_54, hloop]
 · rw [if_neg hlt]
   have e : l.findIdx p = l.length := by omega
   have hloop := loopN (ixS l ex f) l.length (fun i hi => hlo i (by omega)) (Zgl _ _ _ _ _ _ hr rfl) (by omega)
     (e := .exit 0) (se := ([(9, .bool false), (8, .int .i64 l.length), (7, .int .i64 l.length), (1, f), (0, .imm (ins l) l.length ex)], []))
     (by simp (disch := omega) only [ZF, stp, just, Rd.bind, Rd.run, Rd.opt, upds, aBin, aInt, Nat.reduceEqDiff, Nat.reduceLeDiff, ↓reduceIte, F_54, ixS]) (by simp)
   simp only [ixS, cl0] at hloop
   simp (disch := omega) only [ZF, Z7, stp, just, Rd.bind, Rd.run, upds, resA, resL, aLen, Z4, Nat.reduceBEq, Nat.reduceEqDiff, Nat.reduceLeDiff, Int.reduceNeg, ↓reduceIte, reduceCtorEq, ZT, F_54, hloop]
theorem Z0jo {C : Callee} {f : AV} (hr : refsOf f = []) :
   rsOf (bodyA E C fg 1000 54 [.nilsl, f] [] 0) = some (.int .i64 (-1)) := by
 have hloop := Zew (f := (execA E C (fg 54) 0 19 [] 1000 Z9L)) (s0 := ([(8, .int .i64 0), (7, .int .i64 0), (1, f), (0, .nilsl)], [])) (by rw [Z2s]; simp only [refsF, refsOf, hr, List.append_nil])
     (e := .exit 0) (se := ([(9, .bool false), (8, .int .i64 0), (7, .int .i64 0), (1, f), (0, .nilsl)], []))
     (by simp (disch := omega) only [ZF, stp, just, Rd.bind, Rd.run, Rd.opt, upds, aBin, aInt, Nat.reduceEqDiff, Nat.reduceLeDiff, ↓reduceIte, F_54]) (by simp)
 simp (disch := omega) only [ZF, Z7, stp, just, Rd.bind, Rd.run, upds, resA, resL, aLen, Z4, Nat.reduceBEq, Nat.reduceEqDiff, Nat.reduceLeDiff, Int.reduceNeg, ↓reduceIte, reduceCtorEq, ZT, F_54, hloop]
def LV (l : List Nat) (a : AV) : Prop := (l = [] ∧ a = .nilsl) ∨ ∃ ex, a = .imm (ins l) l.length ex
theorem ZYx {d : Nat} {f a : AV} {l : List Nat} {p : Nat → Bool} {site : Nat → Nat} {seen : List Nat} (h : Prd (callA E fg 1000 d) f l p) (ha : LV l a) (hl : l.length < 900) :
   aBack site true seen (thaw (callA E fg 1000 (d + 1)) 54 [a, f] [] 0) = .pure (.int .i64 (if l.findIdx p < l.length then (l.findIdx p : Int) else -1), []) := by
 rcases ha with ⟨rfl, rfl⟩ | ⟨ex, rfl⟩
 · exact ZE (ZV (Z0jo (C := callA E fg 1000 d) h.refs))
 · exact ZE (ZV (Z0eM h hl))
end Go.AM.YtgfnbmfjbjopkaaDoor
end
noncomputable section
namespace Go.AM.YtgfnbmfjbjopkaaDoor
open Go Go.AM Go.AM.Mule
theorem Z2d {B : List Nat} {i n : Nat} (hB : B.length = n) (hi : i < n) : B[i]? = some (B.getD i 0) := by
 have h : i < B.length := by omega
 rw [List.getElem?_eq_getElem h]; simp [h]
theorem b_lt {ls : List Ld} {B : List Nat} {n : Nat} (h : TrOk ls B n) {i : Nat} : B.getD i 0 < 64 := by
 by_cases hi : i < B.length
 · have := h.bb _ (List.getElem_mem hi)
   have : B[i] < 64 := lt64 h.le this
   simpa [hi] using this
 · simp [hi]
theorem Z0fP {C : Callee} {ls : List Ld} {B : List Nat} {n : Nat} {e1 e2 : Bool} {i s : Nat} (h : TrOk ls B n) (hi : i < n) (hs : s < 64) :
   rsOf (bodyA E C fg 1000 141 [.int .i64 (i : Int), .iptr (trA ls B n e1 e2) 0, .iptr [.int .u64 (s : Int)] 0] [] 0) = some (.bool (B.getD i 0 &&& s != 0)) := by
 have hat := Z30 (Z2d h.b hi)
 have hl := ZM B
 rw [h.b] at hl
 have hb := b_lt h (i := i)
 have ha := ZHH (a := B.getD i 0) (b := s) (by omega) (by omega)
 have hn := ZWP (B.getD i 0 &&& s)
 generalize B.getD i 0 = b at *
 simp (disch := omega) only [ZF, Z7, just, Rd.bind, Rd.run, Rd.opt, upds, tsz, rdCells, fieldOf, Z3, aLoad, resA, resL, Z2, aNum, aBin, aInt, Nat.reduceAdd, Nat.reduceLT, Nat.reduceBEq, Nat.reduceEqDiff, Nat.reduceLeDiff, ↓reduceIte, reduceCtorEq, stpT, Rd.foot, writing, Ze, Tr.empty, Zg, ZT, Z0mh, hat, hl, ha, hn, if_pos]
theorem ZBd {d : Nat} {site : Nat → Nat} {seen : List Nat} {ls : List Ld} {B : List Nat} {n : Nat} {e1 e2 : Bool} {i s : Nat} (h : TrOk ls B n) (hi : i < n) (hs : s < 64) :
   aBack site true seen (thaw (callA E fg 1000 (d + 1)) 141 [.int .i64 (i : Int), .iptr (trA ls B n e1 e2) 0, .iptr [.int .u64 (s : Int)] 0] [] 0) = .pure (.bool (B.getD i 0 &&& s != 0), []) :=
 Z1B (ZV (Z0fP (C := callA E fg 1000 d) h hi hs))
theorem Z0bH {d : Nat} {ls : List Ld} {B : List Nat} {n : Nat} {e1 e2 : Bool} {s : Nat} {l : List Nat} (h : TrOk ls B n) (hl : ∀ i ∈ l, i < n) (hs : s < 64) :
   Prd (callA E fg 1000 (d + 1)) (.clo 141 [.iptr (trA ls B n e1 e2) 0, .iptr [.int .u64 (s : Int)] 0]) l (fun i => B.getD i 0 &&& s != 0) := by
 refine ⟨fun _ => rfl, fun site i hi => ?_, rfl⟩
 have := ZBd (d := d) (site := site) (seen := []) (e1 := e1) (e2 := e2) h (hl i hi) hs
 simp only [opCallV, Zcl, aCall, List.cons_append, List.nil_append, List.append_nil, snaps, snap, Rd.bind]
 exact this
theorem Zuv : ∀ (b a z : List AV), z.length = b.length → putC (a ++ b) a.length z = a ++ z
 | [], a, z, h => by obtain rfl := List.length_eq_zero_iff.1 h; simp [putC]
 | x :: b, a, [], h => by simp at h
 | x :: b, a, y :: z, h => by
   simp only [putC]
   rw [show (a ++ x :: b).set a.length y = (a ++ [y]) ++ b by simp, show a.length + 1 = (a ++ [y]).length by simp, Zuv b (a ++ [y]) z (by simpa using h)]
   simp
theorem Zns : ∀ n, repC [.int .i64 0] n = ins (List.replicate n 0)
 | 0 => rfl
 | n + 1 => by rw [repC, Zns n]; rfl
theorem ZCb (a b : List Nat) : ins (a ++ b) = ins a ++ ins b := by simp [ins]
def keepL (p : Nat → Bool) (l : List Nat) : List Nat := l.filter fun i => !p i
theorem Zkr (p : Nat → Bool) (l : List Nat) (j : Nat) : (keepL p (l.take j)).length ≤ j := by
 have := List.length_filter_le (fun i => !p i) (l.take j)
 have := List.length_take_le j l
 unfold keepL; omega
abbrev dfS (ls : List Ld) (B : List Nat) (n : Nat) (e1 e2 : Bool) (s : Nat) (l : List Nat) (p : Nat → Bool) (j : Nat) : St :=
 ([(6, .int .i64 j), (5, .int .i64 (keepL p (l.take j)).length), (1, .clo 141 [.ptr 2 0 2, .ptr 3 0 1]), (0, .ref 6 0 l.length l.length l.length 1 false)],
   [(2, ⟨.box, trA ls B n e1 e2⟩), (3, ⟨.box, [.int .u64 (s : Int)]⟩), (6, ⟨.row, ins (keepL p (l.take j) ++ l.drop (keepL p (l.take j)).length)⟩)])
theorem Z0om {C : Callee} {ls : List Ld} {B : List Nat} {n : Nat} {e1 e2 : Bool} {s : Nat} {l : List Nat} {p : Nat → Bool} {H0 : AHeap} (hH : H0 = [(2, ⟨.box, trA ls B n e1 e2⟩), (3, ⟨.box, [.int .u64 (s : Int)]⟩), (6, ⟨.row, ins l⟩)])
   (hc : ∀ (site : Nat → Nat) seen i, i ∈ l → aBack site true seen (thaw C 141 [.int .i64 (i : Int), .iptr (trA ls B n e1 e2) 0, .iptr [.int .u64 (s : Int)] 0] [] 0) = .pure (.bool (p i), [])) (j : Nat) (hj : j < l.length) (h6 : l.length ≤ 6) :
   ∃ s', execA E C (fg 140) 72 42 H0 1000 Z3M (dfS ls B n e1 e2 s l p j) = some (.normal, s') ∧ headA H0 s' = dfS ls B n e1 e2 s l p (j + 1) := by
 subst hH
 have hm : ∀ caps args, mutV E (.clo 141 caps) args = none := fun _ _ => rfl
 have hk : l[j]? = some l[j] := List.getElem?_eq_getElem hj
 have hcj := fun site seen => hc site seen l[j] (List.getElem_mem hj)
 have ht : l.take (j + 1) = l.take j ++ [l[j]] := by rw [List.take_add_one, hk]; rfl
 have hkl := Zkr p l j
 have g1 : (j : Int) < l.length := by omega
 have hat : (keepL p (l.take j) ++ l.drop (keepL p (l.take j)).length)[j]? = some l[j] := by
   rw [List.getElem?_append_right hkl, List.getElem?_drop, ← hk]; congr 1; omega
 have hat2 := Z22 hat
 have hlen : (ins (keepL p (l.take j) ++ l.drop (keepL p (l.take j)).length)).length = l.length := by
   rw [Zk, List.length_append, List.length_drop]; omega
 simp only [dfS, ht]
 cases hp : p l[j] with
 | true =>
   have e : keepL p (l.take j ++ [l[j]]) = keepL p (l.take j) := by simp only [keepL, List.filter_append, List.filter_cons, hp, Bool.not_true, Bool.false_eq_true, if_false, List.filter_nil, List.append_nil]
   rw [hp] at hcj
   rw [e]
   generalize keepL p (l.take j) = q at *
   generalize l[j] = k at *
   simp (disch := omega) only [ZF, stp, justO, just, Rd.bind, Rd.run, Rd.opt, upds, acells, tsz, rdCells, aLoad, aStore, opStore, Z2, aNum, aLen, Z4, aBin, aInt, putC, Nat.reduceAdd, Nat.reduceMul, Nat.reduceLT, Nat.reduceBEq, Nat.reduceEqDiff, Nat.reduceLeDiff, ↓reduceIte, reduceCtorEq, aUn, aCall, snaps, opCallV, ZT, ZeZ, g1, hat2, hlen, hcj, if_pos, Z0q (hm _ _), Zc (show j < 1000000 by omega), Zcl]
   exact ⟨_, rfl, rfl⟩
 | false =>
   have e : keepL p (l.take j ++ [l[j]]) = keepL p (l.take j) ++ [l[j]] := by simp only [keepL, List.filter_append, List.filter_cons, hp, Bool.not_false, if_true, List.filter_nil]
   rw [hp] at hcj
   rw [e]
   have hset : (ins (keepL p (l.take j) ++ l.drop (keepL p (l.take j)).length)).set (keepL p (l.take j)).length (.int .i64 (l[j] : Int)) = ins ((keepL p (l.take j) ++ [l[j]]) ++ l.drop (keepL p (l.take j) ++ [l[j]]).length) := by
     rw [Z046]
     congr 1
     rw [List.set_append_right _ _ (Nat.le_refl _), Nat.sub_self, List.append_assoc]
     congr 1
     rw [List.length_append, List.length_singleton, List.drop_eq_getElem_cons (by omega), List.set_cons_zero]
     rfl
   have hle2 : (keepL p (l.take j) ++ [l[j]]).length = (keepL p (l.take j)).length + 1 := by simp
   simp only [hle2]
   rw [hle2] at hset
   generalize keepL p (l.take j) = q at *
   generalize l[j] = k at *
   have g2 : (q.length : Int) < l.length := by omega
   simp (disch := omega) only [ZF, stp, justO, just, Rd.bind, Rd.run, Rd.opt, upds, acells, tsz, rdCells, aLoad, aStore, opStore, Z2, aNum, aLen, Z4, aBin, aInt, putC, Nat.reduceAdd, Nat.reduceMul, Nat.reduceLT, Nat.reduceBEq, Nat.reduceEqDiff, Nat.reduceLeDiff, ↓reduceIte, reduceCtorEq, aUn, aCall, snaps, opCallV, ZT, ZeZ, g1, g2, hat2, hlen, hcj, hset, if_pos, Z0q (hm _ _), Zc (show j < 1000000 by omega), Zc (show q.length < 1000000 by omega), Zcl]
   exact ⟨_, rfl, rfl⟩
theorem ZiC {p : Nat → Bool} {l : List Nat} : keepL p (l.take (l.findIdx p)) = l.take (l.findIdx p) := by
 rw [keepL, List.filter_eq_self]
 intro a ha
 obtain ⟨i, hi, rfl⟩ := List.mem_iff_getElem.1 ha
 have h1 : i < l.findIdx p := by rw [List.length_take] at hi; omega
 have := List.not_of_lt_findIdx h1
 simpa using this
theorem ZyG {p : Nat → Bool} {l : List Nat} (h : l.findIdx p < l.length) : keepL p (l.take (l.findIdx p + 1)) = l.take (l.findIdx p) := by
 rw [List.take_add_one, List.getElem?_eq_getElem h]
 have hp : p l[l.findIdx p] = true := List.findIdx_getElem
 simp only [keepL, Option.toList_some, List.filter_append, List.filter_cons, hp, Bool.not_true, Bool.false_eq_true, if_false, List.filter_nil, List.append_nil]
 exact ZiC
theorem Z0fV {d : Nat} {ls : List Ld} {B : List Nat} {n : Nat} {e1 e2 : Bool} {s : Nat} {l : List Nat} (h : TrOk ls B n) (hl : ∀ i ∈ l, i < n) (hs : s < 64) (h6 : l.length ≤ 6) :
   bodyA E (callA E fg 1000 (d + 2)) fg 1000 140 [.ref 6 0 l.length l.length l.length 1 false, .clo 141 [.ptr 2 0 2, .ptr 3 0 1]] [(2, ⟨.box, trA ls B n e1 e2⟩), (3, ⟨.box, [.int .u64 (s : Int)]⟩), (6, ⟨.row, ins l⟩)] 72 =
     some (.ref 6 0 (keepL (fun i => B.getD i 0 &&& s != 0) l).length l.length l.length 1 false, [(2, ⟨.box, trA ls B n e1 e2⟩), (3, ⟨.box, [.int .u64 (s : Int)]⟩), (6, ⟨.row, ins (keepL (fun i => B.getD i 0 &&& s != 0) l ++ List.replicate (l.length - (keepL (fun i => B.getD i 0 &&& s != 0) l).length) 0)⟩)]) := by
 have hix := fun (site : Nat → Nat) seen => ZYx (site := site) (seen := seen) (Z0bH (d := d) (e1 := e1) (e2 := e2) h hl hs) (.inr ⟨false, rfl⟩) (by omega)
 have hc := fun (site : Nat → Nat) seen i hi => ZBd (d := d + 1) (site := site) (seen := seen) (e1 := e1) (e2 := e2) (i := i) (s := s) h (hl i hi) hs
 generalize hp : (fun i => B.getD i 0 &&& s != 0) = p at *
 have hc' : ∀ (site : Nat → Nat) seen i, i ∈ l → aBack site true seen (thaw (callA E fg 1000 (d + 2)) 141 [.int .i64 (i : Int), .iptr (trA ls B n e1 e2) 0, .iptr [.int .u64 (s : Int)] 0] [] 0) = .pure (.bool (p i), []) := by
   intro site seen i hi
   rw [← hp]
   exact hc site seen i hi
 clear hc
 generalize callA E fg 1000 (d + 2) = C at *
 have hin := Zk l
 have htk : List.take l.length (ins l) = ins l := Zhi l
 by_cases hlt : l.findIdx p < l.length
 · have ht := ZyG hlt
   have hkf := Zkr p l l.length
   rw [List.take_length] at hkf
   have lenf : (l.take (l.findIdx p)).length = l.findIdx p := by rw [List.length_take]; omega
   have hloop := Z19 (f := execA E C (fg 140) 72 42 [(2, ⟨.box, trA ls B n e1 e2⟩), (3, ⟨.box, [.int .u64 (s : Int)]⟩), (6, ⟨.row, ins l⟩)] 1000 Z3M) (hd := headA [(2, ⟨.box, trA ls B n e1 e2⟩), (3, ⟨.box, [.int .u64 (s : Int)]⟩), (6, ⟨.row, ins l⟩)])
     (dfS ls B n e1 e2 s l p) (l.length - (l.findIdx p + 1)) 1000 (l.findIdx p + 1) (dfS ls B n e1 e2 s l p (l.findIdx p + 1)) rfl (by omega) (fun j _ hj => Z0om rfl hc' j (by omega) h6)
     (e := .exit 0) (se := ([(19, .bool false), (6, .int .i64 l.length), (5, .int .i64 (keepL p l).length), (1, .clo 141 [.ptr 2 0 2, .ptr 3 0 1]), (0, .ref 6 0 l.length l.length l.length 1 false)],
       [(2, ⟨.box, trA ls B n e1 e2⟩), (3, ⟨.box, [.int .u64 (s : Int)]⟩), (6, ⟨.row, ins (keepL p l ++ l.drop (keepL p l).length)⟩)]))
     (by
       have hlen : (ins (keepL p l ++ l.drop (keepL p l).length)).length = l.length := by
         rw [Zk, List.length_append, List.length_drop]; omega
       rw [show l.findIdx p + 1 + (l.length - (l.findIdx p + 1)) = l.length by omega]
       simp only [dfS, List.take_length]
       simp (disch := omega) only [ZF, stp, just, Rd.bind, Rd.run, Rd.opt, upds, aLen, Z4, aBin, aInt, Nat.reduceBEq, Nat.reduceEqDiff, Nat.reduceLeDiff, ↓reduceIte, reduceCtorEq, ZT, ZeZ, hlen]) (by simp)
   simp only [dfS, ht, lenf, List.take_append_drop] at hloop
   have g1 : ¬ (l.findIdx p : Int) = -1 := by omega
   have g2 : ((keepL p l).length : Int) ≤ l.length := by omega
   have hlen : (ins (keepL p l ++ l.drop (keepL p l).length)).length = l.length := by
     rw [Zk, List.length_append, List.length_drop]; omega
   have hput : putC (ins (keepL p l ++ l.drop (keepL p l).length)) (keepL p l).length (repC [.int .i64 0] (l.length - (keepL p l).length)) = ins (keepL p l ++ List.replicate (l.length - (keepL p l).length) 0) := by
     rw [ZCb, ZCb, Zns]
     have := Zuv (ins (l.drop (keepL p l).length)) (ins (keepL p l)) (ins (List.replicate (l.length - (keepL p l).length) 0)) (by rw [Zk, Zk, List.length_replicate, List.length_drop])
     rw [Zk] at this
     exact this
   have hlen2 : (ins (keepL p l ++ List.replicate (l.length - (keepL p l).length) 0)).length = l.length := by
     rw [Zk, List.length_append, List.length_replicate]; omega
   generalize keepL p l = q at *
   generalize l.findIdx p = f at *
   simp (disch := omega) only [ZF, Z7, stp, just, Rd.bind, Rd.run, Rd.opt, upds, zeroCells, tsz, elemT, resA, resL, aNum, Z4, aBin, aInt, Nat.reduceAdd, Nat.reduceLT, Nat.reduceBEq, Nat.reduceEqDiff, Nat.reduceLeDiff, Int.reduceNeg, ↓reduceIte, reduceCtorEq, aCall, snaps, aSlice, aBounds, bMax, bHigh, bLow, AV.flat, ZT, ZeZ, hin, htk, hix, g1, g2, hloop, hlen, hput, hlen2, if_pos, aClear, Zc (show f < 1000000 by omega), Nat.add_sub_cancel' hkf]
 · have e : l.findIdx p = l.length := by have := List.findIdx_le_length (xs := l) (p := p); omega
   have hk : keepL p l = l := by have := ZiC (p := p) (l := l); rwa [e, List.take_length] at this
   rw [hk, Nat.sub_self, List.replicate_zero, List.append_nil]
   rw [if_neg hlt] at hix
   simp (disch := omega) only [ZF, Z7, stp, just, Rd.bind, Rd.run, Rd.opt, upds, resA, resL, aBin, aInt, Nat.reduceAdd, Nat.reduceBEq, Nat.reduceEqDiff, Nat.reduceLeDiff, Int.reduceNeg, ↓reduceIte, reduceCtorEq, aCall, snaps, ZeZ, hin, htk, hix]
abbrev lsL (B : List Nat) (s : Nat) : List Nat := lastsL (bit B) (lst s)
theorem ZFN (B : List Nat) {s : Nat} (hs : s < 64) : keepL (fun i => B.getD i 0 &&& s != 0) (lst s) = lsL B s := by
 rw [lsL, ZGA B hs]
 simp only [keepL]
 apply List.filter_congr
 intro i _
 simp [bne]
def lsCells (B : List Nat) (s : Nat) : List AV := ins (lsL B s ++ List.replicate ((lst s).length - (lsL B s).length) 0)
theorem ZFT (B : List Nat) (s : Nat) : (lsL B s).length ≤ (lst s).length := List.length_filter_le ..
theorem Z9W (B : List Nat) (s : Nat) : (lsCells B s).length = (lst s).length := by
 have := ZFT B s
 rw [lsCells, Zk, List.length_append, List.length_replicate]; omega
theorem ZL7 {d : Nat} {ls : List Ld} {B : List Nat} {n : Nat} {e1 e2 : Bool} {s : Nat} (h : TrOk ls B n) (hs : s < 2 ^ n) (h0 : s ≠ 0) :
   ∃ H', bodyA E (callA E fg 1000 (d + 4)) fg 1000 128 [.agg (trA ls B n e1 e2), .int .u64 (s : Int)] [] 0 = some (.ref 6 0 (lsL B s).length (lst s).length (lst s).length 1 false, H') ∧ hget H' 6 = some ⟨.row, lsCells B s⟩ := by
 have h64 := lt64 h.le hs
 have hr := fun (site : Nat → Nat) seen => Zaj (d := d) (site := site) (seen := seen) h64 h0
 have hdf : callA E fg 1000 (d + 4) 140 _ _ 72 = _ := Z0fV (d := d + 1) (e1 := e1) (e2 := e2) (l := lst s) h (Z1C h.le hs) h64 (Z1G s)
 rw [ZFN B h64] at hdf
 have hm : ∀ args caps, mutV E (.clo 140 caps) args = some (140, args ++ caps) := fun _ _ => rfl
 have hin := Zk (lst s)
 refine ⟨[(2, ⟨.box, trA ls B n e1 e2⟩), (3, ⟨.box, [.int .u64 (s : Int)]⟩), (6, ⟨.row, lsCells B s⟩)], ?_, rfl⟩
 unfold lsCells
 generalize callA E fg 1000 (d + 4) = C at *
 simp (disch := omega) only [ZF, Z7, stp, opBox, just, Rd.bind, Rd.run, Rd.opt, upds, acells, rdCells, aLoad, resA, resL, fresh, Nat.reduceAdd, Nat.reduceMul, Nat.reduceBEq, Nat.reduceEqDiff, Nat.reduceLeDiff, ↓reduceIte, reduceCtorEq, mutX, aCall, snaps, ZT, Z0nQ, hr, hdf]
theorem ZHg {d : Nat} {site : Nat → Nat} {seen : List Nat} {ls : List Ld} {B : List Nat} {n : Nat} {e1 e2 : Bool} {s : Nat} (h : TrOk ls B n) (hs : s < 2 ^ n) (h0 : s ≠ 0) :
   aBack site true seen (thaw (callA E fg 1000 (d + 5)) 128 [.agg (trA ls B n e1 e2), .int .u64 (s : Int)] [] 0) = Z0g (site 0) seen (fun k => .ref k 0 (lsL B s).length (lst s).length (lst s).length 1 false) ⟨.row, lsCells B s⟩ := by
 obtain ⟨H', h1, h2⟩ := ZL7 (d := d) (e1 := e1) (e2 := e2) h hs h0
 exact Z6n h1 h2 (Z9W B s)
end Go.AM.YtgfnbmfjbjopkaaDoor
end
noncomputable section
namespace Go.AM
theorem ZJq : ∀ {H : AHeap} {k : Nat} {b : Blk}, (k, b) ∈ H → (hget H k).isSome = true
 | (j, c) :: t, k, b, h => by
   rw [Z6W]
   cases hj : Nat.beq j k with
   | true => rfl
   | false =>
     rcases List.mem_cons.1 h with e | h
     · injection e with e1 e2; subst e1; rw [Nat.beq_refl] at hj; exact absurd hj (by simp)
     · exact ZJq h
end Go.AM
end
noncomputable section
namespace Go.AM.YtgfnbmfjbjopkaaDoor
open Go Go.AM Go.AM.Mule
def mnI (x : Int) (l : List Int) : Int := l.foldl (fun m k => if k < m then k else m) x
theorem ZRf (x : Int) (l : List Int) (k : Int) : mnI x (l ++ [k]) = if k < mnI x l then k else mnI x l := by rw [mnI, List.foldl_append]; rfl
theorem Z0at {C : Callee} {x : Int} {l : List Int} {ex : Bool} (hl : l.length < 900) :
   rsOf (bodyA E C fg 1000 133 [.imm (ics (x :: l)) (x :: l).length ex] [] 0) = some (.int .i64 (mnI x l)) := by
 have hin := Zj (x :: l)
 have hlen : (x :: l).length = l.length + 1 := rfl
 have hn0 : ¬ ((x :: l).length : Int) < 1 := by omega
 have h0 := Z1V (l := x :: l) (k := 0) (z := x) rfl
 generalize hL : x :: l = L at *
 have hd : L.drop 1 = l := by rw [← hL]; rfl
 have hloop := loopN (f := (execA E C (fg 133) 0 25 [] 1000 Z5S)) (fun i => ([(4, .int .i64 (i + 1 : Nat)), (3, .int .i64 (mnI x (l.take i))), (0, .imm (ics L) L.length ex)], [])) l.length (fun i hi => by
     have hk : L[i + 1]? = some l[i] := by rw [← hL]; simp [hi]
     have hn : mnI x (l.take (i + 1)) = if l[i] < mnI x (l.take i) then l[i] else mnI x (l.take i) := by
       rw [List.take_add_one, List.getElem?_eq_getElem hi, Option.toList_some, ZRf]
     have g1 : ((i + 1 : Nat) : Int) < L.length := by omega
     have hat := Z1V hk
     simp only [hn]
     generalize mnI x (l.take i) = m at *
     generalize l[i] = k at *
     simp (disch := omega) only [ZF, stp, justO, just, Rd.bind, Rd.run, Rd.opt, upds, tsz, rdCells, aLoad, Z2, aNum, aLen, Z4, aMin, aBin, aInt, Nat.reduceLT, Nat.reduceBEq, Nat.reduceEqDiff, Nat.reduceLeDiff, ↓reduceIte, reduceCtorEq, ZT, ZGH, g1, hat, hin, Zc (show i + 1 < 1000000 by omega)]
     exact ⟨_, rfl, by rw [Z76]⟩) (by rw [Z76]) (by omega)
   (e := .exit 0) (se := ([(15, .bool false), (4, .int .i64 L.length), (3, .int .i64 (mnI x l)), (0, .imm (ics L) L.length ex)], []))
   (by
     have e : ((l.length + 1 : Nat) : Int) = L.length := by omega
     simp only [List.take_length, e]
     simp (disch := omega) only [ZF, stp, just, Rd.bind, Rd.run, Rd.opt, upds, aLen, Z4, aBin, aInt, Nat.reduceBEq, Nat.reduceEqDiff, Nat.reduceLeDiff, ↓reduceIte, reduceCtorEq, ZT, ZGH]) (by simp)
 have z : mnI x (List.take 0 l) = x := rfl
 simp only [z, Nat.zero_add, cl1] at hloop
 simp (disch := omega) only [ZF, Z7, stp, just, Rd.bind, Rd.run, Rd.opt, upds, tsz, rdCells, aLoad, resA, resL, Z2, aNum, aLen, Z4, aBin, aInt, Nat.reduceLT, Nat.reduceBEq, Nat.reduceEqDiff, Nat.reduceLeDiff, ↓reduceIte, reduceCtorEq, Int.reduceLE, Int.reduceToNat, ZT, ZGH, hin, h0, hn0, hloop, if_pos]
theorem ZWW {d : Nat} {x : Int} {l : List Int} {ex : Bool} {site : Nat → Nat} {seen : List Nat} (hl : l.length < 900) :
   aBack site true seen (thaw (callA E fg 1000 (d + 1)) 133 [.imm (ics (x :: l)) (x :: l).length ex] [] 0) = .pure (.int .i64 (mnI x l), []) := ZE (ZV (Z0at hl))
end Go.AM.YtgfnbmfjbjopkaaDoor
end
noncomputable section
namespace Go.AM.YtgfnbmfjbjopkaaDoor
open Go Go.AM
variable {C : Callee} {B N : Nat} {E0 : AHeap} (φ : AFr) (H : AHeap) (s : St)
def Z6G := kBody Proofs.Tryd.f101
def ZwX := kL Z6G
def Z5G := kO ZwX
def Zrg := opN Z5G 0
def Zxx := opN Z5G 1
theorem Z0gL : XG 101 35 ZwX Z5G [0, 4] := Z1 (by rfl) (by rfl) _
theorem ZTy : Z5G.toList = [Zrg, Zxx] := nf
theorem ZRX : stepA E C B 35 Z5G Zrg (φ, H) = stp (some 2) φ H (opBox (B + 2) (acells (fget φ 0))) := nf
theorem ZPb : stepA E C B 35 Z5G Zxx (φ, H) = some (fput φ 4 (.int .i64 0), H) := nf
def Zey := kR Z6G
def ZqM := kL Zey
def Z1K := kO ZqM
def ZtO := opN Z1K 0
def ZtQ := opN Z1K 1
def ZrM := opN Z1K 2
def ZwY := opN Z1K 3
theorem Z0dM : XG 101 35 ZqM Z1K [9, 10, 11] := Z1 (by rfl) (by rfl) _
theorem ZWd : Z1K.toList = [ZtO, ZtQ, ZrM, ZwY] := nf
theorem ZXy : stepA E C B 35 Z1K ZtO (φ, H) = stp (some 9) φ H (just (aLoad E.T 109 (fget φ 2))) := nf
theorem ZUD : stepA E C B 35 Z1K ZtQ (φ, H) = some (fput φ 10 (fget φ 1), H) := nf
theorem ZST : stepA E C B 35 Z1K ZrM (φ, H) = stp (some 11) φ H (aCall C (fun j => B + j * 35 + 11) true 100 [(fget φ 9), (fget φ 10)]) := nf
theorem ZYI : stepA E C B 35 Z1K ZwY (φ, H) = some (fput φ 5 (fget φ 11), H) := nf
def ZdT := kR Zey
def ZuK := kL ZdT
def Z1O := kO ZuK
def Zue := opN Z1O 0
def ZuJ := opN Z1O 1
def ZpY := opN Z1O 2
def ZsS := opN Z1O 3
theorem Z0do : XG 101 35 ZuK Z1O [1, 12, 13, 14] := Z1 (by rfl) (by rfl) _
theorem ZNG : Z1O.toList = [Zue, ZuJ, ZpY, ZsS] := nf
theorem ZOs : stepA E C B 35 Z1O Zue (φ, H) = stp (some 12) φ H (just (aLoad E.T 109 (fget φ 2))) := nf
theorem ZZ8 : stepA E C B 35 Z1O ZuJ (φ, H) = some (fput φ 13 (fget φ 1), H) := nf
theorem ZMo : stepA E C B 35 Z1O ZpY (φ, H) = stp (some 14) φ H (aCall C (fun j => B + j * 35 + 14) true 128 [(fget φ 12), (fget φ 13)]) := nf
theorem ZMV : stepA E C B 35 Z1O ZsS (φ, H) = some (fput φ 6 (fget φ 14), H) := nf
def ZcP := kR ZdT
def Zc7 := kL ZcP
def ZoN := kL Zc7
def Z3d := kO ZoN
def Zkn := opN Z3d 0
def Zrv := opN Z3d 1
def Zp3 := opN Z3d 2
theorem Z0fb : XG 101 35 ZoN Z3d [] := Z1 (by rfl) (by rfl) _
theorem ZQk : Z3d.toList = [Zkn, Zrv, Zp3] := nf
theorem ZUU : stepA E C B 35 Z3d Zkn (φ, H) = some (fput φ 15 (fget φ 6), H) := nf
theorem ZQw : stepA E C B 35 Z3d Zrv (φ, H) = stp (some 16) φ H (Z4 E.T (B + 16) .len #[36] [(fget φ 15)]) := nf
theorem ZUd : stepA E C B 35 Z3d Zp3 (φ, H) = some (fput φ 17 (.int .i64 0), H) := nf
def ZoS := kR Zc7
def Zgh := kB ZoS
def Z3H := kB Zgh
def ZgA := kL Z3H
def ZaO := kO ZgA
def ZvF := opN ZaO 0
theorem Z065 : XG 101 35 ZgA ZaO [] := Z1 (by rfl) (by rfl) _
theorem ZOv : ZaO.toList = [ZvF] := nf
theorem ZNr : stepA E C B 35 ZaO ZvF (φ, H) = stp (some 18) φ H (just (aBin E.T .lss 3 (fget φ 17) (fget φ 16))) := nf
def Z84 := kR Z3H
def Z9w := kL Z84
def ZCx := kT Z9w
theorem Z05K : execA E C (fg 101) B 35 E0 N ZCx s = some (.normal, s) := Zh (by rfl) s
def ZCt := kE Z9w
theorem Z02v : execA E C (fg 101) B 35 E0 N ZCt s = some (.exit 0, s) := ZO (by rfl) s
theorem Z08e : XC 101 35 Z9w 18 ZCx ZCt := Zb (by rfl) _
def Z8d := kR Z84
def Zg5 := kL Z8d
def Z8b := kB Zg5
def ZgQ := kL Z8b
def Z1g := kO ZgQ
def ZuX := opN Z1g 0
def Zxb := opN Z1g 1
def Zyg := opN Z1g 2
def Zoa := opN Z1g 3
def ZuR := opN Z1g 4
theorem Z01e : XG 101 35 ZgQ Z1g [18, 19, 20, 21] := Z1 (by rfl) (by rfl) _
theorem ZPZ : Z1g.toList = [ZuX, Zxb, Zyg, Zoa, ZuR] := nf
theorem ZWp : stepA E C B 35 Z1g ZuX (φ, H) = some (fput φ 19 (fget φ 17), H) := nf
theorem ZX6 : stepA E C B 35 Z1g Zxb (φ, H) = stp (some 20) φ H (just (Z2 E.T 36 (fget φ 15) (fget φ 17))) := nf
theorem ZPV : stepA E C B 35 Z1g Zyg (φ, H) = stp (some 21) φ H (just (aLoad E.T 3 (fget φ 20))) := nf
theorem ZZm : stepA E C B 35 Z1g Zoa (φ, H) = some (fput φ 7 (fget φ 19), H) := nf
theorem ZMc : stepA E C B 35 Z1g ZuR (φ, H) = some (fput φ 8 (fget φ 21), H) := nf
def ZfQ := kR Z8b
def ZQ := kO ZfQ
def ZpS := opN ZQ 0
def ZkL := opN ZQ 1
def Zqr := opN ZQ 2
def Zok := opN ZQ 3
def ZsY := opN ZQ 4
def ZqG := opN ZQ 5
def ZsC := opN ZQ 6
def ZvG := opN ZQ 7
def Zm9 := opN ZQ 8
def ZxO := opN ZQ 9
def ZiH := opN ZQ 10
theorem Z018 : XG 101 35 ZfQ ZQ [7, 8, 22, 23, 24, 25, 26, 27, 28, 29, 30, 31] := Z1 (by rfl) (by rfl) _
theorem ZV2 : ZQ.toList = [ZpS, ZkL, Zqr, Zok, ZsY, ZqG, ZsC, ZvG, Zm9, ZxO, ZiH] := nf
theorem ZZk : stepA E C B 35 ZQ ZpS (φ, H) = some (fput φ 22 (fget φ 6), H) := nf
theorem ZMC : stepA E C B 35 ZQ ZkL (φ, H) = some (fput φ 23 (fget φ 7), H) := nf
theorem ZR3 : stepA E C B 35 ZQ Zqr (φ, H) = stp (some 24) φ H (just (Z3 E.T 109 (fget φ 2) 0)) := nf
theorem ZXt : stepA E C B 35 ZQ Zok (φ, H) = stp (some 25) φ H (just (aLoad E.T 106 (fget φ 24))) := nf
theorem ZZq : stepA E C B 35 ZQ ZsY (φ, H) = some (fput φ 26 (fget φ 8), H) := nf
theorem ZU2 : stepA E C B 35 ZQ ZqG (φ, H) = stp (some 27) φ H (just (Z2 E.T 106 (fget φ 25) (fget φ 26))) := nf
theorem ZUQ : stepA E C B 35 ZQ ZsC (φ, H) = stp (some 28) φ H (just (aLoad E.T 126 (fget φ 27))) := nf
theorem ZOW : stepA E C B 35 ZQ ZvG (φ, H) = some (fput φ 29 (fget φ 5), H) := nf
theorem ZMI : stepA E C B 35 ZQ Zm9 (φ, H) = stp (some 30) φ H (aCall C (fun j => B + j * 35 + 30) true 99 [(fget φ 28), (fget φ 29)]) := nf
theorem ZVC : stepA E C B 35 ZQ ZxO (φ, H) = stp (some 31) φ H (just (Z2 E.T 36 (fget φ 22) (fget φ 23))) := nf
theorem ZKc : stepA E C B 35 ZQ ZiH (φ, H) = stp none φ H (opStore E.T 3 (fget φ 31) (fget φ 30)) := nf
theorem Z083 : XQ 101 35 Z8b ZgQ ZfQ := Z0 (by rfl) _
theorem Z040 : execA E C (fg 101) B 35 E0 N Zg5 s = blockX 1 (fun s => (forget s.1 [], s.2)) (execA E C (fg 101) B 35 E0 N Z8b s) := Za (by rfl) (by rfl) s
def ZfM := kR Z8d
def Z64 := kO ZfM
def Zu7 := opN Z64 0
def ZlR := opN Z64 1
theorem Z0bi : XG 101 35 ZfM Z64 [32] := Z1 (by rfl) (by rfl) _
theorem ZXL : Z64.toList = [Zu7, ZlR] := nf
theorem ZZ3 : stepA E C B 35 Z64 Zu7 (φ, H) = stp (some 32) φ H (just (aBin E.T .add 3 (fget φ 17) (.int .i64 1))) := nf
theorem ZWw : stepA E C B 35 Z64 ZlR (φ, H) = some (fput φ 17 (fget φ 32), H) := nf
theorem Z06V : XQ 101 35 Z8d Zg5 ZfM := Z0 (by rfl) _
theorem Z002 : XQ 101 35 Z84 Z9w Z8d := Z0 (by rfl) _
theorem Z03P : XQ 101 35 Z3H ZgA Z84 := Z0 (by rfl) _
theorem Z05r : execA E C (fg 101) B 35 E0 N Zgh s = iterA (execA E C (fg 101) B 35 E0 N Z3H) (headA E0) N s := ZN (by rfl) s
theorem Z0ht : execA E C (fg 101) B 35 E0 N ZoS s = blockX 0 (fun s => (forget s.1 [2, 5, 15, 16, 17, 18], s.2)) (execA E C (fg 101) B 35 E0 N Zgh s) := Za (by rfl) (by rfl) s
theorem Z0eX : XQ 101 35 Zc7 ZoN ZoS := Z0 (by rfl) _
def Z7P := kR ZcP
def Zh7 := kL Z7P
def Z3w := kO Zh7
def ZwO := opN Z3w 0
def Zkb := opN Z3w 1
def Zk7 := opN Z3w 2
theorem Z06F : XG 101 35 Zh7 Z3w [6, 33, 34] := Z1 (by rfl) (by rfl) _
theorem ZZn : Z3w.toList = [ZwO, Zkb, Zk7] := nf
theorem ZTi : stepA E C B 35 Z3w ZwO (φ, H) = some (fput φ 33 (fget φ 6), H) := nf
theorem ZQc : stepA E C B 35 Z3w Zkb (φ, H) = stp (some 34) φ H (aCall C (fun j => B + j * 35 + 34) true 133 [(fget φ 33)]) := nf
theorem ZXY : stepA E C B 35 Z3w Zk7 (φ, H) = some (fput φ 4 (fget φ 34), H) := nf
def ZzY := kR Z7P
theorem Z00J : execA E C (fg 101) B 35 E0 N ZzY s = some (.ret, s) := Zl (by rfl) s
theorem Z087 : XQ 101 35 Z7P Zh7 ZzY := Z0 (by rfl) _
theorem Z0dS : XQ 101 35 ZcP Zc7 Z7P := Z0 (by rfl) _
theorem Z0ey : XQ 101 35 ZdT ZuK ZcP := Z0 (by rfl) _
theorem Z0f5 : XQ 101 35 Zey ZqM ZdT := Z0 (by rfl) _
theorem Z0fZ : XQ 101 35 Z6G ZwX Zey := Z0 (by rfl) _
theorem Z0es : fInfo E 101 = some ⟨35, #[.tmp 4], Z6G⟩ := nf
theorem Z0oi (args : List AV) : bodyA E C fg N 101 args H B = bodyX E [.tmp 4] (execA E C (fg 101) B 35 H N Z6G (Z7 args 0 [], H)) := Zn Z0es args H
abbrev ZFZ := And.intro (And.intro (And.intro (And.intro (And.intro (And.intro @Z0gL @ZTy) (And.intro @ZRX @ZPb)) (And.intro (And.intro @Z0dM @ZWd) (And.intro @ZXy @ZUD))) (And.intro (And.intro (And.intro @ZST @ZYI) (And.intro @Z0do @ZNG)) (And.intro (And.intro @ZOs @ZZ8) (And.intro @ZMo (And.intro @ZMV @Z0fb))))) (And.intro (And.intro (And.intro (And.intro @ZQk @ZUU) (And.intro @ZQw @ZUd)) (And.intro (And.intro @Z065 @ZOv) (And.intro @ZNr (And.intro @Z05K @Z02v)))) (And.intro (And.intro (And.intro @Z08e @Z01e) (And.intro @ZPZ @ZWp)) (And.intro (And.intro @ZX6 @ZPV) (And.intro @ZZm (And.intro @ZMc @Z018)))))) (And.intro (And.intro (And.intro (And.intro (And.intro @ZV2 @ZZk) (And.intro @ZMC @ZR3)) (And.intro (And.intro @ZXt @ZZq) (And.intro @ZU2 (And.intro @ZUQ @ZOW)))) (And.intro (And.intro (And.intro @ZMI @ZVC) (And.intro @ZKc @Z083)) (And.intro (And.intro @Z040 @Z0bi) (And.intro @ZXL (And.intro @ZZ3 @ZWw))))) (And.intro (And.intro (And.intro (And.intro @Z06V @Z002) (And.intro @Z03P @Z05r)) (And.intro (And.intro @Z0ht @Z0eX) (And.intro @Z06F (And.intro @ZZn @ZTi)))) (And.intro (And.intro (And.intro @ZQc @ZXY) (And.intro @Z00J @Z087)) (And.intro (And.intro @Z0dS @Z0ey) (And.intro @Z0f5 (And.intro @Z0fZ @Z0oi))))))
def Zb7 := kBody Proofs.Tryd.f28
def ZHm := kL Zb7
def Z4D := kO ZHm
def ZEs := opN Z4D 0
def Zzj := opN Z4D 1
def ZDZ := opN Z4D 2
theorem Z0nv : XG 28 54 ZHm Z4D [0, 4, 5] := Z1 (by rfl) (by rfl) _
theorem Z0aw : Z4D.toList = [ZEs, Zzj, ZDZ] := nf
theorem Z09K : stepA E C B 54 Z4D ZEs (φ, H) = stp (some 2) φ H (opBox (B + 2) (acells (fget φ 0))) := nf
theorem Z04W : stepA E C B 54 Z4D Zzj (φ, H) = some (fput φ 4 (.int .i64 0), H) := nf
theorem Z048 : stepA E C B 54 Z4D ZDZ (φ, H) = some (fput φ 5 (.int .i64 0), H) := nf
def ZjH := kR Zb7
def ZFH := kL ZjH
def Z0E := kO ZFH
def Zzs := opN Z0E 0
def ZCm := opN Z0E 1
def ZBo := opN Z0E 2
def ZDw := opN Z0E 3
def ZEE := opN Z0E 4
def ZyS := opN Z0E 5
def ZDO := opN Z0E 6
def ZCL := opN Z0E 7
theorem Z0nH : XG 28 54 ZFH Z0E [2, 12, 13, 14, 15, 16] := Z1 (by rfl) (by rfl) _
theorem Z01d : Z0E.toList = [Zzs, ZCm, ZBo, ZDw, ZEE, ZyS, ZDO, ZCL] := nf
theorem Z01x : stepA E C B 54 Z0E Zzs (φ, H) = stp (some 13) φ H (just (aLoad E.T 25 (fget φ 2))) := nf
theorem Z05L : stepA E C B 54 Z0E ZCm (φ, H) = stp (some 14) φ H (aCall C (fun j => B + j * 54 + 14) true 88 [(fget φ 13)]) := nf
theorem Z023 : stepA E C B 54 Z0E ZBo (φ, H) = some (fput φ 12 (fget φ 14), H) := nf
theorem Z079 : stepA E C B 54 Z0E ZDw (φ, H) = stp (some 15) φ H (ZG (fget φ 12) 0) := nf
theorem Z08H : stepA E C B 54 Z0E ZEE (φ, H) = stp (some 16) φ H (ZG (fget φ 12) 1) := nf
theorem Z04U : stepA E C B 54 Z0E ZyS (φ, H) = stp (some 6) φ H (opBox (B + 6) (zeroCells E.T 109)) := nf
theorem Z05i : stepA E C B 54 Z0E ZDO (φ, H) = stp none φ H (opStore E.T 109 (fget φ 6) (fget φ 15)) := nf
theorem Z03k : stepA E C B 54 Z0E ZCL (φ, H) = some (fput φ 7 (fget φ 16), H) := nf
def Zj3 := kR ZjH
def ZGZ := kL Zj3
def Zjq := kB ZGZ
def ZH1 := kL Zjq
def Z4z := kO ZH1
def ZCX := opN Z4z 0
def ZF3 := opN Z4z 1
def Zzm := opN Z4z 2
theorem Z0kY : XG 28 54 ZH1 Z4z [18, 19] := Z1 (by rfl) (by rfl) _
theorem Z07s : Z4z.toList = [ZCX, ZF3, Zzm] := nf
theorem Z01p : stepA E C B 54 Z4z ZCX (φ, H) = some (fput φ 18 (fget φ 7), H) := nf
theorem Z05F : stepA E C B 54 Z4z ZF3 (φ, H) = stp (some 19) φ H (just (aBin E.T .neq 32 (fget φ 18) (.int .i64 0))) := nf
theorem Z02f : stepA E C B 54 Z4z Zzm (φ, H) = some (fput φ 17 (fget φ 19), H) := nf
def Zjm := kR Zjq
def Zk0 := kT Zjm
def ZrE := kL Zk0
def Z4L := kO ZrE
def ZBP := opN Z4L 0
def ZAe := opN Z4L 1
def ZDl := opN Z4L 2
theorem Z0go : XG 28 54 ZrE Z4L [1, 6, 7, 17, 20] := Z1 (by rfl) (by rfl) _
theorem Z02J : Z4L.toList = [ZBP, ZAe, ZDl] := nf
theorem Z02P : stepA E C B 54 Z4L ZBP (φ, H) = some (fput φ 20 (fget φ 7), H) := nf
theorem Z07h : stepA E C B 54 Z4L ZAe (φ, H) = some (fput φ 4 (.int .i64 0), H) := nf
theorem Z08R : stepA E C B 54 Z4L ZDl (φ, H) = some (fput φ 5 (fget φ 20), H) := nf
def ZIr := kR Zk0
theorem Z0iU : execA E C (fg 28) B 54 E0 N ZIr s = some (.ret, s) := Zl (by rfl) s
theorem Z0mM : XQ 28 54 Zk0 ZrE ZIr := Z0 (by rfl) _
def Ze7 := kE Zjm
def Zpe := kL Ze7
def Z2T := kO Zpe
def ZDb := opN Z2T 0
def ZCN := opN Z2T 1
def ZEQ := opN Z2T 2
def ZAD := opN Z2T 3
theorem Z0hJ : XG 28 54 Zpe Z2T [7, 17, 22, 23, 24] := Z1 (by rfl) (by rfl) _
theorem Z01C : Z2T.toList = [ZDb, ZCN, ZEQ, ZAD] := nf
theorem Z00r : stepA E C B 54 Z2T ZDb (φ, H) = some (fput φ 22 (fget φ 1), H) := nf
theorem Z01D : stepA E C B 54 Z2T ZCN (φ, H) = stp (some 23) φ H (Z4 E.T (B + 23) .len #[36] [(fget φ 22)]) := nf
theorem Z06H : stepA E C B 54 Z2T ZEQ (φ, H) = stp (some 24) φ H (just (aBin E.T .eql 3 (fget φ 23) (.int .i64 0))) := nf
theorem Z03L : stepA E C B 54 Z2T ZAD (φ, H) = some (fput φ 21 (fget φ 24), H) := nf
def Zdw := kR Ze7
def ZdP := kT Zdw
def Zq6 := kL ZdP
def Z9J := kO Zq6
def ZyT := opN Z9J 0
def ZAE := opN Z9J 1
theorem Z0jV : XG 28 54 Zq6 Z9J [1, 6, 21] := Z1 (by rfl) (by rfl) _
theorem Z00Y : Z9J.toList = [ZyT, ZAE] := nf
theorem Z07F : stepA E C B 54 Z9J ZyT (φ, H) = some (fput φ 4 (.int .i64 0), H) := nf
theorem Z04S : stepA E C B 54 Z9J ZAE (φ, H) = some (fput φ 5 (.int .i64 4), H) := nf
def ZJb := kR ZdP
theorem Z0fN : execA E C (fg 28) B 54 E0 N ZJb s = some (.ret, s) := Zl (by rfl) s
theorem Z0e6 : XQ 28 54 ZdP Zq6 ZJb := Z0 (by rfl) _
def ZJE := kE Zdw
theorem Z0ec : execA E C (fg 28) B 54 E0 N ZJE s = some (.normal, s) := Zh (by rfl) s
theorem Z0jY : XC 28 54 Zdw 21 ZdP ZJE := Zb (by rfl) _
theorem Z0eu : XQ 28 54 Ze7 Zpe Zdw := Z0 (by rfl) _
theorem Z0li : XC 28 54 Zjm 17 Zk0 Ze7 := Zb (by rfl) _
theorem Z0ku : XQ 28 54 Zjq ZH1 Zjm := Z0 (by rfl) _
theorem Z0kg : execA E C (fg 28) B 54 E0 N ZGZ s = blockX 0 (fun s => (forget s.1 [21], s.2)) (execA E C (fg 28) B 54 E0 N Zjq s) := Za (by rfl) (by rfl) s
def Zdn := kR Zj3
def Zrr := kL Zdn
def Z97 := kO Zrr
def ZDI := opN Z97 0
def ZFo := opN Z97 1
theorem Z0eJ : XG 28 54 Zrr Z97 [] := Z1 (by rfl) (by rfl) _
theorem Z06m : Z97.toList = [ZDI, ZFo] := nf
theorem Z00V : stepA E C B 54 Z97 ZDI (φ, H) = some (fput φ 8 (.int .u64 0), H) := nf
theorem Z07f : stepA E C B 54 Z97 ZFo (φ, H) = some (fput φ 9 (.int .i64 (-1)), H) := nf
def ZaM := kR Zdn
def Zcy := kL ZaM
def Zqz := kL Zcy
def Z4E := kO Zqz
def ZAg := opN Z4E 0
def ZEB := opN Z4E 1
def ZEK := opN Z4E 2
theorem Z0j1 : XG 28 54 Zqz Z4E [1] := Z1 (by rfl) (by rfl) _
theorem Z08p : Z4E.toList = [ZAg, ZEB, ZEK] := nf
theorem Z064 : stepA E C B 54 Z4E ZAg (φ, H) = some (fput φ 25 (fget φ 1), H) := nf
theorem Z04Y : stepA E C B 54 Z4E ZEB (φ, H) = stp (some 26) φ H (Z4 E.T (B + 26) .len #[36] [(fget φ 25)]) := nf
theorem Z00w : stepA E C B 54 Z4E ZEK (φ, H) = some (fput φ 27 (.int .i64 0), H) := nf
def ZqQ := kR Zcy
def Zw9 := kB ZqQ
def Z3e := kB Zw9
def ZqZ := kL Z3e
def Zjj := kO ZqZ
def ZC5 := opN Zjj 0
theorem Z0hu : XG 28 54 ZqZ Zjj [] := Z1 (by rfl) (by rfl) _
theorem Z0bn : Zjj.toList = [ZC5] := nf
theorem Z04q : stepA E C B 54 Zjj ZC5 (φ, H) = stp (some 28) φ H (just (aBin E.T .lss 3 (fget φ 27) (fget φ 26))) := nf
def Zcf := kR Z3e
def ZeC := kL Zcf
def ZIN := kT ZeC
theorem Z0jH : execA E C (fg 28) B 54 E0 N ZIN s = some (.normal, s) := Zh (by rfl) s
def ZKx := kE ZeC
theorem Z0cc : execA E C (fg 28) B 54 E0 N ZKx s = some (.exit 1, s) := ZO (by rfl) s
theorem Z0d9 : XC 28 54 ZeC 28 ZIN ZKx := Zb (by rfl) _
def ZcV := kR Zcf
def Zm8 := kL ZcV
def ZdJ := kB Zm8
def Zoi := kL ZdJ
def Z4w := kO Zoi
def ZCj := opN Z4w 0
def ZEz := opN Z4w 1
def ZA2 := opN Z4w 2
theorem Z0eD : XG 28 54 Zoi Z4w [28, 29, 30] := Z1 (by rfl) (by rfl) _
theorem Z03E : Z4w.toList = [ZCj, ZEz, ZA2] := nf
theorem Z03i : stepA E C B 54 Z4w ZCj (φ, H) = stp (some 29) φ H (just (Z2 E.T 36 (fget φ 25) (fget φ 27))) := nf
theorem Z0aW : stepA E C B 54 Z4w ZEz (φ, H) = stp (some 30) φ H (just (aLoad E.T 3 (fget φ 29))) := nf
theorem Z04N : stepA E C B 54 Z4w ZA2 (φ, H) = some (fput φ 11 (fget φ 30), H) := nf
def Zfb := kR ZdJ
def ZmA := kL Zfb
def Zaz := kB ZmA
def Zrl := kL Zaz
def ZY := kO Zrl
def Zqm := opN ZY 0
def Zto := opN ZY 1
def Z29 := opN ZY 2
def ZxF := opN ZY 3
def Zqd := opN ZY 4
def Zty := opN ZY 5
def Zxn := opN ZY 6
def ZnE := opN ZY 7
def ZpA := opN ZY 8
def ZpL := opN ZY 9
theorem Z0h7 : XG 28 54 Zrl ZY [32, 33, 34, 35, 36, 37, 38, 39, 40] := Z1 (by rfl) (by rfl) _
theorem ZYd : ZY.toList = [Zqm, Zto, Z29, ZxF, Zqd, Zty, Zxn, ZnE, ZpA, ZpL] := nf
theorem ZM7 : stepA E C B 54 ZY Zqm (φ, H) = some (fput φ 32 (fget φ 11), H) := nf
theorem ZTE : stepA E C B 54 ZY Zto (φ, H) = stp (some 33) φ H (just (aBin E.T .lss 3 (fget φ 32) (.int .i64 0))) := nf
theorem ZWB : stepA E C B 54 ZY Z29 (φ, H) = some (fput φ 34 (fget φ 33), H) := nf
theorem ZNh : stepA E C B 54 ZY ZxF (φ, H) = gd φ 34 false (fun φ => some (fput φ 35 (.tup []), H)) (fun φ => some (fput φ 35 (fget φ 11), H)) := s_gd (j := 2) (oj := Z29) rfl rfl rfl (fun _ => rfl) (fun _ => rfl)
theorem ZPw : stepA E C B 54 ZY Zqd (φ, H) = gd φ 34 false (fun φ => some (fput φ 36 (.tup []), H)) (fun φ => stp (some 36) φ H (just (Z3 E.T 109 (fget φ 6) 0))) := s_gd (j := 2) (oj := Z29) rfl rfl rfl (fun _ => rfl) (fun _ => rfl)
theorem ZVp : stepA E C B 54 ZY Zty (φ, H) = gd φ 34 false (fun φ => some (fput φ 37 (.tup []), H)) (fun φ => stp (some 37) φ H (just (aLoad E.T 106 (fget φ 36)))) := s_gd (j := 2) (oj := Z29) rfl rfl rfl (fun _ => rfl) (fun _ => rfl)
theorem ZTf : stepA E C B 54 ZY Zxn (φ, H) = gd φ 34 false (fun φ => some (fput φ 38 (.tup []), H)) (fun φ => stp (some 38) φ H (Z4 E.T (B + 38) .len #[106] [(fget φ 37)])) := s_gd (j := 2) (oj := Z29) rfl rfl rfl (fun _ => rfl) (fun _ => rfl)
theorem ZNn : stepA E C B 54 ZY ZnE (φ, H) = gd φ 34 false (fun φ => some (fput φ 39 (.tup []), H)) (fun φ => stp (some 39) φ H (just (aBin E.T .geq 3 (fget φ 35) (fget φ 38)))) := s_gd (j := 2) (oj := Z29) rfl rfl rfl (fun _ => rfl) (fun _ => rfl)
theorem ZMb : stepA E C B 54 ZY ZpA (φ, H) = stp (some 40) φ H (opPick (fget φ 34) (.bool true) (fget φ 39)) := nf
theorem ZVm : stepA E C B 54 ZY ZpL (φ, H) = some (fput φ 31 (fget φ 40), H) := nf
def Zfg := kR Zaz
def ZeG := kT Zfg
def ZrA := kL ZeG
def Z58 := kO ZrA
def Zyv := opN Z58 0
def Zmh := opN Z58 1
theorem Z0cg : XG 28 54 ZrA Z58 [6, 8, 9, 11, 25, 26, 27, 31] := Z1 (by rfl) (by rfl) _
theorem ZPE : Z58.toList = [Zyv, Zmh] := nf
theorem ZO9 : stepA E C B 54 Z58 Zyv (φ, H) = some (fput φ 4 (.int .i64 0), H) := nf
theorem ZSo : stepA E C B 54 Z58 Zmh (φ, H) = some (fput φ 5 (.int .i64 2), H) := nf
def ZKT := kR ZeG
theorem Z0cL : execA E C (fg 28) B 54 E0 N ZKT s = some (.ret, s) := Zl (by rfl) s
theorem Z0iD : XQ 28 54 ZeG ZrA ZKT := Z0 (by rfl) _
def Zcc := kE Zfg
def Zul := kL Zcc
def Z1L := kO Zul
def Zpk := opN Z1L 0
def ZmY := opN Z1L 1
def ZwR := opN Z1L 2
def Zt3 := opN Z1L 3
theorem Z0bJ : XG 28 54 Zul Z1L [9, 31, 42, 43, 44] := Z1 (by rfl) (by rfl) _
theorem ZOz : Z1L.toList = [Zpk, ZmY, ZwR, Zt3] := nf
theorem ZY3 : stepA E C B 54 Z1L Zpk (φ, H) = some (fput φ 42 (fget φ 11), H) := nf
theorem ZWE : stepA E C B 54 Z1L ZmY (φ, H) = some (fput φ 43 (fget φ 9), H) := nf
theorem ZNY : stepA E C B 54 Z1L ZwR (φ, H) = stp (some 44) φ H (just (aBin E.T .leq 3 (fget φ 42) (fget φ 43))) := nf
theorem ZRU : stepA E C B 54 Z1L Zt3 (φ, H) = some (fput φ 41 (fget φ 44), H) := nf
def Zbc := kR Zcc
def Zbn := kT Zbc
def ZlL := kL Zbn
def Z5h := kO ZlL
def ZrB := opN Z5h 0
def Zvg := opN Z5h 1
theorem Z0dH : XG 28 54 ZlL Z5h [6, 8, 11, 25, 26, 27, 41] := Z1 (by rfl) (by rfl) _
theorem ZSt : Z5h.toList = [ZrB, Zvg] := nf
theorem ZVb : stepA E C B 54 Z5h ZrB (φ, H) = some (fput φ 4 (.int .i64 0), H) := nf
theorem ZLR : stepA E C B 54 Z5h Zvg (φ, H) = some (fput φ 5 (.int .i64 7), H) := nf
def ZIK := kR Zbn
theorem Z0fH : execA E C (fg 28) B 54 E0 N ZIK s = some (.ret, s) := Zl (by rfl) s
theorem Z0iz : XQ 28 54 Zbn ZlL ZIK := Z0 (by rfl) _
def ZIb := kE Zbc
theorem Z0iv : execA E C (fg 28) B 54 E0 N ZIb s = some (.normal, s) := Zh (by rfl) s
theorem Z0e3 : XC 28 54 Zbc 41 Zbn ZIb := Zb (by rfl) _
theorem Z0eg : XQ 28 54 Zcc Zul Zbc := Z0 (by rfl) _
theorem Z0iA : XC 28 54 Zfg 31 ZeG Zcc := Zb (by rfl) _
theorem Z0cn : XQ 28 54 Zaz Zrl Zfg := Z0 (by rfl) _
theorem Z0ce : execA E C (fg 28) B 54 E0 N ZmA s = blockX 3 (fun s => (forget s.1 [41], s.2)) (execA E C (fg 28) B 54 E0 N Zaz s) := Za (by rfl) (by rfl) s
def Zva := kR Zfb
def Z0s := kO Zva
def ZwW := opN Z0s 0
def ZtE := opN Z0s 1
def ZoA := opN Z0s 2
def ZxD := opN Z0s 3
def Zmp := opN Z0s 4
def Znv := opN Z0s 5
def ZnY := opN Z0s 6
theorem Z0ej : XG 28 54 Zva Z0s [11, 45, 46, 47, 48, 49] := Z1 (by rfl) (by rfl) _
theorem ZQl : Z0s.toList = [ZwW, ZtE, ZoA, ZxD, Zmp, Znv, ZnY] := nf
theorem ZOu : stepA E C B 54 Z0s ZwW (φ, H) = some (fput φ 45 (fget φ 8), H) := nf
theorem ZXK : stepA E C B 54 Z0s ZtE (φ, H) = some (fput φ 46 (fget φ 11), H) := nf
theorem ZNi : stepA E C B 54 Z0s ZoA (φ, H) = stp (some 47) φ H (just (aBin E.T .shl 121 (.int .u64 1) (fget φ 46))) := nf
theorem ZZ7 : stepA E C B 54 Z0s ZxD (φ, H) = stp (some 48) φ H (just (aBin E.T .or 121 (fget φ 45) (fget φ 47))) := nf
theorem ZSM : stepA E C B 54 Z0s Zmp (φ, H) = some (fput φ 49 (fget φ 11), H) := nf
theorem ZOF : stepA E C B 54 Z0s Znv (φ, H) = some (fput φ 8 (fget φ 48), H) := nf
theorem ZZ1 : stepA E C B 54 Z0s ZnY (φ, H) = some (fput φ 9 (fget φ 49), H) := nf
theorem Z0dL : XQ 28 54 Zfb ZmA Zva := Z0 (by rfl) _
theorem Z0ip : XQ 28 54 ZdJ Zoi Zfb := Z0 (by rfl) _
theorem Z0fq : execA E C (fg 28) B 54 E0 N Zm8 s = blockX 2 (fun s => (forget s.1 [], s.2)) (execA E C (fg 28) B 54 E0 N ZdJ s) := Za (by rfl) (by rfl) s
def ZuE := kR ZcV
def Z5i := kO ZuE
def Zla := opN Z5i 0
def ZlA := opN Z5i 1
theorem Z0c2 : XG 28 54 ZuE Z5i [50] := Z1 (by rfl) (by rfl) _
theorem ZME : Z5i.toList = [Zla, ZlA] := nf
theorem ZO8 : stepA E C B 54 Z5i Zla (φ, H) = stp (some 50) φ H (just (aBin E.T .add 3 (fget φ 27) (.int .i64 1))) := nf
theorem ZOf : stepA E C B 54 Z5i ZlA (φ, H) = some (fput φ 27 (fget φ 50), H) := nf
theorem Z0hv : XQ 28 54 ZcV Zm8 ZuE := Z0 (by rfl) _
theorem Z0c8 : XQ 28 54 Zcf ZeC ZcV := Z0 (by rfl) _
theorem Z0jn : XQ 28 54 Z3e ZqZ Zcf := Z0 (by rfl) _
theorem Z0d3 : execA E C (fg 28) B 54 E0 N Zw9 s = iterA (execA E C (fg 28) B 54 E0 N Z3e) (headA E0) N s := ZN (by rfl) s
theorem Z0fn : execA E C (fg 28) B 54 E0 N ZqQ s = blockX 1 (fun s => (forget s.1 [9, 25, 26, 27, 28], s.2)) (execA E C (fg 28) B 54 E0 N Zw9 s) := Za (by rfl) (by rfl) s
theorem Z0h2 : XQ 28 54 Zcy Zqz ZqQ := Z0 (by rfl) _
def Zc1 := kR ZaM
def Zni := kL Zc1
def Z1h := kO Zni
def ZpK := opN Z1h 0
def Zyo := opN Z1h 1
def Zqv := opN Z1h 2
def ZkX := opN Z1h 3
def Zuk := opN Z1h 4
theorem Z0eo : XG 28 54 Zni Z1h [6, 8, 51, 52, 53] := Z1 (by rfl) (by rfl) _
theorem ZY1 : Z1h.toList = [ZpK, Zyo, Zqv, ZkX, Zuk] := nf
theorem ZT3 : stepA E C B 54 Z1h ZpK (φ, H) = stp (some 51) φ H (just (aLoad E.T 109 (fget φ 6))) := nf
theorem ZY7 : stepA E C B 54 Z1h Zyo (φ, H) = some (fput φ 52 (fget φ 8), H) := nf
theorem ZRJ : stepA E C B 54 Z1h Zqv (φ, H) = stp (some 53) φ H (aCall C (fun j => B + j * 54 + 53) true 101 [(fget φ 51), (fget φ 52)]) := nf
theorem ZR0 : stepA E C B 54 Z1h ZkX (φ, H) = some (fput φ 4 (fget φ 53), H) := nf
theorem ZRY : stepA E C B 54 Z1h Zuk (φ, H) = some (fput φ 5 (.int .i64 0), H) := nf
def ZLj := kR Zc1
theorem Z0d2 : execA E C (fg 28) B 54 E0 N ZLj s = some (.ret, s) := Zl (by rfl) s
theorem Z0gi : XQ 28 54 Zc1 Zni ZLj := Z0 (by rfl) _
theorem Z0bR : XQ 28 54 ZaM Zcy Zc1 := Z0 (by rfl) _
theorem Z0ew : XQ 28 54 Zdn Zrr ZaM := Z0 (by rfl) _
theorem Z0nx : XQ 28 54 Zj3 ZGZ Zdn := Z0 (by rfl) _
theorem Z0nf : XQ 28 54 ZjH ZFH Zj3 := Z0 (by rfl) _
theorem Z0mx : XQ 28 54 Zb7 ZHm ZjH := Z0 (by rfl) _
theorem Z0lM : fInfo E 28 = some ⟨54, #[.tmp 4, .tmp 5], Zb7⟩ := nf
theorem b_28 (args : List AV) : bodyA E C fg N 28 args H B = bodyX E [.tmp 4, .tmp 5] (execA E C (fg 28) B 54 H N Zb7 (Z7 args 0 [], H)) := Zn Z0lM args H
abbrev F_28 := And.intro (And.intro (And.intro (And.intro (And.intro (And.intro (And.intro @Z0nv @Z0aw) (And.intro @Z09K @Z04W)) (And.intro (And.intro @Z048 @Z0nH) (And.intro @Z01d @Z01x))) (And.intro (And.intro (And.intro @Z05L @Z023) (And.intro @Z079 @Z08H)) (And.intro (And.intro @Z04U @Z05i) (And.intro @Z03k (And.intro @Z0kY @Z07s))))) (And.intro (And.intro (And.intro (And.intro @Z01p @Z05F) (And.intro @Z02f @Z0go)) (And.intro (And.intro @Z02J @Z02P) (And.intro @Z07h @Z08R))) (And.intro (And.intro (And.intro @Z0iU @Z0mM) (And.intro @Z0hJ @Z01C)) (And.intro (And.intro @Z00r @Z01D) (And.intro @Z06H (And.intro @Z03L @Z0jV)))))) (And.intro (And.intro (And.intro (And.intro (And.intro @Z00Y @Z07F) (And.intro @Z04S @Z0fN)) (And.intro (And.intro @Z0e6 @Z0ec) (And.intro @Z0jY @Z0eu))) (And.intro (And.intro (And.intro @Z0li @Z0ku) (And.intro @Z0kg @Z0eJ)) (And.intro (And.intro @Z06m @Z00V) (And.intro @Z07f (And.intro @Z0j1 @Z08p))))) (And.intro (And.intro (And.intro (And.intro @Z064 @Z04Y) (And.intro @Z00w @Z0hu)) (And.intro (And.intro @Z0bn @Z04q) (And.intro @Z0jH (And.intro @Z0cc @Z0d9)))) (And.intro (And.intro (And.intro @Z0eD @Z03E) (And.intro @Z03i @Z0aW)) (And.intro (And.intro @Z04N @Z0h7) (And.intro @ZYd (And.intro @ZM7 @ZTE))))))) (And.intro (And.intro (And.intro (And.intro (And.intro (And.intro @ZWB @ZNh) (And.intro @ZPw @ZVp)) (And.intro (And.intro @ZTf @ZNn) (And.intro @ZMb @ZVm))) (And.intro (And.intro (And.intro @Z0cg @ZPE) (And.intro @ZO9 @ZSo)) (And.intro (And.intro @Z0cL @Z0iD) (And.intro @Z0bJ (And.intro @ZOz @ZY3))))) (And.intro (And.intro (And.intro (And.intro @ZWE @ZNY) (And.intro @ZRU @Z0dH)) (And.intro (And.intro @ZSt @ZVb) (And.intro @ZLR @Z0fH))) (And.intro (And.intro (And.intro @Z0iz @Z0iv) (And.intro @Z0e3 @Z0eg)) (And.intro (And.intro @Z0iA @Z0cn) (And.intro @Z0ce (And.intro @Z0ej @ZQl)))))) (And.intro (And.intro (And.intro (And.intro (And.intro @ZOu @ZXK) (And.intro @ZNi @ZZ7)) (And.intro (And.intro @ZSM @ZOF) (And.intro @ZZ1 @Z0dL))) (And.intro (And.intro (And.intro @Z0ip @Z0fq) (And.intro @Z0c2 @ZME)) (And.intro (And.intro @ZO8 @ZOf) (And.intro @Z0hv (And.intro @Z0c8 @Z0jn))))) (And.intro (And.intro (And.intro (And.intro @Z0d3 @Z0fn) (And.intro @Z0h2 @Z0eo)) (And.intro (And.intro @ZY1 @ZT3) (And.intro @ZY7 (And.intro @ZRJ @ZR0)))) (And.intro (And.intro (And.intro @ZRY @Z0d2) (And.intro @Z0gi @Z0bR)) (And.intro (And.intro @Z0ew @Z0nx) (And.intro @Z0nf (And.intro @Z0mx @b_28)))))))
def Ze0 := kBody Proofs.Tryd.f32
def ZGz := kL Ze0
def Z89 := kO ZGz
def ZCG := opN Z89 0
def ZEY := opN Z89 1
theorem Z0nd : XG 32 23 ZGz Z89 [0, 6] := Z1 (by rfl) (by rfl) _
theorem Z04V : Z89.toList = [ZCG, ZEY] := nf
theorem Z05S : stepA E C B 23 Z89 ZCG (φ, H) = stp (some 3) φ H (opBox (B + 3) (acells (fget φ 0))) := nf
theorem Z01c : stepA E C B 23 Z89 ZEY (φ, H) = some (fput φ 6 (.int .i64 0), H) := nf
def ZjW := kR Ze0
def ZHl := kL ZjW
def Z0C := kO ZHl
def ZDF := opN Z0C 0
def ZzI := opN Z0C 1
def ZA3 := opN Z0C 2
def ZCY := opN Z0C 3
def ZzZ := opN Z0C 4
def ZDo := opN Z0C 5
def ZzH := opN Z0C 6
def ZAo := opN Z0C 7
theorem Z0lE : XG 32 23 ZHl Z0C [2, 3, 9, 10, 11, 12, 13, 14] := Z1 (by rfl) (by rfl) _
theorem Z03c : Z0C.toList = [ZDF, ZzI, ZA3, ZCY, ZzZ, ZDo, ZzH, ZAo] := nf
theorem Z071 : stepA E C B 23 Z0C ZDF (φ, H) = stp (some 10) φ H (just (aLoad E.T 25 (fget φ 3))) := nf
theorem Z0bg : stepA E C B 23 Z0C ZzI (φ, H) = some (fput φ 11 (fget φ 2), H) := nf
theorem Z01F : stepA E C B 23 Z0C ZA3 (φ, H) = stp (some 12) φ H (aCall C (fun j => B + j * 23 + 12) true 28 [(fget φ 10), (fget φ 11)]) := nf
theorem Z00Q : stepA E C B 23 Z0C ZCY (φ, H) = some (fput φ 9 (fget φ 12), H) := nf
theorem Z07j : stepA E C B 23 Z0C ZzZ (φ, H) = stp (some 13) φ H (ZG (fget φ 9) 0) := nf
theorem Z01y : stepA E C B 23 Z0C ZDo (φ, H) = stp (some 14) φ H (ZG (fget φ 9) 1) := nf
theorem Z0aT : stepA E C B 23 Z0C ZzH (φ, H) = some (fput φ 7 (fget φ 13), H) := nf
theorem Z09J : stepA E C B 23 Z0C ZAo (φ, H) = some (fput φ 8 (fget φ 14), H) := nf
def ZjF := kR ZjW
def ZFP := kL ZjF
def Zjp := kB ZFP
def ZGm := kL Zjp
def Z4P := kO ZGm
def ZzT := opN Z4P 0
def ZCk := opN Z4P 1
def ZzS := opN Z4P 2
theorem Z0lJ : XG 32 23 ZGm Z4P [16, 17] := Z1 (by rfl) (by rfl) _
theorem Z07y : Z4P.toList = [ZzT, ZCk, ZzS] := nf
theorem Z03X : stepA E C B 23 Z4P ZzT (φ, H) = some (fput φ 16 (fget φ 8), H) := nf
theorem Z086 : stepA E C B 23 Z4P ZCk (φ, H) = stp (some 17) φ H (just (aBin E.T .neq 32 (fget φ 16) (.int .i64 0))) := nf
theorem Z09y : stepA E C B 23 Z4P ZzS (φ, H) = some (fput φ 15 (fget φ 17), H) := nf
def ZjV := kR Zjp
def Zjz := kT ZjV
def ZvI := kL Zjz
def Z8M := kO ZvI
def ZFv := opN Z8M 0
def ZBc := opN Z8M 1
theorem Z0kb : XG 32 23 ZvI Z8M [1, 7, 8, 15, 18] := Z1 (by rfl) (by rfl) _
theorem Z08E : Z8M.toList = [ZFv, ZBc] := nf
theorem Z06S : stepA E C B 23 Z8M ZFv (φ, H) = some (fput φ 18 (fget φ 8), H) := nf
theorem Z09z : stepA E C B 23 Z8M ZBc (φ, H) = some (fput φ 6 (fget φ 18), H) := nf
def ZKD := kR Zjz
theorem Z0bq : execA E C (fg 32) B 23 E0 N ZKD s = some (.ret, s) := Zl (by rfl) s
theorem Z0la : XQ 32 23 Zjz ZvI ZKD := Z0 (by rfl) _
def Zcg := kE ZjV
def ZnP := kL Zcg
def Z2K := kO ZnP
def Zzo := opN Z2K 0
def ZF9 := opN Z2K 1
def ZB4 := opN Z2K 2
def ZAn := opN Z2K 3
theorem Z0i2 : XG 32 23 ZnP Z2K [1, 7, 8, 15, 20, 21, 22] := Z1 (by rfl) (by rfl) _
theorem Z02l : Z2K.toList = [Zzo, ZF9, ZB4, ZAn] := nf
theorem Z00b : stepA E C B 23 Z2K Zzo (φ, H) = some (fput φ 20 (fget φ 7), H) := nf
theorem Z07R : stepA E C B 23 Z2K ZF9 (φ, H) = some (fput φ 21 (fget φ 1), H) := nf
theorem Z09p : stepA E C B 23 Z2K ZB4 (φ, H) = stp (some 22) φ H (just (aBin E.T .lss 3 (fget φ 20) (fget φ 21))) := nf
theorem Z00p : stepA E C B 23 Z2K ZAn (φ, H) = some (fput φ 19 (fget φ 22), H) := nf
def ZeD := kR Zcg
def ZaJ := kT ZeD
def Zpl := kL ZaJ
def ZiX := kO Zpl
def ZDs := opN ZiX 0
theorem Z0dW : XG 32 23 Zpl ZiX [19] := Z1 (by rfl) (by rfl) _
theorem Z04e : ZiX.toList = [ZDs] := nf
theorem Z0aQ : stepA E C B 23 ZiX ZDs (φ, H) = some (fput φ 6 (.int .i64 14), H) := nf
def ZLr := kR ZaJ
theorem Z0io : execA E C (fg 32) B 23 E0 N ZLr s = some (.ret, s) := Zl (by rfl) s
theorem Z0hd : XQ 32 23 ZaJ Zpl ZLr := Z0 (by rfl) _
def ZIc := kE ZeD
theorem Z0dF : execA E C (fg 32) B 23 E0 N ZIc s = some (.normal, s) := Zh (by rfl) s
theorem Z0hN : XC 32 23 ZeD 19 ZaJ ZIc := Zb (by rfl) _
theorem Z0gd : XQ 32 23 Zcg ZnP ZeD := Z0 (by rfl) _
theorem Z0mm : XC 32 23 ZjV 15 Zjz Zcg := Zb (by rfl) _
theorem Z0lo : XQ 32 23 Zjp ZGm ZjV := Z0 (by rfl) _
theorem Z0lI : execA E C (fg 32) B 23 E0 N ZFP s = blockX 0 (fun s => (forget s.1 [19], s.2)) (execA E C (fg 32) B 23 E0 N Zjp s) := Za (by rfl) (by rfl) s
def ZcU := kR ZjF
def ZkO := kL ZcU
def Zju := kO ZkO
def ZDL := opN Zju 0
theorem Z0fD : XG 32 23 ZkO Zju [] := Z1 (by rfl) (by rfl) _
theorem Z010 : Zju.toList = [ZDL] := nf
theorem Z0ak : stepA E C B 23 Zju ZDL (φ, H) = some (fput φ 6 (.int .i64 0), H) := nf
def ZI7 := kR ZcU
theorem Z0dh : execA E C (fg 32) B 23 E0 N ZI7 s = some (.ret, s) := Zl (by rfl) s
theorem Z0el : XQ 32 23 ZcU ZkO ZI7 := Z0 (by rfl) _
theorem Z0mz : XQ 32 23 ZjF ZFP ZcU := Z0 (by rfl) _
theorem Z0lZ : XQ 32 23 ZjW ZHl ZjF := Z0 (by rfl) _
theorem Z0lu : XQ 32 23 Ze0 ZGz ZjW := Z0 (by rfl) _
theorem Z0mE : fInfo E 32 = some ⟨23, #[.tmp 6], Ze0⟩ := nf
theorem b_32 (args : List AV) : bodyA E C fg N 32 args H B = bodyX E [.tmp 6] (execA E C (fg 32) B 23 H N Ze0 (Z7 args 0 [], H)) := Zn Z0mE args H
abbrev F_32 := And.intro (And.intro (And.intro (And.intro (And.intro @Z0nd (And.intro @Z04V @Z05S)) (And.intro @Z01c (And.intro @Z0lE @Z03c))) (And.intro (And.intro @Z071 (And.intro @Z0bg @Z01F)) (And.intro @Z00Q (And.intro @Z07j @Z01y)))) (And.intro (And.intro (And.intro @Z0aT (And.intro @Z09J @Z0lJ)) (And.intro @Z07y (And.intro @Z03X @Z086))) (And.intro (And.intro @Z09y (And.intro @Z0kb @Z08E)) (And.intro (And.intro @Z06S @Z09z) (And.intro @Z0bq @Z0la))))) (And.intro (And.intro (And.intro (And.intro @Z0i2 (And.intro @Z02l @Z00b)) (And.intro @Z07R (And.intro @Z09p @Z00p))) (And.intro (And.intro @Z0dW (And.intro @Z04e @Z0aQ)) (And.intro (And.intro @Z0io @Z0hd) (And.intro @Z0dF @Z0hN)))) (And.intro (And.intro (And.intro @Z0gd (And.intro @Z0mm @Z0lo)) (And.intro @Z0lI (And.intro @Z0fD @Z010))) (And.intro (And.intro @Z0ak (And.intro @Z0dh @Z0el)) (And.intro (And.intro @Z0mz @Z0lZ) (And.intro @Z0lu @b_32)))))
end Go.AM.YtgfnbmfjbjopkaaDoor
end
noncomputable section
namespace Go.AM.YtgfnbmfjbjopkaaDoor
open Go Go.AM Go.AM.Mule
def cF (ls : List Ld) (i : Nat) (day : Int) : Int := ldC (ls.getD i default) day
theorem Z0lw {ls : List Ld} {B : List Nat} {n : Nat} (h : TrOk ls B n) {i : Nat} (hi : i < n) : ∃ l, ls[i]? = some l ∧ LdOk l ∧ ∀ day, cF ls i day = ldC l day := by
 have hl : i < ls.length := by rw [h.l]; exact hi
 refine ⟨ls[i], List.getElem?_eq_getElem hl, h.ld _ (List.getElem_mem hl), fun day => ?_⟩
 simp [cF, hl]
def mxv (x y : Int) : Int := if y > x then y else x
theorem Z0ir {B : List Nat} {s i : Nat} (h : i ∈ lsL B s) : i ∈ lst s := (List.mem_filter.1 h).1
theorem Z0mB {B : List Nat} (hT : Ord (bit B)) {s : Nat} (hs : s < 64) (h0 : s ≠ 0) : lsL B s ≠ [] := by
 obtain ⟨i, hi⟩ := Zpr hT (S := lst s) (fun e => h0 ((Z9F s hs).1 e))
 intro e
 rw [lsL] at e
 rw [e] at hi
 simp at hi
theorem ZI0 {a b n : Nat} (h : a < 2 ^ n) : a &&& b < 2 ^ n := Nat.lt_of_le_of_lt Nat.and_le_left h
theorem Z2r {n : Nat} (h : n ≤ 1000000) : roomOk E.T 3 n = true := by
 simp only [roomOk, T_3, decide_eq_true_eq]; exact ⟨by decide, rfl, by omega⟩
end Go.AM.YtgfnbmfjbjopkaaDoor
end
noncomputable section
namespace Go.AM.YtgfnbmfjbjopkaaDoor
open Go Go.AM Go.AM.Mule
def SV {α : Type} (f : α → List AV) (l : List α) (a : AV) : Prop := (l = [] ∧ a = .nilsl) ∨ ∃ ex, a = .imm (cls f l) l.length ex
abbrev Pr := Int × Int
def bc (p : Pr) : List AV := [.int .i64 p.1, .int .i64 p.2]
theorem Z00 (p : Pr) : (bc p).length = 2 := rfl
theorem Z08b {C : Callee} {l : Ld} : rsOf (bodyA E C fg 1000 126 [.agg (lc l)] [] 0) = some (.agg (lc l)) := by
 simp (disch := omega) only [ZF, Z7, stp, opBox, justO, just, Rd.bind, Rd.run, Rd.opt, upds, acells, zeroCells, tsz, rdCells, fieldOf, Z3, aLoad, aStore, opStore, resA, resL, fresh, putC, evO, Nat.reduceAdd, Nat.reduceGT, Nat.reduceBEq, Nat.reduceEqDiff, Nat.reduceLeDiff, ↓reduceIte, reduceCtorEq, partsOf, fillA, snaps, aBuild, ZT, Z0n8, lc, putC]
def cl (lo hi x : Int) : Int := if hi < (if lo > x then lo else x) then hi else (if lo > x then lo else x)
def wiL (l : Ld) : List Int := [cl 1 9 l.lo, cl 1 9 l.hi, cl 0 54 l.due, cl 0 9 l.rate, cl 0 20 l.base]
theorem ZGX {C : Callee} {a b c d e : Int} : rsOf (bodyA E C fg 1000 127 [.agg [.int .i64 a, .int .i64 b, .int .i64 c, .int .i64 d, .int .i64 e]] [] 0) = some (.agg (ics [cl 1 9 a, cl 1 9 b, cl 0 54 c, cl 0 9 d, cl 0 20 e])) := by kernel_rfl
def ldI (l : Ld) : List Int := [l.lo, l.hi, l.due, l.rate, l.base]
theorem Z6q : ∀ (xs ys : List Int), xs.length = ys.length → eqInts .i64 (ics xs) (ics ys) = some (decide (xs = ys))
 | [], [], _ => rfl
 | [], _ :: _, h => by simp at h
 | _ :: _, [], h => by simp at h
 | x :: xs, y :: ys, h => by
   have ih := Z6q xs ys (by simpa using h)
   simp only [ics] at ih
   simp only [ics, List.map_cons, eqInts, and_self, if_true, ih, List.cons.injEq]
   by_cases e : x = y
   · subst e; simp
   · have : (x == y) = false := by rw [beq_eq_false_iff_ne]; exact e
     simp [this, e]
def ldB (l : Ld) : Bool := decide ((1 ≤ l.lo ∧ l.lo ≤ 9) ∧ (1 ≤ l.hi ∧ l.hi ≤ 9) ∧ (0 ≤ l.due ∧ l.due ≤ 54) ∧ (0 ≤ l.rate ∧ l.rate ≤ 9) ∧ (0 ≤ l.base ∧ l.base ≤ 20))
theorem ZKh {l : Ld} : ldB l = true ↔ LdOk l := by
 simp only [ldB, decide_eq_true_eq]
 exact ⟨fun ⟨a, b, c, d, e⟩ => ⟨a, b, c, d, e⟩, fun ⟨a, b, c, d, e⟩ => ⟨a, b, c, d, e⟩⟩
theorem Zjo {lo hi x : Int} (h : lo ≤ hi) : x = cl lo hi x ↔ lo ≤ x ∧ x ≤ hi := by
 unfold cl; split <;> split <;> omega
theorem ZZI (l : Ld) : eqArr E.T 126 (lc l) (ics (wiL l)) = some (ldB l) := by
 have e : lc l = ics (ldI l) := rfl
 rw [e]
 simp only [eqArr, ZGa, T_3, Zj]
 rw [Z6q (ldI l) (wiL l) rfl]
 simp only [ldI, wiL, List.length_cons, List.length_nil, ldB, List.cons.injEq, Zjo (show (1 : Int) ≤ 9 by omega), Zjo (show (0 : Int) ≤ 54 by omega), Zjo (show (0 : Int) ≤ 9 by omega), Zjo (show (0 : Int) ≤ 20 by omega), and_true, if_true]
theorem ZyK {d : Nat} {site : Nat → Nat} {seen : List Nat} {l : Ld} : aBack site true seen (thaw (callA E fg 1000 (d + 1)) 127 [.agg (lc l)] [] 0) = .pure (.agg (ics (wiL l)), []) := by
 obtain ⟨H, h⟩ := ZV (ZGX (C := callA E fg 1000 d) (a := l.lo) (b := l.hi) (c := l.due) (d := l.rate) (e := l.base))
 exact Z0l (H' := H) h rfl (fun _ => rfl) rfl
theorem ZWM {d : Nat} {site : Nat → Nat} {seen : List Nat} {l : Ld} : aBack site true seen (thaw (callA E fg 1000 (d + 1)) 126 [.agg (lc l)] [] 0) = .pure (.agg (lc l), []) := by
 obtain ⟨H, h⟩ := ZV (Z08b (C := callA E fg 1000 d) (l := l))
 exact Z0l (H' := H) h rfl (fun _ => rfl) rfl
theorem ZZS (p q : Pr) : eqArr E.T 64 (bc p) (bc q) = some (decide (p = q)) := by
 have e : ∀ p : Pr, bc p = ics [p.1, p.2] := fun _ => rfl
 rw [e, e]
 simp only [eqArr, T_64, T_3, Zj]
 rw [Z6q [p.1, p.2] [q.1, q.2] rfl]
 obtain ⟨a, b⟩ := p
 obtain ⟨c, d⟩ := q
 simp only [List.length_cons, List.length_nil, List.cons.injEq, Prod.mk.injEq, and_true, if_true]
theorem Z00U {C : Callee} {l : List Pr} {q : Pr} {ex : Bool} (hl : l.length < 900) :
   rsOf (bodyA E C fg 1000 123 [.imm (cls bc l) l.length ex, .agg (bc q)] [] 0) = some (.int .i64 (if l.findIdx (fun p => decide (q = p)) < l.length then (l.findIdx (fun p => decide (q = p)) : Int) else -1)) := by
 have hle := List.findIdx_le_length (xs := l) (p := fun p => decide (q = p))
 have hlen : (cls bc l).length = l.length * 2 := Z9 Z00 l
 have hlo : ∀ i, i < l.findIdx (fun p => decide (q = p)) → ∃ s', (execA E C (fg 123) 0 19 [] 1000 Z4q) ([(8, .int .i64 i), (7, .int .i64 l.length), (3, .ptr 3 0 2), (0, .imm (cls bc l) l.length ex)], [(3, ⟨.box, bc q⟩)]) = some (.normal, s') ∧
     headA [] s' = ([(8, .int .i64 (i + 1 : Nat)), (7, .int .i64 l.length), (3, .ptr 3 0 2), (0, .imm (cls bc l) l.length ex)], [(3, ⟨.box, bc q⟩)]) := by
   intro i hi
   have hil : i < l.length := by omega
   have hp := List.not_of_lt_findIdx hi
   have hq := ZZS q l[i]
   have hat := Z0T Z00 (List.getElem?_eq_getElem hil)
   generalize l[i] = p at *
   have g1 : (i : Int) < l.length := by omega
   rw [show decide (q = p) = false by simpa using hp] at hq
   simp only [bc] at hat hq ⊢
   simp (disch := omega) only [ZF, stp, just, Rd.bind, Rd.run, Rd.opt, upds, tsz, rdCells, aLoad, Z2, aNum, aBin, aInt, Nat.reduceAdd, Nat.reduceLT, Nat.reduceBEq, Nat.reduceEqDiff, Nat.reduceLeDiff, ↓reduceIte, reduceCtorEq, stpT, Rd.foot, writing, Ze, Tr.empty, Zg, apartT, disj, ZT, ZaD, g1, hat, hlen, hq, if_pos, Zc (show i < 1000000 by omega)]
   exact ⟨_, rfl, rfl⟩
 by_cases hlt : l.findIdx (fun p => decide (q = p)) < l.length
 · rw [if_pos hlt]
   have hp := List.findIdx_getElem (xs := l) (p := fun p => decide (q = p)) (w := hlt)
   have hq := ZZS q l[l.findIdx (fun p => decide (q = p))]
   have hat := Z0T Z00 (List.getElem?_eq_getElem hlt)
   have hp' : decide (q = l[l.findIdx (fun p => decide (q = p))]) = true := hp
   rw [hp'] at hq
   clear hp hp'
   generalize l[l.findIdx (fun p => decide (q = p))] = p at *
   generalize l.findIdx (fun p => decide (q = p)) = m at *
   have g1 : (m : Int) < l.length := by omega
   simp only [bc] at hat hq hlo ⊢
   have hloop := loopN (f := (execA E C (fg 123) 0 19 [] 1000 Z4q)) (fun i => ([(8, .int .i64 i), (7, .int .i64 l.length), (3, .ptr 3 0 2), (0, .imm (cls bc l) l.length ex)], [(3, ⟨.box, [.int .i64 q.1, .int .i64 q.2]⟩)])) m hlo rfl (by omega)
     (e := .ret) (se := ([(4, .int .i64 m)], [(3, ⟨.box, [.int .i64 q.1, .int .i64 q.2]⟩)]))
     (by simp (disch := omega) only [ZF, stp, just, Rd.bind, Rd.run, Rd.opt, upds, tsz, rdCells, aLoad, Z2, aNum, aBin, aInt, Nat.reduceAdd, Nat.reduceLT, Nat.reduceBEq, Nat.reduceEqDiff, Nat.reduceLeDiff, ↓reduceIte, reduceCtorEq, stpT, Rd.foot, writing, Ze, Tr.empty, Zg, apartT, disj, ZT, ZaD, g1, hat, hlen, hq, if_pos]) (by simp)
   simp only [cl0] at hloop
   simp (disch := omega) only [ZF, Z7, stp, opBox, just, Rd.bind, Rd.run, upds, acells, resA, resL, fresh, aLen, Z4, Nat.reduceAdd, Nat.reduceBEq, Nat.reduceEqDiff, Nat.reduceLeDiff, ↓reduceIte, reduceCtorEq, ZT, ZaD, hloop]
 · rw [if_neg hlt]
   have e : l.findIdx (fun p => decide (q = p)) = l.length := by omega
   simp only [bc] at hlo ⊢
   have hloop := loopN (f := (execA E C (fg 123) 0 19 [] 1000 Z4q)) (fun i => ([(8, .int .i64 i), (7, .int .i64 l.length), (3, .ptr 3 0 2), (0, .imm (cls bc l) l.length ex)], [(3, ⟨.box, [.int .i64 q.1, .int .i64 q.2]⟩)])) l.length (fun i hi => hlo i (by omega)) rfl (by omega)
     (e := .exit 0) (se := ([(9, .bool false), (8, .int .i64 l.length), (7, .int .i64 l.length), (3, .ptr 3 0 2), (0, .imm (cls bc l) l.length ex)], [(3, ⟨.box, [.int .i64 q.1, .int .i64 q.2]⟩)]))
     (by simp (disch := omega) only [ZF, stp, just, Rd.bind, Rd.run, Rd.opt, upds, aBin, aInt, Nat.reduceEqDiff, Nat.reduceLeDiff, ↓reduceIte, ZaD]) (by simp)
   simp only [cl0] at hloop
   simp (disch := omega) only [ZF, Z7, stp, opBox, just, Rd.bind, Rd.run, upds, acells, resA, resL, fresh, aLen, Z4, Nat.reduceAdd, Nat.reduceBEq, Nat.reduceEqDiff, Nat.reduceLeDiff, Int.reduceNeg, ↓reduceIte, reduceCtorEq, ZT, ZaD, hloop]
theorem ZPL {d : Nat} {l : List Pr} {q : Pr} {ex : Bool} {site : Nat → Nat} {seen : List Nat} (hl : l.length < 900) :
   aBack site true seen (thaw (callA E fg 1000 (d + 1)) 123 [.imm (cls bc l) l.length ex, .agg (bc q)] [] 0) = .pure (.int .i64 (if l.findIdx (fun p => decide (q = p)) < l.length then (l.findIdx (fun p => decide (q = p)) : Int) else -1), []) :=
 ZE (ZV (Z00U hl))
theorem Z056 {d : Nat} {l : List Pr} {q : Pr} {ex : Bool} (hl : l.length < 900) :
   rsOf (bodyA E (callA E fg 1000 (d + 1)) fg 1000 79 [.imm (cls bc l) l.length ex, .agg (bc q)] [] 0) = some (.bool (decide (q ∈ l))) := by
 have hc := fun (site : Nat → Nat) seen => ZPL (d := d) (ex := ex) (q := q) (site := site) (seen := seen) hl
 have e : decide (q ∈ l) = decide ((if l.findIdx (fun p => decide (q = p)) < l.length then (l.findIdx (fun p => decide (q = p)) : Int) else -1) ≥ 0) := by
   refine decide_eq_decide.2 ?_
   have := List.findIdx_lt_length (xs := l) (p := fun p => decide (q = p))
   have h2 : (∃ x, x ∈ l ∧ decide (q = x) = true) ↔ q ∈ l := by simp
   rw [← h2, ← this]
   split <;> omega
 rw [e]
 generalize (if l.findIdx (fun p => decide (q = p)) < l.length then (l.findIdx (fun p => decide (q = p)) : Int) else -1) = z at *
 simp only [bc] at hc ⊢
 generalize callA E fg 1000 (d + 1) = C at *
 simp (disch := omega) only [ZF, Z7, stp, opBox, just, Rd.bind, Rd.run, Rd.opt, upds, acells, rdCells, aLoad, resA, resL, fresh, aBin, aInt, Nat.reduceAdd, Nat.reduceBEq, Nat.reduceEqDiff, Nat.reduceLeDiff, ↓reduceIte, reduceCtorEq, aCall, snaps, ZT, F_79, hc]
theorem ZPH {d : Nat} {l : List Pr} {q : Pr} {ex : Bool} {site : Nat → Nat} {seen : List Nat} (hl : l.length < 900) :
   aBack site true seen (thaw (callA E fg 1000 (d + 2)) 79 [.imm (cls bc l) l.length ex, .agg (bc q)] [] 0) = .pure (.bool (decide (q ∈ l)), []) :=
 Z1B (ZV (Z056 hl))
end Go.AM.YtgfnbmfjbjopkaaDoor
end
noncomputable section
namespace Go.AM.YtgfnbmfjbjopkaaDoor
open Go Go.AM Go.AM.Mule
theorem Z0ju {lo k : Nat} (h : lo ≤ k) (c : List AV) : ascH lo (oH k c) = true := by
 cases c with
 | nil => rfl
 | cons a c => simp only [oH, Zde, Zhr, Bool.and_true, decide_eq_true_eq]; exact h
def ldE (l : Ld) : Int := if ldB l = true then (if l.lo > l.hi then 7 else 0) else 1
theorem ZFk {n : Nat} (h : n ≤ 1000000) : roomOk E.T 126 n = true := by
 simp only [roomOk, ZGa, decide_eq_true_eq]; exact ⟨by decide, rfl, by omega⟩
abbrev h1S (ls : List Ld) (e : Bool) (b : AV) (n : Nat) (z : List AV) (i : Nat) : St :=
 ([(38, .int .i64 i), (37, .int .i64 n), (36, .imm (cls lc ls) n e), (5, .ptr 5 0 2), (4, .int .i64 n), (2, .ptr 2 0 2), (1, .ptr 1 0 2)],
   (1, ⟨.box, [.imm (cls lc ls) n e, b]⟩) :: (2, ⟨.box, [.nilsl, .nilsl]⟩) :: (5, ⟨.box, [oV 61 5 i, .ref 33 0 n n n 1 false]⟩) :: (33, ⟨.row, z⟩) :: oH 61 (cls lc (ls.take i)))
structure H1C (C : Callee) : Prop where
 rc : ∀ (site : Nat → Nat) seen l, aBack site true seen (thaw C 126 [.agg (lc l)] [] 0) = .pure (.agg (lc l), [])
 wi : ∀ (site : Nat → Nat) seen l, aBack site true seen (thaw C 127 [.agg (lc l)] [] 0) = .pure (.agg (ics (wiL l)), [])
theorem Z0m6 {C : Callee} (hC : H1C C) {ls : List Ld} {e : Bool} {b : AV} {n : Nat} {z : List AV} (hl : ls.length = n) (hz : z.length = n) (hn : n ≤ 6) (hb : b = .nilsl ∨ ∃ c m ex, b = .imm c m ex) (i : Nat) (hi : i < n) (h0 : ∀ l, ls[i]? = some l → ldE l = 0) :
   ∃ s', (execA E C (fg 88) 0 156 [] 1000 Z1u) (h1S ls e b n z i) = some (.normal, s') ∧ headA [] s' = h1S ls e b n z (i + 1) := by
 obtain ⟨hrc, hwi⟩ := hC
 have hk : ls[i]? = some ls[i] := List.getElem?_eq_getElem (by omega)
 have hx := h0 _ hk
 have hat := Z0T Zq hk
 have hr := fun site seen => hrc site seen ls[i]
 have hw := fun site seen => hwi site seen ls[i]
 have heq := ZZI ls[i]
 have ht : ls.take (i + 1) = ls.take i ++ [ls[i]] := by rw [List.take_add_one, hk]; rfl
 have hsn := Z6u (f := lc) (ls.take i) ls[i]
 have hlt : (ls.take i).length = i := by rw [List.length_take]; omega
 have htl := Z9 Zq (ls.take i)
 have htk := Z6w Zq (ls.take i)
 rw [hlt] at htl htk
 have hlen : (cls lc ls).length = n * 5 := by rw [Z9 Zq, hl]
 generalize ls[i] = x at *
 have hB : ldB x = true := by
   unfold ldE at hx; split at hx
   · assumption
   · simp at hx
 have hlo : ¬ x.lo > x.hi := by
   unfold ldE at hx; rw [if_pos hB] at hx; split at hx
   · simp at hx
   · assumption
 rw [hB] at heq
 have g1 : (i : Int) < n := by omega
 have hwl : ics (wiL x) = [.int .i64 (cl 1 9 x.lo), .int .i64 (cl 1 9 x.hi), .int .i64 (cl 0 54 x.due), .int .i64 (cl 0 9 x.rate), .int .i64 (cl 0 20 x.base)] := rfl
 have nm : ¬ (i + 1 ≤ i) := by omega
 simp only [h1S, ht]
 rw [← hsn]
 simp only [hwl] at hw heq
 simp only [lc] at hat hr hw heq ⊢
 cases i with
 | zero =>
   rw [Nat.zero_mul, List.drop_zero] at hat
   simp only [List.take_zero, Z9f, List.nil_append, oH, oV]
   simp (disch := omega) only [ZF, stp, opBox, justO, just, Rd.bind, Rd.run, Rd.opt, upds, acells, zeroCells, tsz, elemT, rdCells, fieldOf, Z3, aLoad, aStore, opStore, fresh, Z2, aNum, Z4, aBin, aInt, putC, evO, Nat.reduceAdd, Nat.reduceMul, Nat.reduceLT, Nat.reduceBEq, Nat.reduceEqDiff, Nat.reduceLeDiff, ↓reduceIte, reduceCtorEq, stpT, Rd.foot, writing, Ze, Tr.empty, Zg, apartT, disj, Zd, Zu, partsOf, fillA, repC, Zo, aAppend, srcOf, window, aCall, snaps, aBuild, Int.reduceLE, Int.reduceToNat, ZT, F_88, hat, hr, hw, heq, hlo, hlen, if_pos, ZFk (show 1 ≤ 1000000 by omega), Int.natCast_zero]
   rcases hb with rfl | ⟨_, _, _, rfl⟩ <;> exact ⟨_, rfl, rfl⟩
 | succ i =>
   obtain ⟨c, cs, hcs⟩ : ∃ c cs, cls lc (ls.take (i + 1)) = c :: cs := by
     cases hh : cls lc (ls.take (i + 1)) with
     | nil => rw [hh] at htl; simp at htl
     | cons c cs => exact ⟨c, cs, rfl⟩
   have hoH : oH 61 (cls lc (ls.take (i + 1))) = [(61, ⟨.row, cls lc (ls.take (i + 1))⟩)] := by rw [hcs]; rfl
   have hoH2 : ∀ y, oH 61 (cls lc (ls.take (i + 1)) ++ y) = [(61, ⟨.row, cls lc (ls.take (i + 1)) ++ y⟩)] := fun y => by rw [hcs]; rfl
   simp only [hoH, hoH2, oV]
   generalize cls lc (ls.take (i + 1)) = cc at *
   simp (disch := omega) only [ZF, stp, opBox, justO, just, Rd.bind, Rd.run, Rd.opt, upds, acells, zeroCells, tsz, elemT, rdCells, fieldOf, Z3, aLoad, aStore, opStore, fresh, Z2, aNum, Z4, aBin, aInt, putC, evO, Nat.reduceAdd, Nat.reduceMul, Nat.reduceLT, Nat.reduceBEq, Nat.reduceEqDiff, Nat.reduceLeDiff, ↓reduceIte, reduceCtorEq, stpT, Rd.foot, writing, Ze, Tr.empty, Zg, apartT, disj, Zd, Zu, partsOf, fillA, repC, Zo, aAppend, srcOf, window, aCall, snaps, aBuild, Int.reduceLE, Int.reduceToNat, ZT, F_88, g1, hat, hr, hw, heq, hlo, hlen, htl, htk, nm, if_pos, ZFk (show i + 1 + 1 ≤ 1000000 by omega), Zc (show i + 1 < 1000000 by omega)]
   rcases hb with rfl | ⟨_, _, _, rfl⟩ <;> exact ⟨_, rfl, rfl⟩
theorem Z0g0 {C : Callee} (hC : H1C C) {ls : List Ld} {e : Bool} {b : AV} {n : Nat} {z : List AV} (hl : ls.length = n) (hz : z.length = n) (_ : n ≤ 6) (i : Nat) (hi : i < n) {x : Ld} (hx : ls[i]? = some x) (h0 : ldE x ≠ 0) :
   ∃ H', (execA E C (fg 88) 0 156 [] 1000 Z1u) (h1S ls e b n z i) = some (.ret, ([(3, .int .i64 (ldE x)), (2, .ptr 2 0 2)], H')) ∧ hget H' 2 = some ⟨.box, [.nilsl, .nilsl]⟩ := by
 obtain ⟨hrc, hwi⟩ := hC
 have hat := Z0T Zq hx
 have hr := fun site seen => hrc site seen x
 have hw := fun site seen => hwi site seen x
 have heq := ZZI x
 have hlen : (cls lc ls).length = n * 5 := by rw [Z9 Zq, hl]
 have g1 : (i : Int) < n := by omega
 have hwl : ics (wiL x) = [.int .i64 (cl 1 9 x.lo), .int .i64 (cl 1 9 x.hi), .int .i64 (cl 0 54 x.due), .int .i64 (cl 0 9 x.rate), .int .i64 (cl 0 20 x.base)] := rfl
 simp only [hwl] at hw heq
 simp only [h1S]
 simp only [lc] at hat hr hw heq
 have o7 := ZLu (k := 61) (j := 7) (by omega) (cls lc (ls.take i))
 have o8 := ZLu (k := 61) (j := 8) (by omega) (cls lc (ls.take i))
 have oa := Z0ju (lo := 34) (k := 61) (by omega) (cls lc (ls.take i))
 generalize oH 61 (cls lc (ls.take i)) = Ho at *
 generalize oV 61 5 i = ov at *
 by_cases hB : ldB x = true
 · have hlo : x.lo > x.hi := by
     unfold ldE at h0; rw [if_pos hB] at h0; split at h0
     · assumption
     · simp at h0
   have e7 : ldE x = 7 := by unfold ldE; rw [if_pos hB, if_pos hlo]
   rw [hB] at heq
   rw [e7]
   simp (disch := omega) only [ZF, stp, opBox, justO, just, Rd.bind, Rd.run, Rd.opt, upds, acells, zeroCells, tsz, rdCells, aLoad, aStore, opStore, fresh, Z2, aNum, aBin, aInt, putC, Nat.reduceAdd, Nat.reduceLT, Nat.reduceBEq, Nat.reduceEqDiff, Nat.reduceLeDiff, ↓reduceIte, stpT, Rd.foot, writing, Ze, Tr.empty, Zg, apartT, disj, partsOf, fillA, aCall, snaps, aBuild, Int.reduceLE, Int.reduceToNat, ZT, F_88, g1, hat, hr, hw, heq, hlo, hlen, o7, o8, oa, if_pos]
   exact ⟨_, rfl, rfl⟩
 · have e1 : ldE x = 1 := by unfold ldE; rw [if_neg hB]
   rw [show ldB x = false by simpa using hB] at heq
   rw [e1]
   simp (disch := omega) only [ZF, stp, opBox, justO, just, Rd.bind, Rd.run, Rd.opt, upds, acells, zeroCells, tsz, rdCells, aLoad, aStore, opStore, fresh, Z2, aNum, aBin, aInt, putC, Nat.reduceAdd, Nat.reduceLT, Nat.reduceBEq, Nat.reduceEqDiff, Nat.reduceLeDiff, ↓reduceIte, stpT, Rd.foot, writing, Ze, Tr.empty, Zg, apartT, disj, partsOf, fillA, aCall, snaps, aBuild, Int.reduceLE, Int.reduceToNat, ZT, F_88, g1, hat, hr, hw, heq, hlen, o7, o8, oa, if_pos]
   exact ⟨_, rfl, rfl⟩
end Go.AM.YtgfnbmfjbjopkaaDoor
end
noncomputable section
namespace Go.AM.YtgfnbmfjbjopkaaDoor
open Go Go.AM Go.AM.Mule
def tN (p : Pr) : Nat × Nat := (p.1.toNat, p.2.toNat)
def adj (n : Nat) (es : List Pr) : List Nat := (es.map tN).foldl addE (List.replicate n 0)
def prE (n : Nat) (seen : List Pr) (p : Pr) : Int := if min p.1 p.2 < 0 ∨ max p.1 p.2 ≥ n then 2 else if p ∈ seen then 6 else 0
theorem Ztc {n : Nat} {seen : List Pr} {p : Pr} (h : prE n seen p = 0) : ∃ a b : Nat, p = ((a : Int), (b : Int)) ∧ a < n ∧ b < n ∧ p ∉ seen := by
 unfold prE at h
 split at h
 · simp at h
 · rename_i h1
   split at h
   · simp at h
   · rename_i h2
     obtain ⟨x, y⟩ := p
     simp only at h1
     refine ⟨x.toNat, y.toNat, ?_, by omega, by omega, h2⟩
     have e1 : (x.toNat : Int) = x := by omega
     have e2 : (y.toNat : Int) = y := by omega
     rw [e1, e2]
theorem ZE3 {n : Nat} : ∀ {es : List (Nat × Nat)} {B : List Nat}, (∀ p ∈ es, p.1 < B.length ∧ p.2 < n) → (∀ x ∈ B, x < 2 ^ n) → ∀ x ∈ es.foldl addE B, x < 2 ^ n
 | [], B, _, h, x, hx => h x hx
 | p :: es, B, he, h, x, hx => by
   refine ZE3 (es := es) (B := addE B p) (fun q hq => ?_) (fun y hy => ?_) x hx
   · rw [Z2J]; exact he q (by simp [hq])
   · obtain ⟨p1, p2⟩ := he p (by simp)
     rcases List.mem_or_eq_of_mem_set hy with h1 | h1
     · exact h y h1
     · subst h1
       refine Nat.or_lt_two_pow ?_ ?_
       · have : B.getD p.1 0 = B[p.1] := by simp [p1]
         rw [this]; exact h _ (List.getElem_mem p1)
       · rw [Nat.one_shiftLeft]; exact Nat.pow_lt_pow_right (by omega) p2
theorem Zny : ∀ (es : List (Nat × Nat)) (B : List Nat), (es.foldl addE B).length = B.length
 | [], _ => rfl
 | p :: es, B => by rw [List.foldl_cons, Zny es, Z2J]
theorem Z3L (n : Nat) (es : List Pr) : (adj n es).length = n := by rw [adj, Zny, List.length_replicate]
theorem Zbr {n : Nat} {es : List Pr} (h : ∀ p ∈ es.map tN, p.1 < n ∧ p.2 < n) : ∀ x ∈ adj n es, x < 2 ^ n := by
 refine ZE3 (fun p hp => by rw [List.length_replicate]; exact h p hp) (fun x hx => ?_)
 rw [List.eq_of_mem_replicate hx]; exact Nat.two_pow_pos n
theorem ZPC (n : Nat) (es : List Pr) (p : Pr) : adj n (es ++ [p]) = addE (adj n es) (tN p) := by simp [adj, List.foldl_append]
abbrev h2H (ls : List Ld) (a b : AV) (n : Nat) (B : List Nat) : AHeap :=
 [(1, ⟨.box, [a, b]⟩), (2, ⟨.box, [.nilsl, .nilsl]⟩), (5, ⟨.box, [.ref 61 0 n n (n * 5) 5 false, .ref 33 0 n n n 1 false]⟩), (33, ⟨.row, ucs B⟩), (61, ⟨.row, cls lc ls⟩)]
abbrev h2S (ls : List Ld) (es : List Pr) (e e2 : Bool) (n : Nat) (i : Nat) : St :=
 ([(67, .int .i64 i), (66, .int .i64 es.length), (65, .imm (cls bc es) es.length e2), (5, .ptr 5 0 2), (4, .int .i64 n), (2, .ptr 2 0 2), (1, .ptr 1 0 2)],
   h2H ls (.imm (cls lc ls) n e) (.imm (cls bc es) es.length e2) n (adj n (es.take i)))
theorem Z0kW {C : Callee} {ls : List Ld} {es : List Pr} {e e2 : Bool} {n : Nat} (hl : ls.length = n) (hn : n ≤ 6) (hm : es.length ≤ 15) (i : Nat) (hi : i < es.length)
   (hok : ∀ p ∈ (es.take i).map tN, p.1 < n ∧ p.2 < n) {p : Pr} (hx : es[i]? = some p) (h0 : prE n (es.take i) p = 0)
   (hc : ∀ (site : Nat → Nat) seen ex, aBack site true seen (thaw C 79 [.imm (cls bc (es.take i)) i ex, .agg (bc p)] [] 0) = .pure (.bool (decide (p ∈ es.take i)), [])) :
   ∃ s', (execA E C (fg 88) 0 156 [] 1000 Z13) (h2S ls es e e2 n i) = some (.normal, s') ∧ headA [] s' = h2S ls es e e2 n (i + 1) := by
 obtain ⟨a, b, hp, ha, hb, hnin⟩ := Ztc h0
 have hat := Z0T Z00 hx
 have ht : es.take (i + 1) = es.take i ++ [p] := by rw [List.take_add_one, hx]; rfl
 have htk := Z6V Z00 es i
 have hBl := Z3L n (es.take i)
 have hBb := Zbr hok
 have hg := Z2d hBl ha
 have hga : adj n (es.take (i + 1)) = (adj n (es.take i)).set a ((adj n (es.take i)).getD a 0 ||| 1 <<< b) := by
   rw [ht, ZPC, hp]; rfl
 have hlen : (cls bc es).length = es.length * 2 := Z9 Z00 es
 have hba : (adj n (es.take i)).getD a 0 < 64 := by
   have h1 : a < (adj n (es.take i)).length := by omega
   have := lt64 hn (hBb _ (List.getElem_mem h1))
   simpa [h1] using this
 simp only [h2S, h2H, hga]
 rw [show decide (p ∈ es.take i) = false by simpa using hnin] at hc
 generalize adj n (es.take i) = B at *
 subst hp
 simp only [bc] at hat hc
 have hs64 : 1 <<< b < 64 := by
   have : b = 0 ∨ b = 1 ∨ b = 2 ∨ b = 3 ∨ b = 4 ∨ b = 5 := by omega
   rcases this with e | e | e | e | e | e <;> rw [e] <;> decide
 have hshl := Zbt (i := b) (by omega)
 have hor := ZH7 (a := B.getD a 0) (b := 1 <<< b) (by omega) (by omega)
 have hset := ZBC B a (B.getD a 0 ||| 1 <<< b)
 have hat2 := Z30 hg
 have hul : (ucs B).length = n := by rw [ZM, hBl]
 have g1 : (i : Int) < es.length := by omega
 have m1 : ¬ (if (b : Int) < (a : Int) then (b : Int) else (a : Int)) < 0 := by split <;> omega
 have m2 : ¬ (if (b : Int) > (a : Int) then (b : Int) else (a : Int)) ≥ (n : Int) := by split <;> omega
 have m3 : ¬ (if a < b then (b : Int) else (a : Int)) ≥ (n : Int) := by split <;> omega
 have m4 : ¬ (if b < a then (b : Int) else (a : Int)) < 0 := by split <;> omega
 generalize B.getD a 0 = w at *
 generalize 1 <<< b = v at *
 simp (disch := omega) only [ZF, ↓gd, stp, opPick, opBox, justO, just, Rd.bind, Rd.run, Rd.opt, upds, acells, zeroCells, tsz, rdCells, fieldOf, Z3, aLoad, aStore, opStore, fresh, Z2, aNum, Z4, aMin, aMax, aBin, aInt, putC, Nat.reduceAdd, Nat.reduceLT, Nat.reduceBEq, Nat.reduceEqDiff, Nat.reduceLeDiff, ↓reduceIte, stpT, Rd.foot, writing, Ze, Tr.empty, Zg, apartT, disj, partsOf, fillA, window, aCall, snaps, aBuild, aSlice, aBounds, bMax, bHigh, bLow, Int.reduceLE, Int.reduceToNat, ZT, F_88, g1, hat, hlen, htk, hc, m3, m4, hshl, hor, hset, hat2, hul, if_pos, Zc (show i < 1000000 by omega)]
 exact ⟨_, rfl, rfl⟩
theorem Z0eh {C : Callee} {ls : List Ld} {es : List Pr} {e e2 : Bool} {n : Nat} (_ : ls.length = n) (_ : n ≤ 6) (_ : es.length ≤ 15) (i : Nat) (hi : i < es.length) {p : Pr} (hx : es[i]? = some p) (h0 : prE n (es.take i) p ≠ 0)
   (hc : ∀ (site : Nat → Nat) seen ex, aBack site true seen (thaw C 79 [.imm (cls bc (es.take i)) i ex, .agg (bc p)] [] 0) = .pure (.bool (decide (p ∈ es.take i)), [])) :
   ∃ H', (execA E C (fg 88) 0 156 [] 1000 Z13) (h2S ls es e e2 n i) = some (.ret, ([(3, .int .i64 (prE n (es.take i) p)), (2, .ptr 2 0 2)], H')) ∧ hget H' 2 = some ⟨.box, [.nilsl, .nilsl]⟩ := by
 have hat := Z0T Z00 hx
 have htk := Z6V Z00 es i
 have hlen : (cls bc es).length = es.length * 2 := Z9 Z00 es
 have hBl := Z3L n (es.take i)
 simp only [h2S, h2H]
 generalize adj n (es.take i) = B at *
 obtain ⟨x, y⟩ := p
 simp only [bc] at hat hc
 have g1 : (i : Int) < es.length := by omega
 have hul : (ucs B).length = n := by rw [ZM, hBl]
 by_cases h1 : min x y < 0
 · have e2 : prE n (es.take i) (x, y) = 2 := by unfold prE; rw [if_pos (by simp only; omega)]
   have m1 : (if y < x then y else x) < 0 := by split <;> omega
   rw [e2]
   simp (disch := omega) only [ZF, ↓gd, stp, opPick, opBox, justO, just, Rd.bind, Rd.run, Rd.opt, upds, acells, zeroCells, tsz, rdCells, fieldOf, Z3, aLoad, aStore, opStore, fresh, Z2, aNum, Z4, aMin, aBin, aInt, putC, Nat.reduceAdd, Nat.reduceLT, Nat.reduceBEq, Nat.reduceEqDiff, Nat.reduceLeDiff, ↓reduceIte, reduceCtorEq, stpT, Rd.foot, partsOf, fillA, window, aCall, snaps, aBuild, aSlice, aBounds, bMax, bHigh, bLow, Int.reduceLE, Int.reduceToNat, ZT, F_88, g1, hat, hlen, m1, if_pos]
   exact ⟨_, rfl, rfl⟩
 · have m1 : ¬ (if y < x then y else x) < 0 := by split <;> omega
   by_cases h2 : max x y ≥ n
   · have e2 : prE n (es.take i) (x, y) = 2 := by unfold prE; rw [if_pos (by simp only; omega)]
     have m2 : (if y > x then y else x) ≥ (n : Int) := by split <;> omega
     rw [e2]
     simp (disch := omega) only [ZF, ↓gd, stp, opPick, opBox, justO, just, Rd.bind, Rd.run, Rd.opt, upds, acells, zeroCells, tsz, rdCells, fieldOf, Z3, aLoad, aStore, opStore, fresh, Z2, aNum, Z4, aMin, aMax, aBin, aInt, putC, Nat.reduceAdd, Nat.reduceLT, Nat.reduceBEq, Nat.reduceEqDiff, Nat.reduceLeDiff, ↓reduceIte, stpT, Rd.foot, partsOf, fillA, window, aCall, snaps, aBuild, aSlice, aBounds, bMax, bHigh, bLow, Int.reduceLE, Int.reduceToNat, ZT, F_88, g1, hat, hlen, m1, m2, if_pos]
     exact ⟨_, rfl, rfl⟩
   · have m2 : ¬ (if y > x then y else x) ≥ (n : Int) := by split <;> omega
     have hin : (x, y) ∈ es.take i := by
       unfold prE at h0
       rw [if_neg (by simp only; omega)] at h0
       split at h0
       · assumption
       · simp at h0
     have e6 : prE n (es.take i) (x, y) = 6 := by unfold prE; rw [if_neg (by simp only; omega), if_pos hin]
     rw [e6]
     rw [show decide ((x, y) ∈ es.take i) = true by simpa using hin] at hc
     simp (disch := omega) only [ZF, ↓gd, stp, opPick, opBox, justO, just, Rd.bind, Rd.run, Rd.opt, upds, acells, zeroCells, tsz, rdCells, fieldOf, Z3, aLoad, aStore, opStore, fresh, Z2, aNum, Z4, aMin, aMax, aBin, aInt, putC, Nat.reduceAdd, Nat.reduceLT, Nat.reduceBEq, Nat.reduceEqDiff, Nat.reduceLeDiff, ↓reduceIte, stpT, Rd.foot, writing, Ze, Tr.empty, Zg, apartT, disj, partsOf, fillA, window, aCall, snaps, aBuild, aSlice, aBounds, bMax, bHigh, bLow, Int.reduceLE, Int.reduceToNat, ZT, F_88, g1, hat, hlen, htk, hc, m1, m2, if_pos]
     exact ⟨_, rfl, rfl⟩
end Go.AM.YtgfnbmfjbjopkaaDoor
end
noncomputable section
namespace Go.AM.YtgfnbmfjbjopkaaDoor
open Go Go.AM Go.AM.Mule
theorem Z2h {n : Nat} {B : List Nat} (h : ∀ x ∈ B, x < 2 ^ n) (i : Nat) : B.getD i 0 < 2 ^ n := by
 by_cases hi : i < B.length
 · have : B.getD i 0 = B[i] := by simp [hi]
   rw [this]; exact h _ (List.getElem_mem hi)
 · have : B.getD i 0 = 0 := by simp [hi]
   rw [this]; exact Nat.two_pow_pos n
theorem Z0d1 {n k : Nat} {B : List Nat} (h : ∀ x ∈ B, x < 2 ^ n) (i : Nat) : ∀ x ∈ fwI k B i, x < 2 ^ n := by
 unfold fwI
 split
 · intro x hx
   rcases List.mem_or_eq_of_mem_set hx with h1 | h1
   · exact h x h1
   · subst h1; exact Nat.or_lt_two_pow (Z2h h i) (Z2h h k)
 · exact h
theorem Zfn {n k : Nat} {B : List Nat} (h : ∀ x ∈ B, x < 2 ^ n) : ∀ m, ∀ x ∈ (List.range m).foldl (fwI k) B, x < 2 ^ n
 | 0 => by simpa using h
 | m + 1 => by rw [List.range_succ, List.foldl_append]; exact Z0d1 (Zfn h m) m
theorem Zaf {k : Nat} (B : List Nat) : ∀ m, ((List.range m).foldl (fwI k) B).length = B.length
 | 0 => rfl
 | m + 1 => by rw [List.range_succ, List.foldl_append, List.foldl_cons, List.foldl_nil, Zf3, Zaf B m]
theorem Z6T {n : Nat} {B : List Nat} (h : ∀ x ∈ B, x < 2 ^ n) (m0 : Nat) : ∀ m, ∀ x ∈ (List.range m).foldl (fwK m0) B, x < 2 ^ n
 | 0 => by simpa using h
 | m + 1 => by rw [List.range_succ, List.foldl_append]; exact Zfn (Z6T h m0 m) m0
theorem Z3E (m0 : Nat) (B : List Nat) : ∀ m, ((List.range m).foldl (fwK m0) B).length = B.length
 | 0 => rfl
 | m + 1 => by rw [List.range_succ, List.foldl_append, List.foldl_cons, List.foldl_nil, fwK, Zaf, Z3E m0 B m]
abbrev h3H (ls : List Ld) (n : Nat) (B : List Nat) : AHeap :=
 [(2, ⟨.box, [.nilsl, .nilsl]⟩), (5, ⟨.box, [.ref 61 0 n n (n * 5) 5 false, .ref 33 0 n n n 1 false]⟩), (33, ⟨.row, ucs B⟩), (61, ⟨.row, cls lc ls⟩)]
abbrev h3S (ls : List Ld) (n k : Nat) (B : List Nat) (i : Nat) : St :=
 ([(114, .int .i64 i), (113, .int .i64 n), (110, .int .i64 k), (109, .int .i64 n), (11, .int .i64 k), (5, .ptr 5 0 2), (4, .int .i64 n), (2, .ptr 2 0 2)], h3H ls n B)
theorem Z0kD {C : Callee} {ls : List Ld} {n k : Nat} {B : List Nat} (hB : B.length = n) (hb : ∀ x ∈ B, x < 2 ^ n) (hn : n ≤ 6) (hk : k < n) (i : Nat) (hi : i < n) :
   ∃ s', (execA E C (fg 88) 0 156 [] 1000 Z3I) (h3S ls n k B i) = some (.normal, s') ∧ headA [] s' = h3S ls n k (fwI k B i) (i + 1) := by
 have gi := Z30 (Z2d hB hi)
 have gk := Z30 (Z2d hB hk)
 have bi := lt64 hn (Z2h hb i)
 have bk' := lt64 hn (Z2h hb k)
 have hul : (ucs B).length = n := by rw [ZM, hB]
 have g1 : (i : Int) < n := by omega
 have g2 : (k : Int) < n := by omega
 have hsh := Z6j (b := B.getD i 0) (i := k) (by omega)
 have hlt := Z3Q (b := B.getD i 0) (i := k) (by omega)
 have ha := Z2E hlt
 have he := Z5a (B.getD i 0) k
 have hor := ZH7 (a := B.getD i 0) (b := B.getD k 0) (by omega) (by omega)
 have hset := ZBC B i (B.getD i 0 ||| B.getD k 0)
 simp only [h3S, h3H]
 by_cases hbit : bit B i k = true
 · have e : fwI k B i = B.set i (B.getD i 0 ||| B.getD k 0) := by unfold fwI; rw [if_pos hbit]
   have hb2 : (B.getD i 0).testBit k = true := hbit
   rw [e]
   generalize B.getD i 0 = x at *
   generalize B.getD k 0 = y at *
   simp (disch := omega) only [ZF, stp, just, Rd.bind, Rd.run, Rd.opt, upds, acells, tsz, rdCells, fieldOf, Z3, aLoad, aStore, opStore, Z2, aNum, aBin, aInt, putC, Nat.reduceAdd, Nat.reduceLT, Nat.reduceBEq, Nat.reduceEqDiff, Nat.reduceLeDiff, ↓reduceIte, stpT, Rd.foot, writing, Ze, Tr.empty, Zg, apartT, disj, snaps, ZT, F_88, g1, g2, gi, gk, hul, hsh, ha, he, hor, hset, hb2, if_pos, Zc (show i < 1000000 by omega)]
   exact ⟨_, rfl, rfl⟩
 · have e : fwI k B i = B := by unfold fwI; rw [if_neg hbit]
   have hb2 : (B.getD i 0).testBit k = false := by simpa [bit] using hbit
   rw [e]
   generalize B.getD i 0 = x at *
   generalize B.getD k 0 = y at *
   simp (disch := omega) only [ZF, stp, just, Rd.bind, Rd.run, Rd.opt, upds, acells, tsz, rdCells, fieldOf, Z3, aLoad, aStore, opStore, Z2, aNum, aBin, aInt, Nat.reduceAdd, Nat.reduceLT, Nat.reduceBEq, Nat.reduceEqDiff, Nat.reduceLeDiff, ↓reduceIte, stpT, Rd.foot, ZT, F_88, g1, g2, gi, gk, hul, hsh, ha, he, hb2, Zc (show i < 1000000 by omega)]
   exact ⟨_, rfl, rfl⟩
abbrev h4S (ls : List Ld) (n : Nat) (B : List Nat) (k : Nat) : St :=
 ([(110, .int .i64 k), (109, .int .i64 n), (5, .ptr 5 0 2), (4, .int .i64 n), (2, .ptr 2 0 2)], h3H ls n B)
theorem Z0ly {C : Callee} {ls : List Ld} {n k : Nat} {B : List Nat} (hB : B.length = n) (hb : ∀ x ∈ B, x < 2 ^ n) (hn : n ≤ 6) (hk : k < n) :
   ∃ s', (execA E C (fg 88) 0 156 [] 1000 Z5M) (h4S ls n B k) = some (.normal, s') ∧ headA [] s' = h4S ls n (fwK n B k) (k + 1) := by
 have hloop := loopN (f := (execA E C (fg 88) 0 156 [] 1000 Z3I)) (fun i => h3S ls n k ((List.range i).foldl (fwI k) B) i) n (fun i hi => by
     have := Z0kD (C := C) (ls := ls) (k := k) (B := (List.range i).foldl (fwI k) B) (by rw [Zaf, hB]) (Zfn hb i) hn hk i hi
     rw [List.range_succ, List.foldl_append]; exact this) rfl (by omega)
   (e := .exit 9) (se := ([(115, .bool false), (114, .int .i64 n), (113, .int .i64 n), (110, .int .i64 k), (109, .int .i64 n), (11, .int .i64 k), (5, .ptr 5 0 2), (4, .int .i64 n), (2, .ptr 2 0 2)], h3H ls n (fwK n B k)))
   (by
     rw [show (List.range n).foldl (fwI k) B = fwK n B k from rfl]
     simp (disch := omega) only [ZF, stp, just, Rd.bind, Rd.run, Rd.opt, upds, aBin, aInt, Nat.reduceEqDiff, Nat.reduceLeDiff, ↓reduceIte, F_88, h3S]) (by simp)
 simp only [h3S, h3H, List.range_zero, List.foldl_nil, cl0] at hloop
 have g1 : (k : Int) < n := by omega
 simp only [h4S, h3H]
 generalize fwK n B k = B2 at *
 simp (disch := omega) only [ZF, stp, just, Rd.bind, Rd.run, Rd.opt, upds, aBin, aInt, Nat.reduceBEq, Nat.reduceEqDiff, Nat.reduceLeDiff, ↓reduceIte, F_88, g1, hloop, Zc (show k < 1000000 by omega)]
 exact ⟨_, rfl, rfl⟩
abbrev h5S (ls : List Ld) (n : Nat) (B : List Nat) (i : Nat) : St :=
 ([(143, .int .i64 i), (142, .int .i64 n), (141, .ref 33 0 n n n 1 false), (5, .ptr 5 0 2), (2, .ptr 2 0 2)], h3H ls n B)
theorem Z0kQ {C : Callee} {ls : List Ld} {n : Nat} {B : List Nat} (hB : B.length = n) (hb : ∀ x ∈ B, x < 2 ^ n) (hn : n ≤ 6) (i : Nat) (hi : i < n) (h0 : bit B i i = false) :
   ∃ s', (execA E C (fg 88) 0 156 [] 1000 Z12) (h5S ls n B i) = some (.normal, s') ∧ headA [] s' = h5S ls n B (i + 1) := by
 have gi := Z30 (Z2d hB hi)
 have bi := lt64 hn (Z2h hb i)
 have hul : (ucs B).length = n := by rw [ZM, hB]
 have g1 : (i : Int) < n := by omega
 have hsh := Z6j (b := B.getD i 0) (i := i) (by omega)
 have hlt := Z3Q (b := B.getD i 0) (i := i) (by omega)
 have ha := Z2E hlt
 have he := Z5a (B.getD i 0) i
 have hb2 : (B.getD i 0).testBit i = false := h0
 simp only [h5S, h3H]
 generalize B.getD i 0 = x at *
 simp (disch := omega) only [ZF, stp, justO, just, Rd.bind, Rd.run, Rd.opt, upds, acells, tsz, rdCells, aLoad, aStore, opStore, Z2, aNum, aBin, aInt, putC, Nat.reduceAdd, Nat.reduceLT, Nat.reduceBEq, Nat.reduceEqDiff, Nat.reduceLeDiff, ↓reduceIte, partsOf, fillA, snaps, aBuild, ZT, F_88, g1, gi, hul, hsh, ha, he, hb2, Zc (show i < 1000000 by omega)]
 exact ⟨_, rfl, rfl⟩
theorem Z0e9 {C : Callee} {ls : List Ld} {n : Nat} {B : List Nat} (hB : B.length = n) (hb : ∀ x ∈ B, x < 2 ^ n) (hn : n ≤ 6) (i : Nat) (hi : i < n) (h0 : bit B i i = true) :
   ∃ H', (execA E C (fg 88) 0 156 [] 1000 Z12) (h5S ls n B i) = some (.ret, ([(3, .int .i64 13), (2, .ptr 2 0 2)], H')) ∧ hget H' 2 = some ⟨.box, [.nilsl, .nilsl]⟩ := by
 have gi := Z30 (Z2d hB hi)
 have bi := lt64 hn (Z2h hb i)
 have hul : (ucs B).length = n := by rw [ZM, hB]
 have g1 : (i : Int) < n := by omega
 have hsh := Z6j (b := B.getD i 0) (i := i) (by omega)
 have hlt := Z3Q (b := B.getD i 0) (i := i) (by omega)
 have ha := Z2E hlt
 have he := Z5a (B.getD i 0) i
 have hb2 : (B.getD i 0).testBit i = true := h0
 simp only [h5S, h3H]
 generalize B.getD i 0 = x at *
 simp (disch := omega) only [ZF, stp, justO, just, Rd.bind, Rd.run, Rd.opt, upds, acells, tsz, rdCells, aLoad, aStore, opStore, Z2, aNum, aBin, aInt, putC, Nat.reduceAdd, Nat.reduceLT, Nat.reduceBEq, Nat.reduceEqDiff, Nat.reduceLeDiff, ↓reduceIte, partsOf, fillA, snaps, aBuild, ZT, F_88, g1, gi, hul, hsh, ha, he, hb2]
 exact ⟨_, rfl, rfl⟩
end Go.AM.YtgfnbmfjbjopkaaDoor
end
noncomputable section
namespace Go.AM.YtgfnbmfjbjopkaaDoor
open Go Go.AM Go.AM.Mule
theorem ZU {α : Type} [Inhabited α] {l : List α} {i : Nat} (h : i < l.length) : l[i]? = some (l.getD i default) := by
 rw [List.getElem?_eq_getElem h]; simp [h]
def fst1 (m : Nat) (p : Nat → Bool) : Nat := (List.range m).findIdx p
theorem Z2B (m : Nat) (p : Nat → Bool) : fst1 m p ≤ m := by
 have := List.findIdx_le_length (xs := List.range m) (p := p)
 rwa [List.length_range] at this
theorem Z2y {m : Nat} {p : Nat → Bool} {i : Nat} (h : i < fst1 m p) : p i = false := by
 have := List.not_of_lt_findIdx h
 simpa using this
theorem Z2f {m : Nat} {p : Nat → Bool} (h : fst1 m p < m) : p (fst1 m p) = true := by
 have := List.findIdx_getElem (xs := List.range m) (p := p) (w := by rw [List.length_range]; exact h)
 rw [List.getElem_range] at this
 exact this
def firstE (m : Nat) (e : Nat → Int) : Int := if fst1 m (fun i => e i != 0) < m then e (fst1 m fun i => e i != 0) else 0
theorem Z0A {m : Nat} {e : Nat → Int} : firstE m e = 0 ↔ ∀ i, i < m → e i = 0 := by
 unfold firstE
 split
 · rename_i h
   have := Z2f h
   constructor
   · intro h2; rw [h2] at this; simp at this
   · intro h2; exact h2 _ h
 · rename_i h
   have := Z2B m (fun i => e i != 0)
   refine ⟨fun _ i hi => ?_, fun _ => rfl⟩
   have := Z2y (m := m) (p := fun i => e i != 0) (i := i) (by omega)
   simpa using this
def ldsE (ls : List Ld) : Int := firstE ls.length fun i => ldE (ls.getD i default)
def prsE (n : Nat) (es : List Pr) : Int := firstE es.length fun i => prE n (es.take i) (es.getD i default)
def sets (n : Nat) (es : List Pr) : List Nat := fw n (adj n es)
def clashB (n : Nat) (B : List Nat) : Bool := (List.range n).any fun i => bit B i i
def chk (ls : List Ld) (es : List Pr) : Int :=
 if ls.length = 0 then 4 else if 6 < ls.length ∨ 15 < es.length then 3 else if ldsE ls ≠ 0 then ldsE ls else if prsE ls.length es ≠ 0 then prsE ls.length es else if clashB ls.length (sets ls.length es) = true then 13 else 0
theorem ZwJ (n : Nat) (p : Nat → Bool) : (List.range n).any p = decide (fst1 n p < n) := by
 have h := List.findIdx_lt_length (xs := List.range n) (p := p)
 rw [List.length_range] at h
 rw [Bool.eq_iff_iff, decide_eq_true_eq, fst1, h, List.any_eq_true]
theorem ZeA {n : Nat} {es : List Pr} (h : prsE n es = 0) : ∀ p ∈ es.map tN, p.1 < n ∧ p.2 < n := by
 intro q hq
 obtain ⟨p, hp, rfl⟩ := List.mem_map.1 hq
 obtain ⟨i, hi, e⟩ := List.mem_iff_getElem.1 hp
 have := Z0A.1 h i hi
 have hg : es.getD i default = p := by rw [← e]; simp [hi]
 rw [hg] at this
 obtain ⟨a, b, rfl, h1, h2, _⟩ := Ztc this
 exact ⟨by simpa [tN] using h1, by simpa [tN] using h2⟩
theorem ZQX {n : Nat} {es : List Pr} {k : Nat} (hk : k ≤ es.length) (h : ∀ i, i < k → prE n (es.take i) (es.getD i default) = 0) : ∀ p ∈ (es.take k).map tN, p.1 < n ∧ p.2 < n := by
 refine ZeA (es := es.take k) (Z0A.2 fun i hi => ?_)
 rw [List.length_take] at hi
 have := h i (by omega)
 rw [List.take_take, Nat.min_eq_left (by omega)]
 have e : (es.take k).getD i default = es.getD i default := by
   simp only [List.getD_eq_getElem?_getD, List.getElem?_take, if_pos (show i < k by omega)]
 rwa [e]
theorem Z4N {ls : List Ld} {es : List Pr} (h : chk ls es = 0) : 0 < ls.length ∧ ls.length ≤ 6 ∧ es.length ≤ 15 ∧ ldsE ls = 0 ∧ prsE ls.length es = 0 ∧ clashB ls.length (sets ls.length es) = false := by
 unfold chk at h
 split at h
 · simp at h
 · rename_i h1
   split at h
   · simp at h
   · rename_i h2
     split at h
     · rename_i h3; exact absurd h h3
     · rename_i h3
       split at h
       · rename_i h4; exact absurd h h4
       · rename_i h4
         split at h
         · simp at h
         · rename_i h5
           exact ⟨by omega, by omega, by omega, by simpa using h3, by simpa using h4, by simpa using h5⟩
theorem Z36 {ls : List Ld} {es : List Pr} (h : chk ls es = 0) : TrOk ls (sets ls.length es) ls.length ∧ Ord (bit (sets ls.length es)) ∧ (∀ a b, bit (sets ls.length es) a b = true ↔ Mule.Reach (es.map tN) a b) ∧ ∀ p ∈ es.map tN, p.1 < ls.length ∧ p.2 < ls.length := by
 obtain ⟨h1, h2, h3, h4, h5, h6⟩ := Z4N h
 have hp := ZeA h5
 obtain ⟨c1, c2⟩ := Z9Y hp
 have e : sets ls.length es = closed ls.length (es.map tN) := rfl
 rw [e]
 refine ⟨⟨h1, h2, rfl, c1, fun x hx => ?_, fun x hx => Z6T (Zbr hp) _ _ x hx⟩, ⟨fun i => ?_, fun i j k a b => ?_⟩, c2, hp⟩
 · obtain ⟨i, hi, e⟩ := List.mem_iff_getElem.1 hx
   have := Z0A.1 h4 i hi
   have hg : ls.getD i default = x := by rw [← e]; simp [hi]
   rw [hg] at this
   unfold ldE at this
   split at this
   · rename_i hB; exact ZKh.1 hB
   · simp at this
 · cases hb : bit (closed ls.length (es.map tN)) i i with
   | false => rfl
   | true =>
     have hlt := (ZYv hp ((c2 i i).1 hb)).1
     rw [e] at h6
     have : clashB ls.length (closed ls.length (es.map tN)) = true := List.any_eq_true.2 ⟨i, List.mem_range.2 hlt, hb⟩
     rw [h6] at this
     exact absurd this (by simp)
 · exact (c2 _ _).2 (((c2 _ _).1 a).trans ((c2 _ _).1 b))
structure HaC (C : Callee) : Prop where
 rw_ : H1C C
 pin : ∀ (site : Nat → Nat) seen ex (l : List Pr) (q : Pr), l.length < 900 → aBack site true seen (thaw C 79 [.imm (cls bc l) l.length ex, .agg (bc q)] [] 0) = .pure (.bool (decide (q ∈ l)), [])
theorem haC (d : Nat) : HaC (callA E fg 1000 (d + 2)) := ⟨⟨fun _ _ _ => ZWM, fun _ _ _ => ZyK⟩, fun _ _ _ _ _ h => ZPH h⟩
theorem Z0dj {C : Callee} (hC : H1C C) {ls : List Ld} {e : Bool} {b : AV} {n : Nat} {z : List AV} (hl : ls.length = n) (hz : z.length = n) (hn : n ≤ 6) (hn0 : 0 < n) (hb : b = .nilsl ∨ ∃ c m ex, b = .imm c m ex) :
   (ldsE ls ≠ 0 ∧ ∃ H', iterA (execA E C (fg 88) 0 156 [] 1000 Z1u) (headA []) 1000 (h1S ls e b n z 0) = some (.ret, ([(3, .int .i64 (ldsE ls)), (2, .ptr 2 0 2)], H')) ∧ hget H' 2 = some ⟨.box, [.nilsl, .nilsl]⟩) ∨
   (ldsE ls = 0 ∧ iterA (execA E C (fg 88) 0 156 [] 1000 Z1u) (headA []) 1000 (h1S ls e b n z 0) = some (.exit 1, ([(39, .bool false), (38, .int .i64 n), (37, .int .i64 n), (36, .imm (cls lc ls) n e), (5, .ptr 5 0 2), (4, .int .i64 n), (2, .ptr 2 0 2), (1, .ptr 1 0 2)],
     [(1, ⟨.box, [.imm (cls lc ls) n e, b]⟩), (2, ⟨.box, [.nilsl, .nilsl]⟩), (5, ⟨.box, [.ref 61 0 n n (n * 5) 5 false, .ref 33 0 n n n 1 false]⟩), (33, ⟨.row, z⟩), (61, ⟨.row, cls lc ls⟩)]))) := by
 have hle := Z2B ls.length (fun i => ldE (ls.getD i default) != 0)
 have hround : ∀ i, i < fst1 ls.length (fun i => ldE (ls.getD i default) != 0) → ∃ s', (execA E C (fg 88) 0 156 [] 1000 Z1u) (h1S ls e b n z i) = some (.normal, s') ∧ headA [] s' = h1S ls e b n z (i + 1) := by
   intro i hi
   refine Z0m6 hC hl hz hn hb i (by omega) fun l hx => ?_
   have := Z2y hi
   simp only [List.getD_eq_getElem?_getD, hx, Option.getD_some] at this
   simpa using this
 have h0 : headA [] (h1S ls e b n z 0) = h1S ls e b n z 0 := by
   rcases hb with rfl | ⟨_, _, _, rfl⟩ <;> rfl
 by_cases hlt : fst1 ls.length (fun i => ldE (ls.getD i default) != 0) < ls.length
 · have hat := Z2f hlt
   have hE : ldsE ls = ldE (ls.getD (fst1 ls.length fun i => ldE (ls.getD i default) != 0) default) := by
     unfold ldsE firstE; rw [if_pos hlt]
   have hx : ls[fst1 ls.length fun i => ldE (ls.getD i default) != 0]? = some (ls.getD (fst1 ls.length fun i => ldE (ls.getD i default) != 0) default) := ZU hlt
   have hne : ldE (ls.getD (fst1 ls.length fun i => ldE (ls.getD i default) != 0) default) ≠ 0 := by simpa using hat
   obtain ⟨H', b1, b2⟩ := Z0g0 hC (e := e) (b := b) hl hz hn _ (by omega) hx hne
   refine .inl ⟨by rw [hE]; exact hne, H', ?_, b2⟩
   rw [hE]
   exact loopN (f := (execA E C (fg 88) 0 156 [] 1000 Z1u)) (fun i => h1S ls e b n z i) _ hround h0 (by omega) b1 (by simp)
 · have hE : ldsE ls = 0 := by unfold ldsE firstE; rw [if_neg hlt]
   have e1 : fst1 ls.length (fun i => ldE (ls.getD i default) != 0) = n := by omega
   rw [e1] at hround
   refine .inr ⟨hE, loopN (f := (execA E C (fg 88) 0 156 [] 1000 Z1u)) (fun i => h1S ls e b n z i) n hround h0 (by omega) ?_ (by simp)⟩
   have t : ls.take n = ls := List.take_of_length_le (by omega)
   have oo : oH 61 (cls lc ls) = [(61, ⟨.row, cls lc ls⟩)] := Z6z 61 (by rw [Z9 Zq]; omega)
   have ov : oV 61 5 n = .ref 61 0 n n (n * 5) 5 false := by
     cases n with
     | zero => omega
     | succ n => rfl
   simp only [h1S, t, oo, ov]
   simp (disch := omega) only [ZF, stp, just, Rd.bind, Rd.run, Rd.opt, upds, aBin, aInt, Nat.reduceEqDiff, Nat.reduceLeDiff, ↓reduceIte, F_88]
theorem Z0iL {C : Callee} (hC : HaC C) {ls : List Ld} {es : List Pr} {e e2 : Bool} {n : Nat} (hl : ls.length = n) (hn : n ≤ 6) (hm : es.length ≤ 15) :
   (prsE n es ≠ 0 ∧ ∃ H', iterA (execA E C (fg 88) 0 156 [] 1000 Z13) (headA []) 1000 (h2S ls es e e2 n 0) = some (.ret, ([(3, .int .i64 (prsE n es)), (2, .ptr 2 0 2)], H')) ∧ hget H' 2 = some ⟨.box, [.nilsl, .nilsl]⟩) ∨
   (prsE n es = 0 ∧ iterA (execA E C (fg 88) 0 156 [] 1000 Z13) (headA []) 1000 (h2S ls es e e2 n 0) = some (.exit 4, ([(68, .bool false), (67, .int .i64 es.length), (66, .int .i64 es.length), (65, .imm (cls bc es) es.length e2), (5, .ptr 5 0 2), (4, .int .i64 n), (2, .ptr 2 0 2), (1, .ptr 1 0 2)],
     h2H ls (.imm (cls lc ls) n e) (.imm (cls bc es) es.length e2) n (adj n es)))) := by
 have hle := Z2B es.length (fun i => prE n (es.take i) (es.getD i default) != 0)
 have hz : ∀ i, i < fst1 es.length (fun i => prE n (es.take i) (es.getD i default) != 0) → prE n (es.take i) (es.getD i default) = 0 := fun i hi => by simpa using Z2y hi
 have hcall : ∀ i, i ≤ es.length → ∀ (site : Nat → Nat) seen ex (p : Pr), aBack site true seen (thaw C 79 [.imm (cls bc (es.take i)) i ex, .agg (bc p)] [] 0) = .pure (.bool (decide (p ∈ es.take i)), []) := by
   intro i hi site seen ex p
   have := hC.pin site seen ex (es.take i) p (by rw [List.length_take]; omega)
   rwa [List.length_take, Nat.min_eq_left hi] at this
 have hround : ∀ i, i < fst1 es.length (fun i => prE n (es.take i) (es.getD i default) != 0) → ∃ s', (execA E C (fg 88) 0 156 [] 1000 Z13) (h2S ls es e e2 n i) = some (.normal, s') ∧ headA [] s' = h2S ls es e e2 n (i + 1) := by
   intro i hi
   have hx : es[i]? = some (es.getD i default) := ZU (by omega)
   exact Z0kW hl hn hm i (by omega) (ZQX (by omega) fun j hj => hz j (by omega)) hx (hz i hi) fun site seen ex => hcall i (by omega) site seen ex _
 by_cases hlt : fst1 es.length (fun i => prE n (es.take i) (es.getD i default) != 0) < es.length
 · have hat := Z2f hlt
   have hE : prsE n es = prE n (es.take (fst1 es.length fun i => prE n (es.take i) (es.getD i default) != 0)) (es.getD (fst1 es.length fun i => prE n (es.take i) (es.getD i default) != 0) default) := by
     unfold prsE firstE; rw [if_pos hlt]
   generalize fst1 es.length (fun i => prE n (es.take i) (es.getD i default) != 0) = k at *
   have hx : es[k]? = some (es.getD k default) := ZU hlt
   have hne : prE n (es.take k) (es.getD k default) ≠ 0 := by simpa using hat
   obtain ⟨H', b1, b2⟩ := Z0eh (C := C) (e := e) (e2 := e2) hl hn hm k hlt hx hne fun site seen ex => hcall k (by omega) site seen ex _
   refine .inl ⟨by rw [hE]; exact hne, H', ?_, b2⟩
   rw [hE]
   exact loopN (f := (execA E C (fg 88) 0 156 [] 1000 Z13)) (fun i => h2S ls es e e2 n i) _ hround rfl (by omega) b1 (by simp)
 · have hE : prsE n es = 0 := by unfold prsE firstE; rw [if_neg hlt]
   have e1 : fst1 es.length (fun i => prE n (es.take i) (es.getD i default) != 0) = es.length := by omega
   rw [e1] at hround
   refine .inr ⟨hE, loopN (f := (execA E C (fg 88) 0 156 [] 1000 Z13)) (fun i => h2S ls es e e2 n i) es.length hround rfl (by omega) ?_ (by simp)⟩
   simp only [h2S, List.take_length]
   simp (disch := omega) only [ZF, stp, just, Rd.bind, Rd.run, Rd.opt, upds, aBin, aInt, Nat.reduceEqDiff, Nat.reduceLeDiff, ↓reduceIte, F_88]
theorem ZHq {C : Callee} {ls : List Ld} {n : Nat} {B : List Nat} (hB : B.length = n) (hb : ∀ x ∈ B, x < 2 ^ n) (hn : n ≤ 6) :
   (clashB n B = true ∧ ∃ H', iterA (execA E C (fg 88) 0 156 [] 1000 Z12) (headA []) 1000 (h5S ls n B 0) = some (.ret, ([(3, .int .i64 13), (2, .ptr 2 0 2)], H')) ∧ hget H' 2 = some ⟨.box, [.nilsl, .nilsl]⟩) ∨
   (clashB n B = false ∧ iterA (execA E C (fg 88) 0 156 [] 1000 Z12) (headA []) 1000 (h5S ls n B 0) = some (.exit 11, ([(144, .bool false), (143, .int .i64 n), (142, .int .i64 n), (141, .ref 33 0 n n n 1 false), (5, .ptr 5 0 2), (2, .ptr 2 0 2)], h3H ls n B))) := by
 have hle := Z2B n (fun i => bit B i i)
 have hround : ∀ i, i < fst1 n (fun i => bit B i i) → ∃ s', (execA E C (fg 88) 0 156 [] 1000 Z12) (h5S ls n B i) = some (.normal, s') ∧ headA [] s' = h5S ls n B (i + 1) := fun i hi => Z0kQ hB hb hn i (by omega) (Z2y (p := fun i => bit B i i) hi)
 have ha := ZwJ n (fun i => bit B i i)
 by_cases hlt : fst1 n (fun i => bit B i i) < n
 · have hat := Z2f hlt
   obtain ⟨H', b1, b2⟩ := Z0e9 (C := C) (ls := ls) hB hb hn _ hlt hat
   refine .inl ⟨by unfold clashB; rw [ha]; exact decide_eq_true hlt, H', ?_, b2⟩
   exact loopN (f := (execA E C (fg 88) 0 156 [] 1000 Z12)) (fun i => h5S ls n B i) _ hround rfl (by omega) b1 (by simp)
 · have e1 : fst1 n (fun i => bit B i i) = n := by omega
   rw [e1] at hround
   refine .inr ⟨by unfold clashB; rw [ha]; exact decide_eq_false hlt, loopN (f := (execA E C (fg 88) 0 156 [] 1000 Z12)) (fun i => h5S ls n B i) n hround rfl (by omega) ?_ (by simp)⟩
   simp (disch := omega) only [ZF, stp, just, Rd.bind, Rd.run, Rd.opt, upds, aBin, aInt, Nat.reduceEqDiff, Nat.reduceLeDiff, ↓reduceIte, F_88, h5S]
end Go.AM.YtgfnbmfjbjopkaaDoor
end
end
