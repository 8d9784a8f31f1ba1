/- An abstract machine for Go code without interfaces, maps and goroutines: values, a heap of the call's own blocks, operations. Own work of this project. -/
import Derived.Calls
import Derived.Laws.Sem
namespace Go.AM
noncomputable section NC

/-- Abstract values. 'imm': a slice that nobody writes any more, by its cells; 'ref': a slice in a block of the heap; 'iptr', 'ptr': addresses; 'mapv': a map, in a block of the heap; 'bnd': a function with its first arguments; 'any': nothing is known. -/
inductive AV where
  | int (k : IntKind) (n : Int)
  | bool (b : Bool)
  | str (s : ByteArray)
  | agg (vs : List AV)
  | tup (vs : List AV)
  | nilsl
  | imm (cells : List AV) (len : Nat) (ex : Bool)
  | ref (id off len cap gl sz : Nat) (ex : Bool)
  | ptr (id off gl : Nat)
  | iptr (cells : List AV) (off : Nat)
  | nilptr
  | nilfunc
  | nilmap
  | clo (f : FuncId) (caps : List AV)
  | mapv (id : Nat)
  | bnd (f : FuncId) (vs : List AV)
  | any
  deriving Inhabited

/-- A block: a box (a variable), a row (of a slice), frozen, or a map (its keys and what they hold, by turns). -/
inductive BS where
  | box | row | froz | mp

structure Blk where
  st : BS
  cells : List AV

abbrev AHeap := List (Nat × Blk)

--rec
/-! What is asked at each step goes by recursors, which are quick in the kernel. -/
noncomputable def hget (H : AHeap) (i : Nat) : Option Blk :=
  List.rec (motive := fun _ => Option Blk) none (fun p _ ih => Bool.rec ih (some p.2) (Nat.beq p.1 i)) H
noncomputable def hset (H : AHeap) (i : Nat) (b : Blk) : AHeap :=
  List.rec (motive := fun _ => AHeap) [(i, b)] (fun p t ih => Bool.rec (Bool.rec ((i, b) :: p :: t) (p :: ih) (Nat.ble p.1 i)) ((i, b) :: t) (Nat.beq p.1 i)) H
--alt
--def hget : AHeap → Nat → Option Blk
--  | [], _ => none
--  | (k, b) :: t, i => cond (Nat.beq k i) (some b) (hget t i)
--
--def hset : AHeap → Nat → Blk → AHeap
--  | [], i, b => [(i, b)]
--  | (k, c) :: t, i, b => cond (Nat.beq k i) ((i, b) :: t) (cond (Nat.ble k i) ((k, c) :: hset t i b) ((i, b) :: (k, c) :: t))
--end
theorem brec {α : Type} (x y : α) (b : Bool) : (Bool.rec x y b : α) = cond b y x := by cases b <;> rfl
theorem hget_n (i : Nat) : hget [] i = none := rfl
theorem hget_c (k : Nat) (b : Blk) (t : AHeap) (i : Nat) : hget ((k, b) :: t) i = cond (Nat.beq k i) (some b) (hget t i) := brec _ _ _
theorem hset_n (i : Nat) (b : Blk) : hset [] i b = [(i, b)] := rfl
theorem hset_c (k : Nat) (c : Blk) (t : AHeap) (i : Nat) (b : Blk) : hset ((k, c) :: t) i b = cond (Nat.beq k i) ((i, b) :: t) (cond (Nat.ble k i) ((k, c) :: hset t i b) ((i, b) :: (k, c) :: t)) :=
  (brec (Bool.rec (motive := fun _ => AHeap) ((i, b) :: (k, c) :: t) ((k, c) :: hset t i b) (Nat.ble k i)) ((i, b) :: t) (Nat.beq k i)).trans (congrArg (cond (Nat.beq k i) ((i, b) :: t)) (brec ((i, b) :: (k, c) :: t) ((k, c) :: hset t i b) (Nat.ble k i)))

/-- A frame: of the slots that are known what they hold, the last one first. -/
abbrev AFr := List (Nat × AV)

--rec
noncomputable def fget (φ : AFr) (i : Nat) : AV :=
  List.rec (motive := fun _ => AV) .any (fun p _ ih => Bool.rec ih p.2 (Nat.beq p.1 i)) φ
noncomputable def fput (φ : AFr) (i : Nat) (b : AV) : AFr :=
  List.rec (motive := fun _ => AFr) [(i, b)] (fun p t ih => Bool.rec (Bool.rec ((i, b) :: p :: t) (p :: ih) (Nat.ble i p.1)) ((i, b) :: t) (Nat.beq p.1 i)) φ
noncomputable def elemR (l : List Nat) (k : Nat) : Bool :=
  List.rec (motive := fun _ => Bool) false (fun x _ ih => Bool.rec ih true (Nat.beq k x)) l
noncomputable def forget (φ : AFr) (l : List Nat) : AFr :=
  List.rec (motive := fun _ => AFr) [] (fun p _ ih => Bool.rec (p :: ih) ih (elemR l p.1)) φ
--alt
--def elemR (l : List Nat) (k : Nat) : Bool := l.elem k
--def fget : AFr → Nat → AV
--  | [], _ => .any
--  | (k, a) :: t, i => cond (Nat.beq k i) a (fget t i)
--
--def fput : AFr → Nat → AV → AFr
--  | [], i, b => [(i, b)]
--  | (k, c) :: t, i, b => cond (Nat.beq k i) ((i, b) :: t) (cond (Nat.ble i k) ((k, c) :: fput t i b) ((i, b) :: (k, c) :: t))
--
--def forget : AFr → List Nat → AFr
--  | [], _ => []
--  | (k, a) :: t, l => cond (l.elem k) (forget t l) ((k, a) :: forget t l)
--end
theorem elemR_eq : ∀ (l : List Nat) (k : Nat), elemR l k = l.elem k
  | [], _ => rfl
  | x :: l, k => by
    have ih := elemR_eq l k
    simp only [List.elem_cons]
    refine (brec (elemR l k) true (Nat.beq k x)).trans ?_
    rw [ih]
    cases h : Nat.beq k x with
    | true => rw [Nat.eq_of_beq_eq_true h]; simp
    | false =>
      have : (k == x) = false := by rw [beq_eq_false_iff_ne]; exact Nat.ne_of_beq_eq_false h
      rw [this]; rfl
theorem fget_n (i : Nat) : fget [] i = .any := rfl
theorem fget_c (k : Nat) (a : AV) (t : AFr) (i : Nat) : fget ((k, a) :: t) i = cond (Nat.beq k i) a (fget t i) := brec _ _ _
theorem fput_n (i : Nat) (b : AV) : fput [] i b = [(i, b)] := rfl
theorem fput_c (k : Nat) (c : AV) (t : AFr) (i : Nat) (b : AV) : fput ((k, c) :: t) i b = cond (Nat.beq k i) ((i, b) :: t) (cond (Nat.ble i k) ((k, c) :: fput t i b) ((i, b) :: (k, c) :: t)) :=
  (brec (Bool.rec (motive := fun _ => AFr) ((i, b) :: (k, c) :: t) ((k, c) :: fput t i b) (Nat.ble i k)) ((i, b) :: t) (Nat.beq k i)).trans (congrArg (cond (Nat.beq k i) ((i, b) :: t)) (brec ((i, b) :: (k, c) :: t) ((k, c) :: fput t i b) (Nat.ble i k)))
theorem forget_n (l : List Nat) : forget [] l = [] := rfl
theorem forget_c (k : Nat) (a : AV) (t : AFr) (l : List Nat) : forget ((k, a) :: t) l = cond (l.elem k) (forget t l) ((k, a) :: forget t l) := by
  rw [← elemR_eq]; exact brec _ _ _

def BS.open_ : BS → Bool
  | .box | .row | .mp => true
  | _ => false

/-- A reading of the heap, look by look. -/
inductive Rd (α : Type) where
  | pure (a : α)
  | fail
  | get (id : Nat) (k : Option Blk → Rd α)

namespace Rd
def bind {α β : Type} : Rd α → (α → Rd β) → Rd β
  | .pure a, f => f a
  | .fail, _ => .fail
  | .get i k, f => .get i fun b => (k b).bind f
def run {α : Type} : Rd α → AHeap → Option α
  | .pure a, _ => some a
  | .fail, _ => none
  | .get i k, H => (k (hget H i)).run H
def foot {α : Type} : Rd α → AHeap → List Nat
  | .pure _, _ => []
  | .fail, _ => []
  | .get i k, H => i :: (k (hget H i)).foot H
def opt {α : Type} : Option α → Rd α
  | some a => .pure a
  | none => .fail
def look (i : Nat) : Rd (Option Blk) := .get i .pure
/-- A block of that length: else the value that leads to it is stale. -/
def liveBlk (i gl : Nat) : Rd Blk := .get i fun
  | some b => cond (Nat.beq gl b.cells.length) (match b.st with | .mp => .fail | _ => .pure b) .fail
  | none => .fail
end Rd

/-! Types, as a table that is quick to look into -/
/-- A type's kind. A struct: of each field where it begins, its type, its size. An array: how many, of what; may two be compared as lists of integers. A map: of what, to what, and what it holds for a key that is not there. -/
inductive TK where
  | bool
  | int (k : IntKind)
  | str
  | slice (e : TypeId)
  | arr (n : Nat) (e : TypeId) (eq : Bool)
  | struct (fs : List (Nat × TypeId × Nat)) (eq : Bool)
  | map (k e : TypeId) (z : AV)
  | other
structure TI where
  k : TK
  size : Nat
  bytes : Nat
  zero : Option (List AV)
abbrev TyT := TypeId → Option TI

def elemT (T : TyT) (t : TypeId) : Option TypeId :=
  match T t with
  | some ⟨.slice e, _, _, _⟩ => some e
  | _ => none
def tsz (T : TyT) (t : TypeId) : Option Nat :=
  match T t with
  | some i => some i.size
  | none => none

/-- A table by numbers. -/
inductive Tree (α : Type) where
  | nil
  | node (l : Tree α) (k : Nat) (v : α) (r : Tree α)
def Tree.find {α : Type} : Tree α → Nat → Option α
  | .nil, _ => none
  | .node l k v r, n => cond (Nat.beq n k) (some v) (cond (Nat.ble n k) (l.find n) (r.find n))
def Tree.toList {α : Type} : Tree α → List (Nat × α)
  | .nil => []
  | .node l k v r => l.toList ++ (k, v) :: r.toList

/-! Values of the program's text -/
def ofV1 : Value → AV
  | .int k n => .int k n
  | .bool b => .bool b
  | .string s => .str s
  | .slice none 0 0 => .nilsl
  | .pointer none => .nilptr
  | .nilFunc => .nilfunc
  | .map none => .nilmap
  | _ => .any
def AV.isAny : AV → Bool
  | .any => true
  | _ => false
def ofV : Value → AV
  | .agg cs => if cs.toList.all (fun v => !(ofV1 v).isAny) then .agg (cs.toList.map ofV1) else .any
  | .tuple cs => if cs.size = 0 then .tup [] else .any
  | v => ofV1 v

/-- The cells of a value that lies in memory. -/
def acells : AV → Option (List AV)
  | .agg vs => some vs
  | .tup _ => none
  | .any => none
  | a => some [a]

/-- A value of a type out of cells. -/
def rdCells (T : TyT) (t : TypeId) (cells : List AV) (off : Nat) : Option AV :=
  match T t with
  | some ⟨.struct .., n, _, _⟩ => if off + n ≤ cells.length then some (.agg ((cells.drop off).take n)) else none
  | some ⟨.arr .., n, _, _⟩ => if off + n ≤ cells.length then some (.agg ((cells.drop off).take n)) else none
  | some _ => cells[off]?
  | none => none

def putC : List AV → Nat → List AV → List AV
  | cs, _, [] => cs
  | cs, o, v :: vs => putC (cs.set o v) (o + 1) vs

def zeroCells (T : TyT) (t : TypeId) : Option (List AV) :=
  match T t with
  | some i => i.zero
  | none => none

def repC (z : List AV) : Nat → List AV
  | 0 => []
  | n + 1 => z ++ repC z n

/-- Does a value take one cell? -/
def AV.oneCellA : AV → Bool
  | .agg _ => false
  | .tup _ => false
  | _ => true

/-- Does a value hold no address of the heap's own? -/
def AV.flat : AV → Bool
  | .int .. | .bool _ | .str _ | .nilsl | .imm .. | .nilptr | .nilfunc | .nilmap | .iptr .. => true
  | .clo _ [] => true
  | _ => false

/-! Snapshots: a value as it stands, without addresses of the heap's own; the blocks that were met. -/
mutual
def snap : Nat → AV → Rd (AV × List Nat)
  | 0, _ => .fail
  | d + 1, a => match a with
    | .agg vs => (snaps d vs).bind fun x => .pure (.agg x.1, x.2)
    | .tup vs => (snaps d vs).bind fun x => .pure (.tup x.1, x.2)
    | .clo f vs => (snaps d vs).bind fun x => .pure (.clo f x.1, x.2)
    | .ref id off len cap gl sz ex =>
      (Rd.liveBlk id gl).bind fun b =>
      if off + len * sz ≤ b.cells.length then
        match b.st with
        | .box => (snaps d ((b.cells.drop off).take (len * sz))).bind fun x =>
          .pure (.imm x.1 len (ex && decide (cap = len)), id :: x.2)
        | _ => .pure (.imm ((b.cells.drop off).take (len * sz)) len (ex && decide (cap = len)), [id])
      else .fail
    | .ptr id off gl =>
      (Rd.liveBlk id gl).bind fun b =>
      match b.st with
      | .box => (snaps d b.cells).bind fun x => .pure (.iptr x.1 off, id :: x.2)
      | _ => .pure (.iptr b.cells off, [id])
    | .mapv _ => .fail
    | .bnd .. => .fail
    | .any => .fail
    | a => .pure (a, [])
def snaps : Nat → List AV → Rd (List AV × List Nat)
  | 0, _ => .fail
  | _ + 1, [] => .pure ([], [])
  | d + 1, a :: as => (snap d a).bind fun x => (snaps d as).bind fun y => .pure (x.1 :: y.1, x.2 ++ y.2)
end

/-- Does a result lead to memory? -/
def AV.leads : AV → Bool
  | .int .. | .bool _ | .str _ | .nilsl | .nilptr | .nilfunc | .nilmap => false
  | .agg vs => leadsL vs
  | .tup vs => leadsL vs
  | _ => true
where leadsL : List AV → Bool
  | [] => false
  | a :: as => a.leads || leadsL as

/-! What a call made, taken over: each row gets a place among the blocks of the caller; site j: the place of the j-th one. -/
mutual
def imp (Hc : AHeap) (site : Nat → Nat) : Nat → AV → List Nat → List (Nat × Blk) → Option (AV × List Nat × List (Nat × Blk))
  | 0, _, _, _ => none
  | d + 1, a, seen, up => match a with
    | .agg vs => match imps Hc site d vs seen up with
      | some (xs, s, u) => some (.agg xs, s, u)
      | none => none
    | .tup vs => match imps Hc site d vs seen up with
      | some (xs, s, u) => some (.tup xs, s, u)
      | none => none
    | .ref id off len cap gl sz ex =>
      match hget Hc id with
      | some b =>
        match b.st with
        | .row => if gl = b.cells.length ∧ id ∉ seen then some (.ref (site seen.length) off len cap gl sz ex, id :: seen, (site seen.length, b) :: up) else none
        | .froz => if gl = b.cells.length ∧ off + len * sz ≤ b.cells.length then some (.imm ((b.cells.drop off).take (len * sz)) len (ex && decide (cap = len)), seen, up) else none
        | _ => none
      | none => none
    | .clo f [] => some (.clo f [], seen, up)
    | .clo f (c :: cs) => if (c :: cs).all AV.flat = true then some (.clo f (c :: cs), seen, up) else none
    | .ptr .. => none
    | .mapv _ => none
    | .bnd .. => none
    | .any => none
    | a => some (a, seen, up)
def imps (Hc : AHeap) (site : Nat → Nat) : Nat → List AV → List Nat → List (Nat × Blk) → Option (List AV × List Nat × List (Nat × Blk))
  | 0, _, _, _ => none
  | _ + 1, [], s, u => some ([], s, u)
  | d + 1, a :: as, s, u => match imp Hc site d a s u with
    | some (x, s, u) => match imps Hc site d as s u with
      | some (xs, s, u) => some (x :: xs, s, u)
      | none => none
    | none => none
end

def upds : AHeap → List (Nat × Blk) → AHeap
  | H, [] => H
  | H, (i, b) :: us => upds (hset H i b) us

end NC
end Go.AM
