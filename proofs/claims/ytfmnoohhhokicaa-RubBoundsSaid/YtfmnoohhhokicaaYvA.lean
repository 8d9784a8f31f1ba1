/- A part of the proof of rubBounds_holds: RsA. Own work of this project; texts printed by own programs among it. -/
import Derived.Calls
import Derived.Laws.Sem
set_option maxRecDepth 1000000
set_option maxHeartbeats 16000000
noncomputable section
noncomputable section
namespace Go.AM
noncomputable section NC
inductive AV where
 | int (k : IntKind) (n : Int)
 | bool (b : Bool)
 | str (s : ByteArray)
 | agg (vs : List AV)
 | tup (vs : List AV)
 | nilsl
 | imm (cells : List AV) (len : Nat) (ex : Bool)
 | ref (id off len cap gl sz : Nat) (ex : Bool)
 | ptr (id off gl : Nat)
 | iptr (cells : List AV) (off : Nat)
 | nilptr
 | nilfunc
 | nilmap
 | clo (f : FuncId) (caps : List AV)
 | mapv (id : Nat)
 | bnd (f : FuncId) (vs : List AV)
 | any
 deriving Inhabited
inductive BS where
 | box | row | froz | mp
structure Blk where
 st : BS
 cells : List AV
abbrev AHeap := List (Nat × Blk)
def hget (H : AHeap) (i : Nat) : Option Blk :=
 List.rec (motive := fun _ => Option Blk) none (fun p _ ih => Bool.rec ih (some p.2) (Nat.beq p.1 i)) H
def hset (H : AHeap) (i : Nat) (b : Blk) : AHeap :=
 List.rec (motive := fun _ => AHeap) [(i, b)] (fun p t ih => Bool.rec (Bool.rec ((i, b) :: p :: t) (p :: ih) (Nat.ble p.1 i)) ((i, b) :: t) (Nat.beq p.1 i)) H
theorem brec {α : Type} (x y : α) (b : Bool) : (Bool.rec x y b : α) = cond b y x := by cases b <;> rfl
theorem ZS (i : Nat) : hget [] i = none := rfl
theorem Z9H (k : Nat) (b : Blk) (t : AHeap) (i : Nat) : hget ((k, b) :: t) i = cond (Nat.beq k i) (some b) (hget t i) := brec _ _ _
theorem ZIo (i : Nat) (b : Blk) : hset [] i b = [(i, b)] := rfl
theorem Zqi (k : Nat) (c : Blk) (t : AHeap) (i : Nat) (b : Blk) : hset ((k, c) :: t) i b = cond (Nat.beq k i) ((i, b) :: t) (cond (Nat.ble k i) ((k, c) :: hset t i b) ((i, b) :: (k, c) :: t)) :=
 (brec (Bool.rec (motive := fun _ => AHeap) ((i, b) :: (k, c) :: t) ((k, c) :: hset t i b) (Nat.ble k i)) ((i, b) :: t) (Nat.beq k i)).trans (congrArg (cond (Nat.beq k i) ((i, b) :: t)) (brec ((i, b) :: (k, c) :: t) ((k, c) :: hset t i b) (Nat.ble k i)))
abbrev AFr := List (Nat × AV)
def fget (φ : AFr) (i : Nat) : AV :=
 List.rec (motive := fun _ => AV) .any (fun p _ ih => Bool.rec ih p.2 (Nat.beq p.1 i)) φ
def fput (φ : AFr) (i : Nat) (b : AV) : AFr :=
 List.rec (motive := fun _ => AFr) [(i, b)] (fun p t ih => Bool.rec (Bool.rec ((i, b) :: p :: t) (p :: ih) (Nat.ble i p.1)) ((i, b) :: t) (Nat.beq p.1 i)) φ
def elemR (l : List Nat) (k : Nat) : Bool :=
 List.rec (motive := fun _ => Bool) false (fun x _ ih => Bool.rec ih true (Nat.beq k x)) l
def forget (φ : AFr) (l : List Nat) : AFr :=
 List.rec (motive := fun _ => AFr) [] (fun p _ ih => Bool.rec (p :: ih) ih (elemR l p.1)) φ
theorem ZqH : ∀ (l : List Nat) (k : Nat), elemR l k = l.elem k
 | [], _ => rfl
 | x :: l, k => by
   have ih := ZqH l k
   simp only [List.elem_cons]
   refine (brec (elemR l k) true (Nat.beq k x)).trans ?_
   rw [ih]
   cases h : Nat.beq k x with
   | true => rw [Nat.eq_of_beq_eq_true h]; simp
   | false =>
     have : (k == x) = false := by rw [beq_eq_false_iff_ne]; exact Nat.ne_of_beq_eq_false h
     rw [this]; rfl
theorem ZFN (i : Nat) : fget [] i = .any := rfl
theorem Zq6 (k : Nat) (a : AV) (t : AFr) (i : Nat) : fget ((k, a) :: t) i = cond (Nat.beq k i) a (fget t i) := brec _ _ _
theorem Z8l (i : Nat) (b : AV) : fput [] i b = [(i, b)] := rfl
theorem Z0B (k : Nat) (c : AV) (t : AFr) (i : Nat) (b : AV) : fput ((k, c) :: t) i b = cond (Nat.beq k i) ((i, b) :: t) (cond (Nat.ble i k) ((k, c) :: fput t i b) ((i, b) :: (k, c) :: t)) :=
 (brec (Bool.rec (motive := fun _ => AFr) ((i, b) :: (k, c) :: t) ((k, c) :: fput t i b) (Nat.ble i k)) ((i, b) :: t) (Nat.beq k i)).trans (congrArg (cond (Nat.beq k i) ((i, b) :: t)) (brec ((i, b) :: (k, c) :: t) ((k, c) :: fput t i b) (Nat.ble i k)))
theorem Z8c (k : Nat) (a : AV) (t : AFr) (l : List Nat) : forget ((k, a) :: t) l = cond (l.elem k) (forget t l) ((k, a) :: forget t l) := by
 rw [← ZqH]; exact brec _ _ _
def BS.open_ : BS → Bool
 | .box | .row | .mp => true
 | _ => false
inductive Rd (α : Type) where
 | pure (a : α)
 | fail
 | get (id : Nat) (k : Option Blk → Rd α)
namespace Rd
def bind {α β : Type} : Rd α → (α → Rd β) → Rd β
 | .pure a, f => f a
 | .fail, _ => .fail
 | .get i k, f => .get i fun b => (k b).bind f
def run {α : Type} : Rd α → AHeap → Option α
 | .pure a, _ => some a
 | .fail, _ => none
 | .get i k, H => (k (hget H i)).run H
def foot {α : Type} : Rd α → AHeap → List Nat
 | .pure _, _ => []
 | .fail, _ => []
 | .get i k, H => i :: (k (hget H i)).foot H
def opt {α : Type} : Option α → Rd α
 | some a => .pure a
 | none => .fail
def look (i : Nat) : Rd (Option Blk) := .get i .pure
def liveBlk (i gl : Nat) : Rd Blk := .get i fun
 | some b => cond (Nat.beq gl b.cells.length) (match b.st with | .mp => .fail | _ => .pure b) .fail
 | none => .fail
end Rd
inductive TK where
 | bool
 | int (k : IntKind)
 | str
 | slice (e : TypeId)
 | arr (n : Nat) (e : TypeId) (eq : Bool)
 | struct (fs : List (Nat × TypeId × Nat)) (eq : Bool)
 | map (k e : TypeId) (z : AV)
 | other
structure TI where
 k : TK
 size : Nat
 bytes : Nat
 zero : Option (List AV)
abbrev TyT := TypeId → Option TI
def elemT (T : TyT) (t : TypeId) : Option TypeId :=
 match T t with
 | some ⟨.slice e, _, _, _⟩ => some e
 | _ => none
def tsz (T : TyT) (t : TypeId) : Option Nat :=
 match T t with
 | some i => some i.size
 | none => none
inductive Tree (α : Type) where
 | nil
 | node (l : Tree α) (k : Nat) (v : α) (r : Tree α)
def Tree.find {α : Type} : Tree α → Nat → Option α
 | .nil, _ => none
 | .node l k v r, n => cond (Nat.beq n k) (some v) (cond (Nat.ble n k) (l.find n) (r.find n))
def Tree.toList {α : Type} : Tree α → List (Nat × α)
 | .nil => []
 | .node l k v r => l.toList ++ (k, v) :: r.toList
def ofV1 : Value → AV
 | .int k n => .int k n
 | .bool b => .bool b
 | .string s => .str s
 | .slice none 0 0 => .nilsl
 | .pointer none => .nilptr
 | .nilFunc => .nilfunc
 | .map none => .nilmap
 | _ => .any
def AV.isAny : AV → Bool
 | .any => true
 | _ => false
def ofV : Value → AV
 | .agg cs => if cs.toList.all (fun v => !(ofV1 v).isAny) then .agg (cs.toList.map ofV1) else .any
 | .tuple cs => if cs.size = 0 then .tup [] else .any
 | v => ofV1 v
def acells : AV → Option (List AV)
 | .agg vs => some vs
 | .tup _ => none
 | .any => none
 | a => some [a]
def rdCells (T : TyT) (t : TypeId) (cells : List AV) (off : Nat) : Option AV :=
 match T t with
 | some ⟨.struct .., n, _, _⟩ => if off + n ≤ cells.length then some (.agg ((cells.drop off).take n)) else none
 | some ⟨.arr .., n, _, _⟩ => if off + n ≤ cells.length then some (.agg ((cells.drop off).take n)) else none
 | some _ => cells[off]?
 | none => none
def putC : List AV → Nat → List AV → List AV
 | cs, _, [] => cs
 | cs, o, v :: vs => putC (cs.set o v) (o + 1) vs
def zeroCells (T : TyT) (t : TypeId) : Option (List AV) :=
 match T t with
 | some i => i.zero
 | none => none
def repC (z : List AV) : Nat → List AV
 | 0 => []
 | n + 1 => z ++ repC z n
def AV.oneCellA : AV → Bool
 | .agg _ => false
 | .tup _ => false
 | _ => true
def AV.flat : AV → Bool
 | .int .. | .bool _ | .str _ | .nilsl | .imm .. | .nilptr | .nilfunc | .nilmap | .iptr .. => true
 | .clo _ [] => true
 | _ => false
mutual
def snap : Nat → AV → Rd (AV × List Nat)
 | 0, _ => .fail
 | d + 1, a => match a with
   | .agg vs => (snaps d vs).bind fun x => .pure (.agg x.1, x.2)
   | .tup vs => (snaps d vs).bind fun x => .pure (.tup x.1, x.2)
   | .clo f vs => (snaps d vs).bind fun x => .pure (.clo f x.1, x.2)
   | .ref id off len cap gl sz ex =>
     (Rd.liveBlk id gl).bind fun b =>
     if off + len * sz ≤ b.cells.length then
       match b.st with
       | .box => (snaps d ((b.cells.drop off).take (len * sz))).bind fun x =>
         .pure (.imm x.1 len (ex && decide (cap = len)), id :: x.2)
       | _ => .pure (.imm ((b.cells.drop off).take (len * sz)) len (ex && decide (cap = len)), [id])
     else .fail
   | .ptr id off gl =>
     (Rd.liveBlk id gl).bind fun b =>
     match b.st with
     | .box => (snaps d b.cells).bind fun x => .pure (.iptr x.1 off, id :: x.2)
     | _ => .pure (.iptr b.cells off, [id])
   | .mapv _ => .fail
   | .bnd .. => .fail
   | .any => .fail
   | a => .pure (a, [])
def snaps : Nat → List AV → Rd (List AV × List Nat)
 | 0, _ => .fail
 | _ + 1, [] => .pure ([], [])
 | d + 1, a :: asx => (snap d a).bind fun x => (snaps d asx).bind fun y => .pure (x.1 :: y.1, x.2 ++ y.2)
end
def AV.leads : AV → Bool
 | .int .. | .bool _ | .str _ | .nilsl | .nilptr | .nilfunc | .nilmap => false
 | .agg vs => leadsL vs
 | .tup vs => leadsL vs
 | _ => true
where leadsL : List AV → Bool
 | [] => false
 | a :: asx => a.leads || leadsL asx
mutual
def imp (Hc : AHeap) (site : Nat → Nat) : Nat → AV → List Nat → List (Nat × Blk) → Option (AV × List Nat × List (Nat × Blk))
 | 0, _, _, _ => none
 | d + 1, a, seen, up => match a with
   | .agg vs => match imps Hc site d vs seen up with
     | some (xs, s, u) => some (.agg xs, s, u)
     | none => none
   | .tup vs => match imps Hc site d vs seen up with
     | some (xs, s, u) => some (.tup xs, s, u)
     | none => none
   | .ref id off len cap gl sz ex =>
     match hget Hc id with
     | some b =>
       match b.st with
       | .row => if gl = b.cells.length ∧ id ∉ seen then some (.ref (site seen.length) off len cap gl sz ex, id :: seen, (site seen.length, b) :: up) else none
       | .froz => if gl = b.cells.length ∧ off + len * sz ≤ b.cells.length then some (.imm ((b.cells.drop off).take (len * sz)) len (ex && decide (cap = len)), seen, up) else none
       | _ => none
     | none => none
   | .clo f [] => some (.clo f [], seen, up)
   | .clo f (c :: cs) => if (c :: cs).all AV.flat = true then some (.clo f (c :: cs), seen, up) else none
   | .ptr .. => none
   | .mapv _ => none
   | .bnd .. => none
   | .any => none
   | a => some (a, seen, up)
def imps (Hc : AHeap) (site : Nat → Nat) : Nat → List AV → List Nat → List (Nat × Blk) → Option (List AV × List Nat × List (Nat × Blk))
 | 0, _, _, _ => none
 | _ + 1, [], s, u => some ([], s, u)
 | d + 1, a :: asx, s, u => match imp Hc site d a s u with
   | some (x, s, u) => match imps Hc site d asx s u with
     | some (xs, s, u) => some (x :: xs, s, u)
     | none => none
   | none => none
end
def upds : AHeap → List (Nat × Blk) → AHeap
 | H, [] => H
 | H, (i, b) :: us => upds (hset H i b) us
end NC
end Go.AM
end
noncomputable section
namespace Go.AM
noncomputable section NC
abbrev Ups := List (Nat × Blk)
structure Env where
 T : TyT
 fn : FuncId → Option Func
 glob : Nat → Option (List AV)
 mut_ : FuncId → Bool
def evO (E : Env) (φ : AFr) : Operand → AV
 | .tmp t => fget φ t
 | .const v => ofV v
 | .global g => match E.glob g with
   | some cs => .iptr cs 0
   | none => .any
 | .func f => .clo f []
def kLo : IntKind → Int
 | .i8 => -128 | .i16 => -32768 | .i32 => -2147483648 | .i64 => -9223372036854775808 | _ => 0
def kHi : IntKind → Int
 | .i8 => 127 | .i16 => 32767 | .i32 => 2147483647 | .i64 => 9223372036854775807
 | .u8 => 255 | .u16 => 65535 | .u32 => 4294967295 | .u64 => 18446744073709551615
def wrp (k : IntKind) (n : Int) : Int := if kLo k ≤ n ∧ n ≤ kHi k then n else k.wrap n
def pw2 (n : Nat) : Int := ((2 ^ n : Nat) : Int)
def bt (k : IntKind) (x : Int) : BitVec k.bits := BitVec.ofInt k.bits x
def bk (k : IntKind) (r : BitVec k.bits) : AV := .int k (wrp k r.toNat)
def aInt (op : BinOp) (k : IntKind) (a b : Int) : Option AV :=
 match op with
 | .add => some (.int k (wrp k (a + b)))
 | .sub => some (.int k (wrp k (a - b)))
 | .mul => some (.int k (wrp k (a * b)))
 | .quo => if b = 0 then none else some (.int k (wrp k (a.tdiv b)))
 | .rem => if b = 0 then none else some (.int k (a.tmod b))
 | .and => some (bk k (bt k a &&& bt k b))
 | .or => some (bk k (bt k a ||| bt k b))
 | .xor => some (bk k (bt k a ^^^ bt k b))
 | .andNot => some (bk k (bt k a &&& ~~~(bt k b)))
 | .eql => some (.bool (a == b))
 | .neq => some (.bool (a != b))
 | .lss => some (.bool (a < b))
 | .leq => some (.bool (a ≤ b))
 | .gtr => some (.bool (a > b))
 | .geq => some (.bool (a ≥ b))
 | .shl => none
 | .shr => none
def aShift (op : BinOp) (k : IntKind) (a b : Int) : Option AV :=
 if b < 0 then none else
 match op with
 | .shl => some (.int k (wrp k (a * pw2 (min b.toNat k.bits))))
 | .shr => some (.int k (a.fdiv (pw2 (min b.toNat k.bits))))
 | _ => none
def aStr (op : BinOp) (x y : ByteArray) : Option AV :=
 match op with
 | .eql => some (.bool (x.toList == y.toList))
 | .neq => some (.bool !(x.toList == y.toList))
 | .lss => some (.bool (Op.bytesLess x.toList y.toList))
 | .leq => some (.bool (Op.bytesLess x.toList y.toList || x.toList == y.toList))
 | .gtr => some (.bool !(Op.bytesLess x.toList y.toList || x.toList == y.toList))
 | .geq => some (.bool !(Op.bytesLess x.toList y.toList))
 | _ => none
def eqInts (k : IntKind) : List AV → List AV → Option Bool
 | [], [] => some true
 | .int k1 a :: xs, .int k2 b :: ys => if k1 = k ∧ k2 = k then
     (if (a == b) = true then eqInts k xs ys else match eqInts k xs ys with | some _ => some false | none => none) else none
 | _, _ => none
def eqFs (T : TyT) (xs ys : List AV) : List (Nat × TypeId × Nat) → Option Bool
 | [] => some true
 | (o, u, _) :: fs => match T u, xs[o]?, ys[o]? with
   | some ⟨.int k, _, _, _⟩, some (.int k1 a), some (.int k2 b) => if k1 = k ∧ k2 = k then (if (a == b) = true then eqFs T xs ys fs else some false) else none
   | _, _, _ => none
def eqArr (T : TyT) (t : TypeId) (xs ys : List AV) : Option Bool :=
 match T t with
 | some ⟨.arr n e true, _, _, _⟩ => match T e with
   | some ⟨.int k, _, _, _⟩ => if xs.length = n then eqInts k xs ys else none
   | _ => none
 | some ⟨.struct fs true, _, _, _⟩ => eqFs T xs ys fs
 | _ => none
def aNil : AV → Rd Bool
 | .nilsl => .pure true
 | .imm .. => .pure false
 | .ref id _ _ _ gl _ _ => (Rd.liveBlk id gl).bind fun _ => .pure false
 | _ => .fail
def Zu (T : TyT) (t : TypeId) : Bool :=
 match T t with
 | some ⟨.slice _, _, _, _⟩ => true
 | _ => false
def isBoolT (T : TyT) (t : TypeId) : Bool :=
 match T t with
 | some ⟨.bool, _, _, _⟩ => true
 | _ => false
def aBin (T : TyT) (op : BinOp) (t : TypeId) (x y : AV) : Rd AV :=
 match x, y with
 | .int k a, .int k' b => match op with
   | .shl => Rd.opt (aShift .shl k a b)
   | .shr => Rd.opt (aShift .shr k a b)
   | op => if k = k' then Rd.opt (aInt op k a b) else .fail
 | .str a, .str b => Rd.opt (aStr op a b)
 | .bool a, .bool b => if isBoolT T t = true then
     match op with
     | .eql => .pure (.bool (a == b))
     | .neq => .pure (.bool !(a == b))
     | _ => .fail
   else .fail
 | .agg xs, .agg ys => match op with
   | .eql => Rd.opt ((eqArr T t xs ys).map AV.bool)
   | .neq => Rd.opt ((eqArr T t xs ys).map fun b => AV.bool !b)
   | _ => .fail
 | x, .nilsl => if Zu T t = true then
     match op with
     | .eql => (aNil x).bind fun b => .pure (.bool b)
     | .neq => (aNil x).bind fun b => .pure (.bool !b)
     | _ => .fail
   else .fail
 | _, _ => .fail
def aUn (op : UnOp) (x : AV) : Option AV :=
 match op, x with
 | .neg, .int k n => some (.int k (wrp k (0 - n)))
 | .xor, .int k n => aInt .xor k (if k.signed then -1 else k.max) n
 | .not, .bool b => some (.bool !b)
 | _, _ => none
def aConv (T : TyT) (src dst : TypeId) (x : AV) : Option AV :=
 match T src, T dst, x with
 | some _, some ⟨.int k, _, _, _⟩, .int _ n => some (.int k (wrp k n))
 | some _, some ⟨.str, _, _, _⟩, .str s => some (.str s)
 | _, _, _ => none
def aNum : AV → Option Int
 | .int _ n => some n
 | _ => none
def bMax (cap : Nat) : Option AV → Option (Option Nat)
 | none => some none
 | some a => match aNum a with
   | some n => if 0 ≤ n ∧ n ≤ cap then some (some n.toNat) else none
   | none => none
def bHigh (len cap : Nat) : Option Nat → Option AV → Option Nat
 | some m, some a => match aNum a with
   | some n => if 0 ≤ n ∧ n ≤ m then some n.toNat else none
   | none => none
 | none, some a => match aNum a with
   | some n => if 0 ≤ n ∧ n ≤ cap then some n.toNat else none
   | none => none
 | none, none => some len
 | some _, none => none
def bLow (h : Nat) : Option AV → Option Nat
 | none => some 0
 | some a => match aNum a with
   | some n => if 0 ≤ n ∧ n ≤ h then some n.toNat else none
   | none => none
def aBounds (len cap : Nat) (lo hi mx : Option AV) : Option (Nat × Nat × Option Nat) :=
 match bMax cap mx with
 | none => none
 | some m => match bHigh len cap m hi with
   | none => none
   | some h => match bLow h lo with
     | none => none
     | some l => some (l, h, m)
def window (cells : List AV) (off n : Nat) : List AV := (cells.drop off).take n
def aSlice (T : TyT) (t : TypeId) (x : AV) (lo hi mx : Option AV) : Rd AV :=
 match T t, x with
 | some ⟨.str, _, _, _⟩, .str s => match mx, aBounds s.size s.size lo hi none with
   | none, some (l, h, _) => .pure (.str (s.extract l h))
   | _, _ => .fail
 | some ⟨.slice e, _, _, _⟩, .nilsl => match aBounds 0 0 lo hi mx, tsz T e with
   | some _, some _ => .pure .nilsl
   | _, _ => .fail
 | some ⟨.slice e, _, _, _⟩, .imm cells len ex => match aBounds len len lo hi mx, tsz T e with
   | some (l, h, m), some sz => if cells.length = len * sz then
       .pure (.imm (window cells (l * sz) ((h - l) * sz)) (h - l) (match m with | some m => decide (m = h) | none => ex && decide (h = len)))
     else .fail
   | _, _ => .fail
 | some ⟨.slice e, _, _, _⟩, .ref id off len cap gl sz ex => match aBounds len cap lo hi mx, tsz T e with
   | some (l, h, m), some s => if s = sz then 
       (Rd.liveBlk id gl).bind fun _ =>
       match m with
       | some m => .pure (.ref id (off + l * sz) (h - l) (m - l) gl sz true)
       | none => .pure (.ref id (off + l * sz) (h - l) (cap - l) gl sz ex)
     else .fail
   | _, _ => .fail
 | some ⟨.arr n e _, _, _, _⟩, .ptr id off gl => match aBounds n n lo hi mx, tsz T e with
   | some (l, h, m), some sz => if off + n * sz ≤ gl ∧ 0 < gl then 
       (Rd.liveBlk id gl).bind fun _ =>
       .pure (.ref id (off + l * sz) (h - l) ((m.getD n) - l) gl sz true)
     else .fail
   | _, _ => .fail
 | some ⟨.arr n e _, _, _, _⟩, .iptr cells off => match aBounds n n lo hi mx, tsz T e with
   | some (l, h, m), some sz => if off + n * sz ≤ cells.length then
       .pure (.imm (window cells (off + l * sz) ((h - l) * sz)) (h - l) (decide (m.getD n = h)))
     else .fail
   | _, _ => .fail
 | _, _ => .fail
def Z3 (T : TyT) (t : TypeId) (x ix : AV) : Rd AV :=
 match aNum ix with
 | none => .fail
 | some i =>
   match T t, x with
   | some ⟨.slice e, _, _, _⟩, .imm cells len _ => match tsz T e with
     | some sz => if 0 ≤ i ∧ i < len ∧ 0 < sz ∧ cells.length = len * sz then .pure (.iptr cells (i.toNat * sz)) else .fail
     | none => .fail
   | some ⟨.slice e, _, _, _⟩, .ref id off len _ gl sz _ => match tsz T e with
     | some s => if 0 ≤ i ∧ i < len ∧ s = sz ∧ 0 < sz then 
         (Rd.liveBlk id gl).bind fun _ =>
         .pure (.ptr id (off + i.toNat * sz) gl)
       else .fail
     | none => .fail
   | some ⟨.arr n e _, _, _, _⟩, .ptr id off gl => match tsz T e with
     | some sz => if 0 ≤ i ∧ i < n then 
         (Rd.liveBlk id gl).bind fun _ =>
         .pure (.ptr id (off + i.toNat * sz) gl)
       else .fail
     | none => .fail
   | some ⟨.arr n e _, _, _, _⟩, .iptr cells off => match tsz T e with
     | some sz => if 0 ≤ i ∧ i < n then .pure (.iptr cells (off + i.toNat * sz)) else .fail
     | none => .fail
   | _, _ => .fail
def aIndex (T : TyT) (t : TypeId) (x ix : AV) : Option AV :=
 match aNum ix, T t, x with
 | some i, some ⟨.arr n e _, _, _, _⟩, .agg cs => match tsz T e with
   | some sz => if 0 ≤ i ∧ i < n then rdCells T e cs (i.toNat * sz) else none
   | none => none
 | some i, some ⟨.str, _, _, _⟩, .str s => if 0 ≤ i then
     match s[i.toNat]? with
     | some b => some (.int .u8 b.toNat)
     | none => none
   else none
 | _, _, _ => none
def fieldOf (T : TyT) (t : TypeId) (f : Nat) : Option (Nat × TypeId × Nat) :=
 match T t with
 | some ⟨.struct fs _, _, _, _⟩ => fs[f]?
 | _ => none
def Z3f (T : TyT) (t : TypeId) (x : AV) (f : Nat) : Rd AV :=
 match fieldOf T t f with
 | some (o, _, _ + 1) =>
   match x with
   | .ptr id off gl => 
     (Rd.liveBlk id gl).bind fun _ =>
     .pure (.ptr id (off + o) gl)
   | .iptr cells off => .pure (.iptr cells (off + o))
   | _ => .fail
 | _ => .fail
def aField (T : TyT) (t : TypeId) (x : AV) (f : Nat) : Option AV :=
 match fieldOf T t f, x with
 | some (o, u, _), .agg cs => rdCells T u cs o
 | _, _ => none
def aLoad (T : TyT) (t : TypeId) (x : AV) : Rd AV :=
 match x with
 | .ptr id off gl => 
   (Rd.liveBlk id gl).bind fun b =>
   Rd.opt (rdCells T t b.cells off)
 | .iptr cells off => Rd.opt (rdCells T t cells off)
 | _ => .fail
def frz : List Nat → Rd Ups
 | [] => .pure []
 | i :: is => .get i fun
   | some b => match b.st, b.cells.all AV.flat with
     | .box, false => .fail
     | .mp, _ => .fail
     | .froz, _ => frz is
     | _, _ => (frz is).bind fun us => .pure ((i, ⟨.froz, b.cells⟩) :: us)
   | none => .fail
def aStore (T : TyT) (t : TypeId) (x v : AV) : Rd Ups :=
 match x, acells v, tsz T t with
 | .ptr id off gl, some vs, some n => if vs.length = n ∧ off + n ≤ gl then 
     (Rd.liveBlk id gl).bind fun b =>
     match b.st with
     | .box => .pure [(id, ⟨.box, putC b.cells off vs⟩)]
     | .row => (snaps 100 vs).bind fun x =>
       if id ∈ x.2 then .fail else
         (frz x.2).bind fun us => .pure (us ++ [(id, ⟨.row, putC b.cells off x.1⟩)])
     | _ => .fail
   else .fail
 | _, _, _ => .fail
def allFree : List Nat → Rd Bool
 | [] => .pure true
 | i :: is => .get i fun
   | none => allFree is
   | some _ => .pure false
def freeOff (l : List Nat) : Nat → Nat → Rd Nat
 | 0, _ => .fail
 | t + 1, off => (allFree (l.map (· + off))).bind fun
   | true => .pure off
   | false => freeOff l t (off + 1048576)
def fresh (site : Nat) (b : Blk) : Rd Ups := .get site fun
 | none => .pure [(site, b)]
 | some _ => .fail
def fillA : List AV → List (Option (Nat × Nat) × List AV) → Option (List AV)
 | cells, [] => some cells
 | cells, (pl, vs) :: rest =>
   match pl with
   | none => none
   | some (off, size) => if vs.length ≠ size ∨ off + vs.length > cells.length then none else fillA (putC cells off vs) rest
def partsOf (ρ : Operand → AV) (place : Nat → Option (Nat × Nat)) : List (Nat × Operand) → Option (List (Option (Nat × Nat) × List AV))
 | [] => some []
 | (i, x) :: rest => match acells (ρ x), partsOf ρ place rest with
   | some vs, some r => some ((place i, vs) :: r)
   | _, _ => none
def placeF (fs : List (Nat × TypeId × Nat)) (i : Nat) : Option (Nat × Nat) :=
 match fs[i]? with
 | some (o, _, s) => some (o, s)
 | none => none
def aBuild (T : TyT) (t : TypeId) (ρ : Operand → AV) (parts : List (Nat × Operand)) : Option AV :=
 match T t with
 | some ⟨.struct fs _, _, _, some z⟩ =>
   match partsOf ρ (placeF fs) parts with
   | some ps => (fillA z ps).map AV.agg
   | none => none
 | some ⟨.arr _ e _, _, _, some z⟩ => match tsz T e with
   | some sz => match partsOf ρ (fun i => some (i * sz, sz)) parts with
     | some ps => (fillA z ps).map AV.agg
     | none => none
   | none => none
 | _ => none
def Zn (T : TyT) (site : Nat) (t : TypeId) (len : Nat) (ρ : Operand → AV) (parts : List (Nat × Operand)) : Rd (AV × Ups) :=
 match elemT T t with
 | none => .fail
 | some e => match tsz T e, zeroCells T e with
   | some sz, some z => if z.length = sz ∧ 0 < sz ∧ len * sz ≤ 1000000 then
       match partsOf ρ (fun i => some (i * sz, sz)) parts with
       | none => .fail
       | some ps => match fillA (repC z len) ps with
         | none => .fail
         | some cells =>
           (snaps 200 cells).bind fun x =>
           (frz x.2).bind fun us =>
           (fresh site ⟨.row, x.1⟩).bind fun f =>
           .pure (.ref site 0 len len x.1.length sz false, us ++ f)
     else .fail
   | _, _ => .fail
def Z8 (T : TyT) (site : Nat) (t : TypeId) (len : Nat) (ρ : Operand → AV) (parts : List (Nat × Operand)) : Rd (AV × Ups) :=
 (freeOff [site] 6 0).bind fun off => Zn T (site + off) t len ρ parts
def aMake (T : TyT) (site : Nat) (t : TypeId) (l c : AV) : Rd (AV × Ups) :=
 match elemT T t, aNum l, aNum c with
 | some e, some l, some c => match T e, zeroCells T e with
   | some i, some z => if z.length = i.size ∧ 0 < i.size ∧ z.all AV.flat ∧ 0 ≤ l ∧ l ≤ c ∧ c ≤ kHi .i64 ∧ i.bytes * c ≤ 281474976710656 then 
       (fresh site ⟨.row, repC z c.toNat⟩).bind fun f =>
       .pure (.ref site 0 l.toNat c.toNat (c.toNat * i.size) i.size false, f)
     else .fail
   | _, _ => .fail
 | _, _, _ => .fail
def srcOf (sz : Nat) : AV → Rd (Nat × List AV)
 | .nilsl => .pure (0, [])
 | .imm cells len _ => if cells.length = len * sz then .pure (len, cells) else .fail
 | .ref id off len _ gl s _ => if s = sz then 
     (Rd.liveBlk id gl).bind fun b =>
     match b.st with
     | .box => if off + len * sz ≤ b.cells.length ∧ (window b.cells off (len * sz)).all AV.flat = true then .pure (len, window b.cells off (len * sz)) else .fail
     | _ => if off + len * sz ≤ b.cells.length then .pure (len, window b.cells off (len * sz)) else .fail
   else .fail
 | _ => .fail
def roomOk (T : TyT) (e : TypeId) (need : Nat) : Bool :=
 match T e with
 | some i => match i.zero with
   | some z => decide (0 < i.bytes ∧ z.length = i.size ∧ need * i.bytes ≤ 70368744177664)
   | none => false
 | none => false
def aAppend (T : TyT) (site : Nat) (e : TypeId) (sz : Nat) (s x : AV) : Rd (AV × Ups) :=
 (srcOf sz x).bind fun p =>
 match s with
 | .nilsl => if p.1 = 0 then .pure (.nilsl, []) else
     if roomOk T e p.1 = true then
       (fresh site ⟨.row, p.2⟩).bind fun f => .pure (.ref site 0 p.1 p.1 p.2.length sz false, f)
     else .fail
 | .imm cells len ex => if p.1 = 0 then .pure (.imm cells len ex, []) else
     if ex = true ∧ cells.length = len * sz ∧ roomOk T e (len + p.1) = true then
       (fresh site ⟨.row, cells ++ p.2⟩).bind fun f => .pure (.ref site 0 (len + p.1) (len + p.1) (cells.length + p.2.length) sz false, f)
     else .fail
 | .ref id off len cap gl s ex => if s = sz then
     (Rd.liveBlk id gl).bind fun b =>
     if p.1 = 0 then .pure (.ref id off len cap gl s ex, []) else
     if len + p.1 ≤ cap then
       match b.st with
       | .row => if off + (len + p.1) * sz ≤ gl then .pure (.ref id off (len + p.1) cap gl s ex, [(id, ⟨.row, putC b.cells (off + len * sz) p.2⟩)]) else .fail
       | _ => .fail
     else if roomOk T e (len + p.1) = true ∧ off + len * sz ≤ gl then
       if ex = true then
         match b.st with
         | .box => .fail
         | _ => (fresh site ⟨.row, window b.cells off (len * sz) ++ p.2⟩).bind fun f =>
             .pure (.ref site 0 (len + p.1) (len + p.1) ((len + p.1) * sz) sz false, f)
       else
         match b.st with
         | .row => if off = 0 ∧ cap * sz = gl then
             .pure (.ref id 0 (len + p.1) (len + p.1) ((len + p.1) * sz) sz false, [(id, ⟨.row, window b.cells 0 (len * sz) ++ p.2⟩)])
           else .fail
         | _ => .fail
     else .fail
   else .fail
 | _ => .fail
def aCopy (sz : Nat) (d s : AV) : Rd (AV × Ups) :=
 (srcOf sz s).bind fun p =>
 match d with
 | .nilsl => .pure (.int .i64 0, [])
 | .ref id off len _ gl z _ => if z = sz then
     (Rd.liveBlk id gl).bind fun b =>
     match b.st with
     | .row => if off + len * sz ≤ gl then
         .pure (.int .i64 (min p.1 len : Nat), [(id, ⟨.row, putC b.cells off (p.2.take (min p.1 len * sz))⟩)])
       else .fail
     | .box => if off + len * sz ≤ gl then
         .pure (.int .i64 (min p.1 len : Nat), [(id, ⟨.box, putC b.cells off (p.2.take (min p.1 len * sz))⟩)])
       else .fail
     | _ => .fail
   else .fail
 | _ => .fail
def aClear (T : TyT) (e : TypeId) (sz : Nat) (s : AV) : Rd (AV × Ups) :=
 match s, zeroCells T e with
 | .nilsl, _ => .pure (.tup [], [])
 | .ref id off len _ gl z _, some zs => if z = sz ∧ zs.length = sz ∧ 0 < sz ∧ zs.all AV.flat then
     (Rd.liveBlk id gl).bind fun b =>
     match b.st with
     | .row => if off + len * sz ≤ gl then .pure (.tup [], [(id, ⟨.row, putC b.cells off (repC zs len)⟩)]) else .fail
     | _ => .fail
   else .fail
 | _, _ => .fail
def aLen (T : TyT) (t : TypeId) (x : AV) : Rd AV :=
 match T t, x with
 | some ⟨.str, _, _, _⟩, .str s => .pure (.int .i64 s.size)
 | some ⟨.slice _, _, _, _⟩, .nilsl => .pure (.int .i64 0)
 | some ⟨.slice _, _, _, _⟩, .imm _ len _ => .pure (.int .i64 len)
 | some ⟨.slice _, _, _, _⟩, .ref id _ len _ gl _ _ => 
   (Rd.liveBlk id gl).bind fun _ =>
   .pure (.int .i64 len)
 | some ⟨.arr n _ _, _, _, _⟩, _ => .pure (.int .i64 n)
 | _, _ => .fail
def aMin : AV → List AV → Option AV
 | .int k x, [] => some (.int k x)
 | .int k x, .int _ y :: r => aMin (.int k (if y < x then y else x)) r
 | _, _ => none
def aMax : AV → List AV → Option AV
 | .int k x, [] => some (.int k x)
 | .int k x, .int _ y :: r => aMax (.int k (if y > x then y else x)) r
 | _, _ => none
def just (r : Rd AV) : Rd (AV × Ups) := r.bind fun a => .pure (a, [])
def justO (o : Option AV) : Rd (AV × Ups) :=
 match o with
 | some a => .pure (a, [])
 | none => .fail
def Z2 (T : TyT) (site : Nat) (b : Builtin) (argTypes : Array TypeId) (args : List AV) : Rd (AV × Ups) :=
 match b, args with
 | .len, [x] => match argTypes[0]? with
   | some t => just (aLen T t x)
   | none => .fail
 | .append, [s, x] => match argTypes[0]?, argTypes[1]? with
   | some t, some u => match elemT T t, Zu T u with
     | some e, true => match tsz T e with
       | some (sz + 1) => aAppend T site e (sz + 1) s x
       | _ => .fail
     | _, _ => .fail
   | _, _ => .fail
 | .copy, [d, s] => match argTypes[0]? with
   | some t => match elemT T t with
     | some e => match tsz T e with
       | some (sz + 1) => aCopy (sz + 1) d s
       | _ => .fail
     | none => .fail
   | none => .fail
 | .clear, [s] => match argTypes[0]? with
   | some t => match elemT T t with
     | some e => match tsz T e with
       | some (sz + 1) => aClear T e (sz + 1) s
       | _ => .fail
     | none => .fail
   | none => .fail
 | .min, x :: r => justO (aMin x r)
 | .max, x :: r => justO (aMax x r)
 | _, _ => .fail
structure FI where
 ntmps : Nat
 results : Array ResultVar
 body : Code
def fInfo (E : Env) (f : FuncId) : Option FI :=
 match E.fn f with
 | some fn => match fn.body with
   | some c => some ⟨fn.ntmps, fn.results, c⟩
   | none => none
 | none => none
abbrev Callee := FuncId → List AV → AHeap → Nat → Option (AV × AHeap)
def freeAll : List Nat → Rd Unit
 | [] => .pure ()
 | i :: is => .get i fun
   | none => freeAll is
   | some _ => .fail
def apart : List Nat → Bool
 | [] => true
 | i :: is => !(is.elem i) && apart is
def aBackAt (site : Nat → Nat) (keep : Bool) (seen : List Nat) : Option (AV × AHeap) → Rd (AV × Ups)
 | none => .fail
 | some (r, Hc) =>
   match keep with
   | false => .pure (.any, [])
   | true =>
     match imp Hc site 200 r [] [] with
     | none => .fail
     | some (r', _, ups) =>
       if apart (ups.map (·.1)) = true then
         (freeAll (ups.map (·.1))).bind fun _ =>
         match r.leads with
         | true => (frz seen).bind fun us => .pure (r', us ++ ups)
         | false => .pure (r', ups)
       else .fail
def sitesB (site : Nat → Nat) (keep : Bool) : Option (AV × AHeap) → List Nat
 | none => []
 | some (r, Hc) =>
   match keep with
   | false => []
   | true => match imp Hc site 200 r [] [] with
     | none => []
     | some (_, _, ups) => ups.map (·.1)
def aBack (site : Nat → Nat) (keep : Bool) (seen : List Nat) (x : Option (AV × AHeap)) : Rd (AV × Ups) :=
 (freeOff (sitesB site keep x) 6 0).bind fun off => aBackAt (fun j => site j + off) keep seen x
def frzRet (Hc : AHeap) : AV → Option (AV × AHeap)
 | .clo f (c :: cs) => match (snap 200 (.clo f (c :: cs))).run Hc with
   | some (r', V) => match (frz V).run Hc with
     | some us => some (r', upds Hc us)
     | none => none
   | none => none
 | r => some (r, Hc)
def thaw (C : Callee) : Callee := fun f args H B =>
 match C f args H B with
 | some (r, Hc) => frzRet Hc r
 | none => none
def aCall (C : Callee) (site : Nat → Nat) (keep : Bool) (f : FuncId) (args : List AV) : Rd (AV × Ups) :=
 (snaps 200 args).bind fun x => aBack site keep x.2 (thaw C f x.1 [] 0)
def opPick (c a b : AV) : Rd (AV × Ups) :=
 match c with
 | .bool t => .pure (if t then a else b, [])
 | _ => .fail
def opBox (site : Nat) (z : Option (List AV)) : Rd (AV × Ups) :=
 match z with
 | some z => (fresh site ⟨.box, z⟩).bind fun f => .pure (.ptr site 0 z.length, f)
 | none => .fail
def opStore (T : TyT) (t : TypeId) (a x : AV) : Rd (AV × Ups) := (aStore T t a x).bind fun us => .pure (.tup [], us)
def opNil (x : AV) : Rd (AV × Ups) :=
 match x with
 | .ptr id off gl => (Rd.liveBlk id gl).bind fun _ => .pure (.ptr id off gl, [])
 | .iptr cells off => .pure (.iptr cells off, [])
 | .clo f caps => .pure (.clo f caps, [])
 | .bnd f vs => .pure (.bnd f vs, [])
 | _ => .fail
def opFunc (fn : Fn) (first caps : List AV) : Rd (AV × Ups) :=
 match fn, first with
 | .func f, [] => .pure (.clo f caps, [])
 | .func f, v :: vs => match caps with
   | [] => .pure (.bnd f (v :: vs), [])
   | _ => .fail
 | _, _ => .fail
def Zc (t : AV) (i : Nat) : Rd (AV × Ups) :=
 match t with
 | .tup vs => justO vs[i]?
 | _ => .fail
def opCallV (E : Env) (C : Callee) (site : Nat → Nat) (keep : Bool) (f : AV) (args : List AV) : Rd (AV × Ups) :=
 match f with
 | .clo f caps => match fInfo E f with
   | some _ => aCall C site keep f (args ++ caps)
   | none => .fail
 | .bnd f vs => match fInfo E f with
   | some _ => aCall C site keep f (vs ++ args)
   | none => .fail
 | _ => .fail
def opCall (E : Env) (C : Callee) (site : Nat → Nat) (φ : AFr) (keep : Bool) (c : Call) : Rd (AV × Ups) :=
 match c.callee with
 | .builtin b => Z2 E.T (site 0) b c.argTypes (c.args.toList.map (evO E φ))
 | .value f => opCallV E C site keep (evO E φ f) (c.args.toList.map (evO E φ))
 | _ => .fail
def eqK (T : TyT) (t : TypeId) (x y : AV) : Option Bool :=
 match x, y with
 | .int k a, .int k' b => match T t with
   | some ⟨.int q, _, _, _⟩ => if k = q ∧ k' = q then some (a == b) else none
   | _ => none
 | .agg xs, .agg ys => match T t with
   | some ⟨.arr _ _ _, _, _, _⟩ => eqArr T t xs ys
   | _ => none
 | _, _ => none
def keyA (T : TyT) (t : TypeId) (x : AV) : Bool :=
 match eqK T t x x with
 | some b => b
 | none => false
def findA (T : TyT) (t : TypeId) (x : AV) : List AV → Nat → Option (Option (Nat × AV))
 | [], _ => some none
 | k :: v :: cs, i => match eqK T t x k with
   | some true => some (some (i, v))
   | some false => findA T t x cs (i + 1)
   | none => none
 | _, _ => none
def mapTy (T : TyT) (t : TypeId) : Option (TypeId × TypeId × AV) :=
 match T t with
 | some ⟨.map k e z, _, _, _⟩ => some (k, e, z)
 | _ => none
def plainA (v : AV) : Bool := !v.leads && v.oneCellA
def liveMap (i : Nat) : Rd (List AV) := .get i fun
 | some ⟨.mp, cs⟩ => .pure cs
 | _ => .fail
def opMkMap (site : Nat) (r : Option Operand) : Rd (AV × Ups) :=
 match r with
 | none => (fresh site ⟨.mp, []⟩).bind fun f => .pure (.mapv site, f)
 | some _ => .fail
def aFind (T : TyT) (t : TypeId) (m key : AV) (f : Nat → List AV → AV → Option (Nat × AV) → Rd (AV × Ups)) : Rd (AV × Ups) :=
 match mapTy T t, m with
 | some (k, _, z), .mapv id => (liveMap id).bind fun cs =>
   match keyA T k key with
   | true => match findA T k key cs 0 with
     | some r => f id cs z r
     | none => .fail
   | false => .fail
 | _, _ => .fail
def ZpC (T : TyT) (t : TypeId) (m key : AV) (ok : Bool) : Rd (AV × Ups) :=
 aFind T t m key fun _ _ z r => match r with
   | some (_, v) => .pure (cond ok (.tup [v, .bool true]) v, [])
   | none => .pure (cond ok (.tup [z, .bool false]) z, [])
def Z8g (T : TyT) (t : TypeId) (m key v : AV) : Rd (AV × Ups) :=
 aFind T t m key fun id cs _ r => match plainA v with
   | true => match r with
     | some (i, _) => .pure (.tup [], [(id, ⟨.mp, cs.set (2 * i + 1) v⟩)])
     | none => .pure (.tup [], [(id, ⟨.mp, cs ++ [key, v]⟩)])
   | false => .fail
def Z9d (T : TyT) (t : TypeId) (m key : AV) : Rd (AV × Ups) :=
 aFind T t m key fun id cs z r => match r with
   | some (i, v) => .pure (.tup [v, .int .i64 i], [(id, ⟨.mp, cs⟩)])
   | none => match plainA z with
     | true => .pure (.tup [z, .int .i64 (cs.length / 2 : Nat)], [(id, ⟨.mp, cs ++ [key, z]⟩)])
     | false => .fail
def Z3H (m stamp v : AV) : Rd (AV × Ups) :=
 match m, stamp with
 | .mapv id, .int _ n => (liveMap id).bind fun cs =>
   if 0 ≤ n ∧ 2 * n.toNat + 1 < cs.length ∧ plainA v = true then .pure (.tup [], [(id, ⟨.mp, cs.set (2 * n.toNat + 1) v⟩)]) else .fail
 | _, _ => .fail
def aOp (E : Env) (C : Callee) (site : Nat → Nat) (φ : AFr) (o : Oper) : Rd (AV × Ups) :=
 match o.op with
 | .move x => .pure (evO E φ x, [])
 | .assign x => .pure (evO E φ x, [])
 | .pick c a b => opPick (evO E φ c) (evO E φ a) (evO E φ b)
 | .alloc t => opBox (site 0) (zeroCells E.T t)
 | .box _ x => opBox (site 0) (acells (evO E φ x))
 | .build t parts => justO (aBuild E.T t (evO E φ) parts.toList)
 | .buildSlice t len parts => Z8 E.T (site 0) t len (evO E φ) parts.toList
 | .load t a => just (aLoad E.T t (evO E φ a))
 | .store t a x => opStore E.T t (evO E φ a) (evO E φ x)
 | .nilCheck x => opNil (evO E φ x)
 | .binOp op t x y _ => just (aBin E.T op t (evO E φ x) (evO E φ y))
 | .unOp op _ x => justO (aUn op (evO E φ x))
 | .convert src dst x => justO (aConv E.T src dst (evO E φ x))
 | .makeFunc fn first captured => opFunc fn (first.toList.map (evO E φ)) (captured.toList.map (evO E φ))
 | .makeSlice t l c => aMake E.T (site 0) t (evO E φ l) (evO E φ c)
 | .slice t x lo hi mx => just (aSlice E.T t (evO E φ x) (lo.map (evO E φ)) (hi.map (evO E φ)) (mx.map (evO E φ)))
 | .fieldAddr t x f => just (Z3f E.T t (evO E φ x) f)
 | .field t x f => justO (aField E.T t (evO E φ x) f)
 | .indexAddr t x ix => just (Z3 E.T t (evO E φ x) (evO E φ ix))
 | .index t x ix => justO (aIndex E.T t (evO E φ x) (evO E φ ix))
 | .extract t i => Zc (evO E φ t) i
 | .call c => opCall E C site φ o.dst.isSome c
 | .makeMap _ r => opMkMap (site 0) r
 | .lookup t m k ok => ZpC E.T t (evO E φ m) (evO E φ k) ok
 | .mapUpdate t m k x => Z8g E.T t (evO E φ m) (evO E φ k) (evO E φ x)
 | .insert t m k x => Z8g E.T t (evO E φ m) (evO E φ k) (evO E φ x)
 | .mapEntry t m k => Z9d E.T t (evO E φ m) (evO E φ k)
 | .entryStore _ m s x => Z3H (evO E φ m) (evO E φ s) (evO E φ x)
 | _ => .fail
def mutV (E : Env) (f : AV) (args : List AV) : Option (FuncId × List AV) :=
 match f with
 | .clo f caps => match E.mut_ f with
   | true => match fInfo E f with
     | some _ => some (f, args ++ caps)
     | none => none
   | false => none
 | .bnd f vs => match E.mut_ f with
   | true => match fInfo E f with
     | some _ => some (f, vs ++ args)
     | none => none
   | false => none
 | _ => none
def mutC (E : Env) (φ : AFr) (c : Call) : Option (FuncId × List AV) :=
 match c.callee with
 | .value f => mutV E (evO E φ f) (c.args.toList.map (evO E φ))
 | _ => none
def wantA (ops : Array Oper) (φ : AFr) (o : Oper) : Option Bool :=
 match o.guard with
 | none => some true
 | some (j, want) =>
   match ops[j]? with
   | none => some false
   | some oj => match oj.dst with
     | none => some false
     | some d => match fget φ d with
       | .bool b => some (b == want)
       | .tup _ => some false
       | _ => none
def putA (n : Nat) (φ : AFr) (d : Option Tmp) (v : AV) : Option AFr :=
 match d with
 | some d => cond (Nat.ble n d) none (some (fput φ d v))
 | none => some φ
abbrev St := AFr × AHeap
def siteOf (B n : Nat) (o : Oper) (j : Nat) : Nat := B + j * n + o.dst.getD 0
def fin (n : Nat) (o : Oper) (φ : AFr) (v : AV) (H : AHeap) : Option St :=
 match putA n φ o.dst v with
 | some φ' => some (φ', H)
 | none => none
def goR (E : Env) (C : Callee) (B n : Nat) (o : Oper) (s : St) : Option St :=
 match (aOp E C (siteOf B n o) s.1 o).run s.2 with
 | some (v, us) => fin n o s.1 v (upds s.2 us)
 | none => none
def goM (C : Callee) (B n : Nat) (o : Oper) (s : St) (f : FuncId) (args : List AV) : Option St :=
 match C f args s.2 (B + n * 8) with
 | some (r, H) => fin n o s.1 r H
 | none => none
def goA (E : Env) (C : Callee) (B n : Nat) (o : Oper) (s : St) : Option St :=
 match o.op with
 | .move x => fin n o s.1 (evO E s.1 x) s.2
 | .assign x => fin n o s.1 (evO E s.1 x) s.2
 | .call c => match mutC E s.1 c with
   | some (f, args) => goM C B n o s f args
   | none => goR E C B n o s
 | _ => goR E C B n o s
def stepA (E : Env) (C : Callee) (B n : Nat) (ops : Array Oper) (o : Oper) (s : St) : Option St :=
 match o.guard with
 | none => goA E C B n o s
 | some _ =>
   match wantA ops s.1 o with
   | none => none
   | some false => fin n o s.1 (.tup []) s.2
   | some true => goA E C B n o s
def runA (E : Env) (C : Callee) (B n : Nat) (ops : Array Oper) : List Oper → St → Option St
 | [], s => some s
 | o :: os, s => match stepA E C B n ops o s with
   | some s' => runA E C B n ops os s'
   | none => none
end NC
end Go.AM
end
noncomputable section
namespace Go.AM
noncomputable section NC
structure Tr where
 all : Bool
 rd : List Nat
 wr : List Nat
def trR (E : Env) (C : Callee) (B n : Nat) (o : Oper) (s : St) : Tr :=
 match (aOp E C (siteOf B n o) s.1 o).run s.2 with
 | some (_, us) => ⟨false, (aOp E C (siteOf B n o) s.1 o).foot s.2, us.map (·.1)⟩
 | none => ⟨true, [], []⟩
def trG (E : Env) (C : Callee) (B n : Nat) (o : Oper) (s : St) : Tr :=
 match o.op with
 | .move _ => ⟨false, [], []⟩
 | .assign _ => ⟨false, [], []⟩
 | .call c => match mutC E s.1 c with
   | some _ => ⟨true, [], []⟩
   | none => trR E C B n o s
 | _ => trR E C B n o s
def trA (E : Env) (C : Callee) (B n : Nat) (ops : Array Oper) (o : Oper) (s : St) : Tr :=
 match o.guard with
 | none => trG E C B n o s
 | some _ =>
   match wantA ops s.1 o with
   | some true => trG E C B n o s
   | _ => ⟨false, [], []⟩
def ascH (lo : Nat) (H : AHeap) : Bool :=
 List.rec (motive := fun _ => Nat → Bool) (fun _ => true) (fun p _ ih lo => Bool.rec false (ih (p.1 + 1)) (Nat.ble lo p.1)) H lo
def descF (hi : Nat) (φ : AFr) : Bool :=
 List.rec (motive := fun _ => Nat → Bool) (fun _ => true) (fun p _ ih hi => Bool.rec false (ih p.1) (Nat.ble (p.1 + 1) hi)) φ hi
theorem andC (a b : Bool) : cond a b false = (a && b) := by cases a <;> rfl
theorem Z08I (lo : Nat) : ascH lo [] = true := rfl
theorem Z2W (lo k : Nat) (b : Blk) (t : AHeap) : ascH lo ((k, b) :: t) = (Nat.ble lo k && ascH (k + 1) t) :=
 (brec false (ascH (k + 1) t) (Nat.ble lo k)).trans (andC _ _)
theorem Z02S (hi : Nat) : descF hi [] = true := rfl
theorem Z2l (hi k : Nat) (a : AV) (t : AFr) : descF hi ((k, a) :: t) = (Nat.ble (k + 1) hi && descF k t) :=
 (brec false (descF k t) (Nat.ble (k + 1) hi)).trans (andC _ _)
def neat (n : Nat) (s : St) : Bool := descF n s.1 && ascH 0 s.2
def runT (E : Env) (C : Callee) (B n : Nat) (ops : Array Oper) : List Oper → Nat → St → Option (St × List (Nat × Tr))
 | [], _, s => some (s, [])
 | o :: os, i, s => match stepA E C B n ops o s with
   | some s' => match neat n s' with
     | true => match runT E C B n ops os (i + 1) s' with
       | some (s2, l) => some (s2, (i, trA E C B n ops o s) :: l)
       | none => none
     | false => none
   | none => none
def dd (n : Nat) (l : List Nat) : List Nat :=
 let m := l.foldl (fun m i => m ||| 1 <<< i) 0
 (List.range n).filter fun i => m.testBit i
def ancs : List Oper → List (List Nat) → List (List Nat)
 | [], acc => acc
 | o :: os, acc =>
   let ds := (o.after.toList.filter (Region.binds .any)).map (·.on)
   ancs os (acc ++ [dd acc.length (ds ++ ds.flatMap fun d => acc.getD d [])])
def Z2d : List Oper → Nat → Bool
 | [], _ => true
 | o :: os, i => (o.after.toList.all fun e => !Region.binds .any e || decide (e.on < i)) && Z2d os (i + 1)
def tmpsOf (o : Oper) : List Nat := o.op.operands.toList.filterMap fun
 | .tmp t => some t
 | _ => none
def Zo0 (ops : Array Oper) (o : Oper) : List Nat :=
 match o.guard with
 | some (j, _) => match ops[j]? with
   | some oj => oj.dst.toList
   | none => []
 | none => []
def looks (ops : Array Oper) (o : Oper) : List Nat := Zo0 ops o ++ tmpsOf o
def disj (a b : List Nat) : Bool := a.all fun x => !b.contains x
def Tr.empty (t : Tr) : Bool := !t.all && t.rd.isEmpty && t.wr.isEmpty
def apartO (ops : Array Oper) (oi oj : Oper) : Bool :=
 disj oi.dst.toList oj.dst.toList && disj oi.dst.toList (looks ops oj) && disj oj.dst.toList (looks ops oi)
def Z5l (ops : Array Oper) (an : List (List Nat)) (i : Nat) (oi : Oper) : List Oper → Nat → Bool
 | [], _ => true
 | oj :: os, j => ((an.getD j []).contains i || apartO ops oi oj) && Z5l ops an i oi os (j + 1)
def Z47 (ops : Array Oper) (an : List (List Nat)) : List Oper → Nat → Bool
 | [], _ => true
 | o :: os, i => Z5l ops an i o os (i + 1) && Z47 ops an os (i + 1)
def statOk (ops : Array Oper) : Bool := Z2d ops.toList 0 && Z47 ops (ancs ops.toList []) ops.toList 0
def apartT (a b : Tr) : Bool :=
 (!a.all || b.empty) && (!b.all || a.empty) && disj a.wr b.wr && disj a.wr b.rd && disj b.wr a.rd
def Zo (an : List (List Nat)) : List (Nat × Tr) → Bool
 | [] => true
 | (i, a) :: l => (l.all fun p => (an.getD p.1 []).contains i || apartT a p.2) && Zo an l
def Zm : List (Nat × Tr) → List (Nat × Tr)
 | [] => []
 | (i, t) :: l => match t.empty with
   | true => Zm l
   | false => (i, t) :: Zm l
def writing : List (Nat × Tr) → Bool
 | [] => false
 | (_, t) :: l => t.all || !t.wr.isEmpty || writing l
def dynOk (ops : Array Oper) (l : List (Nat × Tr)) : Bool := !writing l || Zo (ancs ops.toList []) (Zm l)
def drawA (E : Env) (C : Callee) (B n : Nat) (ops : Array Oper) (s : St) : Option St :=
 match neat n s with
 | true => match runT E C B n ops ops.toList 0 s with
   | some (s', l) => match statOk ops with
     | true => match dynOk ops l with
       | true => some s'
       | false => none
     | false => none
   | none => none
 | false => none
mutual
def refsOf : AV → List Nat
 | .agg vs => refsL vs
 | .tup vs => refsL vs
 | .clo _ vs => refsL vs
 | .ref id .. => [id]
 | .ptr id .. => [id]
 | .mapv id => [id]
 | .bnd _ vs => refsL vs
 | _ => []
def refsL : List AV → List Nat
 | [] => []
 | a :: asx => refsOf a ++ refsL asx
end
def mark (H : AHeap) : Nat → List Nat → List Nat → List Nat
 | 0, _, seen => seen
 | _ + 1, [], seen => seen
 | n + 1, i :: todo, seen =>
   if seen.contains i then mark H n todo seen else
   match hget H i with
   | some ⟨.box, cs⟩ => mark H n (refsL cs ++ todo) (i :: seen)
   | _ => mark H n todo (i :: seen)
def keepB (E0 : AHeap) (keep : List Nat) : AHeap → AHeap
 | [] => []
 | (i, b) :: t => cond (keep.elem i || (hget E0 i).isSome) ((i, b) :: keepB E0 keep t) (keepB E0 keep t)
def refsF : AFr → List Nat
 | [] => []
 | (_, a) :: t => refsOf a ++ refsF t
def allHeld (H : AHeap) : List Nat → Bool
 | [] => true
 | i :: is => (hget H i).isSome && allHeld H is
def closedH (H : AHeap) : AHeap → Bool
 | [] => true
 | (_, ⟨.box, cs⟩) :: t => allHeld H (refsL cs) && closedH H t
 | _ :: t => closedH H t
def closedB (φ : AFr) (H : AHeap) : Bool := allHeld H (refsF φ) && closedH H H
def gcIf (φ : AFr) (H H' : AHeap) : AHeap :=
 match closedB φ H' with
 | true => H'
 | false => H
def headA (E0 : AHeap) (s : St) : St := (s.1, gcIf s.1 s.2 (keepB E0 (mark s.2 1000 (refsF s.1) []) s.2))
def gcM (E0 : AHeap) (l : List Nat) (s : St) : St :=
 match l with
 | 999999 :: _ => headA E0 s
 | _ => s
inductive Ex where
 | normal
 | exit (id : Nat)
 | ret
def iterA (body : St → Option (Ex × St)) (hd : St → St) : Nat → St → Option (Ex × St)
 | 0, _ => none
 | n + 1, s => match body (hd s) with
   | some (.normal, s') => iterA body hd n s'
   | r => r
def regA (E : Env) (C : Callee) (B n : Nat) (ops : Array Oper) (s : St) : Bool → Option St
 | true => drawA E C B n ops s
 | false => runA E C B n ops ops.toList s
def execA (E : Env) (C : Callee) (fg : Nat → List Nat) (B n : Nat) (E0 : AHeap) (N : Nat) : Code → St → Option (Ex × St)
 | .skip, s => some (.normal, s)
 | .label _, s => some (.normal, s)
 | .region id ops draw, s => match regA E C B n ops s draw with
   | some s' => some (.normal, gcM E0 (fg id) (forget s'.1 (fg id), s'.2))
   | none => none
 | .seq a b, s => match execA E C fg B n E0 N a s with
   | some (.normal, s') => execA E C fg B n E0 N b s'
   | r => r
 | .cond c t e, s => match evO E s.1 c with
   | .bool true => execA E C fg B n E0 N t s
   | .bool false => execA E C fg B n E0 N e s
   | _ => none
 | .block id body, s => match execA E C fg B n E0 N body s with
   | some (.exit i, s') => match Nat.beq i id with
     | true => some (.normal, forget s'.1 (fg (id + 1000000)), s'.2)
     | false => some (.exit i, s')
   | some (.normal, s') => some (.normal, forget s'.1 (fg (id + 1000000)), s'.2)
   | r => r
 | .loop body, s => iterA (execA E C fg B n E0 N body) (headA E0) N s
 | .scope body, s => execA E C fg B n E0 N body s
 | .exit id, s => some (.exit id, s)
 | .ret, s => some (.ret, s)
 | _, _ => none
def resL (E : Env) (s : St) : List ResultVar → Option (List AV)
 | [] => some []
 | .tmp t :: r => match resL E s r with
   | some vs => some (fget s.1 t :: vs)
   | none => none
 | .cell a t :: r => match (aLoad E.T t (fget s.1 a)).run s.2, resL E s r with
   | some v, some vs => some (v :: vs)
   | _, _ => none
def resA (E : Env) (s : St) (rs : List ResultVar) : Option AV :=
 match resL E s rs with
 | some [v] => some v
 | some vs => some (.tup vs)
 | none => none
def Z4 : List AV → Nat → AFr → AFr
 | [], _, acc => acc
 | a :: asx, i, acc => Z4 asx (i + 1) ((i, a) :: acc)
def bodyA (E : Env) (C : Callee) (fg : FuncId → Nat → List Nat) (N : Nat) : Callee := fun f args H B =>
 match fInfo E f with
 | none => none
 | some fi =>
   match execA E C (fg f) B fi.ntmps H N fi.body (Z4 args 0 [], H) with
   | some (.normal, s) => match resA E s fi.results.toList with
     | some r => some (r, s.2)
     | none => none
   | some (.ret, s) => match resA E s fi.results.toList with
     | some r => some (r, s.2)
     | none => none
   | _ => none
end NC
end Go.AM
end
end
