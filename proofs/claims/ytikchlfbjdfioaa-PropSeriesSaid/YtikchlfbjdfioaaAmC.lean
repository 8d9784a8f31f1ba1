/- The abstract machine's runs: regions (in the order of the text, and with a look at what may change places), loops, calls. Own work of this project. -/
import Derived.Test.YtikchlfbjdfioaaAmB
namespace Go.AM
noncomputable section NC

/-! ### Regions that draw their order -/
structure Tr where
  all : Bool
  rd : List Nat
  wr : List Nat

def trR (E : Env) (C : Callee) (B n : Nat) (o : Oper) (s : St) : Tr :=
  match (aOp E C (siteOf B n o) s.1 o).run s.2 with
  | some (_, us) => ⟨false, (aOp E C (siteOf B n o) s.1 o).foot s.2, us.map (·.1)⟩
  | none => ⟨true, [], []⟩
def trG (E : Env) (C : Callee) (B n : Nat) (o : Oper) (s : St) : Tr :=
  match o.op with
  | .move _ => ⟨false, [], []⟩
  | .assign _ => ⟨false, [], []⟩
  | .call c => match mutC E s.1 c with
    | some _ => ⟨true, [], []⟩
    | none => trR E C B n o s
  | _ => trR E C B n o s
def trA (E : Env) (C : Callee) (B n : Nat) (ops : Array Oper) (o : Oper) (s : St) : Tr :=
  match o.guard with
  | none => trG E C B n o s
  | some _ =>
    match wantA ops s.1 o with
    | some true => trG E C B n o s
    | _ => ⟨false, [], []⟩

/-! Lists in order -/
--rec
noncomputable def ascH (lo : Nat) (H : AHeap) : Bool :=
  List.rec (motive := fun _ => Nat → Bool) (fun _ => true) (fun p _ ih lo => Bool.rec false (ih (p.1 + 1)) (Nat.ble lo p.1)) H lo
noncomputable def descF (hi : Nat) (φ : AFr) : Bool :=
  List.rec (motive := fun _ => Nat → Bool) (fun _ => true) (fun p _ ih hi => Bool.rec false (ih p.1) (Nat.ble (p.1 + 1) hi)) φ hi
--alt
--def ascH : Nat → AHeap → Bool
--  | _, [] => true
--  | lo, (k, _) :: t => Nat.ble lo k && ascH (k + 1) t
--def descF : Nat → AFr → Bool
--  | _, [] => true
--  | hi, (k, _) :: t => Nat.ble (k + 1) hi && descF k t
--end
theorem andC (a b : Bool) : cond a b false = (a && b) := by cases a <;> rfl
theorem ascH_n (lo : Nat) : ascH lo [] = true := rfl
theorem ascH_c (lo k : Nat) (b : Blk) (t : AHeap) : ascH lo ((k, b) :: t) = (Nat.ble lo k && ascH (k + 1) t) :=
  (brec false (ascH (k + 1) t) (Nat.ble lo k)).trans (andC _ _)
theorem descF_n (hi : Nat) : descF hi [] = true := rfl
theorem descF_c (hi k : Nat) (a : AV) (t : AFr) : descF hi ((k, a) :: t) = (Nat.ble (k + 1) hi && descF k t) :=
  (brec false (descF k t) (Nat.ble (k + 1) hi)).trans (andC _ _)
def neat (n : Nat) (s : St) : Bool := descF n s.1 && ascH 0 s.2

def runT (E : Env) (C : Callee) (B n : Nat) (ops : Array Oper) : List Oper → Nat → St → Option (St × List (Nat × Tr))
  | [], _, s => some (s, [])
  | o :: os, i, s => match stepA E C B n ops o s with
    | some s' => match neat n s' with
      | true => match runT E C B n ops os (i + 1) s' with
        | some (s2, l) => some (s2, (i, trA E C B n ops o s) :: l)
        | none => none
      | false => none
    | none => none

/-- Without repetitions, of numbers below n. -/
def dd (n : Nat) (l : List Nat) : List Nat :=
  let m := l.foldl (fun m i => m ||| 1 <<< i) 0
  (List.range n).filter fun i => m.testBit i
/-- Of each operation what it waits for, directly or through others. -/
def ancs : List Oper → List (List Nat) → List (List Nat)
  | [], acc => acc
  | o :: os, acc =>
    let ds := (o.after.toList.filter (Region.binds .any)).map (·.on)
    ancs os (acc ++ [dd acc.length (ds ++ ds.flatMap fun d => acc.getD d [])])

/-- Each operation waits for earlier ones alone. -/
def backward : List Oper → Nat → Bool
  | [], _ => true
  | o :: os, i => (o.after.toList.all fun e => !Region.binds .any e || decide (e.on < i)) && backward os (i + 1)

def tmpsOf (o : Oper) : List Nat := o.op.operands.toList.filterMap fun
  | .tmp t => some t
  | _ => none
def guardTmp (ops : Array Oper) (o : Oper) : List Nat :=
  match o.guard with
  | some (j, _) => match ops[j]? with
    | some oj => oj.dst.toList
    | none => []
  | none => []
def looks (ops : Array Oper) (o : Oper) : List Nat := guardTmp ops o ++ tmpsOf o
def disj (a b : List Nat) : Bool := a.all fun x => !b.contains x
def Tr.empty (t : Tr) : Bool := !t.all && t.rd.isEmpty && t.wr.isEmpty
/-- Two operations that may change places, by their text: neither writes what the other one looks at. -/
def apartO (ops : Array Oper) (oi oj : Oper) : Bool :=
  disj oi.dst.toList oj.dst.toList && disj oi.dst.toList (looks ops oj) && disj oj.dst.toList (looks ops oi)
def apartAll (ops : Array Oper) (an : List (List Nat)) (i : Nat) (oi : Oper) : List Oper → Nat → Bool
  | [], _ => true
  | oj :: os, j => ((an.getD j []).contains i || apartO ops oi oj) && apartAll ops an i oi os (j + 1)
def statPairs (ops : Array Oper) (an : List (List Nat)) : List Oper → Nat → Bool
  | [], _ => true
  | o :: os, i => apartAll ops an i o os (i + 1) && statPairs ops an os (i + 1)
/-- What hangs on the text alone. -/
def statOk (ops : Array Oper) : Bool := backward ops.toList 0 && statPairs ops (ancs ops.toList []) ops.toList 0
/-- .. and by what they look at and write in the heap. -/
def apartT (a b : Tr) : Bool :=
  (!a.all || b.empty) && (!b.all || a.empty) && disj a.wr b.wr && disj a.wr b.rd && disj b.wr a.rd
def dynPairs (an : List (List Nat)) : List (Nat × Tr) → Bool
  | [] => true
  | (i, a) :: l => (l.all fun p => (an.getD p.1 []).contains i || apartT a p.2) && dynPairs an l
def touching : List (Nat × Tr) → List (Nat × Tr)
  | [] => []
  | (i, t) :: l => match t.empty with
    | true => touching l
    | false => (i, t) :: touching l
def writing : List (Nat × Tr) → Bool
  | [] => false
  | (_, t) :: l => t.all || !t.wr.isEmpty || writing l
def dynOk (ops : Array Oper) (l : List (Nat × Tr)) : Bool := !writing l || dynPairs (ancs ops.toList []) (touching l)

def drawA (E : Env) (C : Callee) (B n : Nat) (ops : Array Oper) (s : St) : Option St :=
  match neat n s with
  | true => match runT E C B n ops ops.toList 0 s with
    | some (s', l) => match statOk ops with
      | true => match dynOk ops l with
        | true => some s'
        | false => none
      | false => none
    | none => none
  | false => none

/-! ### What is dropped at a loop's head -/
mutual
def refsOf : AV → List Nat
  | .agg vs => refsL vs
  | .tup vs => refsL vs
  | .clo _ vs => refsL vs
  | .ref id .. => [id]
  | .ptr id .. => [id]
  | .mapv id => [id]
  | .bnd _ vs => refsL vs
  | _ => []
def refsL : List AV → List Nat
  | [] => []
  | a :: as => refsOf a ++ refsL as
end

def mark (H : AHeap) : Nat → List Nat → List Nat → List Nat
  | 0, _, seen => seen
  | _ + 1, [], seen => seen
  | n + 1, i :: todo, seen =>
    if seen.contains i then mark H n todo seen else
    match hget H i with
    | some ⟨.box, cs⟩ => mark H n (refsL cs ++ todo) (i :: seen)
    | _ => mark H n todo (i :: seen)

def keepB (E0 : AHeap) (keep : List Nat) : AHeap → AHeap
  | [] => []
  | (i, b) :: t => cond (keep.elem i || (hget E0 i).isSome) ((i, b) :: keepB E0 keep t) (keepB E0 keep t)
def refsF : AFr → List Nat
  | [] => []
  | (_, a) :: t => refsOf a ++ refsF t
def allHeld (H : AHeap) : List Nat → Bool
  | [] => true
  | i :: is => (hget H i).isSome && allHeld H is
def closedH (H : AHeap) : AHeap → Bool
  | [] => true
  | (_, ⟨.box, cs⟩) :: t => allHeld H (refsL cs) && closedH H t
  | _ :: t => closedH H t
def closedB (φ : AFr) (H : AHeap) : Bool := allHeld H (refsF φ) && closedH H H
def gcIf (φ : AFr) (H H' : AHeap) : AHeap :=
  match closedB φ H' with
  | true => H'
  | false => H
/-- At a loop's head blocks that nobody leads to are dropped, but for those that were there when the call began (E0). -/
def headA (E0 : AHeap) (s : St) : St := (s.1, gcIf s.1 s.2 (keepB E0 (mark s.2 1000 (refsF s.1) []) s.2))

/-- .. and behind a region whose row in the table begins with a mark. -/
def gcM (E0 : AHeap) (l : List Nat) (s : St) : St :=
  match l with
  | 999999 :: _ => headA E0 s
  | _ => s

/-! ### Code -/
inductive Ex where
  | normal
  | exit (id : Nat)
  | ret

def iterA (body : St → Option (Ex × St)) (hd : St → St) : Nat → St → Option (Ex × St)
  | 0, _ => none
  | n + 1, s => match body (hd s) with
    | some (.normal, s') => iterA body hd n s'
    | r => r

def regA (E : Env) (C : Callee) (B n : Nat) (ops : Array Oper) (s : St) : Bool → Option St
  | true => drawA E C B n ops s
  | false => runA E C B n ops ops.toList s

def execA (E : Env) (C : Callee) (fg : Nat → List Nat) (B n : Nat) (E0 : AHeap) (N : Nat) : Code → St → Option (Ex × St)
  | .skip, s => some (.normal, s)
  | .label _, s => some (.normal, s)
  | .region id ops draw, s => match regA E C B n ops s draw with
    | some s' => some (.normal, gcM E0 (fg id) (forget s'.1 (fg id), s'.2))
    | none => none
  | .seq a b, s => match execA E C fg B n E0 N a s with
    | some (.normal, s') => execA E C fg B n E0 N b s'
    | r => r
  | .cond c t e, s => match evO E s.1 c with
    | .bool true => execA E C fg B n E0 N t s
    | .bool false => execA E C fg B n E0 N e s
    | _ => none
  | .block id body, s => match execA E C fg B n E0 N body s with
    | some (.exit i, s') => match Nat.beq i id with
      | true => some (.normal, forget s'.1 (fg (id + 1000000)), s'.2)
      | false => some (.exit i, s')
    | some (.normal, s') => some (.normal, forget s'.1 (fg (id + 1000000)), s'.2)
    | r => r
  | .loop body, s => iterA (execA E C fg B n E0 N body) (headA E0) N s
  | .scope body, s => execA E C fg B n E0 N body s
  | .exit id, s => some (.exit id, s)
  | .ret, s => some (.ret, s)
  | _, _ => none

def resL (E : Env) (s : St) : List ResultVar → Option (List AV)
  | [] => some []
  | .tmp t :: r => match resL E s r with
    | some vs => some (fget s.1 t :: vs)
    | none => none
  | .cell a t :: r => match (aLoad E.T t (fget s.1 a)).run s.2, resL E s r with
    | some v, some vs => some (v :: vs)
    | _, _ => none
def resA (E : Env) (s : St) (rs : List ResultVar) : Option AV :=
  match resL E s rs with
  | some [v] => some v
  | some vs => some (.tup vs)
  | none => none

/-- The arguments lie in the first slots. -/
def frame0 : List AV → Nat → AFr → AFr
  | [], _, acc => acc
  | a :: as, i, acc => frame0 as (i + 1) ((i, a) :: acc)

def bodyA (E : Env) (C : Callee) (fg : FuncId → Nat → List Nat) (N : Nat) : Callee := fun f args H B =>
  match fInfo E f with
  | none => none
  | some fi =>
    match execA E C (fg f) B fi.ntmps H N fi.body (frame0 args 0 [], H) with
    | some (.normal, s) => match resA E s fi.results.toList with
      | some r => some (r, s.2)
      | none => none
    | some (.ret, s) => match resA E s fi.results.toList with
      | some r => some (r, s.2)
      | none => none
    | _ => none

def callA (E : Env) (fg : FuncId → Nat → List Nat) (N : Nat) : Nat → Callee
  | 0 => fun _ _ _ _ => none
  | d + 1 => bodyA E (callA E fg N d) fg N

end NC
end Go.AM
