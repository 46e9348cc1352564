/- The engine: abstract values, code, interpreter, compiler from the model's code; what an abstract state stands for. No condition. -/
import GoSem.Step
import Derived.Laws.Append
import Derived.Laws.CopyRow
import Derived.Laws.StructEq
import Derived.Laws.AppendOwn
import Derived.Below
import Derived.RangeFuncRecord
import Derived.OrdersIn
set_option linter.unusedVariables false
set_option linter.unusedSimpArgs false
namespace Go.Proofs.YtkgmeeenacnhfaaGreat.Eng
open Go

/-- Abstract values. A slice is a plain list ('list st xs': st 0: no right to append is known; 1: no spare room; k+2: stamp k, see Store), but for a slice that is written in place ('arr'). -/
inductive PV where
  | int (k : IntKind) (n : Int)
  | bool (b : Bool)
  | str (s : List UInt8)
  | undef
  | list (st : Nat) (xs : List PV)
  | nils
  | emp
  | agg (cs : List PV)
  | tup (vs : List PV)
  | nilp
  | ptr (b off : Nat)
  | lptr (s off : Nat)
  | vptr (cs : List PV) (off : Nat)
  | arr (b off len sz : Nat)
  | fn (f : FuncId) (first cap : List PV)
  | yld (l : Nat)
  | nilf
  | map (m : Nat)
  | nilm
  | junk
  deriving Inhabited

def PV.cells : PV → List PV
  | .agg cs => cs
  | v => [v]

mutual
def PV.same : PV → PV → Bool
  | .int k n, .int k' n' => decide (k = k') && decide (n = n')
  | .bool b, .bool b' => decide (b = b')
  | .str s, .str s' => decide (s = s')
  | .undef, .undef => true
  | .list st xs, .list st' xs' => decide (st = st') && PV.sames xs xs'
  | .nils, .nils => true
  | .emp, .emp => true
  | .agg cs, .agg cs' => PV.sames cs cs'
  | .tup cs, .tup cs' => PV.sames cs cs'
  | .nilp, .nilp => true
  | .ptr b o, .ptr b' o' => decide (b = b') && decide (o = o')
  | .lptr b o, .lptr b' o' => decide (b = b') && decide (o = o')
  | .vptr cs o, .vptr cs' o' => decide (o = o') && PV.sames cs cs'
  | .arr b o l z, .arr b' o' l' z' => decide (b = b') && decide (o = o') && decide (l = l') && decide (z = z')
  | .fn f a c, .fn f' a' c' => decide (f = f') && PV.sames a a' && PV.sames c c'
  | .yld l, .yld l' => decide (l = l')
  | .nilf, .nilf => true
  | .map m, .map m' => decide (m = m')
  | .nilm, .nilm => true
  | .junk, .junk => true
  | _, _ => false
def PV.sames : List PV → List PV → Bool
  | [], [] => true
  | x :: xs, y :: ys => PV.same x y && PV.sames xs ys
  | _, _ => false
end

inductive Opd where
  | t (n : Nat)
  | c (v : PV)
  deriving Inhabited

inductive AOp where
  | mv (x : Opd)
  | pick (c a b : Opd)
  | boxL (kills : List Nat) (x : Opd)
  | boxG (x : Opd)
  | load (sz : Option Nat) (a : Opd)
  | store (sz : Nat) (a x : Opd)
  | faddr (off : Nat) (kill : Option Nat) (a : Opd)
  | iaddr (sz : Nat) (x i : Opd)
  | iaddrA (n sz : Nat) (kill : Option Nat) (x i : Opd)
  | bin (op : BinOp) (x y : Opd)
  | eqB (neg : Bool) (x y : Opd)
  | eqA (ks : List Bool) (neg : Bool) (x y : Opd)
  | isnil (neg : Bool) (x : Opd)
  | un (op : UnOp) (x : Opd)
  | conv (k : IntKind) (x : Opd)
  | len (x : Opd)
  | lenM (x : Opd)
  | append (sz bytes : Nat) (inpl : Bool) (x y : Opd)
  | build (zero : List PV) (parts : List (Nat × Nat × Opd))
  | mkslice (sz n : Nat) (zero : List PV) (parts : List (Nat × Opd))
  | mkfn (f : FuncId) (first cap : List Opd)
  | mkmap
  | look (kk : IntKind) (zero : PV) (ok : Bool) (m k : Opd)
  | upd (kk : IntKind) (m k x : Opd)
  | mks (sz bytes : Nat) (zero : List PV) (l c : Opd)
  | slice (sz : Nat) (x : Opd) (lo hi mx : Option Opd)
  | idx (n sz : Nat) (agg : Bool) (x i : Opd)
  | sidx (x i : Opd)
  | ext (x : Opd) (i : Nat)
  | nilc (kill : Option Nat) (x : Opd)
  | mx (xs : List Opd)
  | clr (sz : Nat) (zero : List PV) (x : Opd)
  | call (f : FuncId) (args : List Opd)
  | callv (x : Opd) (args : List Opd)
  | defr (x : Opd) (args : List Opd)
  deriving Inhabited

def AOp.opds : AOp → List Opd
  | .mv x | .boxL _ x | .boxG x | .load _ x | .faddr _ _ x | .isnil _ x | .un _ x | .conv _ x | .len x | .lenM x | .ext x _ | .nilc _ x | .clr _ _ x => [x]
  | .pick c a b => [c, a, b]
  | .store _ a x | .iaddr _ a x | .iaddrA _ _ _ a x | .bin _ a x | .eqB _ a x | .eqA _ _ a x | .append _ _ _ a x | .look _ _ _ a x | .mks _ _ _ a x | .idx _ _ _ a x | .sidx a x => [a, x]
  | .build _ ps => ps.map fun (_, _, x) => x
  | .mkslice _ _ _ ps => ps.map fun (_, x) => x
  | .mkfn _ a c => a ++ c
  | .mkmap => []
  | .upd _ m k x => [m, k, x]
  | .slice _ x a b c => x :: (a.toList ++ b.toList ++ c.toList)
  | .mx xs => xs
  | .call _ xs => xs
  | .callv x xs => x :: xs
  | .defr x xs => x :: xs

/-- A load that has to give the same value still (an operation that may write has come up, and Go leaves open which came first). -/
structure Chk where
  sz : Option Nat
  a : Opd
  dst : Nat
  guard : Option (Nat × Bool)
  deriving Inhabited

structure AR where
  dst : Option Nat
  op : AOp
  guard : Option (Nat × Bool) := none
  chk : List Chk := []
  deriving Inhabited

inductive ACode where
  | skip
  | region (ops : List AR)
  | seq (a b : ACode)
  | cond (c : Opd) (a b : ACode)
  | block (id : Nat) (b : ACode)
  | loop (b : ACode)
  | rangeFunc (g : Opd) (ps : List Nat) (asg body : ACode)
  | exit (id : Nat)
  | ret
  deriving Inhabited

inductive ARes where
  | tmp (t : Nat)
  | cell (slot : Nat) (sz : Option Nat)
  deriving Inhabited

structure AFn where
  nparams : Nat
  ntmps : Nat
  results : List ARes
  body : ACode
  deriving Inhabited

inductive LState where
  | ready | busy | done | exhausted
  deriving DecidableEq, Inhabited

structure ALoop where
  state : LState
  pending : Option ACode
  fn : FuncId
  tmps : List PV
  ps : List Nat
  asg : ACode
  body : ACode
  deriving Inhabited

structure Store where
  boxes : List (Option (List PV)) := []
  stamps : List Nat := []
  maps : List (List (PV × PV)) := []
  loops : List ALoop := []
  deriving Inhabited

structure AS where
  tmps : List PV := []
  loc : List PV := []
  S : Store := {}
  rnd : Bool := false
  marks : Nat := 0
  defers : List (PV × List PV) := []
  deriving Inhabited

inductive AExit where
  | normal
  | exit (id : Nat)
  | ret
  deriving DecidableEq, Inhabited

def tget : List PV → Nat → PV
  | [], _ => .undef
  | x :: _, 0 => x
  | _ :: xs, n + 1 => tget xs n
def tset : List PV → Nat → PV → List PV
  | [], 0, v => [v]
  | [], n + 1, v => .undef :: tset [] n v
  | _ :: xs, 0, v => v :: xs
  | x :: xs, n + 1, v => x :: tset xs n v

theorem tget_tset_same (l : List PV) (i : Nat) (v : PV) : tget (tset l i v) i = v := by
  induction l generalizing i with
  | nil => induction i with
    | zero => rfl
    | succ i ih => simpa [tset, tget] using ih
  | cons x xs ih => cases i with
    | zero => rfl
    | succ i => simpa [tset, tget] using ih i
theorem tget_nil (i : Nat) : tget [] i = .undef := by cases i <;> rfl
theorem tget_tset_nil (i j : Nat) (v : PV) (h : j ≠ i) : tget (tset [] i v) j = .undef := by
  induction i generalizing j with
  | zero => cases j with
    | zero => exact absurd rfl h
    | succ j => simp [tset, tget]
  | succ i ih => cases j with
    | zero => rfl
    | succ j => simpa [tset, tget] using ih j (by omega)
theorem tget_tset_ne (l : List PV) (i j : Nat) (v : PV) (h : j ≠ i) : tget (tset l i v) j = tget l j := by
  induction l generalizing i j with
  | nil => rw [tget_tset_nil i j v h, tget_nil]
  | cons x xs ih => cases i with
    | zero => cases j with
      | zero => exact absurd rfl h
      | succ j => rfl
    | succ i => cases j with
      | zero => rfl
      | succ j => simpa [tset, tget] using ih i j (by omega)

def AS.put (σ : AS) (d : Option Nat) (v : PV) : AS :=
  match d with
  | some d => { σ with tmps := tset σ.tmps d v }
  | none => σ

/-- An operand's value as it lies; a pointer to a variable of the activation's own among them. -/
def raw (σ : AS) : Opd → PV
  | .t n => tget σ.tmps n
  | .c v => v
def PV.isL : PV → Bool
  | .lptr _ _ => true
  | _ => false
/-- An operand's value for general use: no pointer to a variable of the activation's own. -/
def aval (σ : AS) (x : Opd) : Option PV := if (raw σ x).isL then none else some (raw σ x)
/-- May a value lie in one cell? -/
def okC : PV → Bool
  | .agg _ | .tup _ | .lptr _ _ | .undef | .junk => false
  | _ => true
/-- A value that can lie in memory: an aggregate, or what lies in one cell. -/
def okV : PV → Bool
  | .agg _ => true
  | v => okC v
def amem (σ : AS) (x : Opd) : Option PV := match aval σ x with
  | some v => if okV v then some v else none
  | none => none
def avals (σ : AS) : List Opd → Option (List PV)
  | [] => some []
  | x :: xs => match aval σ x with
    | none => none
    | some v => match avals σ xs with
      | none => none
      | some vs => some (v :: vs)

/-- The cells to which a pointer leads, and at which it stands. -/
def deref (σ : AS) : PV → Option (List PV × Nat)
  | .lptr s off => match tget σ.loc s with
    | .agg cs => some (cs, off)
    | _ => none
  | .ptr b off => match σ.S.boxes[b]? with
    | some (some cs) => some (cs, off)
    | _ => none
  | .vptr cs off => some (cs, off)
  | _ => none
def cut (sz : Option Nat) (cs : List PV) (off : Nat) : Option PV :=
  match sz with
  | none => cs[off]?
  | some n => if off + n ≤ cs.length then some (.agg ((cs.drop off).take n)) else none
def aload (σ : AS) (sz : Option Nat) (p : PV) : Option PV :=
  match deref σ p with
  | some (cs, off) => cut sz cs off
  | none => none
def splice (cs : List PV) (off : Nat) (vs : List PV) : Option (List PV) :=
  if off + vs.length ≤ cs.length then some (cs.take off ++ vs ++ cs.drop (off + vs.length)) else none
def astore (σ : AS) (p : PV) (vs : List PV) : Option AS :=
  match p with
  | .lptr s off => match tget σ.loc s with
    | .agg cs => match splice cs off vs with
      | some cs' => some { σ with loc := tset σ.loc s (.agg cs') }
      | none => none
    | _ => none
  | .ptr b off => match σ.S.boxes[b]? with
    | some (some cs) => match splice cs off vs with
      | some cs' => some { σ with S := { σ.S with boxes := σ.S.boxes.set b (some cs') } }
      | none => none
    | _ => none
  | _ => none
def kill (l : List PV) : List Nat → List PV
  | [] => l
  | k :: ks => kill (tset l k .junk) ks
def abin (op : BinOp) : PV → PV → Option PV
  | .int k a, .int k' b =>
    match op with
    | .shl => if b < 0 then none else some (.int k (k.wrap (a * 2 ^ (min b.toNat k.bits))))
    | .shr => if b < 0 then none else some (.int k (a.fdiv (2 ^ (min b.toNat k.bits))))
    | _ => if k = k' then
      match op with
      | .add => some (.int k (k.wrap (a + b)))
      | .sub => some (.int k (k.wrap (a - b)))
      | .mul => some (.int k (k.wrap (a * b)))
      | .quo => if b = 0 then none else some (.int k (k.wrap (a.tdiv b)))
      | .rem => if b = 0 then none else some (.int k (a.tmod b))
      | .eql => some (.bool (a == b))
      | .neq => some (.bool (a != b))
      | .lss => some (.bool (decide (a < b)))
      | .leq => some (.bool (decide (a ≤ b)))
      | .gtr => some (.bool (decide (a > b)))
      | .geq => some (.bool (decide (a ≥ b)))
      | .and => some (.int k (k.wrap (BitVec.ofInt k.bits a &&& BitVec.ofInt k.bits b).toNat))
      | .or => some (.int k (k.wrap (BitVec.ofInt k.bits a ||| BitVec.ofInt k.bits b).toNat))
      | .xor => some (.int k (k.wrap (BitVec.ofInt k.bits a ^^^ BitVec.ofInt k.bits b).toNat))
      | .andNot => some (.int k (k.wrap (BitVec.ofInt k.bits a &&& ~~~ BitVec.ofInt k.bits b).toNat))
      | _ => none
    else none
  | _, _ => none
/-- '==' of two cells (of integers: 'true', of bools: 'false'). -/
def eq1 : Bool → PV → PV → Option Bool
  | true, .int k a, .int k' b => if k = k' then some (a == b) else none
  | false, .bool a, .bool b => some (a == b)
  | _, _, _ => none
def eqs : List Bool → List PV → List PV → Option Bool
  | [], [], [] => some true
  | k :: ks, x :: xs, y :: ys => match eq1 k x y with
    | none => none
    | some b => match eqs ks xs ys with
      | none => none
      | some c => some (b && c)
  | _, _, _ => none
def aun (op : UnOp) : PV → Option PV
  | .bool b => match op with
    | .not => some (.bool !b)
    | _ => none
  | .int k n => match op with
    | .neg => some (.int k (k.wrap (0 - n)))
    | .xor => some (.int k (k.wrap (BitVec.ofInt k.bits (if k.signed then -1 else k.max) ^^^ BitVec.ofInt k.bits n).toNat))
    | _ => none
  | _ => none

/-- A value without stamps. -/
def strip1 : PV → PV
  | .list _ xs => .list 0 xs
  | .nils => .list 0 []
  | .emp => .list 0 []
  | v => v
def strip : PV → PV
  | .agg cs => .agg (cs.map strip1)
  | v => strip1 v
def widths (sz : Nat) : List PV → Bool
  | [] => true
  | x :: xs => decide (x.cells.length = sz) && widths sz xs
/-- The flattened cells of a list's elements. -/
def flat : List PV → List PV
  | [] => []
  | x :: xs => x.cells ++ flat xs
/-- Cells as elements of a size again. -/
def chunk1 (sz : Nat) (cs : List PV) : PV := if sz = 1 then cs.headD .undef else .agg (cs.take sz)
def chunk (sz : Nat) : Nat → List PV → List PV
  | 0, _ => []
  | n + 1, cs => chunk1 sz cs :: chunk sz n (cs.drop sz)
/-- The elements of a slice, to be read. -/
def elems (σ : AS) (sz : Nat) : PV → Option (List PV)
  | .list _ xs => some xs
  | .nils => some []
  | .emp => some []
  | .arr b off n z => if z = sz then
      match σ.S.boxes[b]? with
      | some (some cs) => if off + n * sz ≤ cs.length then some (chunk sz n (cs.drop off)) else none
      | _ => none
    else none
  | _ => none
def maxA : Nat := 1073741824
def headOk (sz : Nat) : List PV → Bool
  | [] => true
  | x :: _ => decide (x.cells.length = sz)
/-- 'append(xs, ys...)' of a slice with the right to append. -/
def appendL (S : Store) (sz : Nat) (inpl : Bool) (st : Nat) (xs ys : List PV) : Option (PV × Store) :=
  if !(headOk sz xs && widths sz ys && decide (xs.length + ys.length ≤ maxA)) then none else
  match st with
  | 0 => none
  | 1 => match ys with
    | [] => some (.list 1 xs, S)
    | _ :: _ => if inpl then some (.arr S.boxes.length 0 (xs.length + ys.length) sz, { S with boxes := S.boxes ++ [some (flat xs ++ flat (ys.map strip))] })
      else some (.list (S.stamps.length + 2) (xs ++ ys.map strip), { S with stamps := S.stamps ++ [xs.length + ys.length] })
  | k + 2 => match S.stamps[k]? with
    | some n => if n = xs.length then some (.list (k + 2) (xs ++ ys.map strip), { S with stamps := S.stamps.set k (xs.length + ys.length) }) else none
    | none => none
/-- 'append' to a slice that is written in place. -/
def appendA (S : Store) (sz : Nat) (b off n z : Nat) (ys : List PV) : Option (PV × Store) :=
  match S.boxes[b]? with
  | some (some cs) =>
    if !(widths sz ys && decide (n + ys.length ≤ maxA) && decide (z = sz) && decide (off + n * sz ≤ cs.length)) then none else
    if off + (n + ys.length) * sz ≤ cs.length then
      some (.arr b off (n + ys.length) sz, { S with boxes := S.boxes.set b (some (cs.take (off + n * sz) ++ flat (ys.map strip) ++ cs.drop (off + (n + ys.length) * sz))) })
    else if off = 0 ∧ n * sz = cs.length then
      some (.arr S.boxes.length 0 (n + ys.length) sz, { S with boxes := (S.boxes.set b none) ++ [some (cs ++ flat (ys.map strip))] })
    else none
  | _ => none

def fillP (σ : AS) : List PV → List (Nat × Nat × Opd) → Option (List PV)
  | cs, [] => some cs
  | cs, (off, sz, x) :: r => match amem σ x with
    | none => none
    | some v => if v.cells.length = sz then
        match splice cs off v.cells with
        | some cs' => fillP σ cs' r
        | none => none
      else none
def fillS (σ : AS) (sz : Nat) : List PV → List (Nat × Opd) → Option (List PV)
  | es, [] => some es
  | es, (i, x) :: r => match amem σ x with
    | none => none
    | some v => if v.cells.length = sz ∧ i < es.length then fillS σ sz (es.set i (strip v)) r else none

def findK (k : IntKind) (n : Int) : List (PV × PV) → Nat → Option (Option (Nat × PV))
  | [], _ => some none
  | (.int k' n', v) :: es, i => if k' = k then (if n == n' then some (some (i, v)) else findK k n es (i + 1)) else none
  | _ :: _, _ => none
def asInt? : PV → Option Int
  | .int _ n => some n
  | _ => none
def bound? (σ : AS) : Option Opd → Option (Option Int)
  | none => some none
  | some x => match aval σ x with
    | some (.int _ n) => some (some n)
    | _ => none
/-- x[lo:hi:mx]: within the length alone. -/
def aslice (σ : AS) (sz : Nat) (x : PV) (lo hi mx : Option Opd) : Option PV :=
  match bound? σ lo, bound? σ hi, bound? σ mx with
  | some l, some h, some m =>
    match x with
    | .list _ xs =>
      let n : Int := xs.length
      let h' := h.getD n
      let l' := l.getD 0
      let m' := m.getD n
      if 0 ≤ l' ∧ l' ≤ h' ∧ h' ≤ m' ∧ m' ≤ n ∧ (m.isSome → h.isSome) ∧ headOk sz xs = true then
        some (.list (if m = some h' then 1 else 0) ((xs.drop l'.toNat).take (h' - l').toNat))
      else none
    | .arr b off k z => match σ.S.boxes[b]? with
      | some (some cs) =>
        let h' := h.getD k
        let l' := l.getD 0
        let m' := m.getD h'
        if z = sz ∧ 0 ≤ l' ∧ l' ≤ h' ∧ h' ≤ m' ∧ off + m'.toNat * sz ≤ cs.length ∧ (m.isSome → h.isSome) then
          if l' = 0 ∧ m = none then some (.arr b off h'.toNat z)
          else if l' = h' then some (.list 0 [])
          else if m.isSome then some .junk
          else some (.arr b (off + l'.toNat * sz) (h' - l').toNat z)
        else none
      | _ => none
    | _ => none
  | _, _, _ => none

/-- May a value be handed to, or back from, a call that shares no store? -/
def closedFlag : Nat := 0
mutual
def PV.closed : PV → Bool
  | .int _ _ | .bool _ | .str _ | .undef | .nils | .emp | .nilp | .nilf | .nilm => true
  | .list st xs => decide (st ≤ 1) && closeds xs
  | .agg cs => closeds cs
  | .tup vs => closeds vs
  | .vptr cs _ => closeds cs
  | .fn _ a c => closeds a && closeds c
  | .ptr _ _ | .lptr _ _ | .arr _ _ _ _ | .yld _ | .map _ | .junk => false
def closeds : List PV → Bool
  | [] => true
  | x :: xs => x.closed && closeds xs
end
def flat1 : PV → Bool
  | .int _ _ | .bool _ | .str _ => true
  | .agg cs => cs.all fun c => match c with
    | .int _ _ | .bool _ | .str _ => true
    | _ => false
  | _ => false
/-- An argument of a call that shares no store: no stamps; a slice that is written in place is lent as a list. -/
def lend1 (σ : AS) : PV → Option PV
  | .list _ xs => some (.list 0 xs)
  | .nils => some (.list 0 [])
  | .emp => some (.list 0 [])
  | .arr b off n z => match elems σ z (.arr b off n z) with
    | some xs => some (.list 0 (xs.map strip))
    | none => none
  | v => some v
def lends1 (σ : AS) : List PV → Option (List PV)
  | [] => some []
  | v :: vs => match lend1 σ v with
    | none => none
    | some x => match lends1 σ vs with
      | none => none
      | some xs => some (x :: xs)
def lend (σ : AS) : PV → Option PV
  | .agg cs => match lends1 σ cs with
    | some cs => some (.agg cs)
    | none => none
  | v => lend1 σ v
def lends (σ : AS) : List PV → Option (List PV)
  | [] => some []
  | v :: vs => match lend σ v with
    | none => none
    | some x => match lends σ vs with
      | none => none
      | some xs => some (x :: xs)

/-- A function with a state over the cells of a value (of each part of several results). -/
def travs (f : Store → PV → Option (PV × Store)) : Store → List PV → Option (List PV × Store)
  | S, [] => some ([], S)
  | S, v :: vs => match f S v with
    | none => none
    | some (x, S1) => match travs f S1 vs with
      | none => none
      | some (xs, S2) => some (x :: xs, S2)
def travA (f : Store → PV → Option (PV × Store)) (S : Store) : PV → Option (PV × Store)
  | .agg cs => match travs f S cs with
    | some (cs, S) => some (.agg cs, S)
    | none => none
  | v => f S v
def trav (f : Store → PV → Option (PV × Store)) (S : Store) : PV → Option (PV × Store)
  | .tup vs => match travs (travA f) S vs with
    | some (vs, S) => some (.tup vs, S)
    | none => none
  | v => travA f S v
/-- A result of a call that shares no store, as the caller gets it: a list at its stamp's end may be appended to ('1'), any other may not; a stamp is given once. -/
def give1 (S : Store) : PV → Option (PV × Store)
  | .list st xs => match st with
    | 0 => some (.list 0 xs, S)
    | 1 => some (.list 1 xs, S)
    | k + 2 => if S.stamps[k]? = some xs.length then some (.list 1 xs, { S with stamps := S.stamps.set k (xs.length + 1) }) else some (.list 0 xs, S)
  | .nils => some (.list 1 [], S)
  | .emp => some (.list 0 [], S)
  | .arr b off n z => match S.boxes[b]? with
    | some (some cs) => if off + n * z ≤ cs.length then some (.list 0 ((chunk z n (cs.drop off)).map strip), S) else none
    | _ => none
  | .tup _ => none
  | .agg _ => none
  | v => some (v, S)
def give (S : Store) (v : PV) : Option PV := match trav give1 S v with
  | some (v, _) => some v
  | none => none
/-- The caller takes a result over: each list that may be appended to gets a stamp. -/
def adopt1 (S : Store) : PV → Option (PV × Store)
  | .list 1 xs => some (.list (S.stamps.length + 2) xs, { S with stamps := S.stamps ++ [xs.length] })
  | v => some (v, S)
def adopt (S : Store) (v : PV) : Option (PV × Store) := trav adopt1 S v
/-- A result without the right to append. -/
def stripR : PV → PV
  | .tup vs => .tup (vs.map strip)
  | v => strip v

/-- How a call is answered: by a given function of its arguments; as a call that shares no store (its results with or without the right to append); in place. -/
inductive How where
  | given (g : List PV → Option PV)
  | pure (own : Bool)
  | store (g : Store → List PV → Option (PV × Store))
  | shared
  deriving Inhabited

structure Tbl where
  fn : FuncId → Option AFn
  how : FuncId → How

abbrev Ex := ACode → AS → Option (AExit × AS)

def resOf (σ : AS) : ARes → Option PV
  | .tmp t => aval σ (.t t)
  | .cell s sz => aload σ sz (tget σ.tmps s)
def resOfs (σ : AS) : List ARes → Option (List PV)
  | [] => some []
  | r :: rs => match resOf σ r with
    | none => none
    | some v => match resOfs σ rs with
      | none => none
      | some vs => some (v :: vs)
def packR : List PV → PV
  | [v] => v
  | vs => .tup vs

/-- A call in place, before its deferred calls. -/
def enter (T : Tbl) (ex : Ex) (f : FuncId) (args : List PV) (S : Store) : Option (AFn × AS) :=
  match T.fn f with
  | none => none
  | some fn => if args.length ≠ fn.nparams then none else
    match ex fn.body { tmps := args, S := S } with
    | some (.normal, σ) => some (fn, σ)
    | some (.ret, σ) => some (fn, σ)
    | _ => none
/-- A call in place of a function that defers nothing. -/
def callS0 (T : Tbl) (ex : Ex) (f : FuncId) (args : List PV) (S : Store) : Option (PV × Store) :=
  match enter T ex f args S with
  | some (fn, σ) => if σ.marks ≠ 0 then none else match σ.defers with
    | [] => match resOfs σ fn.results with
      | some vs => some (packR vs, σ.S)
      | none => none
    | _ :: _ => none
  | none => none
def runDefers (T : Tbl) (ex : Ex) : List (PV × List PV) → AS → Option AS
  | [], σ => some σ
  | (.fn f a c, args) :: ds, σ => match callS0 T ex f (a ++ args ++ c) σ.S with
    | some (_, S) => runDefers T ex ds { σ with S := S }
    | none => none
  | _ :: _, _ => none
def callS (T : Tbl) (ex : Ex) (f : FuncId) (args : List PV) (S : Store) : Option (PV × Store) :=
  match enter T ex f args S with
  | some (fn, σ) => match runDefers T ex σ.defers { σ with defers := [] } with
    | some σ' => match resOfs σ' fn.results with
      | some vs => some (packR vs, σ'.S)
      | none => none
    | none => none
  | none => none
/-- A call that shares no store. -/
def callP (T : Tbl) (ex : Ex) (own : Bool) (f : FuncId) (args : List PV) : Option PV :=
  if closeds args then
    match callS T ex f args {} with
    | some (r, S) => match give S r with
      | some r => let r := if own then r else stripR r
        if r.closed then some r else none
      | none => none
    | none => none
  else none
def allFlat (vs : List PV) : Bool := vs.all flat1
def flatR : PV → Bool
  | .tup vs => allFlat vs
  | v => flat1 v
def noArr : PV → Bool
  | .arr _ _ _ _ => false
  | .agg cs => cs.all fun c => match c with
    | .arr _ _ _ _ => false
    | _ => true
  | _ => true
def finishP (r : Option PV) (args : List PV) (S : Store) : Option (PV × Store) :=
  match r with
  | none => none
  | some r => if args.all noArr || flatR r then adopt S r else none
def callF (T : Tbl) (ex : Ex) (f : FuncId) (args : List PV) (σ : AS) : Option (PV × Store) :=
  match T.how f with
  | .given g => match lends σ args with
    | some as => if closeds as then finishP (g as) args σ.S else none
    | none => none
  | .pure own => match lends σ args with
    | some as => finishP (callP T ex own f as) args σ.S
    | none => none
  | .store g => g σ.S args
  | .shared => callS T ex f args σ.S

def putAll : List PV → List Nat → List PV → Option (List PV)
  | l, [], [] => some l
  | l, p :: ps, v :: vs => putAll (tset l p v) ps vs
  | _, _, _ => none
def isJump : AExit → Option ACode
  | .normal => none
  | .ret => some .ret
  | .exit i => some (.exit i)
/-- A call of a loop body's 'yield'. -/
def callY (ex : Ex) (l : Nat) (args : List PV) (S : Store) : Option (PV × Store) :=
  match S.loops[l]? with
  | none => none
  | some r => if r.state ≠ .ready then none else
    match putAll r.tmps r.ps args with
    | none => none
    | some tmps => match ex r.asg { tmps := tmps, S := S, rnd := true } with
      | some (.normal, σ1) =>
        match σ1.S.loops[l]? with
        | none => none
        | some r1 => if r1.state ≠ .ready ∨ σ1.defers ≠ [] ∨ σ1.loc ≠ [] then none else
          match ex r.body { σ1 with S := { σ1.S with loops := σ1.S.loops.set l { r1 with state := .busy } } } with
          | some (e, σ2) => match σ2.S.loops[l]? with
            | none => none
            | some r2 => match σ2.defers with
              | _ :: _ => none
              | [] => match isJump e with
                | none => some (.bool true, { σ2.S with loops := σ2.S.loops.set l { r2 with state := .ready, pending := none } })
                | some j => some (.bool false, { σ2.S with loops := σ2.S.loops.set l { r2 with state := .done, pending := some j } })
          | none => none
      | _ => none
def callV (T : Tbl) (ex : Ex) (x : PV) (args : List PV) (σ : AS) : Option (PV × Store) :=
  match x with
  | .fn f a c => callF T ex f (a ++ args ++ c) σ
  | .yld l => callY ex l args σ.S
  | _ => none

def withS (σ : AS) (d : Option Nat) : Option (PV × Store) → Option AS
  | some (v, S) => some ({ σ with S := S }.put d v)
  | none => none
def withV (σ : AS) (d : Option Nat) : Option PV → Option AS
  | some v => some (σ.put d v)
  | none => none
/-- A pointer that a temporary may hold only if the activation's own variable says so. -/
def killOk (d : Option Nat) (kill : Option Nat) (s : Nat) : Bool := match kill with
  | some s' => decide (s = s') && d.isSome
  | none => false
def reptr (off : Nat) (d kill : Option Nat) : PV → Option PV
  | .lptr s o => if killOk d kill s then some (.lptr s (o + off)) else none
  | .ptr b o => some (.ptr b (o + off))
  | .vptr cs o => some (.vptr cs (o + off))
  | _ => none
def maxOf : PV → List PV → Option PV
  | v, [] => some v
  | .int k x, .int k' y :: r => if k = k' then maxOf (.int k (if y > x then y else x)) r else none
  | _, _ => none

def aop (T : Tbl) (ex : Ex) (d : Option Nat) (σ : AS) : AOp → Option AS
  | .mv x => withV σ d (aval σ x)
  | .pick c a b => match aval σ c with
    | some (.bool t) => withV σ d (aval σ (if t then a else b))
    | _ => none
  | .boxL ks x => match d, amem σ x with
    | some s, some v => some { σ with loc := tset σ.loc s (.agg v.cells), tmps := tset (kill σ.tmps ks) s (.lptr s 0) }
    | _, _ => none
  | .boxG x => match amem σ x with
    | some v => some ({ σ with S := { σ.S with boxes := σ.S.boxes ++ [some v.cells] } }.put d (.ptr σ.S.boxes.length 0))
    | none => none
  | .load sz a => withV σ d (aload σ sz (raw σ a))
  | .store sz a x => match amem σ x with
    | some v => if v.cells.length = sz then astore σ (raw σ a) v.cells else none
    | none => none
  | .faddr off k a => withV σ d (reptr off d k (raw σ a))
  | .iaddr sz x i => match aval σ x, aval σ i with
    | some (.list _ xs), some (.int _ n) => if 0 ≤ n then
        match xs[n.toNat]? with
        | some e => if e.cells.length = sz then some (σ.put d (.vptr e.cells 0)) else none
        | none => none
      else none
    | some (.arr b off k z), some (.int _ n) => if 0 ≤ n ∧ n < k ∧ z = sz then some (σ.put d (.ptr b (off + n.toNat * sz))) else none
    | _, _ => none
  | .iaddrA n sz k x i => match aval σ i with
    | some (.int _ j) => if 0 ≤ j ∧ j < n then withV σ d (reptr (j.toNat * sz) d k (raw σ x)) else none
    | _ => none
  | .bin op x y => match aval σ x, aval σ y with
    | some u, some v => withV σ d (abin op u v)
    | _, _ => none
  | .eqB neg x y => match aval σ x, aval σ y with
    | some (.bool u), some (.bool v) => some (σ.put d (.bool (if neg then !(u == v) else u == v)))
    | _, _ => none
  | .eqA ks neg x y => match aval σ x, aval σ y with
    | some (.agg u), some (.agg v) => match eqs ks u v with
      | some b => some (σ.put d (.bool (if neg then !b else b)))
      | none => none
    | _, _ => none
  | .isnil neg x => match aval σ x with
    | some .nils => some (σ.put d (.bool (!neg)))
    | some .emp => some (σ.put d (.bool neg))
    | some (.list _ (_ :: _)) => some (σ.put d (.bool neg))
    | _ => none
  | .un op x => match aval σ x with
    | some v => withV σ d (aun op v)
    | none => none
  | .conv k x => match aval σ x with
    | some (.int _ n) => some (σ.put d (.int k (k.wrap n)))
    | _ => none
  | .len x => match aval σ x with
    | some (.list _ xs) => some (σ.put d (.int .i64 xs.length))
    | some .nils => some (σ.put d (.int .i64 0))
    | some (.arr _ _ n _) => some (σ.put d (.int .i64 n))
    | _ => none
  | .lenM x => match aval σ x with
    | some (.map m) => match σ.S.maps[m]? with
      | some es => some (σ.put d (.int .i64 es.length))
      | none => none
    | _ => none
  | .append sz _ inpl x y => match aval σ x, aval σ y with
    | some (.list st xs), some v => match elems σ sz v with
      | some ys => withS σ d (appendL σ.S sz inpl st xs ys)
      | none => none
    | some (.arr b off n z), some v => match elems σ sz v with
      | some ys => withS σ d (appendA σ.S sz b off n z ys)
      | none => none
    | _, _ => none
  | .build zero parts => match fillP σ zero parts with
    | some cs => some (σ.put d (.agg cs))
    | none => none
  | .mkslice sz n zero parts => match fillS σ sz (List.replicate n (if sz = 1 then strip1 (zero.headD .undef) else .agg (zero.map strip1))) parts with
    | some es => some (σ.put d (.list 1 es))
    | none => none
  | .mkfn f first cap => match avals σ first, avals σ cap with
    | some a, some c => some (σ.put d (.fn f a c))
    | _, _ => none
  | .mkmap => some ({ σ with S := { σ.S with maps := σ.S.maps ++ [[]] } }.put d (.map σ.S.maps.length))
  | .look kk zero ok m k => match aval σ m, aval σ k with
    | some (.map m), some (.int k' n) => if k' = kk then
        match σ.S.maps[m]? with
        | some es => match findK kk n es 0 with
          | some (some (_, v)) => some (σ.put d (if ok then .tup [v, .bool true] else v))
          | some none => some (σ.put d (if ok then .tup [zero, .bool false] else zero))
          | none => none
        | none => none
      else none
    | _, _ => none
  | .upd kk m k x => match aval σ m, aval σ k, amem σ x with
    | some (.map m), some (.int k' n), some v => if k' = kk then
        match σ.S.maps[m]? with
        | some es => match findK kk n es 0 with
          | some (some (i, _)) => some ({ σ with S := { σ.S with maps := σ.S.maps.set m (es.set i (PV.int kk n, strip v)) } }.put d .undef)
          | some none => some ({ σ with S := { σ.S with maps := σ.S.maps.set m (es ++ [(PV.int kk n, strip v)]) } }.put d .undef)
          | none => none
        | none => none
      else none
    | _, _, _ => none
  | .mks sz _ zero l c => match aval σ l, aval σ c with
    | some (.int _ n), some (.int _ m) => if 0 ≤ n ∧ n = m ∧ n ≤ maxA ∧ zero.length = sz then
        some ({ σ with S := { σ.S with boxes := σ.S.boxes ++ [some (List.replicate n.toNat zero).flatten] } }.put d (.arr σ.S.boxes.length 0 n.toNat sz))
      else none
    | _, _ => none
  | .slice sz x lo hi mx => match aval σ x with
    | some v => withV σ d (aslice σ sz v lo hi mx)
    | none => none
  | .idx n sz agg x i => match aval σ x, aval σ i with
    | some (.agg cs), some (.int _ j) => if 0 ≤ j ∧ j < n then withV σ d (cut (if agg then some sz else none) cs (j.toNat * sz)) else none
    | _, _ => none
  | .sidx x i => match aval σ x, aval σ i with
    | some (.str s), some (.int _ j) => if 0 ≤ j then
        match s[j.toNat]? with
        | some b => some (σ.put d (.int .u8 b.toNat))
        | none => none
      else none
    | _, _ => none
  | .ext x i => match aval σ x with
    | some (.tup vs) => withV σ d vs[i]?
    | _ => none
  | .nilc k x => match raw σ x with
    | .fn f a c => some (σ.put d (.fn f a c))
    | v => withV σ d (reptr 0 d k v)
  | .mx xs => match avals σ xs with
    | some (v :: vs) => withV σ d (maxOf v vs)
    | _ => none
  | .clr sz zero x => match aval σ x with
    | some (.arr b off n z) => if z = sz ∧ zero.length = sz then
        match astore σ (.ptr b off) (List.replicate n zero).flatten with
        | some σ' => some (σ'.put d (.tup []))
        | none => none
      else none
    | some (.list _ []) => some (σ.put d (.tup []))
    | _ => none
  | .call f args => match avals σ args with
    | some vs => withS σ d (callF T ex f vs σ)
    | none => none
  | .callv x args => match aval σ x, avals σ args with
    | some v, some vs => withS σ d (callV T ex v vs σ)
    | _, _ => none
  | .defr x args => match aval σ x, avals σ args with
    | some (.fn f fa fc), some vs => if σ.rnd then none else some ({ σ with defers := (.fn f fa fc, vs) :: σ.defers }.put d .undef)
    | _, _ => none

def wants (σ : AS) : Option (Nat × Bool) → Bool
  | none => true
  | some (t, b) => match tget σ.tmps t with
    | .bool c => c == b
    | _ => false
/-- A guard of which nothing is known. -/
def badG (σ : AS) : Option (Nat × Bool) → Bool
  | none => false
  | some (t, _) => match tget σ.tmps t with
    | .junk => true
    | _ => false
def chkOk (σ : AS) (c : Chk) : Bool :=
  if wants σ c.guard then
    match aload σ c.sz (raw σ c.a) with
    | some v => PV.same v (tget σ.tmps c.dst)
    | none => false
  else true
def notL (s : Nat) : PV → Bool
  | .lptr s' _ => !decide (s' = s)
  | _ => true
def chkAt (r : AR) (σ : AS) (c : Chk) : Bool := match r.op, r.dst with
  | .boxL _ _, some s => notL s (raw σ c.a)
  | _, _ => chkOk σ c
def arun (T : Tbl) (ex : Ex) : List AR → AS → Option AS
  | [], σ => some σ
  | o :: r, σ => if badG σ o.guard then none else if wants σ o.guard then
      match aop T ex o.dst σ o.op with
      | some σ' => if o.chk.all (chkAt o σ') then arun T ex r σ' else none
      | none => none
    else arun T ex r (σ.put o.dst .undef)

def exF (T : Tbl) (ex : Ex) : ACode → AS → Option (AExit × AS)
  | .skip, σ => some (.normal, σ)
  | .region ops, σ => match arun T ex ops σ with
    | some σ' => some (.normal, σ')
    | none => none
  | .seq a b, σ => match ex a σ with
    | some (.normal, σ') => ex b σ'
    | r => r
  | .cond c a b, σ => match aval σ c with
    | some (.bool t) => if t then ex a σ else ex b σ
    | _ => none
  | .block i b, σ => match ex b σ with
    | some (.exit j, σ') => if j = i then some (.normal, σ') else some (.exit j, σ')
    | r => r
  | .loop b, σ => match ex b σ with
    | some (.normal, σ') => ex (.loop b) σ'
    | r => r
  | .exit i, σ => some (.exit i, σ)
  | .ret, σ => some (.ret, σ)
  | .rangeFunc g ps asg body, σ => if σ.rnd || !(σ.tmps.all fun v => !v.isL) then none else match aval σ g with
    | some (.fn f fa fc) => match callF T ex f (fa ++ [.yld σ.S.loops.length] ++ fc) { σ with S := { σ.S with loops := σ.S.loops ++ [{ state := .ready, pending := none, fn := 0, tmps := σ.tmps, ps := ps, asg := asg, body := body }] } } with
      | some (_, S) => match S.loops[σ.S.loops.length]? with
        | some r => if r.state = .busy then none else
          match r.pending with
          | none => some (.normal, { σ with marks := σ.marks + 1, S := { S with loops := S.loops.set σ.S.loops.length { r with state := .exhausted } } })
          | some j => ex j { σ with marks := σ.marks + 1, S := { S with loops := S.loops.set σ.S.loops.length { r with state := .exhausted } } }
        | none => none
      | none => none
    | _ => none

def exn (T : Tbl) : Nat → Ex
  | 0 => fun _ _ => none
  | n + 1 => exF T (exn T n)

end Go.Proofs.YtkgmeeenacnhfaaGreat.Eng
namespace Go.Proofs.YtkgmeeenacnhfaaGreat.Eng
open Go

/-- What a program of ours has found out about a function: nothing here is trusted. -/
structure Ann where
  locals : List (Nat × List Nat) := []
  roots : List (Nat × Nat) := []
  inpl : List TypeId := []
  orders : List (Nat × List Nat) := []
  deriving Inhabited

def look1 (l : List (Nat × Nat)) (k : Nat) : Option Nat := match l with
  | [] => none
  | (a, b) :: r => if a = k then some b else look1 r k
def lookL {α : Type} (l : List (Nat × α)) (k : Nat) : Option α := match l with
  | [] => none
  | (a, b) :: r => if a = k then some b else lookL r k

def cVal1 : Value → Option PV
  | .int k n => some (.int k n)
  | .bool b => some (.bool b)
  | .string s => some (.str s.data.toList)
  | .pointer none => some .nilp
  | .slice none 0 0 => some (.list 1 [])
  | .map none => some .nilm
  | .nilFunc => some .nilf
  | _ => none
def cVals : List Value → Option (List PV)
  | [] => some []
  | v :: vs => match cVal1 v with
    | none => none
    | some x => match cVals vs with
      | none => none
      | some xs => some (x :: xs)
def cVal : Value → Option PV
  | .agg cs => match cVals cs.toList with
    | some xs => some (.agg xs)
    | none => none
  | v => cVal1 v
def cOpd : Operand → Option Opd
  | .tmp t => some (.t t)
  | .const v => match cVal v with
    | some x => some (.c x)
    | none => none
  | .func f => some (.c (.fn f [] []))
  | .global _ => none
def cOpds : List Operand → Option (List Opd)
  | [] => some []
  | v :: vs => match cOpd v with
    | none => none
    | some x => match cOpds vs with
      | none => none
      | some xs => some (x :: xs)
def cOpdO : Option Operand → Option (Option Opd)
  | none => some none
  | some x => match cOpd x with
    | some y => some (some y)
    | none => none

def szOf (P : Program) (t : TypeId) : Option Nat := match P.info? t with
  | some i => some i.size
  | none => none
def isAggT (P : Program) (t : TypeId) : Bool := match P.underlying t with
  | some (.struct _) => true
  | some (.array _ _) => true
  | _ => false
/-- 'some (some n)': a struct or an array of n cells; 'some none': one cell. -/
def szOpt (P : Program) (t : TypeId) : Option (Option Nat) := match P.info? t with
  | some i => match P.underlying t with
    | some (.struct _) => some (some i.size)
    | some (.array _ _) => some (some i.size)
    | some _ => some none
    | none => none
  | none => none
def zeroOf (P : Program) (t : TypeId) : Option PV := match P.info? t with
  | some i => match i.zero with
    | some v => cVal v
    | none => none
  | none => none
def zeroCells (P : Program) (t : TypeId) : Option (List PV) := match zeroOf P t with
  | some v => some v.cells
  | none => none
def kindsF (g : TypeId → Option (List Bool)) : Nat → List Field → Option (List Bool)
  | _, [] => some []
  | off, f :: fs => if f.name = "_" ∨ f.offset ≠ off then none else match g f.type with
    | none => none
    | some ks => match kindsF g (off + ks.length) fs with
      | none => none
      | some qs => some (ks ++ qs)
def repL (ks : List Bool) : Nat → List Bool
  | 0 => []
  | n + 1 => ks ++ repL ks n
/-- The cells (an integer: true, a bool: false) of a type that '==' compares cell by cell: integers and bools, structs (without a blank field) and arrays of these. -/
def kindsT (P : Program) : Nat → TypeId → Option (List Bool)
  | 0, _ => none
  | d + 1, t => match P.underlying t, szOf P t with
    | some (.int _), some n => if n = 1 then some [true] else none
    | some .bool, some n => if n = 1 then some [false] else none
    | some (.struct fs), some n => if P.stoodInHeld t then none else match kindsF (kindsT P d) 0 fs.toList with
      | some ks => if ks.length = n then some ks else none
      | none => none
    | some (.array k e), some n => match kindsT P d e with
      | some ks => if n = k * ks.length then some (repL ks k) else none
      | none => none
    | _, _ => none

def cParts (P : Program) (place : Nat → Option (Nat × Nat)) : List (Nat × Operand) → Option (List (Nat × Nat × Opd))
  | [] => some []
  | (i, x) :: r => match place i, cOpd x, cParts P place r with
    | some (off, sz), some y, some q => some ((off, sz, y) :: q)
    | _, _, _ => none
def cElems : List (Nat × Operand) → Option (List (Nat × Opd))
  | [] => some []
  | (i, x) :: r => match cOpd x, cElems r with
    | some y, some q => some ((i, y) :: q)
    | _, _ => none
def placesOf (P : Program) : List Field → Option (List (Nat × Nat))
  | [] => some []
  | f :: fs => match P.info? f.type, placesOf P fs with
    | some i, some ps => some ((f.offset, i.size) :: ps)
    | _, _ => none
def isNilSlice : Operand → Bool
  | .const (.slice none 0 0) => true
  | _ => false
def isShift : BinOp → Bool
  | .shl => true
  | .shr => true
  | _ => false
def isEq : BinOp → Bool
  | .eql => true
  | .neq => true
  | _ => false

def cBin (P : Program) (op : BinOp) (t : TypeId) (x y : Operand) : Option AOp :=
  match P.underlying t with
  | some (.int _) => match cOpd x, cOpd y with
    | some a, some b => some (.bin op a b)
    | _, _ => none
  | some .bool => if isEq op then match cOpd x, cOpd y with
    | some a, some b => some (.eqB (op == .neq) a b)
    | _, _ => none
    else none
  | some (.slice _) => if isEq op && isNilSlice y then match cOpd x with
    | some a => some (.isnil (op == .neq) a)
    | none => none
    else none
  | some (.struct _) => if isEq op && !P.eqGuardType P.depth t then match cOpd x, cOpd y, kindsT P 20 t with
    | some a, some b, some ks => some (.eqA ks (op == .neq) a b)
    | _, _, _ => none
    else none
  | some (.array _ _) => if isEq op && !P.eqGuardType P.depth t then match cOpd x, cOpd y, kindsT P 20 t with
    | some a, some b, some ks => some (.eqA ks (op == .neq) a b)
    | _, _, _ => none
    else none
  | _ => none

def cCall (P : Program) (A : Ann) (c : Call) : Option AOp :=
  match c.callee with
  | .value (.func f) => match cOpds c.args.toList with
    | some as => some (.call f as)
    | none => none
  | .value x => match cOpd x, cOpds c.args.toList with
    | some y, some as => some (.callv y as)
    | _, _ => none
  | .invoke _ _ => none
  | .builtin b => match b with
    | .len => match c.args.toList, c.argTypes.toList with
      | [x], [t] => match P.underlying t with
        | some (.slice _) => match cOpd x with
          | some a => some (.len a)
          | none => none
        | some (.map _ _) => match cOpd x with
          | some a => some (.lenM a)
          | none => none
        | _ => none
      | _, _ => none
    | .append => match c.args.toList, c.argTypes.toList with
      | [x, y], [t, u] => match P.underlying t, P.underlying u, cOpd x, cOpd y with
        | some (.slice e), some (.slice e'), some a, some b => match P.info? e, zeroCells P e with
          | some i, some z => if e = e' && decide (0 < i.size) && decide (i.bytes ≤ 65536) && decide (z.length = i.size) then some (.append i.size i.bytes (A.inpl.contains t) a b) else none
          | _, _ => none
        | _, _, _, _ => none
      | _, _ => none
    | .max => match cOpds c.args.toList with
      | some as => some (.mx as)
      | none => none
    | .clear => match c.args.toList, c.argTypes.toList with
      | [x], [t] => match P.underlying t with
        | some (.slice e) => match cOpd x, szOf P e, zeroCells P e with
          | some a, some n, some z => if 0 < n then some (.clr n z a) else none
          | _, _, _ => none
        | _ => none
      | _, _ => none
    | _ => none

/-- The variable of the activation's own to which the temporary's pointer may lead. -/
def rootOf (A : Ann) : Option Nat → Option Nat
  | some d => match look1 A.roots d with
    | some s => match lookL A.locals s with
      | some ks => if ks.contains d then some s else none
      | none => none
    | none => none
  | none => none
def cOp (P : Program) (A : Ann) (o : Oper) : Option AOp :=
  match o.op with
  | .move x => (match cOpd x with
    | some a => some (.mv a)
    | none => none)
  | .assign x => (match cOpd x with
    | some a => some (.mv a)
    | none => none)
  | .pick c a b => (match cOpd c, cOpd a, cOpd b with
    | some c, some a, some b => some (.pick c a b)
    | _, _, _ => none)
  | .box _ x => (match cOpd x with
    | some a => (match o.dst with
      | some d => (match lookL A.locals d with
        | some ks => some (.boxL ks a)
        | none => some (.boxG a))
      | none => some (.boxG a))
    | none => none)
  | .alloc e => (match zeroOf P e with
    | some v => (match o.dst with
      | some d => (match lookL A.locals d with
        | some ks => some (.boxL ks (.c v))
        | none => some (.boxG (.c v)))
      | none => some (.boxG (.c v)))
    | none => none)
  | .load t a => (match szOpt P t, cOpd a with
    | some s, some a => some (.load s a)
    | _, _ => none)
  | .store t a x => (match o.dst, szOf P t, cOpd a, cOpd x with
    | none, some n, some a, some x => some (.store n a x)
    | _, _, _, _ => none)
  | .fieldAddr s x i => (match P.underlying s, cOpd x with
    | some (.struct fs), some a => (match fs[i]? with
      | some f => (match szOf P f.type with
        | some n => if 0 < n then some (.faddr f.offset (rootOf A o.dst) a) else none
        | none => none)
      | none => none)
    | _, _ => none)
  | .indexAddr t x i => (match P.underlying t, cOpd x, cOpd i with
    | some (.slice e), some a, some j => (match szOf P e with
      | some n => if 0 < n then some (.iaddr n a j) else none
      | none => none)
    | some (.array k e), some a, some j => (match szOf P e with
      | some n => if 0 < n then some (.iaddrA k n (rootOf A o.dst) a j) else none
      | none => none)
    | _, _, _ => none)
  | .binOp op t x y _ => cBin P op t x y
  | .unOp op _ x => (match cOpd x with
    | some a => some (.un op a)
    | none => none)
  | .convert s t x => (match P.underlying s, P.underlying t, cOpd x with
    | some (.int _), some (.int k), some a => some (.conv k a)
    | _, _, _ => none)
  | .makeFunc fn first cap => (match fn, cOpds first.toList, cOpds cap.toList with
    | .func f, some a, some c => some (.mkfn f a c)
    | _, _, _ => none)
  | .makeMap t none => (match P.underlying t with
    | some (.map _ _) => some .mkmap
    | _ => none)
  | .makeSlice t l c => (match P.underlying t with
    | some (.slice e) => (match P.info? e, zeroCells P e, cOpd l, cOpd c with
      | some i, some z, some a, some b => if 0 < i.size && decide (i.bytes ≤ 65536) && decide (z.length = i.size) then some (.mks i.size i.bytes z a b) else none
      | _, _, _, _ => none)
    | _ => none)
  | .slice t x lo hi mx => (match P.underlying t with
    | some (.slice e) => (match szOf P e, cOpd x, cOpdO lo, cOpdO hi, cOpdO mx with
      | some n, some a, some l, some h, some m => if 0 < n then some (.slice n a l h m) else none
      | _, _, _, _, _ => none)
    | _ => none)
  | .index t x i => (match P.underlying t, cOpd x, cOpd i with
    | some (.array k e), some a, some j => (match szOpt P e, szOf P e with
      | some g, some n => some (.idx k n g.isSome a j)
      | _, _ => none)
    | some .string, some a, some j => some (.sidx a j)
    | _, _, _ => none)
  | .lookup t m k ok => (match P.underlying t with
    | some (.map kt e) => (match P.underlying kt, zeroOf P e, cOpd m, cOpd k with
      | some (.int kk), some z, some a, some b => some (.look kk z ok a b)
      | _, _, _, _ => none)
    | _ => none)
  | .mapUpdate t m k x => (match P.underlying t with
    | some (.map kt _) => (match P.underlying kt, cOpd m, cOpd k, cOpd x with
      | some (.int kk), some a, some b, some c => some (.upd kk a b c)
      | _, _, _, _ => none)
    | _ => none)
  | .insert t m k x => (match P.underlying t with
    | some (.map kt _) => (match P.underlying kt, cOpd m, cOpd k, cOpd x with
      | some (.int kk), some a, some b, some c => some (.upd kk a b c)
      | _, _, _, _ => none)
    | _ => none)
  | .extract x i => (match cOpd x with
    | some a => some (.ext a i)
    | none => none)
  | .nilCheck x => (match cOpd x with
    | some a => some (.nilc (rootOf A o.dst) a)
    | none => none)
  | .build t parts => (match P.underlying t, zeroCells P t with
    | some (.struct fs), some z => (match placesOf P fs.toList with
      | some ps => (match cParts P (fun i => ps[i]?) parts.toList with
        | some q => some (.build z q)
        | none => none)
      | none => none)
    | some (.array _ e), some z => (match szOf P e with
      | some n => (match cParts P (fun i => some (i * n, n)) parts.toList with
        | some q => some (.build z q)
        | none => none)
      | none => none)
    | _, _ => none)
  | .buildSlice t n parts => (match P.underlying t with
    | some (.slice e) => (match szOf P e, zeroCells P e, cElems parts.toList with
      | some k, some z, some q => if 0 < k && decide (z.length = k) && decide (n * k ≤ 16777216) then some (.mkslice k n z q) else none
      | _, _, _ => none)
    | _ => none)
  | .call c => cCall P A c
  | .defer c => (match c.callee with
    | .value x => (match cOpd x, cOpds c.args.toList with
      | some y, some as => some (.defr y as)
      | _, _ => none)
    | _ => none)
  | _ => none

/-! ### Regions that draw their order -/
inductive Cls where
  | pure | load | eff
  deriving DecidableEq
def clsOf (how : FuncId → How) : AOp → Cls
  | .load _ _ => .load
  | .look _ _ _ _ _ => .load
  | .lenM _ => .load
  | .slice _ _ _ _ _ => .load
  | .boxL _ _ | .boxG _ | .store _ _ _ | .append _ _ _ _ _ | .mkmap | .upd _ _ _ _ | .mks _ _ _ _ _ | .clr _ _ _ | .callv _ _ | .defr _ _ => .eff
  | .call _ _ => .eff
  | _ => .pure

def bindsAll (o : Oper) : List Nat := (o.after.toList.filter (Region.binds .any ·)).map (·.on)
/-- All that must come up ahead of op i, as lists, for i = 0, 1, .. (edges point backwards). -/
def befores (ops : List Oper) : List (List Nat) :=
  ops.foldl (fun acc o => acc ++ [((bindsAll o).flatMap fun j => j :: (acc.getD j [])).eraseDups]) []
def isBefore (bf : List (List Nat)) (i j : Nat) : Bool := (bf.getD j []).contains i
def cGuard (ops : List Oper) (o : Oper) : Option (Option (Nat × Bool)) :=
  match o.guard with
  | none => some none
  | some (j, w) => match ops[j]? with
    | some p => match p.dst with
      | some d => some (some (d, w))
      | none => none
    | none => none
/-- The temporaries at which an operation looks. -/
def AR.looks (r : AR) : List Nat := (r.op.opds.filterMap fun x => match x with
  | .t n => some n
  | .c _ => none) ++ (match r.guard with
    | some (t, _) => [t]
    | none => [])
/-- What o sets p neither looks at nor sets. -/
def ssaR (p o : AR) : Bool := match o.dst with
  | some d => !p.looks.contains d && !(p.dst == some d)
  | none => true
def apartR (p o : AR) : Bool := ssaR p o && ssaR o p
def chkOf (r : AR) : Option Chk := match r.op, r.dst with
  | .load s a, some d => some { sz := s, a := a, dst := d, guard := r.guard }
  | _, _ => none
def isEff (how : FuncId → How) (a : AOp) : Bool := decide (clsOf how a = .eff)
def isBox : AOp → Bool
  | .boxL _ _ => true
  | _ => false
/-- The loads among those that have come up which need not come up ahead of op j (all: j makes a variable of the activation's own). -/
def chks (how : FuncId → How) (bf : List (List Nat)) (j : Nat) (box : Bool) : List (Nat × AR) → Option (List Chk)
  | [] => some []
  | (i, p) :: r => match chks how bf j box r with
    | none => none
    | some q => if isBefore bf i j && !box then some q else
      if decide (clsOf how p.op = .load) then (match chkOf p with
        | some c => some (c :: q)
        | none => none) else some q
/-- Operations that turn the store alone, not the activation's own variables. -/
def storeOnly : AOp → Bool
  | .call _ _ | .callv _ _ | .append _ _ _ _ _ | .boxG _ | .mkmap | .mks _ _ _ _ _ => true
  | _ => false
def killsApart (ks : List Nat) (p : AR) : Bool := ks.all fun k => !p.looks.contains k && !(p.dst == some k)
def killsOf (r : AR) : List Nat := match r.op with
  | .boxL ks _ => ks
  | _ => []
/-- p stands ahead of o, and nothing orders them. -/
def pairOk (how : FuncId → How) (p o : AR) : Bool :=
  match p.op, o.op with
  | .boxL _ _, .boxL _ _ => false
  | .boxL ks _, a => killsApart ks o && (decide (clsOf how a = .pure) || storeOnly a)
  | b, .boxL ks _ => killsApart ks p && (!isEff how b || storeOnly b)
  | b, a => !isEff how b || decide (clsOf how a = .pure)
/-- May op j stand behind 'seen'? -/
def mayStand (how : FuncId → How) (bf : List (List Nat)) (j : Nat) (o : AR) (seen : List (Nat × AR)) : Bool :=
  seen.all fun (i, p) => (!decide (clsOf how p.op = .load) || (ssaR p o && killsApart (killsOf o) p)) && (isBefore bf i j || (apartR p o && pairOk how p o))
def ownDst (how : FuncId → How) (o : AR) : Bool := decide (clsOf how o.op = .load) && (o.looks.any fun t => o.dst == some t)
def cDraw (P : Program) (A : Ann) (how : FuncId → How) (ops : List Oper) (bf : List (List Nat)) : List Nat → List (Nat × AR) → Option (List AR)
  | [], _ => some []
  | j :: rest, seen => match ops[j]? with
    | none => none
    | some o => match cOp P A o, cGuard ops o with
      | some a, some g => (match (if isEff how a then chks how bf j (isBox a) seen else some []) with
        | some cs =>
          if (bindsAll o).all (fun b => seen.any (·.1 == b)) && !seen.any (·.1 == j) && mayStand how bf j { dst := o.dst, op := a, guard := g, chk := cs } seen && !ownDst how { dst := o.dst, op := a, guard := g, chk := cs } then
            match cDraw P A how ops bf rest ((j, { dst := o.dst, op := a, guard := g, chk := cs }) :: seen) with
            | some q => some ({ dst := o.dst, op := a, guard := g, chk := cs } :: q)
            | none => none
          else none
        | none => none)
      | _, _ => none
def cPlain (P : Program) (A : Ann) (ops : List Oper) : List Oper → Option (List AR)
  | [] => some []
  | o :: r => match cOp P A o, cGuard ops o, cPlain P A ops r with
    | some a, some g, some q => some ({ dst := o.dst, op := a, guard := g } :: q)
    | _, _, _ => none

def dstsOk (n : Nat) (ops : List Oper) : Bool := ops.all fun o => match o.dst with
  | some d => decide (d < n)
  | none => true

def cCode (P : Program) (A : Ann) (how : FuncId → How) (n : Nat) : Code → Option ACode
  | .skip => some .skip
  | .region id ops draw => if !dstsOk n ops.toList then none else
    if draw then
      let order := (lookL A.orders id).getD (List.range ops.size)
      if order.length = ops.size then
        match cDraw P A how ops.toList (befores ops.toList) order [] with
        | some q => some (.region q)
        | none => none
      else none
    else match cPlain P A ops.toList ops.toList with
      | some q => some (.region q)
      | none => none
  | .seq a b => match cCode P A how n a, cCode P A how n b with
    | some x, some y => some (.seq x y)
    | _, _ => none
  | .cond c a b => match cOpd c, cCode P A how n a, cCode P A how n b with
    | some o, some x, some y => some (.cond o x y)
    | _, _, _ => none
  | .block i b => match cCode P A how n b with
    | some x => some (.block i x)
    | none => none
  | .loop b => match cCode P A how n b with
    | some x => some (.loop x)
    | none => none
  | .rangeFunc g ps asg body => if ps.toList.all (fun p => decide (p < n)) then
      match cOpd g, cCode P A how n asg, cCode P A how n body with
      | some o, some x, some y => some (.rangeFunc o ps.toList x y)
      | _, _, _ => none
    else none
  | .exit i => some (.exit i)
  | .ret => some .ret
  | _ => none
def cRes (P : Program) : List ResultVar → Option (List ARes)
  | [] => some []
  | r :: rs => match cRes P rs with
    | none => none
    | some q => match r with
      | .tmp t => some (.tmp t :: q)
      | .cell s t => match szOpt P t with
        | some z => some (.cell s z :: q)
        | none => none
def cFn (P : Program) (A : Ann) (how : FuncId → How) (fn : Func) : Option AFn :=
  match fn.body with
  | none => none
  | some b => match cCode P A how fn.ntmps b, cRes P fn.results.toList with
    | some c, some rs => if fn.params.size + fn.nfree ≤ fn.ntmps ∧ fn.name ≠ "runtime.NumGoroutine" then
        some { nparams := fn.params.size + fn.nfree, ntmps := fn.ntmps, results := rs, body := c }
      else none
    | _, _ => none
end Go.Proofs.YtkgmeeenacnhfaaGreat.Eng
namespace Go.Proofs.YtkgmeeenacnhfaaGreat.Eng
open Go
open Go.RowKit (Below)

inductive Own where
  | free
  | box (i : Nat)
  | frame
  | stamp (k : Nat)
  | map (m : Nat)
  | loop (l : Nat)
  deriving DecidableEq

structure Ghost where
  imm : Nat → Nat → Option Value
  own : Nat → Own
  box : List (Nat × Nat)
  stamp : List (Option (Nat × Nat × Nat) × Nat)
  map : List Nat
  loop : List Nat

def nostC : PV → Bool
  | .list st _ => decide (st = 0)
  | _ => true
def noSpare : Option (Nat × Nat × Nat) → Prop
  | none => True
  | some (_, e, c) => e = c
/-- What a stamp says of a slice value of n elements at a place. -/
def StOK (G : Ghost) (st n : Nat) (pl : Option (Nat × Nat × Nat)) : Prop :=
  match st with
  | 0 => True
  | 1 => noSpare pl
  | k + 2 => ∃ loc m, G.stamp[k]? = some (loc, m) ∧ n ≤ m ∧ (n = m → loc = pl ∨ (loc = none ∧ noSpare pl)) ∧ (n = 0 → noSpare pl)

inductive Rel (G : Ghost) : PV → Value → Prop
  | int (k : IntKind) (n : Int) : Rel G (.int k n) (.int k n)
  | bool (b : Bool) : Rel G (.bool b) (.bool b)
  | str (s : List UInt8) : Rel G (.str s) (.string ⟨s.toArray⟩)
  | undef : Rel G .undef (.tuple #[])
  | nils : Rel G .nils (.slice none 0 0)
  | emp (a : Addr) (cap : Nat) : Rel G .emp (.slice (some a) 0 cap)
  | listN (st : Nat) : StOK G st 0 none → Rel G (.list st []) (.slice none 0 0)
  | listE (st : Nat) (a : Addr) (cap : Nat) : (st = 0 ∨ (cap = 0 ∧ StOK G st 0 none)) → Rel G (.list st []) (.slice (some a) 0 cap)
  | list (st : Nat) (xs : List PV) (b o cap sz : Nat) (val : Nat → Value) : 0 < sz → (∀ x ∈ xs, x.cells.length = sz) → xs.length ≤ cap →
      (∀ (k : Nat) (c : PV), (flat xs)[k]? = some c → G.imm b (o + k) = some (val k)) →
      (∀ (k : Nat) (c : PV), (flat xs)[k]? = some c → (val k).oneCell' = true ∧ nostC c = true) →
      (∀ (k : Nat) (c : PV), (flat xs)[k]? = some c → Rel G c (val k)) → StOK G st xs.length (some (b, o + xs.length * sz, o + cap * sz)) →
      Rel G (.list st xs) (.slice (some ⟨b, o, none⟩) xs.length cap)
  | agg (cs : List PV) (vs : Array Value) : vs.size = cs.length → (∀ (k : Nat) (v : Value), vs[k]? = some v → v.oneCell' = true) →
      (∀ (k : Nat) (c : PV) (v : Value), cs[k]? = some c → vs[k]? = some v → Rel G c v) → Rel G (.agg cs) (.agg vs)
  | tup (cs : List PV) (vs : Array Value) : vs.size = cs.length → (∀ (k : Nat) (c : PV) (v : Value), cs[k]? = some c → vs[k]? = some v → Rel G c v) → Rel G (.tup cs) (.tuple vs)
  | nilp : Rel G .nilp (.pointer none)
  | ptr (b off blk ce : Nat) : G.box[b]? = some (blk, ce) → Rel G (.ptr b off) (.pointer (some ⟨blk, off, none⟩))
  | vptr (cs : List PV) (off b o : Nat) (val : Nat → Value) : (∀ (k : Nat) (c : PV), cs[k]? = some c → G.imm b (o + k) = some (val k)) →
      (∀ (k : Nat) (c : PV), cs[k]? = some c → (val k).oneCell' = true ∧ nostC c = true) →
      (∀ (k : Nat) (c : PV), cs[k]? = some c → Rel G c (val k)) → Rel G (.vptr cs off) (.pointer (some ⟨b, o + off, none⟩))
  | arr (b off n sz blk ce cap : Nat) : G.box[b]? = some (blk, ce) → off + cap * sz = ce → n ≤ cap → 0 < sz →
      Rel G (.arr b off n sz) (.slice (some ⟨blk, off, none⟩) n cap)
  | fn (f : FuncId) (a c : List PV) (va vc : Array Value) : va.size = a.length → vc.size = c.length →
      (∀ (k : Nat) (p : PV) (v : Value), a[k]? = some p → va[k]? = some v → Rel G p v) → (∀ (k : Nat) (p : PV) (v : Value), c[k]? = some p → vc[k]? = some v → Rel G p v) →
      Rel G (.fn f a c) (.func (.func f) va vc)
  | yld (l blk : Nat) : G.loop[l]? = some blk → Rel G (.yld l) (.func (.yield blk) #[] #[])
  | nilf : Rel G .nilf .nilFunc
  | map (m blk : Nat) : G.map[m]? = some blk → Rel G (.map m) (.map (some blk))
  | nilm : Rel G .nilm (.map none)
  | junk (v : Value) : Rel G .junk v

structure Ext (base : Nat) (G G' : Ghost) : Prop where
  imm : ∀ (b o : Nat) (v : Value), G.imm b o = some v → G'.imm b o = some v
  new : ∀ (b o : Nat) (v : Value), G'.imm b o = some v → G.imm b o = some v ∨ base ≤ b
  box : ∀ (i : Nat) (x : Nat × Nat), G.box[i]? = some x → G'.box[i]? = some x
  stamp : ∀ (k : Nat) (loc : Option (Nat × Nat × Nat)) (n : Nat), G.stamp[k]? = some (loc, n) → ∃ loc' n', G'.stamp[k]? = some (loc', n') ∧ (n < n' ∨ (n' = n ∧ loc' = loc))
  map : ∀ (i x : Nat), G.map[i]? = some x → G'.map[i]? = some x
  loop : ∀ (i x : Nat), G.loop[i]? = some x → G'.loop[i]? = some x

theorem Ext.refl (base : Nat) (G : Ghost) : Ext base G G :=
  ⟨fun _ _ _ h => h, fun _ _ _ h => .inl h, fun _ _ h => h, fun _ loc n h => ⟨loc, n, h, .inr ⟨rfl, rfl⟩⟩, fun _ _ h => h, fun _ _ h => h⟩
theorem Ext.trans {base : Nat} {G H I : Ghost} (h : Ext base G H) (k : Ext base H I) : Ext base G I where
  imm b o v e := k.imm b o v (h.imm b o v e)
  new b o v e := (k.new b o v e).elim (fun e => h.new b o v e) .inr
  box i x e := k.box i x (h.box i x e)
  stamp i loc n e := by
    obtain ⟨l1, n1, e1, h1⟩ := h.stamp i loc n e
    obtain ⟨l2, n2, e2, h2⟩ := k.stamp i l1 n1 e1
    refine ⟨l2, n2, e2, ?_⟩
    rcases h1 with h1 | ⟨rfl, rfl⟩ <;> rcases h2 with h2 | ⟨rfl, rfl⟩
    · exact .inl (by omega)
    · exact .inl h1
    · exact .inl h2
    · exact .inr ⟨rfl, rfl⟩
  map i x e := k.map i x (h.map i x e)
  loop i x e := k.loop i x (h.loop i x e)

theorem StOK.ext {base : Nat} {G G' : Ghost} (h : Ext base G G') {st n : Nat} {pl : Option (Nat × Nat × Nat)} (hs : StOK G st n pl) : StOK G' st n pl := by
  match st, hs with
  | 0, _ => exact trivial
  | 1, hs => exact hs
  | k + 2, ⟨loc, m, e, hle, hq, hz⟩ =>
    obtain ⟨l1, n1, e1, h1⟩ := h.stamp k loc m e
    refine ⟨l1, n1, e1, ?_, ?_, hz⟩
    · rcases h1 with h1 | ⟨rfl, rfl⟩ <;> omega
    · rcases h1 with h1 | ⟨rfl, rfl⟩
      · intro hh; omega
      · exact hq

theorem Rel.ext {base : Nat} {G G' : Ghost} (h : Ext base G G') {p : PV} {v : Value} (hr : Rel G p v) : Rel G' p v := by
  induction hr with
  | int k n => exact .int k n
  | bool b => exact .bool b
  | str s => exact .str s
  | undef => exact .undef
  | nils => exact .nils
  | emp a cap => exact .emp a cap
  | listN st hs => exact .listN st (hs.ext h)
  | listE st a cap hs => exact .listE st a cap (hs.imp id (fun q => ⟨q.1, q.2.ext h⟩))
  | list st xs b o cap sz val h0 h1 h2 h3 h4 _ h6 ih => exact .list st xs b o cap sz val h0 h1 h2 (fun k c e => h.imm _ _ _ (h3 k c e)) h4 ih (h6.ext h)
  | agg cs vs h1 h2 _ ih => exact .agg cs vs h1 h2 ih
  | tup cs vs h1 _ ih => exact .tup cs vs h1 ih
  | nilp => exact .nilp
  | ptr b off blk ce e => exact .ptr b off blk ce (h.box _ _ e)
  | vptr cs off b o val h1 h2 _ ih => exact .vptr cs off b o val (fun k c e => h.imm _ _ _ (h1 k c e)) h2 ih
  | arr b off n sz blk ce cap e h1 h2 h3 => exact .arr b off n sz blk ce cap (h.box _ _ e) h1 h2 h3
  | fn f a c va vc h1 h2 _ _ ih1 ih2 => exact .fn f a c va vc h1 h2 ih1 ih2
  | yld l blk e => exact .yld l blk (h.loop _ _ e)
  | nilf => exact .nilf
  | map m blk e => exact .map m blk (h.map _ _ e)
  | nilm => exact .nilm
  | junk v => exact .junk v

section
variable (T : Tbl) (P : Program)

def stRel : LState → LoopState → Prop
  | .ready, .ready | .busy, .busy | .done, .done | .exhausted, .exhausted => True
  | _, _ => False
def jumpRel : Option ACode → Option Code → Prop
  | none, none => True
  | some .ret, some .ret => True
  | some (.exit i), some (.exit j) => i = j
  | _, _ => False

structure LoopRel (G : Ghost) (r : ALoop) (R : Loop) : Prop where
  state : stRel r.state R.state
  pending : jumpRel r.pending R.pending
  ps : R.params.toList = r.ps
  tmps : ∀ t, Rel G (tget r.tmps t) (R.tmps.getD t undef)
  lt : ∀ p ∈ r.ps, p < R.tmps.size
  code : ∃ A, cCode P A T.how R.tmps.size R.assign = some r.asg ∧ cCode P A T.how R.tmps.size R.body = some r.body

def CellsAt (G : Ghost) (cs : List PV) (arr : Array Value) : Prop := ∀ (k : Nat) (c : PV), cs[k]? = some c → ∃ v : Value, arr[k]? = some v ∧ v.oneCell' = true ∧ Rel G c v
def BoxAt (G : Ghost) (w : World) (i : Nat) (cs : List PV) : Prop := ∃ blk ce arr el, G.box[i]? = some (blk, ce) ∧ G.own blk = .box i ∧ w.heap[blk]? = some (.cells arr el (0, 0)) ∧
    cs.length ≤ ce ∧ ce ≤ arr.size ∧ CellsAt G cs arr
def StampAt (G : Ghost) (w : World) (k n : Nat) : Prop := ∃ loc, G.stamp[k]? = some (loc, n) ∧ ∀ (b e c : Nat), loc = some (b, e, c) → G.own b = .stamp k ∧ e ≤ c ∧ ∃ arr el, w.heap[b]? = some (.cells arr el (0, 0)) ∧ c ≤ arr.size
def Born (es : Array MapEntry) (clock : Nat) : Prop := (∀ b ∈ es.toList.map (·.born), b < clock) ∧ (es.toList.map (·.born)).Nodup
def MapAt (G : Ghost) (w : World) (m : Nat) (es : List (PV × PV)) : Prop := ∃ blk ents clock, G.map[m]? = some blk ∧ G.own blk = .map m ∧ w.heap[blk]? = some (.map ents clock) ∧ ents.size = es.length ∧
    (∀ (i : Nat) (k v : PV) (e : MapEntry), es[i]? = some (k, v) → ents[i]? = some e → (∃ (kk : IntKind) (n : Int), k = .int kk n ∧ e.key = .int kk n) ∧ Rel G v e.val) ∧ Born ents clock
def LoopAt (G : Ghost) (w : World) (l : Nat) (r : ALoop) : Prop := ∃ blk R, G.loop[l]? = some blk ∧ G.own blk = .loop l ∧ w.heap[blk]? = some (.loop R) ∧ LoopRel T P G r R
def ImmAt (G : Ghost) (b o : Nat) : Prop := G.own b = .free ∨ ∃ k e c m, G.own b = .stamp k ∧ G.stamp[k]? = some (some (b, e, c), m) ∧ o < e

structure Sim (base : Nat) (G : Ghost) (S : Store) (w : World) : Prop where
  imm : ∀ (b o : Nat) (v : Value), G.imm b o = some v → w.cell? ⟨b, o, none⟩ = some v
  immOwn : ∀ (b o : Nat) (v : Value), G.imm b o = some v → ImmAt G b o
  ownLt : ∀ b, G.own b ≠ .free → base ≤ b ∧ b < w.heap.size
  boxLen : G.box.length = S.boxes.length
  box : ∀ (i : Nat) (cs : List PV), S.boxes[i]? = some (some cs) → BoxAt G w i cs
  stampLen : G.stamp.length = S.stamps.length
  stamp : ∀ (k n : Nat), S.stamps[k]? = some n → StampAt G w k n
  mapLen : G.map.length = S.maps.length
  map : ∀ (m : Nat) (es : List (PV × PV)), S.maps[m]? = some es → MapAt G w m es
  loopLen : G.loop.length = S.loops.length
  loop : ∀ (l : Nat) (r : ALoop), S.loops[l]? = some r → LoopAt T P G w l r

def RelT (G : Ghost) (L : Nat → Option Nat) (p : PV) (v : Value) : Prop :=
  (∃ s off blk, p = .lptr s off ∧ L s = some blk ∧ v = .pointer (some ⟨blk, off, none⟩)) ∨ Rel G p v

inductive DefRel (G : Ghost) (w : World) : List (PV × List PV) → List Deferred → List Nat → Prop
  | nil : DefRel G w [] [] []
  | mark (r : Nat) (ds : List (PV × List PV)) (Ds : List Deferred) (M : List Nat) : DefRel G w ds Ds M → DefRel G w ds ({ target := .collected r, args := #[] } :: Ds) (r :: M)
  | fn (f : FuncId) (a c : List PV) (args : List PV) (va vc vargs : Array Value) (ds : List (PV × List PV)) (Ds : List Deferred) (M : List Nat) :
      Rel G (.fn f a c) (.func (.func f) va vc) → vargs.size = args.length → (∀ (k : Nat) (p : PV) (v : Value), args[k]? = some p → vargs[k]? = some v → Rel G p v) →
      DefRel G w ds Ds M → DefRel G w ((.fn f a c, args) :: ds) ({ target := .fn (.func f) vc, args := va ++ vargs } :: Ds) M

structure FSim (A : Ann) (N : Nat) (K : Nat → Prop) (base : Nat) (G : Ghost) (L : Nat → Option Nat) (M : List Nat) (σ : AS) (a : Act) (w : World) : Prop where
  sim : Sim T P base G σ.S w
  size : a.tmps.size = N
  tmps : ∀ t, RelT G L (tget σ.tmps t) (a.tmps.getD t undef)
  kills : ∀ t s off, tget σ.tmps t = .lptr s off → t = s ∨ ∃ ks, lookL A.locals s = some ks ∧ t ∈ ks
  loc : ∀ (s : Nat) (cs : List PV), tget σ.loc s = .agg cs → ∃ blk arr el, L s = some blk ∧ w.heap[blk]? = some (.cells arr el (0, 0)) ∧ arr.size = cs.length ∧
    ∀ (k : Nat) (c : PV) (v : Value), cs[k]? = some c → arr[k]? = some v → v.oneCell' = true ∧ Rel G c v
  lOwn : ∀ s blk, L s = some blk → G.own blk = .frame ∧ ¬ K blk
  inj : ∀ s s' blk, L s = some blk → L s' = some blk → s = s'
  kOwn : ∀ b, K b → G.own b = .frame
  defers : DefRel G w σ.defers a.defers M
  marks : ∀ r ∈ M, G.own r = .frame ∧ ¬ K r ∧ (∀ s, L s ≠ some r) ∧ w.heap[r]? = some (.deferred (some []))
  mNodup : M.Nodup
  mLen : M.length = σ.marks

/-- What a step of the machine leaves of what it may not touch. -/
structure Stp (K : Nat → Prop) (base : Nat) (G : Ghost) (w : World) (G' : Ghost) (w' : World) : Prop where
  ext : Ext base G G'
  prot : ∀ b, K b → w'.heap[b]? = w.heap[b]? ∧ G'.own b = .frame
  below : Below base w w'
end

theorem Stp.trans {K : Nat → Prop} {base : Nat} {G H I : Ghost} {w w1 w2 : World} (h : Stp K base G w H w1) (k : Stp K base H w1 I w2) : Stp K base G w I w2 :=
  ⟨h.ext.trans k.ext, fun b hb => ⟨(k.prot b hb).1.trans (h.prot b hb).1, (k.prot b hb).2⟩, h.below.trans k.below⟩
theorem Stp.refl {K : Nat → Prop} {base : Nat} {G : Ghost} {w : World} (hk : ∀ b, K b → G.own b = .frame) : Stp K base G w G w :=
  ⟨Ext.refl _ _, fun b hb => ⟨rfl, hk b hb⟩, Below.refl _ _⟩

theorem LoopRel.ext {T : Tbl} {P : Program} {base : Nat} {G G' : Ghost} (h : Ext base G G') {r : ALoop} {R : Loop} (hr : LoopRel T P G r R) : LoopRel T P G' r R :=
  ⟨hr.state, hr.pending, hr.ps, fun t => (hr.tmps t).ext h, hr.lt, hr.code⟩
theorem RelT.ext {base : Nat} {G G' : Ghost} (h : Ext base G G') {L : Nat → Option Nat} {p : PV} {v : Value} (hr : RelT G L p v) : RelT G' L p v := hr.imp id (Rel.ext h)
theorem DefRel.ext {base : Nat} {G G' : Ghost} {w w' : World} (h : Ext base G G') {ds : List (PV × List PV)} {Ds : List Deferred} {M : List Nat} (hr : DefRel G w ds Ds M) : DefRel G' w' ds Ds M := by
  induction hr with
  | nil => exact .nil
  | mark r ds Ds M _ ih => exact .mark r ds Ds M ih
  | fn f a c args va vc vargs ds Ds M h1 h2 h3 _ ih => exact .fn f a c args va vc vargs ds Ds M (h1.ext h) h2 (fun k p v e1 e2 => (h3 k p v e1 e2).ext h) ih

/-! ### Keeping Sim -/
section
variable {T : Tbl} {P : Program} {base : Nat} {G : Ghost} {S : Store} {w w' : World}

theorem CellsAt.ext {G' : Ghost} (h : Ext base G G') {cs : List PV} {arr : Array Value} (hc : CellsAt G cs arr) : CellsAt G' cs arr :=
  fun k c e => let ⟨v, h1, h2, h3⟩ := hc k c e; ⟨v, h1, h2, h3.ext h⟩
/-- Some blocks ('B') are touched; of all others that the ghost speaks of nothing turns. -/
theorem Sim.step {G' : Ghost} {S' : Store} (h : Sim T P base G S w) (B : Nat → Prop)
    (keep : ∀ b, b < w.heap.size → ¬ B b → G.own b ≠ .frame → w'.heap[b]? = w.heap[b]?)
    (own : ∀ b, b < w.heap.size → ¬ B b → G'.own b = G.own b) (ext : Ext base G G')
    (imm : ∀ (b o : Nat) (v : Value), G'.imm b o = some v → (G.imm b o = some v ∧ ¬ B b) ∨ (w'.cell? ⟨b, o, none⟩ = some v ∧ ImmAt G' b o))
    (immS : ∀ (b o : Nat) (k e c m : Nat), ¬ B b → G.own b = .stamp k → G.stamp[k]? = some (some (b, e, c), m) → o < e → ImmAt G' b o)
    (ownLt : ∀ b, G'.own b ≠ .free → base ≤ b ∧ b < w'.heap.size)
    (boxLen : G'.box.length = S'.boxes.length)
    (box : ∀ (i : Nat) (cs : List PV), S'.boxes[i]? = some (some cs) → (S.boxes[i]? = some (some cs) ∧ ∀ blk ce, G.box[i]? = some (blk, ce) → ¬ B blk) ∨ BoxAt G' w' i cs)
    (stampLen : G'.stamp.length = S'.stamps.length)
    (stamp : ∀ (k n : Nat), S'.stamps[k]? = some n → (S.stamps[k]? = some n ∧ G'.stamp[k]? = G.stamp[k]? ∧ ∀ b e c m, G.stamp[k]? = some (some (b, e, c), m) → ¬ B b) ∨ StampAt G' w' k n)
    (mapLen : G'.map.length = S'.maps.length)
    (map : ∀ (m : Nat) (es : List (PV × PV)), S'.maps[m]? = some es → (S.maps[m]? = some es ∧ ∀ blk, G.map[m]? = some blk → ¬ B blk) ∨ MapAt G' w' m es)
    (loopLen : G'.loop.length = S'.loops.length)
    (loop : ∀ (l : Nat) (r : ALoop), S'.loops[l]? = some r → (S.loops[l]? = some r ∧ ∀ blk, G.loop[l]? = some blk → ¬ B blk) ∨ LoopAt T P G' w' l r) : Sim T P base G' S' w' := by
  have key : ∀ b x, w.heap[b]? = some x → ¬ B b → G.own b ≠ .frame → w'.heap[b]? = some x ∧ G'.own b = G.own b := fun b x e hB hf =>
    ⟨(keep b (Array.getElem?_eq_some_iff.1 e).1 hB hf).trans e, own b (Array.getElem?_eq_some_iff.1 e).1 hB⟩
  have immK : ∀ (b o : Nat) (v : Value), G.imm b o = some v → ¬ B b → w'.cell? ⟨b, o, none⟩ = some v ∧ ImmAt G' b o := by
    intro b o v e hB
    have h1 := h.imm b o v e
    have hlt := World.block_lt_of_cell? w _ h1
    have h2 := h.immOwn b o v e
    have hf : G.own b ≠ .frame := by rcases h2 with h2 | ⟨k, e', c, m, h2, _⟩ <;> simp [h2]
    refine ⟨?_, ?_⟩
    · rw [World.cell?_of_block (w := w) (a := ⟨b, o, none⟩) (keep b hlt hB hf)]
      exact h1
    · rcases h2 with h2 | ⟨k, e', c, m, h2, h3, h4⟩
      · exact .inl ((own b hlt hB).trans h2)
      · exact immS b o k e' c m hB h2 h3 h4
  constructor
  · intro b o v e
    rcases imm b o v e with ⟨h1, h2⟩ | ⟨h1, _⟩
    · exact (immK b o v h1 h2).1
    · exact h1
  · intro b o v e
    rcases imm b o v e with ⟨h1, h2⟩ | ⟨_, h2⟩
    · exact (immK b o v h1 h2).2
    · exact h2
  · exact ownLt
  · exact boxLen
  · intro i cs e
    rcases box i cs e with ⟨h1, h2⟩ | h1
    · obtain ⟨blk, ce, arr, el, g1, g2, g3, g4, g5, g6⟩ := h.box i cs h1
      obtain ⟨k1, k2⟩ := key _ _ g3 (h2 _ _ g1) (by simp [g2])
      exact ⟨blk, ce, arr, el, ext.box _ _ g1, k2.trans g2, k1, g4, g5, g6.ext ext⟩
    · exact h1
  · exact stampLen
  · intro k n e
    rcases stamp k n e with ⟨h1, h2, h3⟩ | h1
    · obtain ⟨loc, g1, g2⟩ := h.stamp k n h1
      refine ⟨loc, h2.trans g1, fun b e' c hl => ?_⟩
      subst hl
      obtain ⟨q1, q2, arr, el, q3, q4⟩ := g2 b e' c rfl
      obtain ⟨k1, k2⟩ := key _ _ q3 (h3 _ _ _ _ g1) (by simp [q1])
      exact ⟨k2.trans q1, q2, arr, el, k1, q4⟩
    · exact h1
  · exact mapLen
  · intro m es e
    rcases map m es e with ⟨h1, h2⟩ | h1
    · obtain ⟨blk, ents, clock, g1, g2, g3, g4, g5, g6⟩ := h.map m es h1
      obtain ⟨k1, k2⟩ := key _ _ g3 (h2 _ g1) (by simp [g2])
      exact ⟨blk, ents, clock, ext.map _ _ g1, k2.trans g2, k1, g4, fun i k v x e1 e2 => ⟨(g5 i k v x e1 e2).1, (g5 i k v x e1 e2).2.ext ext⟩, g6⟩
    · exact h1
  · exact loopLen
  · intro l r e
    rcases loop l r e with ⟨h1, h2⟩ | h1
    · obtain ⟨blk, R, g1, g2, g3, g4⟩ := h.loop l r h1
      obtain ⟨k1, k2⟩ := key _ _ g3 (h2 _ g1) (by simp [g2])
      exact ⟨blk, R, ext.loop _ _ g1, k2.trans g2, k1, g4.ext ext⟩
    · exact h1

/-- Of what the ghost speaks nothing has turned. -/
theorem Sim.same (h : Sim T P base G S w) (hs : w.heap.size ≤ w'.heap.size) (hh : ∀ b, b < w.heap.size → G.own b ≠ .frame → w'.heap[b]? = w.heap[b]?) : Sim T P base G S w' :=
  h.step (fun _ => False) (fun b hb _ hf => hh b hb hf) (fun _ _ _ => rfl) (Ext.refl _ _) (fun _ _ _ e => .inl ⟨e, id⟩)
    (fun b o k e c m _ h1 h2 h3 => .inr ⟨k, e, c, m, h1, h2, h3⟩) (fun b hb => ⟨(h.ownLt b hb).1, by have := (h.ownLt b hb).2; omega⟩)
    h.boxLen (fun _ _ e => .inl ⟨e, fun _ _ _ => id⟩) h.stampLen (fun _ _ e => .inl ⟨e, rfl, fun _ _ _ _ _ => id⟩) h.mapLen (fun _ _ e => .inl ⟨e, fun _ _ => id⟩)
    h.loopLen (fun _ _ e => .inl ⟨e, fun _ _ => id⟩)

theorem Sim.alloc (h : Sim T P base G S w) (o : Obj) : Sim T P base G S (w.alloc o) :=
  h.same (by simp) (fun b hb _ => Below.heap_alloc w o b hb)
theorem Sim.drew (h : Sim T P base G S w) : Sim T P base G S w.drew := h.same (Nat.le_refl _) (fun _ _ _ => rfl)

/-- A block that nobody owned, and of which the ghost knows nothing, gets an owner. -/
def Ghost.setOwn (G : Ghost) (b : Nat) (x : Own) : Ghost := { G with own := fun b' => if b' = b then x else G.own b' }
theorem Ghost.setOwn_same (G : Ghost) (b : Nat) (x : Own) : (G.setOwn b x).own b = x := by simp [Ghost.setOwn]
theorem Ghost.setOwn_other (G : Ghost) {b b' : Nat} (x : Own) (h : b' ≠ b) : (G.setOwn b x).own b' = G.own b' := by simp [Ghost.setOwn, h]
end
end Go.Proofs.YtkgmeeenacnhfaaGreat.Eng
namespace Go.Proofs.YtkgmeeenacnhfaaGreat.Eng
open Go
open Go.RowKit (Below)
section
variable {T : Tbl} {P : Program} {base : Nat} {G : Ghost} {S : Store} {w : World} {K : Nat → Prop}

theorem Sim.fresh_own (h : Sim T P base G S w) {b : Nat} (hb : w.heap.size ≤ b) : G.own b = .free :=
  Classical.byContradiction fun hn => by have := (h.ownLt b hn).2; omega
theorem Sim.fresh_imm (h : Sim T P base G S w) {b o : Nat} {v : Value} (hb : w.heap.size ≤ b) : G.imm b o ≠ some v :=
  fun e => by have := World.block_lt_of_cell? w _ (h.imm b o v e); exact Nat.lt_irrefl _ (Nat.lt_of_lt_of_le this hb)
theorem Sim.lt_of_own (h : Sim T P base G S w) {b : Nat} (hb : G.own b ≠ .free) : b < w.heap.size := (h.ownLt b hb).2
theorem Sim.owned_imm (h : Sim T P base G S w) {b o : Nat} {v : Value} (e : G.imm b o = some v) : G.own b = .free ∨ ∃ k, G.own b = .stamp k := by
  rcases h.immOwn b o v e with h1 | ⟨k, _, _, _, h1, _⟩
  · exact .inl h1
  · exact .inr ⟨k, h1⟩

theorem heap_alloc_at (w : World) (o : Obj) : (w.alloc o).heap[w.heap.size]? = some o := by
  show (w.heap.push o)[w.heap.size]? = some o
  simp
theorem getElem?_append_some {α : Type} {l : List α} {a x : α} {i : Nat} (h : (l ++ [a])[i]? = some x) : l[i]? = some x ∨ (i = l.length ∧ a = x) := by
  rcases Nat.lt_trichotomy i l.length with hi | hi | hi
  · rw [List.getElem?_append_left hi] at h; exact .inl h
  · subst hi; simp at h; exact .inr ⟨rfl, h⟩
  · rw [List.getElem?_append_right (by omega)] at h
    rw [List.getElem?_eq_none (by simp; omega)] at h
    cases h
theorem getElem?_append_pre {α : Type} {l : List α} {a x : α} {i : Nat} (h : l[i]? = some x) : (l ++ [a])[i]? = some x := by
  rw [List.getElem?_append_left (List.getElem?_eq_some_iff.1 h).1]; exact h
theorem getElem?_append_at {α : Type} (l : List α) (a : α) {n : Nat} (h : n = l.length) : (l ++ [a])[n]? = some a := by subst h; simp

/-- The ghost behind the laying of a block: it has an owner; more boxes, stamps, maps, loops, cells that never turn. -/
theorem Stp.of_alloc (h : Sim T P base G S w) (hk : ∀ b, K b → G.own b = .frame) {G' : Ghost} (o : Obj) (hb : base ≤ w.heap.size) (ext : Ext base G G') (own : ∀ b, b < w.heap.size → G'.own b = G.own b) :
    Stp K base G w G' (w.alloc o) :=
  ⟨ext, fun b hb' => ⟨Below.heap_alloc w o b (h.lt_of_own (by rw [hk b hb']; simp)), (own b (h.lt_of_own (by rw [hk b hb']; simp))).trans (hk b hb')⟩, (Below.refl _ _).alloc hb o⟩

def Ghost.addBox (G : Ghost) (b ce : Nat) : Ghost := { G with own := fun x => if x = b then .box G.box.length else G.own x, box := G.box ++ [(b, ce)] }
theorem Ghost.addBox_ext (G : Ghost) (b ce : Nat) : Ext base G (G.addBox b ce) :=
  ⟨fun _ _ _ h => h, fun _ _ _ h => .inl h, fun _ _ h => getElem?_append_pre h, fun _ loc n h => ⟨loc, n, h, .inr ⟨rfl, rfl⟩⟩, fun _ _ h => h, fun _ _ h => h⟩

theorem Sim.newBox (h : Sim T P base G S w) (hb : base ≤ w.heap.size) {cs : List PV} {vs : Array Value} {el : TypeId} {ce : Nat} (h1 : cs.length ≤ ce) (h2 : ce ≤ vs.size) (hc : CellsAt G cs vs) :
    Sim T P base (G.addBox w.heap.size ce) { S with boxes := S.boxes ++ [some cs] } (w.alloc (.cells vs el)) := by
  have ext : Ext base G (G.addBox w.heap.size ce) := G.addBox_ext _ _
  refine h.step (fun _ => False) (fun b hb' _ _ => Below.heap_alloc w _ b hb') (fun b hb' _ => by simp [Ghost.addBox, Nat.ne_of_lt hb']) ext (fun _ _ _ e => .inl ⟨e, id⟩) ?_ ?_ ?_ ?_ h.stampLen
    (fun _ _ e => .inl ⟨e, rfl, fun _ _ _ _ _ => id⟩) h.mapLen (fun _ _ e => .inl ⟨e, fun _ _ => id⟩) h.loopLen (fun _ _ e => .inl ⟨e, fun _ _ => id⟩)
  · intro b o k e c m _ g1 g2 g3
    have hlt := h.lt_of_own (b := b) (by simp [g1])
    exact .inr ⟨k, e, c, m, by simp [Ghost.addBox, Nat.ne_of_lt hlt, g1], g2, g3⟩
  · intro b hb'
    by_cases hbb : b = w.heap.size
    · subst hbb; exact ⟨hb, by simp⟩
    · have := h.ownLt b (by simpa [Ghost.addBox, hbb] using hb')
      exact ⟨this.1, by simp; omega⟩
  · simp [Ghost.addBox, h.boxLen]
  · intro i cs' e
    rcases getElem?_append_some e with e1 | ⟨rfl, e1⟩
    · exact .inl ⟨e1, fun _ _ _ => id⟩
    · obtain rfl := Option.some.inj e1
      refine .inr ⟨w.heap.size, ce, vs, el, getElem?_append_at _ _ h.boxLen.symm, by simp [Ghost.addBox, h.boxLen], heap_alloc_at w _, h1, h2, hc.ext ext⟩

theorem setRow_only (w : World) (g : Nat) (c : Array Value) (b : Nat) (h : b ≠ g) : (w.setRow g c).heap[b]? = w.heap[b]? := setRow_other w g b c h

theorem Sim.writeBox (h : Sim T P base G S w) {i blk ce : Nat} {arr arr' : Array Value} {el : TypeId} {cs' : List PV} (hg : G.box[i]? = some (blk, ce)) (ho : G.own blk = .box i)
    (hw : w.heap[blk]? = some (.cells arr el (0, 0))) (h1 : cs'.length ≤ ce) (h2 : ce ≤ arr'.size) (hc : CellsAt G cs' arr') (hi : i < S.boxes.length) :
    Sim T P base G { S with boxes := S.boxes.set i (some cs') } (w.setRow blk arr') := by
  have hne : ∀ b, G.own b ≠ .box i → b ≠ blk := fun b hb e => hb (e ▸ ho)
  refine h.step (fun b => b = blk) (fun b _ hb _ => setRow_only w blk arr' b hb) (fun _ _ _ => rfl) (Ext.refl _ _) (fun b o v e => .inl ⟨e, ?_⟩)
    (fun b o k e c m _ g1 g2 g3 => .inr ⟨k, e, c, m, g1, g2, g3⟩) (fun b hb => by have := h.ownLt b hb; simpa [World.setRow] using this) (by simp [h.boxLen]) ?_ h.stampLen
    (fun k n e => .inl ⟨e, rfl, fun b e' c m g => ?_⟩) h.mapLen (fun m es e => .inl ⟨e, fun b g => ?_⟩) h.loopLen (fun l r e => .inl ⟨e, fun b g => ?_⟩)
  · rcases h.owned_imm e with h3 | ⟨k, h3⟩ <;> exact hne b (by simp [h3])
  · intro j cs e
    by_cases hj : j = i
    · subst hj
      simp [hi] at e
      subst e
      exact .inr ⟨blk, ce, arr', el, hg, ho, setRow_heap w blk arr arr' el _ hw, h1, h2, hc⟩
    · rw [List.getElem?_set_ne (Ne.symm hj)] at e
      refine .inl ⟨e, fun b c g => hne b ?_⟩
      obtain ⟨b', c', _, _, g1, g2, _⟩ := h.box j cs e
      rw [g] at g1
      cases g1
      simpa [g2] using hj
  · obtain ⟨loc, g1, g2⟩ := h.stamp k n e
    rw [g] at g1
    obtain ⟨rfl, rfl⟩ := Prod.mk.inj (Option.some.inj g1)
    exact hne b (by simp [(g2 b e' c rfl).1])
  · obtain ⟨b', _, _, g1, g2, _⟩ := h.map m es e
    rw [g] at g1
    cases g1
    exact hne b (by simp [g2])
  · obtain ⟨b', _, g1, g2, _⟩ := h.loop l r e
    rw [g] at g1
    cases g1
    exact hne b (by simp [g2])
/-- A box whose old values nobody may look at any more. -/
theorem Sim.killBox (h : Sim T P base G S w) (i : Nat) : Sim T P base G { S with boxes := S.boxes.set i none } w := by
  refine h.step (fun _ => False) (fun _ _ _ _ => rfl) (fun _ _ _ => rfl) (Ext.refl _ _) (fun _ _ _ e => .inl ⟨e, id⟩) (fun b o k e c m _ g1 g2 g3 => .inr ⟨k, e, c, m, g1, g2, g3⟩)
    h.ownLt (by simp [h.boxLen]) (fun j cs e => .inl ⟨?_, fun _ _ _ => id⟩) h.stampLen
    (fun _ _ e => .inl ⟨e, rfl, fun _ _ _ _ _ => id⟩) h.mapLen (fun _ _ e => .inl ⟨e, fun _ _ => id⟩) h.loopLen (fun _ _ e => .inl ⟨e, fun _ _ => id⟩)
  by_cases hj : j = i
  · subst hj
    by_cases hl : j < S.boxes.length
    · simp [hl] at e
    · rw [List.getElem?_eq_none (by simpa using hl)] at e; cases e
  · simpa [List.getElem?_set_ne (Ne.symm hj)] using e

/-- A step that writes into one block that is no frame's of others. -/
theorem Stp.of_write (hk : ∀ b, K b → G.own b = .frame) {w' : World} {blk : Nat} (hblk : ¬ K blk) (hb : base ≤ blk) (hs : w'.heap.size = w.heap.size) (ho : w'.os = w.os) (ht : w'.tape = w.tape) (hp : w'.output = w.output)
    (hh : ∀ b, b ≠ blk → w'.heap[b]? = w.heap[b]?) : Stp K base G w G w' :=
  ⟨Ext.refl _ _, fun b hb' => ⟨hh b (fun e => hblk (e ▸ hb')), hk b hb'⟩, ⟨ho, ht, hp, by omega, fun k hk' => hh k (by omega)⟩⟩

/-! ### New lists -/
def Ghost.addImm (G : Ghost) (blk off n : Nat) (val : Nat → Value) : Ghost := { G with imm := fun b o => if b = blk ∧ off ≤ o ∧ o < off + n then some (val (o - off)) else G.imm b o }
theorem Ghost.addImm_ext {G : Ghost} {blk off n : Nat} {val : Nat → Value} (h : ∀ o v, off ≤ o → G.imm blk o ≠ some v) (hb : base ≤ blk) : Ext base G (G.addImm blk off n val) where
  imm b o v e := by
    simp only [Ghost.addImm]
    rw [if_neg]
    · exact e
    · rintro ⟨rfl, h1, _⟩
      exact h o v h1 e
  new b o v e := by
    simp only [Ghost.addImm] at e
    split at e
    · rename_i hc; exact .inr (hc.1 ▸ hb)
    · exact .inl e
  box _ _ e := e
  stamp _ loc n e := ⟨loc, n, e, .inr ⟨rfl, rfl⟩⟩
  map _ _ e := e
  loop _ _ e := e
theorem Ghost.addImm_at {G : Ghost} {blk off n k : Nat} {val : Nat → Value} (h : k < n) : (G.addImm blk off n val).imm blk (off + k) = some (val k) := by
  simp [Ghost.addImm, h]

/-- A new block of which no cell ever turns. -/
theorem Sim.newImm (h : Sim T P base G S w) (hb : base ≤ w.heap.size) (vs : Array Value) (el : TypeId) :
    Sim T P base (G.addImm w.heap.size 0 vs.size (fun k => vs.getD k undef)) S (w.alloc (.cells vs el)) ∧ Ext base G (G.addImm w.heap.size 0 vs.size (fun k => vs.getD k undef)) := by
  have ext : Ext base G (G.addImm w.heap.size 0 vs.size (fun k => vs.getD k undef)) := Ghost.addImm_ext (fun o v _ => h.fresh_imm (Nat.le_refl _)) hb
  refine ⟨h.step (fun _ => False) (fun b hb' _ _ => Below.heap_alloc w _ b hb') (fun b hb' _ => rfl) ext ?_ (fun b o k e c m _ g1 g2 g3 => .inr ⟨k, e, c, m, g1, g2, g3⟩)
    (fun b hb' => by have := h.ownLt b hb'; exact ⟨this.1, by simp; omega⟩) h.boxLen (fun _ _ e => .inl ⟨e, fun _ _ _ => id⟩) h.stampLen
    (fun _ _ e => .inl ⟨e, rfl, fun _ _ _ _ _ => id⟩) h.mapLen (fun _ _ e => .inl ⟨e, fun _ _ => id⟩) h.loopLen (fun _ _ e => .inl ⟨e, fun _ _ => id⟩), ext⟩
  intro b o v e
  simp only [Ghost.addImm] at e
  split at e
  · rename_i hc
    obtain ⟨rfl, _, hlt⟩ := hc
    refine .inr ⟨?_, .inl (h.fresh_own (Nat.le_refl _))⟩
    rw [World.cell?_alloc_new]
    simp at hlt e
    simp [hlt] at e ⊢
    exact e
  · exact .inl ⟨e, id⟩

/-! ### Stamps -/
/-- Stamp k (an old one or the next) comes to stand at a new block: its first e cells never turn; behind them there is room up to c. -/
def Ghost.moveStamp (G : Ghost) (k : Nat) (new : Bool) (blk e c n : Nat) (val : Nat → Value) : Ghost :=
  { G with
    imm := (G.addImm blk 0 e val).imm
    own := fun x => if x = blk then .stamp k else if G.own x = .stamp k then .free else G.own x
    stamp := if new then G.stamp ++ [(some (blk, e, c), n)] else G.stamp.set k (some (blk, e, c), n) }
theorem Ghost.moveStamp_at {G : Ghost} {k : Nat} {new : Bool} {blk e c n : Nat} {val : Nat → Value} (hn : new = true → k = G.stamp.length) (ho : new = false → k < G.stamp.length) :
    (G.moveStamp k new blk e c n val).stamp[k]? = some (some (blk, e, c), n) := by
  cases new with
  | true => simp [Ghost.moveStamp, hn rfl]
  | false => simp [Ghost.moveStamp, ho rfl]
theorem Ghost.moveStamp_ne {G : Ghost} {k j : Nat} {new : Bool} {blk e c n : Nat} {val : Nat → Value} (hn : new = true → k = G.stamp.length) (hj : j ≠ k) :
    (G.moveStamp k new blk e c n val).stamp[j]? = G.stamp[j]? := by
  cases new with
  | true =>
    have := hn rfl
    subst this
    simp only [Ghost.moveStamp, if_true]
    rcases Nat.lt_or_ge j G.stamp.length with h | h
    · exact List.getElem?_append_left h
    · rw [List.getElem?_append_right h, List.getElem?_eq_none (by simp; omega), List.getElem?_eq_none h]
  | false => simp only [Ghost.moveStamp, Bool.false_eq_true, if_false]; exact List.getElem?_set_ne (Ne.symm hj)
theorem Ghost.moveStamp_ext {G : Ghost} {k : Nat} {new : Bool} {blk e c n : Nat} {val : Nat → Value} (hn : new = true → k = G.stamp.length)
    (ho : new = false → ∃ loc m, G.stamp[k]? = some (loc, m) ∧ m < n) (hi : ∀ o v, G.imm blk o ≠ some v) (hb : base ≤ blk) : Ext base G (G.moveStamp k new blk e c n val) where
  imm b o v q := (Ghost.addImm_ext (base := base) (fun o v _ => hi o v) hb).imm b o v q
  new b o v q := (Ghost.addImm_ext (base := base) (fun o v _ => hi o v) hb).new b o v q
  box _ _ q := q
  stamp j loc m q := by
    by_cases hj : j = k
    · subst hj
      cases new with
      | true => rw [hn rfl] at q; simp at q
      | false =>
        obtain ⟨l', m', q', hm⟩ := ho rfl
        rw [q] at q'
        obtain ⟨rfl, rfl⟩ := Prod.mk.inj (Option.some.inj q')
        exact ⟨_, n, Ghost.moveStamp_at (by simp) (fun _ => (List.getElem?_eq_some_iff.1 q).1), .inl hm⟩
    · exact ⟨loc, m, (Ghost.moveStamp_ne hn hj).trans q, .inr ⟨rfl, rfl⟩⟩
  map _ _ q := q
  loop _ _ q := q

theorem Sim.moveStamp (h : Sim T P base G S w) (hb : base ≤ w.heap.size) {k : Nat} {new : Bool} {e c n : Nat} {arr : Array Value} {el : TypeId} (hn : new = true → k = S.stamps.length)
    (ho : new = false → ∃ m, S.stamps[k]? = some m ∧ m < n) (he : e ≤ c) (hc : c ≤ arr.size) :
    Sim T P base (G.moveStamp k new w.heap.size e c n (fun j => arr.getD j undef)) { S with stamps := if new then S.stamps ++ [n] else S.stamps.set k n } (w.alloc (.cells arr el)) ∧
    Ext base G (G.moveStamp k new w.heap.size e c n (fun j => arr.getD j undef)) := by
  have hn' : new = true → k = G.stamp.length := fun q => by rw [h.stampLen]; exact hn q
  have ext : Ext base G (G.moveStamp k new w.heap.size e c n (fun j => arr.getD j undef)) := by
    refine Ghost.moveStamp_ext hn' (fun q => ?_) (fun o v => h.fresh_imm (Nat.le_refl _)) hb
    obtain ⟨m, q1, q2⟩ := ho q
    obtain ⟨loc, g1, _⟩ := h.stamp k m q1
    exact ⟨loc, m, g1, q2⟩
  have hat : (G.moveStamp k new w.heap.size e c n (fun j => arr.getD j undef)).stamp[k]? = some (some (w.heap.size, e, c), n) :=
    Ghost.moveStamp_at hn' (fun q => by rw [h.stampLen]; obtain ⟨m, q1, _⟩ := ho q; exact (List.getElem?_eq_some_iff.1 q1).1)
  refine ⟨h.step (fun b => G.own b = .stamp k) (fun b hb' _ _ => Below.heap_alloc w _ b hb') (fun b hb' hB => ?_) ext ?_ ?_ ?_ h.boxLen (fun i cs q => .inl ⟨q, fun b c' g => ?_⟩) ?_ ?_
    h.mapLen (fun m es q => .inl ⟨q, fun b g => ?_⟩) h.loopLen (fun l r q => .inl ⟨q, fun b g => ?_⟩), ext⟩
  · simp [Ghost.moveStamp, Nat.ne_of_lt hb', hB]
  · intro b o v q
    simp only [Ghost.moveStamp, Ghost.addImm] at q
    split at q
    · rename_i hc'
      obtain ⟨rfl, _, hlt⟩ := hc'
      refine .inr ⟨?_, .inr ⟨k, e, c, n, by simp [Ghost.moveStamp], hat, by omega⟩⟩
      rw [World.cell?_alloc_new]
      have : o < arr.size := by omega
      simp [this] at q ⊢
      exact q
    · by_cases hB : G.own b = .stamp k
      · have hlt := h.lt_of_own (b := b) (by simp [hB])
        refine .inr ⟨?_, .inl (by simp [Ghost.moveStamp, Nat.ne_of_lt hlt, hB])⟩
        rw [World.cell?_alloc_lt _ _ _ hlt]
        exact h.imm b o v q
      · exact .inl ⟨q, hB⟩
  · intro b o j e' c' m hB g1 g2 g3
    have hj : j ≠ k := fun q => hB (by rw [g1, q])
    have hlt := h.lt_of_own (b := b) (by simp [g1])
    exact .inr ⟨j, e', c', m, by simp [Ghost.moveStamp, Nat.ne_of_lt hlt, g1, hj], (Ghost.moveStamp_ne hn' hj).trans g2, g3⟩
  · intro b hb'
    by_cases hbb : b = w.heap.size
    · subst hbb; exact ⟨hb, by simp⟩
    · by_cases hB : G.own b = .stamp k
      · exact absurd (by simp [Ghost.moveStamp, hbb, hB]) hb'
      · have := h.ownLt b (by simpa [Ghost.moveStamp, hbb, hB] using hb')
        exact ⟨this.1, by simp; omega⟩
  · obtain ⟨b', c'', _, _, g1, g2, _⟩ := h.box i cs q
    rw [g] at g1
    cases g1
    simp [g2]
  · cases new <;> simp [Ghost.moveStamp, h.stampLen]
  · intro j m q
    by_cases hj : j = k
    · subst hj
      have hm : m = n := by
        cases new with
        | true => have := hn rfl; subst this; simpa using q.symm
        | false =>
          obtain ⟨m', q1, _⟩ := ho rfl
          have := (List.getElem?_eq_some_iff.1 q1).1
          simp [this] at q
          exact q.symm
      subst hm
      refine .inr ⟨_, hat, fun b e' c' q' => ?_⟩
      cases q'
      exact ⟨by simp [Ghost.moveStamp], he, arr, el, heap_alloc_at w _, hc⟩
    · have q' : S.stamps[j]? = some m := by
        cases new with
        | true =>
          have := hn rfl
          subst this
          simp only [if_true] at q
          rcases getElem?_append_some q with q | ⟨q, _⟩
          · exact q
          · exact absurd q hj
        | false => simpa [List.getElem?_set_ne (Ne.symm hj)] using q
      refine .inl ⟨q', Ghost.moveStamp_ne hn' hj, fun b e' c' m' g => ?_⟩
      obtain ⟨loc, g1, g2⟩ := h.stamp j m q'
      rw [g] at g1
      obtain ⟨rfl, rfl⟩ := Prod.mk.inj (Option.some.inj g1)
      have := (g2 b e' c' rfl).1
      simp [this, hj]
  · obtain ⟨b', _, _, g1, g2, _⟩ := h.map m es q
    rw [g] at g1
    cases g1
    simp [g2]
  · obtain ⟨b', _, g1, g2, _⟩ := h.loop l r q
    rw [g] at g1
    cases g1
    simp [g2]

/-- Stamp k's slice grows in its own block. -/
def Ghost.growStamp (G : Ghost) (k blk e m c n : Nat) (val : Nat → Value) : Ghost :=
  { G with imm := (G.addImm blk e m val).imm, stamp := G.stamp.set k (some (blk, e + m, c), n) }
theorem Sim.growStamp (h : Sim T P base G S w) {k blk e m c n n0 : Nat} {arr arr' : Array Value} {el : TypeId} (hk : S.stamps[k]? = some n0) (hg : G.stamp[k]? = some (some (blk, e, c), n0))
    (ho : G.own blk = .stamp k) (hw : w.heap[blk]? = some (.cells arr el (0, 0))) (hn : n0 < n ∨ (n = n0 ∧ m = 0)) (hec : e + m ≤ c) (hc : c ≤ arr'.size) (hlow : ∀ o v, o < e → arr[o]? = some v → arr'[o]? = some v) :
    Sim T P base (G.growStamp k blk e m c n (fun j => arr'.getD (e + j) undef)) { S with stamps := S.stamps.set k n } (w.setRow blk arr') ∧ Ext base G (G.growStamp k blk e m c n (fun j => arr'.getD (e + j) undef)) := by
  have hkl : k < G.stamp.length := (List.getElem?_eq_some_iff.1 hg).1
  have hbase := (h.ownLt blk (by simp [ho])).1
  have hi : ∀ o v, e ≤ o → G.imm blk o ≠ some v := by
    intro o v hle q
    rcases h.immOwn blk o v q with q | ⟨k', e', c', m', q1, q2, q3⟩
    · simp [ho] at q
    · rw [ho] at q1
      cases q1
      rw [hg] at q2
      cases q2
      omega
  have ext : Ext base G (G.growStamp k blk e m c n (fun j => arr'.getD (e + j) undef)) := by
    have e0 := Ghost.addImm_ext (base := base) (G := G) (blk := blk) (off := e) (n := m) (val := fun j => arr'.getD (e + j) undef) hi hbase
    refine ⟨e0.imm, e0.new, fun _ _ q => q, fun j loc q0 q => ?_, fun _ _ q => q, fun _ _ q => q⟩
    by_cases hj : j = k
    · subst hj
      rw [hg] at q
      obtain ⟨rfl, rfl⟩ := Prod.mk.inj (Option.some.inj q)
      refine ⟨some (blk, e + m, c), n, by simp [Ghost.growStamp, hkl], ?_⟩
      rcases hn with hn | ⟨rfl, rfl⟩
      · exact .inl hn
      · exact .inr ⟨rfl, by simp⟩
    · exact ⟨loc, q0, by simpa [Ghost.growStamp, List.getElem?_set_ne (Ne.symm hj)] using q, .inr ⟨rfl, rfl⟩⟩
  have hne : ∀ b, G.own b ≠ .stamp k → b ≠ blk := fun b hb q => hb (q ▸ ho)
  have hat : (G.growStamp k blk e m c n (fun j => arr'.getD (e + j) undef)).stamp[k]? = some (some (blk, e + m, c), n) := by simp [Ghost.growStamp, hkl]
  have hrow := setRow_heap w blk arr arr' el _ hw
  refine ⟨h.step (fun b => b = blk) (fun b _ hb _ => setRow_only w blk arr' b hb) (fun _ _ _ => rfl) ext ?_ ?_ (fun b hb => by have := h.ownLt b hb; simpa [World.setRow] using this) h.boxLen
    (fun i cs q => .inl ⟨q, fun b c' g => ?_⟩) (by simp [Ghost.growStamp, h.stampLen]) ?_ h.mapLen (fun m es q => .inl ⟨q, fun b g => ?_⟩) h.loopLen (fun l r q => .inl ⟨q, fun b g => ?_⟩), ext⟩
  · intro b o v q
    simp only [Ghost.growStamp, Ghost.addImm] at q
    split at q
    · rename_i hc'
      obtain ⟨rfl, hle, hlt⟩ := hc'
      refine .inr ⟨?_, .inr ⟨k, e + m, c, n, ho, hat, by omega⟩⟩
      have hlt' : o < arr'.size := by omega
      have he : e + (o - e) = o := by omega
      simp only [World.cell?, hrow, Option.isSome_none, Bool.false_eq_true, if_false]
      simp [he, hlt'] at q ⊢
      exact q
    · by_cases hb : b = blk
      · subst hb
        have hcell := h.imm b o v q
        simp [World.cell?, hw] at hcell
        rcases h.immOwn b o v q with q1 | ⟨k', e', c', m', q1, q2, q3⟩
        · simp [ho] at q1
        · rw [ho] at q1
          cases q1
          rw [hg] at q2
          cases q2
          refine .inr ⟨?_, .inr ⟨k, e + m, c, n, ho, hat, by omega⟩⟩
          simp only [World.cell?, hrow, Option.isSome_none, Bool.false_eq_true, if_false]
          exact hlow o v q3 hcell
      · exact .inl ⟨q, hb⟩
  · intro b o j e' c' m' hB g1 g2 g3
    by_cases hj : j = k
    · subst hj
      rw [hg] at g2
      cases g2
      exact absurd rfl hB
    · exact .inr ⟨j, e', c', m', g1, by simpa [Ghost.growStamp, List.getElem?_set_ne (Ne.symm hj)] using g2, g3⟩
  · obtain ⟨b', c'', _, _, g1, g2, _⟩ := h.box i cs q
    rw [g] at g1
    cases g1
    exact hne b (by simp [g2])
  · intro j n' q
    by_cases hj : j = k
    · subst hj
      have hl := (List.getElem?_eq_some_iff.1 hk).1
      simp [hl] at q
      subst q
      refine .inr ⟨_, hat, fun b e' c' q' => ?_⟩
      cases q'
      exact ⟨ho, hec, arr', el, hrow, hc⟩
    · rw [List.getElem?_set_ne (Ne.symm hj)] at q
      refine .inl ⟨q, by simp [Ghost.growStamp, List.getElem?_set_ne (Ne.symm hj)], fun b e' c' m' g => ?_⟩
      obtain ⟨loc, g1, g2⟩ := h.stamp j n' q
      rw [g] at g1
      obtain ⟨rfl, rfl⟩ := Prod.mk.inj (Option.some.inj g1)
      exact hne b (by simp [(g2 b e' c' rfl).1, hj])
  · obtain ⟨b', _, _, g1, g2, _⟩ := h.map m es q
    rw [g] at g1
    cases g1
    exact hne b (by simp [g2])
  · obtain ⟨b', _, g1, g2, _⟩ := h.loop l r q
    rw [g] at g1
    cases g1
    exact hne b (by simp [g2])
end
end Go.Proofs.YtkgmeeenacnhfaaGreat.Eng
namespace Go.Proofs.YtkgmeeenacnhfaaGreat.Eng
open Go
open Go.RowKit (Below)
section
variable {T : Tbl} {P : Program} {base : Nat} {G : Ghost} {S : Store} {w : World} {K : Nat → Prop}

def Ghost.addMap (G : Ghost) (b : Nat) : Ghost := { G with own := fun x => if x = b then .map G.map.length else G.own x, map := G.map ++ [b] }
theorem Ghost.addMap_ext (G : Ghost) (b : Nat) : Ext base G (G.addMap b) :=
  ⟨fun _ _ _ h => h, fun _ _ _ h => .inl h, fun _ _ h => h, fun _ loc n h => ⟨loc, n, h, .inr ⟨rfl, rfl⟩⟩, fun _ _ h => getElem?_append_pre h, fun _ _ h => h⟩
theorem Sim.newMap (h : Sim T P base G S w) (hb : base ≤ w.heap.size) : Sim T P base (G.addMap w.heap.size) { S with maps := S.maps ++ [[]] } (w.alloc (.map #[] 0)) := by
  refine h.step (fun _ => False) (fun b hb' _ _ => Below.heap_alloc w _ b hb') (fun b hb' _ => by simp [Ghost.addMap, Nat.ne_of_lt hb']) (G.addMap_ext _) (fun _ _ _ e => .inl ⟨e, id⟩) ?_ ?_ h.boxLen
    (fun _ _ e => .inl ⟨e, fun _ _ _ => id⟩) h.stampLen (fun _ _ e => .inl ⟨e, rfl, fun _ _ _ _ _ => id⟩) (by simp [Ghost.addMap, h.mapLen]) ?_ h.loopLen (fun _ _ e => .inl ⟨e, fun _ _ => id⟩)
  · intro b o k e c m _ g1 g2 g3
    have hlt := h.lt_of_own (b := b) (by simp [g1])
    exact .inr ⟨k, e, c, m, by simp [Ghost.addMap, Nat.ne_of_lt hlt, g1], g2, g3⟩
  · intro b hb'
    by_cases hbb : b = w.heap.size
    · subst hbb; exact ⟨hb, by simp⟩
    · have := h.ownLt b (by simpa [Ghost.addMap, hbb] using hb')
      exact ⟨this.1, by simp; omega⟩
  · intro m es e
    rcases getElem?_append_some e with e1 | ⟨rfl, e1⟩
    · exact .inl ⟨e1, fun _ _ => id⟩
    · subst e1
      exact .inr ⟨w.heap.size, #[], 0, getElem?_append_at _ _ h.mapLen.symm, by simp [Ghost.addMap, h.mapLen], heap_alloc_at w _, rfl, fun i k v e h1 => by simp at h1, ⟨by simp, by simp⟩⟩

theorem putObj_only (w : World) (g : Nat) (o : Obj) (b : Nat) (h : b ≠ g) : (w.putObj g o).heap[b]? = w.heap[b]? := World.putObj_heap_other h

theorem Sim.writeMap (h : Sim T P base G S w) {m blk : Nat} {ents ents' : Array MapEntry} {clock clock' : Nat} {es' : List (PV × PV)} (hg : G.map[m]? = some blk) (ho : G.own blk = .map m)
    (hw : w.heap[blk]? = some (.map ents clock)) (h1 : ents'.size = es'.length)
    (hc : ∀ (i : Nat) (k v : PV) (e : MapEntry), es'[i]? = some (k, v) → ents'[i]? = some e → (∃ (kk : IntKind) (n : Int), k = .int kk n ∧ e.key = .int kk n) ∧ Rel G v e.val) (hm : m < S.maps.length) (hbn : Born ents' clock') :
    Sim T P base G { S with maps := S.maps.set m es' } (w.putObj blk (.map ents' clock')) := by
  have hne : ∀ b, G.own b ≠ .map m → b ≠ blk := fun b hb e => hb (e ▸ ho)
  have hlt := (Array.getElem?_eq_some_iff.1 hw).1
  refine h.step (fun b => b = blk) (fun b _ hb _ => putObj_only w blk _ b hb) (fun _ _ _ => rfl) (Ext.refl _ _) (fun b o v e => .inl ⟨e, ?_⟩)
    (fun b o k e c m _ g1 g2 g3 => .inr ⟨k, e, c, m, g1, g2, g3⟩) (fun b hb => by have := h.ownLt b hb; simpa using this) h.boxLen (fun i cs e => .inl ⟨e, fun b c g => ?_⟩) h.stampLen
    (fun k n e => .inl ⟨e, rfl, fun b e' c m g => ?_⟩) (by simp [h.mapLen]) ?_ h.loopLen (fun l r e => .inl ⟨e, fun b g => ?_⟩)
  · rcases h.owned_imm e with h3 | ⟨k, h3⟩ <;> exact hne b (by simp [h3])
  · obtain ⟨b', c', _, _, g1, g2, _⟩ := h.box i cs e
    rw [g] at g1
    cases g1
    exact hne b (by simp [g2])
  · obtain ⟨loc, g1, g2⟩ := h.stamp k n e
    rw [g] at g1
    obtain ⟨rfl, rfl⟩ := Prod.mk.inj (Option.some.inj g1)
    exact hne b (by simp [(g2 b e' c rfl).1])
  · intro j es e
    by_cases hj : j = m
    · subst hj
      simp [hm] at e
      subst e
      exact .inr ⟨blk, ents', clock', hg, ho, World.putObj_heap_same hlt, h1, hc, hbn⟩
    · rw [List.getElem?_set_ne (Ne.symm hj)] at e
      refine .inl ⟨e, fun b g => hne b ?_⟩
      obtain ⟨b', _, _, g1, g2, _⟩ := h.map j es e
      rw [g] at g1
      cases g1
      simpa [g2] using hj
  · obtain ⟨b', _, g1, g2, _⟩ := h.loop l r e
    rw [g] at g1
    cases g1
    exact hne b (by simp [g2])

def Ghost.addLoop (G : Ghost) (b : Nat) : Ghost := { G with own := fun x => if x = b then .loop G.loop.length else G.own x, loop := G.loop ++ [b] }
theorem Ghost.addLoop_ext (G : Ghost) (b : Nat) : Ext base G (G.addLoop b) :=
  ⟨fun _ _ _ h => h, fun _ _ _ h => .inl h, fun _ _ h => h, fun _ loc n h => ⟨loc, n, h, .inr ⟨rfl, rfl⟩⟩, fun _ _ h => h, fun _ _ h => getElem?_append_pre h⟩
theorem Sim.newLoop (h : Sim T P base G S w) (hb : base ≤ w.heap.size) {r : ALoop} {R : Loop} (hr : LoopRel T P G r R) : Sim T P base (G.addLoop w.heap.size) { S with loops := S.loops ++ [r] } (w.alloc (.loop R)) := by
  have ext : Ext base G (G.addLoop w.heap.size) := G.addLoop_ext _
  refine h.step (fun _ => False) (fun b hb' _ _ => Below.heap_alloc w _ b hb') (fun b hb' _ => by simp [Ghost.addLoop, Nat.ne_of_lt hb']) ext (fun _ _ _ e => .inl ⟨e, id⟩) ?_ ?_ h.boxLen
    (fun _ _ e => .inl ⟨e, fun _ _ _ => id⟩) h.stampLen (fun _ _ e => .inl ⟨e, rfl, fun _ _ _ _ _ => id⟩) h.mapLen (fun _ _ e => .inl ⟨e, fun _ _ => id⟩) (by simp [Ghost.addLoop, h.loopLen]) ?_
  · intro b o k e c m _ g1 g2 g3
    have hlt := h.lt_of_own (b := b) (by simp [g1])
    exact .inr ⟨k, e, c, m, by simp [Ghost.addLoop, Nat.ne_of_lt hlt, g1], g2, g3⟩
  · intro b hb'
    by_cases hbb : b = w.heap.size
    · subst hbb; exact ⟨hb, by simp⟩
    · have := h.ownLt b (by simpa [Ghost.addLoop, hbb] using hb')
      exact ⟨this.1, by simp; omega⟩
  · intro m es e
    rcases getElem?_append_some e with e1 | ⟨rfl, e1⟩
    · exact .inl ⟨e1, fun _ _ => id⟩
    · subst e1
      exact .inr ⟨w.heap.size, R, getElem?_append_at _ _ h.loopLen.symm, by simp [Ghost.addLoop, h.loopLen], heap_alloc_at w _, hr.ext ext⟩
theorem Sim.writeLoop (h : Sim T P base G S w) {l blk : Nat} {R R' : Loop} {r' : ALoop} (hg : G.loop[l]? = some blk) (ho : G.own blk = .loop l)
    (hw : w.heap[blk]? = some (.loop R)) (hr : LoopRel T P G r' R') (hl : l < S.loops.length) : Sim T P base G { S with loops := S.loops.set l r' } (w.putObj blk (.loop R')) := by
  have hne : ∀ b, G.own b ≠ .loop l → b ≠ blk := fun b hb e => hb (e ▸ ho)
  have hlt := (Array.getElem?_eq_some_iff.1 hw).1
  refine h.step (fun b => b = blk) (fun b _ hb _ => putObj_only w blk _ b hb) (fun _ _ _ => rfl) (Ext.refl _ _) (fun b o v e => .inl ⟨e, ?_⟩)
    (fun b o k e c m _ g1 g2 g3 => .inr ⟨k, e, c, m, g1, g2, g3⟩) (fun b hb => by have := h.ownLt b hb; simpa using this) h.boxLen (fun i cs e => .inl ⟨e, fun b c g => ?_⟩) h.stampLen
    (fun k n e => .inl ⟨e, rfl, fun b e' c m g => ?_⟩) h.mapLen (fun m es e => .inl ⟨e, fun b g => ?_⟩) (by simp [h.loopLen]) ?_
  · rcases h.owned_imm e with h3 | ⟨k, h3⟩ <;> exact hne b (by simp [h3])
  · obtain ⟨b', c', _, _, g1, g2, _⟩ := h.box i cs e
    rw [g] at g1
    cases g1
    exact hne b (by simp [g2])
  · obtain ⟨loc, g1, g2⟩ := h.stamp k n e
    rw [g] at g1
    obtain ⟨rfl, rfl⟩ := Prod.mk.inj (Option.some.inj g1)
    exact hne b (by simp [(g2 b e' c rfl).1])
  · obtain ⟨b', _, _, g1, g2, _⟩ := h.map m es e
    rw [g] at g1
    cases g1
    exact hne b (by simp [g2])
  · intro j r e
    by_cases hj : j = l
    · subst hj
      simp [hl] at e
      subst e
      exact .inr ⟨blk, R', hg, ho, World.putObj_heap_same hlt, hr⟩
    · rw [List.getElem?_set_ne (Ne.symm hj)] at e
      refine .inl ⟨e, fun b g => hne b ?_⟩
      obtain ⟨b', _, g1, g2, _⟩ := h.loop j r e
      rw [g] at g1
      cases g1
      simpa [g2] using hj

/-- A block of an activation's own is laid. -/
theorem Ghost.setOwn_ext (G : Ghost) (b : Nat) (x : Own) : Ext base G (G.setOwn b x) :=
  ⟨fun _ _ _ h => h, fun _ _ _ h => .inl h, fun _ _ h => h, fun _ loc n h => ⟨loc, n, h, .inr ⟨rfl, rfl⟩⟩, fun _ _ h => h, fun _ _ h => h⟩
theorem Sim.newFrame (h : Sim T P base G S w) (hb : base ≤ w.heap.size) (o : Obj) : Sim T P base (G.setOwn w.heap.size .frame) S (w.alloc o) := by
  refine h.step (fun _ => False) (fun b hb' _ _ => Below.heap_alloc w _ b hb') (fun b hb' _ => Ghost.setOwn_other _ _ (Nat.ne_of_lt hb')) (G.setOwn_ext _ _) (fun _ _ _ e => .inl ⟨e, id⟩) ?_ ?_ h.boxLen
    (fun _ _ e => .inl ⟨e, fun _ _ _ => id⟩) h.stampLen (fun _ _ e => .inl ⟨e, rfl, fun _ _ _ _ _ => id⟩) h.mapLen (fun _ _ e => .inl ⟨e, fun _ _ => id⟩) h.loopLen (fun _ _ e => .inl ⟨e, fun _ _ => id⟩)
  · intro b o k e c m _ g1 g2 g3
    have hlt := h.lt_of_own (b := b) (by simp [g1])
    exact .inr ⟨k, e, c, m, (Ghost.setOwn_other _ _ (Nat.ne_of_lt hlt)).trans g1, g2, g3⟩
  · intro b hb'
    by_cases hbb : b = w.heap.size
    · subst hbb; exact ⟨hb, by simp⟩
    · have := h.ownLt b (by simpa [Ghost.setOwn, hbb] using hb')
      exact ⟨this.1, by simp; omega⟩
end

/-! ### The model's own small steps -/
section
variable {P : Program} {w : World}
theorem add_lit (b o n : Nat) : (⟨b, o, none⟩ : Addr).add n = ⟨b, o + n, none⟩ := by unfold Addr.add; split <;> simp_all
theorem run_isAgg_of {t : TypeId} {i : TypeInfo} {s : Option Nat} (hs : szOpt P t = some s) : (isAgg t).run P w = .ok s.isSome w := by
  unfold szOpt at hs
  split at hs
  · split at hs <;> cases hs <;> rename_i h <;> simp [isAgg, run_underlying h]
  · cases hs
end
end Go.Proofs.YtkgmeeenacnhfaaGreat.Eng
namespace Go.Proofs.YtkgmeeenacnhfaaGreat.Eng
open Go
open Go.RowKit (Below)
section
variable {T : Tbl} {P : Program} {A : Ann} {N : Nat} {K : Nat → Prop} {base : Nat} {G : Ghost} {L : Nat → Option Nat} {M : List Nat} {σ : AS} {a : Act} {w : World}

theorem okC_one {p : PV} {v : Value} (h : okC p = true) (hr : Rel G p v) : v.oneCell' = true := by
  cases hr <;> first | rfl | simp [okC] at h
theorem okC_cells {p : PV} (h : okC p = true) : p.cells = [p] := by cases p <;> first | rfl | simp [okC] at h
theorem oneCell_cells {v : Value} (h : v.oneCell' = true) : v.cells = #[v] := by cases v <;> first | rfl | simp [Value.oneCell'] at h
theorem rel_cells {p : PV} {v : Value} (h : okV p = true) (hr : Rel G p v) :
    v.cells.size = p.cells.length ∧ ∀ (k : Nat) (c : PV) (u : Value), p.cells[k]? = some c → v.cells[k]? = some u → u.oneCell' = true ∧ Rel G c u := by
  by_cases ha : ∃ cs, p = .agg cs
  · obtain ⟨cs, rfl⟩ := ha
    cases hr with
    | agg _ vs h1 h2 h3 => exact ⟨h1, fun k c u e1 e2 => ⟨h2 k u e2, h3 k c u e1 e2⟩⟩
  · have hc : okC p = true := by cases p <;> simp_all [okV, okC]
    have h1 := okC_one hc hr
    rw [okC_cells hc, oneCell_cells h1]
    refine ⟨rfl, fun k c u e1 e2 => ?_⟩
    cases k with
    | zero => simp at e1 e2; subst e1 e2; exact ⟨h1, hr⟩
    | succ k => simp at e1
theorem rel_notL {p : PV} {v : Value} (hr : Rel G p v) : p.isL = false := by cases hr <;> rfl

theorem cVal1_rel {v : Value} {p : PV} (h : cVal1 v = some p) : Rel G p v ∧ okC p = true ∧ v.oneCell' = true := by
  unfold cVal1 at h
  split at h <;> cases h
  · exact ⟨.int _ _, rfl, rfl⟩
  · exact ⟨.bool _, rfl, rfl⟩
  · exact ⟨.str _, rfl, rfl⟩
  · exact ⟨.nilp, rfl, rfl⟩
  · exact ⟨.listN 1 trivial, rfl, rfl⟩
  · exact ⟨.nilm, rfl, rfl⟩
  · exact ⟨.nilf, rfl, rfl⟩
theorem cVals_rel : ∀ {vs : List Value} {ps : List PV}, cVals vs = some ps → vs.length = ps.length ∧ ∀ (k : Nat) (p : PV) (v : Value), ps[k]? = some p → vs[k]? = some v → Rel G p v ∧ okC p = true ∧ v.oneCell' = true
  | [], ps, h => by cases h; exact ⟨rfl, fun k p v h => by simp at h⟩
  | v :: vs, ps, h => by
    simp only [cVals] at h
    split at h
    · cases h
    · rename_i x hx
      split at h
      · cases h
      · rename_i xs hxs
        cases h
        have ih := cVals_rel hxs
        refine ⟨by simp [ih.1], fun k p u e1 e2 => ?_⟩
        cases k with
        | zero => simp at e1 e2; subst e1 e2; exact cVal1_rel hx
        | succ k => simp at e1 e2; exact ih.2 k p u e1 e2
theorem cVal_rel {v : Value} {p : PV} (h : cVal v = some p) : Rel G p v ∧ okV p = true := by
  unfold cVal at h
  split at h
  · rename_i cs
    split at h
    · rename_i xs hxs
      cases h
      have := cVals_rel (G := G) hxs
      refine ⟨.agg _ _ (by simpa using this.1) (fun k u e => ?_) (fun k c u e1 e2 => (this.2 k c u e1 (by simpa using e2)).1), rfl⟩
      have hk : k < xs.length := by have := (Array.getElem?_eq_some_iff.1 e).1; simp_all
      exact (this.2 k xs[k] u (by simp [hk]) (by simpa using e)).2.2
    · cases h
  · have := cVal1_rel (G := G) h
    refine ⟨this.1, ?_⟩
    have h2 := this.2.1
    cases p <;> simp_all [okV, okC]

theorem FSim.raw (h : FSim T P A N K base G L M σ a w) {x : Operand} {o : Opd} (hc : cOpd x = some o) : RelT G L (raw σ o) (a.eval x) := by
  cases x with
  | tmp t => cases hc; exact h.tmps t
  | const v =>
    simp only [cOpd] at hc
    split at hc
    · rename_i p hp; cases hc; exact .inr (cVal_rel hp).1
    · cases hc
  | global g => cases hc
  | func f => cases hc; exact .inr (.fn f [] [] #[] #[] rfl rfl (fun k p v h => by simp at h) (fun k p v h => by simp at h))
theorem FSim.aval (h : FSim T P A N K base G L M σ a w) {x : Operand} {o : Opd} {p : PV} (hc : cOpd x = some o) (ha : aval σ o = some p) : Rel G p (a.eval x) := by
  unfold Eng.aval at ha
  split at ha
  · cases ha
  · rename_i hl
    cases ha
    rcases h.raw hc with ⟨s, off, blk, h1, _⟩ | h1
    · rw [h1] at hl; exact absurd rfl hl
    · exact h1
theorem FSim.amem (h : FSim T P A N K base G L M σ a w) {x : Operand} {o : Opd} {p : PV} (hc : cOpd x = some o) (ha : amem σ o = some p) : Rel G p (a.eval x) ∧ okV p = true := by
  unfold Eng.amem at ha
  split at ha
  · rename_i v hv
    split at ha
    · rename_i hok; cases ha; exact ⟨h.aval hc hv, hok⟩
    · cases ha
  · cases ha
theorem FSim.avals (h : FSim T P A N K base G L M σ a w) : ∀ {xs : List Operand} {os : List Opd} {ps : List PV}, cOpds xs = some os → avals σ os = some ps →
    xs.length = ps.length ∧ ∀ (k : Nat) (p : PV) (v : Value), ps[k]? = some p → (xs.map a.eval)[k]? = some v → Rel G p v
  | [], os, ps, hc, ha => by cases hc; cases ha; exact ⟨rfl, fun k p v h => by simp at h⟩
  | x :: xs, os, ps, hc, ha => by
    simp only [cOpds] at hc
    split at hc
    · cases hc
    · rename_i o ho
      split at hc
      · cases hc
      · rename_i os' hos
        cases hc
        simp only [Eng.avals] at ha
        split at ha
        · cases ha
        · rename_i p hp
          split at ha
          · cases ha
          · rename_i ps' hps
            cases ha
            have ih := FSim.avals h hos hps
            refine ⟨by simp [ih.1], fun k q v e1 e2 => ?_⟩
            cases k with
            | zero => simp at e1 e2; subst e1 e2; exact h.aval ho hp
            | succ k => simp at e1; exact ih.2 k q v e1 (by simpa using e2)

theorem put_tmps (a : Act) (d : Option Tmp) (v : Value) : (a.put d v).tmps.size = a.tmps.size := by cases d <;> simp [Act.put]
theorem put_defers (a : Act) (d : Option Tmp) (v : Value) : (a.put d v).defers = a.defers := by cases d <;> simp [Act.put]
theorem put_get_same (a : Act) (d : Nat) (v : Value) (h : d < a.tmps.size) : (a.put (some d) v).tmps.getD d undef = v := by simp [Act.put, Array.getD, h]
theorem put_get_ne (a : Act) (d t : Nat) (v : Value) (h : t ≠ d) : (a.put (some d) v).tmps.getD t undef = a.tmps.getD t undef := by
  simp only [Act.put, Array.getD_eq_getD_getElem?, Array.getElem?_setIfInBounds_ne (Ne.symm h)]

/-- A temporary is set. -/
theorem FSim.putT (h : FSim T P A N K base G L M σ a w) {d : Option Nat} (hd : ∀ x, d = some x → x < N) {p : PV} {v : Value} (hr : RelT G L p v)
    (hk : ∀ x s off, d = some x → p = .lptr s off → x = s ∨ ∃ ks, lookL A.locals s = some ks ∧ x ∈ ks) : FSim T P A N K base G L M (σ.put d p) (a.put d v) w := by
  cases d with
  | none => exact h
  | some d =>
    have hdN := hd d rfl
    have hsz : d < a.tmps.size := by rw [h.size]; exact hdN
    refine ⟨h.sim, (put_tmps a _ v).trans h.size, fun t => ?_, fun t s off e => ?_, h.loc, h.lOwn, h.inj, h.kOwn, (put_defers a _ v).symm ▸ h.defers, h.marks, h.mNodup, h.mLen⟩
    · by_cases ht : t = d
      · subst ht
        rw [put_get_same a t v hsz]
        simp only [AS.put, tget_tset_same]
        exact hr
      · rw [put_get_ne a d t v ht]
        simp only [AS.put, tget_tset_ne _ _ _ _ ht]
        exact h.tmps t
    · by_cases ht : t = d
      · subst ht
        simp only [AS.put, tget_tset_same] at e
        exact hk t s off rfl e
      · simp only [AS.put, tget_tset_ne _ _ _ _ ht] at e
        exact h.kills t s off e
theorem FSim.put (h : FSim T P A N K base G L M σ a w) {d : Option Nat} (hd : ∀ x, d = some x → x < N) {p : PV} {v : Value} (hr : Rel G p v) : FSim T P A N K base G L M (σ.put d p) (a.put d v) w :=
  h.putT hd (.inr hr) (fun x s off _ e => by subst e; cases hr)

/-- All blocks of activations' own. -/
def KF (G : Ghost) (b : Nat) : Prop := G.own b = .frame
theorem Stp.mono {K K' : Nat → Prop} {G' : Ghost} {w' : World} (h : Stp K base G w G' w') (hk : ∀ b, K' b → K b) : Stp K' base G w G' w' := ⟨h.ext, fun b hb => h.prot b (hk b hb), h.below⟩
/-- The store has turned; no block of an activation's own has. -/
theorem FSim.store (h : FSim T P A N K base G L M σ a w) {G' : Ghost} {S' : Store} {w' : World} (hs : Sim T P base G' S' w') (hst : Stp (KF G) base G w G' w') :
    FSim T P A N K base G' L M { σ with S := S' } a w' := by
  refine ⟨hs, h.size, fun t => (h.tmps t).ext hst.ext, h.kills, fun s cs e => ?_, fun s blk e => ?_, h.inj, fun b hb => (hst.prot b (h.kOwn b hb)).2, h.defers.ext hst.ext, fun r hr => ?_, h.mNodup, h.mLen⟩
  · obtain ⟨blk, arr, el, h1, h2, h3, h4⟩ := h.loc s cs e
    have := hst.prot blk (h.lOwn s blk h1).1
    exact ⟨blk, arr, el, h1, this.1.trans h2, h3, fun k c v e1 e2 => ⟨(h4 k c v e1 e2).1, (h4 k c v e1 e2).2.ext hst.ext⟩⟩
  · exact ⟨(hst.prot blk (h.lOwn s blk e).1).2, (h.lOwn s blk e).2⟩
  · obtain ⟨h1, h2, h3, h4⟩ := h.marks r hr
    have := hst.prot r h1
    exact ⟨this.2, h2, h3, this.1.trans h4⟩
theorem FSim.stp (h : FSim T P A N K base G L M σ a w) {G' : Ghost} {w' : World} (hst : Stp (KF G) base G w G' w') : Stp K base G w G' w' := hst.mono h.kOwn

/-- What an operation that is no call comes to. -/
def OpRes (T : Tbl) (P : Program) (A : Ann) (N : Nat) (K : Nat → Prop) (base : Nat) (G : Ghost) (L : Nat → Option Nat) (M : List Nat) (σ' : AS) (a : Act) (w : World) (o : Oper) : Prop :=
  ∃ v w' G' L', ((execOp a.eval o).run P w = .ok (.value v) w' ∨ ((execOp a.eval o).run P w = .ok .skip w' ∧ v = undef)) ∧
    FSim T P A N K base G' L' M σ' (a.put o.dst v) w' ∧ Stp K base G w G' w'
theorem opRes_value (h : FSim T P A N K base G L M σ a w) {o : Oper} (hd : ∀ x, o.dst = some x → x < N) {p : PV} {v : Value} (hr : Rel G p v) (hrun : (execOp a.eval o).run P w = .ok (.value v) w) :
    OpRes T P A N K base G L M (σ.put o.dst p) a w o := ⟨v, w, G, L, .inl hrun, h.put hd hr, Stp.refl h.kOwn⟩
theorem opRes_store (h : FSim T P A N K base G L M σ a w) {o : Oper} (hd : ∀ x, o.dst = some x → x < N) {G' : Ghost} {S' : Store} {w' : World} {p : PV} {v : Value} (hs : Sim T P base G' S' w') (hst : Stp (KF G) base G w G' w')
    (hr : Rel G' p v) (hrun : (execOp a.eval o).run P w = .ok (.value v) w' ∨ ((execOp a.eval o).run P w = .ok .skip w' ∧ v = undef)) :
    OpRes T P A N K base G L M ({ σ with S := S' }.put o.dst p) a w o := ⟨v, w', G', L, hrun, (h.store hs hst).put hd hr, h.stp hst⟩
end
end Go.Proofs.YtkgmeeenacnhfaaGreat.Eng
