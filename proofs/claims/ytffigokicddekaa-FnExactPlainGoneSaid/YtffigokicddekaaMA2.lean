/- The steps of a walk over abstract values. No condition. -/
import Derived.Test.YtffigokicddekaaMA1
set_option linter.unusedVariables false
set_option linter.unusedSimpArgs false
namespace Go.Proofs.Ytffigokicddekaa.Abs
open Go

/-- one cell's value -/
def V.cell : V → Bool
  | .agg _ | .tup _ | .unk => false
  | _ => true

def V.cells : V → Option (List V)
  | .agg cs => if cs.all V.cell then some cs else none
  | .tup _ | .unk => none
  | x => some [x]

def splice (l : List V) (c : Nat) (cs : List V) : List V := l.take c ++ cs ++ l.drop (c + cs.length)

/-- the part of a variable that is read: a struct's cells, or the one cell -/
def one (ag : Bool) (cs : List V) : Option V :=
  if ag then some (.agg cs) else match cs with
    | [x] => some x
    | _ => none

inductive Opd where
  | t (n : Nat)
  | k (v : V)

abbrev Env := Nat → V
def upd (a : Env) (t : Nat) (v : V) : Env := fun j => if j = t then v else a j
def Opd.ev (a : Env) : Opd → V
  | .t n => a n
  | .k v => v

inductive AO where
  | mov (x : Opd)
  | pick (c a b : Opd)
  | alloc (id s : Nat) (z : List V)
  | box (id s : Nat) (x : Opd)
  | build (z : List V) (ps : List (Nat × Nat × Opd))
  | bslice (id s n : Nat) (z : List V) (ps : List (Nat × Opd))
  | load (s : Nat) (ag : Bool) (x : Opd)
  | store (s : Nat) (x y : Opd)
  | faddr (k : Nat) (x : Opd)
  | field (off s : Nat) (ag : Bool) (x : Opd)
  | iaddr (s : Nat) (x i : Opd)
  | sindex (x i : Opd)
  | slice (s : Nat) (x : Opd) (lo hi : Option Opd)
  | sslice (x : Opd) (lo hi : Option Opd)
  | bin (op : BinOp) (x y : Opd)
  | eqs (ks : List Nat) (neg : Bool) (x y : Opd)
  | beq (neg : Bool) (x y : Opd)
  | nilc (x : Opd)
  | not (x : Opd)
  | neg (x : Opd)
  | cint (k : IntKind) (x : Opd)
  | s2b (id : Nat) (x : Opd)
  | b2s (x : Opd)
  | mks (id s bytes : Nat) (z : List V) (l c : Opd)
  | len (x : Opd)
  | slen (x : Opd)
  | app (id s bytes : Nat) (x y : Opd)
  | max (xs : List Opd)
  | min (xs : List Opd)
  | call (wr : Bool) (id own : Nat) (f : FuncId) (args : List Opd)
  | ext (x : Opd) (i : Nat)

def fillV (z : List V) : List (Nat × Nat × V) → Option (List V)
  | [] => some z
  | (off, size, v) :: r =>
    match v.cells with
    | some cs => if cs.length = size ∧ off + size ≤ z.length then fillV (splice z off cs) r else none
    | none => none

def fillR (es : List (List V)) (s : Nat) : List (Nat × V) → Option (List (List V))
  | [] => some es
  | (i, v) :: r =>
    match v.cells with
    | some cs => if cs.length = s ∧ i < es.length then fillR (es.set i cs) s r else none
    | none => none

def intOf? : V → Option Int
  | .int _ n => some n
  | _ => none

/-- the bounds of a slice expression -/
def bounds (n : Nat) (lo hi : Option V) : Option (Nat × Nat) :=
  match hi.elim (some (n : Int)) intOf? with
  | some h => if 0 ≤ h ∧ h ≤ n then
      match lo.elim (some 0) intOf? with
      | some l => if 0 ≤ l ∧ l ≤ h then some (l.toNat, h.toNat) else none
      | none => none
    else none
  | none => none

/-- two cells of a kind (0: whole numbers, 1: bools, 2: strings) held against each other -/
def scalarEq (k : Nat) : V → V → Option Bool
  | .int k1 a, .int k2 b => if k = 0 ∧ k1 = k2 then some (decide (a = b)) else none
  | .bool a, .bool b => if k = 1 then some (decide (a = b)) else none
  | .str a, .str b => if k = 2 then some (decide (a = b)) else none
  | _, _ => none

def cellsEq : List Nat → List V → List V → Option Bool
  | [], [], [] => some true
  | k :: ks, x :: xs, y :: ys =>
    match scalarEq k x y, cellsEq ks xs ys with
    | some a, some b => some (a && b)
    | _, _ => none
  | _, _, _ => none

def intBin (op : BinOp) (k : IntKind) (a b : Int) : Option V :=
  match op with
  | .add => some (.int k (k.wrap (a + b)))
  | .sub => some (.int k (k.wrap (a - b)))
  | .mul => some (.int k (k.wrap (a * b)))
  | .quo => if b = 0 then none else some (.int k (k.wrap (a.tdiv b)))
  | .rem => if b = 0 then none else some (.int k (a.tmod b))
  | .and => some (.int k (k.wrap ((BitVec.ofInt k.bits a &&& BitVec.ofInt k.bits b).toNat)))
  | .or => some (.int k (k.wrap ((BitVec.ofInt k.bits a ||| BitVec.ofInt k.bits b).toNat)))
  | .xor => some (.int k (k.wrap ((BitVec.ofInt k.bits a ^^^ BitVec.ofInt k.bits b).toNat)))
  | .eql => some (.bool (decide (a = b)))
  | .neq => some (.bool (decide (a ≠ b)))
  | .lss => some (.bool (decide (a < b)))
  | .leq => some (.bool (decide (a ≤ b)))
  | .gtr => some (.bool (decide (a > b)))
  | .geq => some (.bool (decide (a ≥ b)))
  | _ => none

def strBin (op : BinOp) (a b : ByteArray) : Option V :=
  match op with
  | .add => if a.size + b.size ≤ 9223372036854775807 then some (.str (a ++ b)) else none
  | .eql => some (.bool (decide (a = b)))
  | .neq => some (.bool (decide (a ≠ b)))
  | .lss => some (.bool (Op.bytesLess a.toList b.toList))
  | .gtr => some (.bool (!(Op.bytesLess a.toList b.toList || decide (a = b))))
  | _ => none

def binV (op : BinOp) (x y : V) : Option V :=
  match x, y with
  | .int k a, .int k' b =>
    match op with
    | .shl => if b < 0 then none else some (.int k (k.wrap (a * 2 ^ min b.toNat k.bits)))
    | .shr => if b < 0 then none else some (.int k (a.fdiv (2 ^ min b.toNat k.bits)))
    | _ => if k = k' then intBin op k a b else none
  | .str a, .str b => strBin op a b
  | _, _ => none

def bytesV : List (List V) → Option (List UInt8)
  | [] => some []
  | [.int .u8 n] :: r => (bytesV r).map (UInt8.ofNat n.toNat :: ·)
  | _ => none

def ofBytes (s : ByteArray) : List (List V) := s.toList.map fun b => [.int .u8 (b.toNat : Int)]

/-- what a slice holds -/
def rows (σ : Store) (s : Nat) : V → Option (List (List V))
  | .nl => some []
  | .fz s' es => if s' = s then some es else none
  | .sl o s' off len =>
    match σ[o]? with
    | some (.live ob) => if s' = s ∧ ob.s = s ∧ off + len ≤ ob.es.length then some ((ob.es.drop off).take len) else none
    | _ => none
  | _ => none

def lenV : V → Option Nat
  | .nl => some 0
  | .fz _ es => some es.length
  | .sl _ _ _ len => some len
  | _ => none

def isFree (σ : Store) (o : Nat) : Prop := σ[o]? = some .free
instance (σ : Store) (o : Nat) : Decidable (isFree σ o) := by unfold isFree; exact match h : σ[o]? with
  | some .free => isTrue rfl
  | some .dead => isFalse (by simp)
  | some (.live _) => isFalse (by simp)
  | none => isFalse (by simp)

/-- one step that is no call: the value for its temporary, and the store behind it -/
def astep (o : AO) (a : Env) (σ : Store) : Option (V × Store) :=
  match o with
  | .mov x => some (x.ev a, σ)
  | .pick c x y => match c.ev a with
    | .bool b => some (if b then x.ev a else y.ev a, σ)
    | _ => none
  | .alloc id s z => if isFree σ id then some (.ptr id s 0 0, σ.set id (.live ⟨s, [z]⟩)) else none
  | .box id s x => match (x.ev a).cells with
    | some cs => if isFree σ id ∧ cs.length = s then some (.ptr id s 0 0, σ.set id (.live ⟨s, [cs]⟩)) else none
    | none => none
  | .build z ps => (fillV z (ps.map fun p => (p.1, p.2.1, p.2.2.ev a))).map fun cs => (.agg cs, σ)
  | .bslice id s n z ps => match fillR (List.replicate n z) s (ps.map fun p => (p.1, p.2.ev a)) with
    | some es => if isFree σ id then some (.sl id s 0 n, σ.set id (.live ⟨s, es⟩)) else none
    | none => none
  | .load s ag x => match x.ev a with
    | .ptr o s' e c => match σ[o]? with
      | some (.live ob) => match ob.es[e]? with
        | some l => if ob.s = s' ∧ c + s ≤ l.length then (one ag ((l.drop c).take s)).map fun v => (v, σ) else none
        | none => none
      | _ => none
    | .fp cs => if s ≤ cs.length then (one ag (cs.take s)).map fun v => (v, σ) else none
    | _ => none
  | .store s x y => match x.ev a, (y.ev a).cells with
    | .ptr o s' e c, some cs => match σ[o]? with
      | some (.live ob) => match ob.es[e]? with
        | some l => if ob.s = s' ∧ cs.length = s ∧ c + s ≤ l.length then some (.unk, σ.set o (.live ⟨ob.s, ob.es.set e (splice l c cs)⟩)) else none
        | none => none
      | _ => none
    | _, _ => none
  | .faddr k x => match x.ev a with
    | .ptr o s e c => some (.ptr o s e (c + k), σ)
    | .fp cs => some (.fp (cs.drop k), σ)
    | _ => none
  | .field off s ag x => match x.ev a with
    | .agg cs => if off + s ≤ cs.length then (one ag ((cs.drop off).take s)).map fun v => (v, σ) else none
    | _ => none
  | .iaddr s x i => match x.ev a, i.ev a with
    | .fz s' es, .int _ n => if s' = s ∧ 0 ≤ n then (es[n.toNat]?).map fun l => (.fp l, σ) else none
    | .sl o s' off len, .int _ n => if s' = s ∧ 0 ≤ n ∧ n < len then some (.ptr o s (off + n.toNat) 0, σ) else none
    | _, _ => none
  | .sindex x i => match x.ev a, i.ev a with
    | .str b, .int _ n => if 0 ≤ n then (b.toList[n.toNat]?).map fun c : UInt8 => (V.int .u8 (c.toNat : Int), σ) else none
    | _, _ => none
  | .slice s x lo hi => match x.ev a with
    | .nl => (bounds 0 (lo.map (·.ev a)) (hi.map (·.ev a))).map fun _ => (.nl, σ)
    | .fz s' es => if s' = s then (bounds es.length (lo.map (·.ev a)) (hi.map (·.ev a))).map fun p => (.fz s ((es.take p.2).drop p.1), σ) else none
    | .sl o s' off len => if s' = s then (bounds len (lo.map (·.ev a)) (hi.map (·.ev a))).map fun p => (.sl o s (off + p.1) (p.2 - p.1), σ) else none
    | _ => none
  | .sslice x lo hi => match x.ev a with
    | .str b => (bounds b.size (lo.map (·.ev a)) (hi.map (·.ev a))).map fun p => (.str (b.extract p.1 p.2), σ)
    | _ => none
  | .bin op x y => (binV op (x.ev a) (y.ev a)).map fun v => (v, σ)
  | .eqs ks neg x y => match x.ev a, y.ev a with
    | .agg xs, .agg ys => (cellsEq ks xs ys).map fun b => (.bool (if neg then !b else b), σ)
    | _, _ => none
  | .beq neg x y => match x.ev a, y.ev a with
    | .bool p, .bool q => some (.bool (if neg then !(decide (p = q)) else decide (p = q)), σ)
    | _, _ => none
  | .nilc x => match x.ev a with
    | .ptr o s e c => some (.ptr o s e c, σ)
    | .fp cs => some (.fp cs, σ)
    | _ => none
  | .not x => match x.ev a with
    | .bool b => some (.bool (!b), σ)
    | _ => none
  | .neg x => match x.ev a with
    | .int k n => some (.int k (k.wrap (0 - n)), σ)
    | _ => none
  | .cint k x => match x.ev a with
    | .int _ n => some (.int k (k.wrap n), σ)
    | _ => none
  | .s2b id x => match x.ev a with
    | .str b => if isFree σ id then some (.sl id 1 0 b.size, σ.set id (.live ⟨1, ofBytes b⟩)) else none
    | _ => none
  | .b2s x => match rows σ 1 (x.ev a) with
    | some es => (bytesV es).map fun l => (.str ⟨l.toArray⟩, σ)
    | none => none
  | .mks id s bytes z l c => match l.ev a, c.ev a with
    | .int .i64 n, .int .i64 m => if isFree σ id ∧ 0 ≤ n ∧ n ≤ m ∧ m * bytes ≤ 140737488355328 ∧ m ≤ 140737488355328 then
        some (.sl id s 0 n.toNat, σ.set id (.live ⟨s, List.replicate n.toNat z⟩)) else none
    | _, _ => none
  | .len x => (lenV (x.ev a)).map fun n : Nat => (V.int .i64 (n : Int), σ)
  | .slen x => match x.ev a with
    | .str b => some (.int .i64 b.size, σ)
    | _ => none
  | .app id s bytes x y => match x.ev a, rows σ s (y.ev a) with
    | .nl, some ys => match ys with
      | [] => some (.nl, σ)
      | _ :: _ => if isFree σ id ∧ ys.length * (bytes + 1) ≤ 70368744177664 then some (.sl id s 0 ys.length, σ.set id (.live ⟨s, ys⟩)) else none
    | .sl o s' off len, some ys => match σ[o]? with
      | some (.live ob) => if s' = s ∧ ob.s = s ∧ off = 0 ∧ len ≤ ob.es.length ∧ isFree σ id ∧ (len + ys.length) * (bytes + 1) ≤ 70368744177664 then
          some (.sl id s 0 (len + ys.length), (σ.set o .dead).set id (.live ⟨s, ob.es.take len ++ ys⟩)) else none
      | _ => none
    | _, _ => none
  | .max xs => match (xs.map fun x => x.ev a : List V) with
    | [.int k x, .int k' y] => if k = k' then some (.int k (if y > x then y else x), σ) else none
    | _ => none
  | .min xs => match (xs.map fun x => x.ev a : List V) with
    | [.int k x, .int k' y] => if k = k' then some (.int k (if y < x then y else x), σ) else none
    | _ => none
  | .ext x i => match x.ev a with
    | .tup vs => (vs[i]?).map fun v => (v, σ)
    | _ => none
  | .call .. => none

end Go.Proofs.Ytffigokicddekaa.Abs
