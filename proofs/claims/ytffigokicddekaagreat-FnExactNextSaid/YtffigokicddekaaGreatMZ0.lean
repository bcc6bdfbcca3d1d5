/- The abstract values of a walk: what they are, and how they stand to the model's values. No condition. -/
import Derived.Orders
import Derived.WalkKit
import Derived.Below
import Derived.Laws.Append
import Derived.Laws.IdiomCopy
import Derived.KernelRfl
import Derived.Laws.StructEq
import Derived.Laws.BytesString
import Derived.Laws.Slices
import Derived.Laws.OwnMore
import Derived.Great.BuildSlice
set_option linter.unusedVariables false
set_option linter.unusedSimpArgs false
namespace Go.Proofs.YtffigokicddekaaGreat.Abs
open Go

inductive V where
  | int (k : IntKind) (n : Int)
  | bool (b : Bool)
  | str (s : ByteArray)
  | nilp
  | ptr (o s e c : Nat)
  | fp (cs : List V)
  | nl
  | fz (s : Nat) (es : List (List V))
  | sl (o s off len : Nat)
  | agg (cs : List V)
  | tup (vs : List V)
  | unk

instance : Inhabited V := ⟨.unk⟩

structure Ob where
  s : Nat
  es : List (List V)

inductive Slot where
  | free
  | dead
  | live (ob : Ob)

abbrev Store := List Slot
abbrev Ids := Nat → Option Nat
def noIds : Ids := fun _ => none

def Ids.le (β β' : Ids) : Prop := ∀ o b, β o = some b → β' o = some b
theorem Ids.le_refl (β : Ids) : β.le β := fun _ _ h => h
theorem Ids.le_trans {a b c : Ids} (h : a.le b) (h' : b.le c) : a.le c := fun o x e => h' o x (h o x e)

/-- the model's value v is what the abstract value x says, in the world w, where the blocks of F are not written any more -/
inductive VR (w : World) (F : Nat → Prop) : Ids → V → Value → Prop where
  | int (β : Ids) (k : IntKind) (n : Int) : VR w F β (.int k n) (.int k n)
  | bool (β : Ids) (b : Bool) : VR w F β (.bool b) (.bool b)
  | str (β : Ids) (s : ByteArray) : VR w F β (.str s) (.string s)
  | nilp (β : Ids) : VR w F β .nilp (.pointer none)
  | ptr (β : Ids) (o s e c b : Nat) : β o = some b → VR w F β (.ptr o s e c) (.pointer (some ⟨b, e * s + c, none⟩))
  | fp (β : Ids) (cs : List V) (b off : Nat) (f : Nat → Value) : F b →
      (∀ (j : Nat) x, cs[j]? = some x → w.cell? ⟨b, off + j, none⟩ = some (f j) ∧ (f j).oneCell' = true) →
      (∀ (j : Nat) x, cs[j]? = some x → VR w F noIds x (f j)) → VR w F β (.fp cs) (.pointer (some ⟨b, off, none⟩))
  | nl (β : Ids) : VR w F β .nl (.slice none 0 0)
  | fz0 (β : Ids) (s : Nat) (a : Option Addr) (cap : Nat) : VR w F β (.fz s []) (.slice a 0 cap)
  | fz (β : Ids) (s : Nat) (es : List (List V)) (b off cap : Nat) (f : Nat → Nat → Value) : F b → es.length ≤ cap → (∀ l ∈ es, l.length = s) →
      (∀ (e : Nat) l, es[e]? = some l → ∀ (j : Nat) x, l[j]? = some x → w.cell? ⟨b, off + e * s + j, none⟩ = some (f e j) ∧ (f e j).oneCell' = true) →
      (∀ (e : Nat) l, es[e]? = some l → ∀ (j : Nat) x, l[j]? = some x → VR w F noIds x (f e j)) →
      VR w F β (.fz s es) (.slice (some ⟨b, off, none⟩) es.length cap)
  | sl (β : Ids) (o s off len b : Nat) (a : Addr) (cap : Nat) (c : Array Value) (elem : TypeId) (fr : Nat × Nat) : β o = some b →
      w.heap[b]? = some (.cells c elem fr) → (off + cap) * s ≤ c.size → len ≤ cap → (cap = 0 ∨ a = ⟨b, off * s, none⟩) →
      VR w F β (.sl o s off len) (.slice (some a) len cap)
  | agg (β : Ids) (cs : List V) (vs : Array Value) : cs.length = vs.size → (∀ (j : Nat) x, cs[j]? = some x → VR w F β x (vs.getD j undef)) → VR w F β (.agg cs) (.agg vs)
  | tup (β : Ids) (cs : List V) (vs : Array Value) : cs.length = vs.size → (∀ (j : Nat) x, cs[j]? = some x → VR w F β x (vs.getD j undef)) → VR w F β (.tup cs) (.tuple vs)
  | unk (β : Ids) (v : Value) : VR w F β .unk v

/-- w' came of w: nothing that is frozen has turned, no block has gone or shrunk -/
structure Grow (F : Nat → Prop) (w w' : World) : Prop where
  os : w'.os = w.os
  tape : w'.tape = w.tape
  output : w'.output = w.output
  size : w.heap.size ≤ w'.heap.size
  cells : ∀ (b : Nat) c elem fr, w.heap[b]? = some (.cells c elem fr) → ∃ c' fr', w'.heap[b]? = some (.cells c' elem fr') ∧ c'.size = c.size
  same : ∀ b, F b → w'.heap[b]? = w.heap[b]?

theorem Grow.refl (F : Nat → Prop) (w : World) : Grow F w w := ⟨rfl, rfl, rfl, Nat.le_refl _, fun b c e fr h => ⟨c, fr, h, rfl⟩, fun _ _ => rfl⟩

theorem Grow.trans {F F' : Nat → Prop} {a b c : World} (h : Grow F a b) (k : Grow F' b c) (hF : ∀ x, F x → F' x) : Grow F a c where
  os := k.os.trans h.os
  tape := k.tape.trans h.tape
  output := k.output.trans h.output
  size := Nat.le_trans h.size k.size
  cells := fun x c e fr hx => by
    obtain ⟨c1, fr1, h1, s1⟩ := h.cells x c e fr hx
    obtain ⟨c2, fr2, h2, s2⟩ := k.cells x c1 e fr1 h1
    exact ⟨c2, fr2, h2, s2.trans s1⟩
  same := fun x hx => (k.same x (hF x hx)).trans (h.same x hx)

theorem cell_same {w w' : World} {b off : Nat} {s : Option Nat} (h : w'.heap[b]? = w.heap[b]?) : w'.cell? ⟨b, off, s⟩ = w.cell? ⟨b, off, s⟩ := World.cell?_of_block (w := w) (a := ⟨b, off, s⟩) h

theorem VR.mono {w w' : World} {F F' : Nat → Prop} (hg : Grow F w w') (hF : ∀ b, F b → F' b) {β : Ids} {x : V} {v : Value} (h : VR w F β x v) :
    ∀ β', β.le β' → VR w' F' β' x v := by
  induction h with
  | int β k n => exact fun β' _ => .int β' k n
  | bool β b => exact fun β' _ => .bool β' b
  | str β s => exact fun β' _ => .str β' s
  | nilp β => exact fun β' _ => .nilp β'
  | ptr β o s e c b h => exact fun β' hb => .ptr β' o s e c b (hb _ _ h)
  | fp β cs b off f hFb hc hr ih => exact fun β' hb => .fp β' cs b off f (hF _ hFb) (fun j x hx => by rw [cell_same (hg.same b hFb)]; exact hc j x hx) (fun j x hx => ih j x hx _ (Ids.le_refl _))
  | nl β => exact fun β' _ => .nl β'
  | fz0 β s a cap => exact fun β' _ => .fz0 β' s a cap
  | fz β s es b off cap f hFb hcap hl hc hr ih => exact fun β' hb => .fz β' s es b off cap f (hF _ hFb) hcap hl (fun e l he j x hx => by rw [cell_same (hg.same b hFb)]; exact hc e l he j x hx) (fun e l he j x hx => ih e l he j x hx _ (Ids.le_refl _))
  | sl β o s off len b a cap c elem fr h hh hs hl ha =>
    intro β' hb
    obtain ⟨c', fr', h', hs'⟩ := hg.cells b c elem fr hh
    exact .sl β' o s off len b a cap c' elem fr' (hb _ _ h) h' (by rw [hs']; exact hs) hl ha
  | agg β cs vs hl hr ih => exact fun β' hb => .agg β' cs vs hl (fun j x hx => ih j x hx β' hb)
  | tup β cs vs hl hr ih => exact fun β' hb => .tup β' cs vs hl (fun j x hx => ih j x hx β' hb)
  | unk β v => exact fun β' _ => .unk β' v

end Go.Proofs.YtffigokicddekaaGreat.Abs
/- The steps of a walk over abstract values. No condition. -/
set_option linter.unusedVariables false
set_option linter.unusedSimpArgs false
namespace Go.Proofs.YtffigokicddekaaGreat.Abs
open Go

/-- one cell's value -/
def V.cell : V → Bool
  | .agg _ | .tup _ | .unk => false
  | _ => true

def V.cells : V → Option (List V)
  | .agg cs => if cs.all V.cell then some cs else none
  | .tup _ | .unk => none
  | x => some [x]

def splice (l : List V) (c : Nat) (cs : List V) : List V := l.take c ++ cs ++ l.drop (c + cs.length)

/-- the part of a variable that is read: a struct's cells, or the one cell -/
def one (ag : Bool) (cs : List V) : Option V :=
  if ag then some (.agg cs) else match cs with
    | [x] => some x
    | _ => none

inductive Opd where
  | t (n : Nat)
  | k (v : V)

abbrev Env := Nat → V
def upd (a : Env) (t : Nat) (v : V) : Env := fun j => if j = t then v else a j
def Opd.ev (a : Env) : Opd → V
  | .t n => a n
  | .k v => v

inductive AO where
  | mov (x : Opd)
  | pick (c a b : Opd)
  | alloc (id s : Nat) (z : List V)
  | box (id s : Nat) (x : Opd)
  | build (z : List V) (ps : List (Nat × Nat × Opd))
  | bslice (id s n : Nat) (z : List V) (ps : List (Nat × Opd))
  | load (s : Nat) (ag : Bool) (x : Opd)
  | store (s : Nat) (x y : Opd)
  | faddr (k : Nat) (x : Opd)
  | field (off s : Nat) (ag : Bool) (x : Opd)
  | iaddr (s : Nat) (x i : Opd)
  | sindex (x i : Opd)
  | slice (s : Nat) (x : Opd) (lo hi : Option Opd)
  | sslice (x : Opd) (lo hi : Option Opd)
  | bin (op : BinOp) (x y : Opd)
  | eqs (ks : List Nat) (neg : Bool) (x y : Opd)
  | beq (neg : Bool) (x y : Opd)
  | nilc (x : Opd)
  | not (x : Opd)
  | neg (x : Opd)
  | cint (k : IntKind) (x : Opd)
  | s2b (id : Nat) (x : Opd)
  | s2f (x : Opd)
  | mkf (x : Opd)
  | b2s (x : Opd)
  | mks (id s bytes : Nat) (z : List V) (l c : Opd)
  | len (x : Opd)
  | slen (x : Opd)
  | app (id s bytes : Nat) (x y : Opd)
  | max (xs : List Opd)
  | min (xs : List Opd)
  | call (wr : Bool) (id own : Nat) (f : FuncId) (args : List Opd)
  | ext (x : Opd) (i : Nat)

def fillV (z : List V) : List (Nat × Nat × V) → Option (List V)
  | [] => some z
  | (off, size, v) :: r =>
    match v.cells with
    | some cs => if cs.length = size ∧ off + size ≤ z.length then fillV (splice z off cs) r else none
    | none => none

def fillR (es : List (List V)) (s : Nat) : List (Nat × V) → Option (List (List V))
  | [] => some es
  | (i, v) :: r =>
    match v.cells with
    | some cs => if cs.length = s ∧ i < es.length then fillR (es.set i cs) s r else none
    | none => none

def intOf? : V → Option Int
  | .int _ n => some n
  | _ => none

/-- the bounds of a slice expression -/
def bounds (n : Nat) (lo hi : Option V) : Option (Nat × Nat) :=
  match hi.elim (some (n : Int)) intOf? with
  | some h => if 0 ≤ h ∧ h ≤ n then
      match lo.elim (some 0) intOf? with
      | some l => if 0 ≤ l ∧ l ≤ h then some (l.toNat, h.toNat) else none
      | none => none
    else none
  | none => none

/-- two cells of a kind (0: whole numbers, 1: bools, 2: strings) held against each other -/
def scalarEq (k : Nat) : V → V → Option Bool
  | .int k1 a, .int k2 b => if k = 0 ∧ k1 = k2 then some (decide (a = b)) else none
  | .bool a, .bool b => if k = 1 then some (decide (a = b)) else none
  | .str a, .str b => if k = 2 then some (decide (a = b)) else none
  | _, _ => none

def cellsEq : List Nat → List V → List V → Option Bool
  | [], [], [] => some true
  | k :: ks, x :: xs, y :: ys =>
    match scalarEq k x y, cellsEq ks xs ys with
    | some a, some b => some (a && b)
    | _, _ => none
  | _, _, _ => none

def intBin (op : BinOp) (k : IntKind) (a b : Int) : Option V :=
  match op with
  | .add => some (.int k (k.wrap (a + b)))
  | .sub => some (.int k (k.wrap (a - b)))
  | .mul => some (.int k (k.wrap (a * b)))
  | .quo => if b = 0 then none else some (.int k (k.wrap (a.tdiv b)))
  | .rem => if b = 0 then none else some (.int k (a.tmod b))
  | .and => some (.int k (k.wrap ((BitVec.ofInt k.bits a &&& BitVec.ofInt k.bits b).toNat)))
  | .or => some (.int k (k.wrap ((BitVec.ofInt k.bits a ||| BitVec.ofInt k.bits b).toNat)))
  | .xor => some (.int k (k.wrap ((BitVec.ofInt k.bits a ^^^ BitVec.ofInt k.bits b).toNat)))
  | .eql => some (.bool (decide (a = b)))
  | .neq => some (.bool (decide (a ≠ b)))
  | .lss => some (.bool (decide (a < b)))
  | .leq => some (.bool (decide (a ≤ b)))
  | .gtr => some (.bool (decide (a > b)))
  | .geq => some (.bool (decide (a ≥ b)))
  | _ => none

def strBin (op : BinOp) (a b : ByteArray) : Option V :=
  match op with
  | .add => if a.size + b.size ≤ 9223372036854775807 then some (.str (a ++ b)) else none
  | .eql => some (.bool (decide (a = b)))
  | .neq => some (.bool (decide (a ≠ b)))
  | .lss => some (.bool (Op.bytesLess a.toList b.toList))
  | .gtr => some (.bool (!(Op.bytesLess a.toList b.toList || decide (a = b))))
  | _ => none

def binV (op : BinOp) (x y : V) : Option V :=
  match x, y with
  | .int k a, .int k' b =>
    match op with
    | .shl => if b < 0 then none else some (.int k (k.wrap (a * 2 ^ min b.toNat k.bits)))
    | .shr => if b < 0 then none else some (.int k (a.fdiv (2 ^ min b.toNat k.bits)))
    | _ => if k = k' then intBin op k a b else none
  | .str a, .str b => strBin op a b
  | _, _ => none

def bytesV : List (List V) → Option (List UInt8)
  | [] => some []
  | [.int .u8 n] :: r => (bytesV r).map (UInt8.ofNat n.toNat :: ·)
  | _ => none

def ofBytes (s : ByteArray) : List (List V) := s.toList.map fun b => [.int .u8 (b.toNat : Int)]

/-- what a slice holds -/
def rows (σ : Store) (s : Nat) : V → Option (List (List V))
  | .nl => some []
  | .fz s' es => if s' = s then some es else none
  | .sl o s' off len =>
    match σ[o]? with
    | some (.live ob) => if s' = s ∧ ob.s = s ∧ off + len ≤ ob.es.length then some ((ob.es.drop off).take len) else none
    | _ => none
  | _ => none

def lenV : V → Option Nat
  | .nl => some 0
  | .fz _ es => some es.length
  | .sl _ _ _ len => some len
  | _ => none

def isFree (σ : Store) (o : Nat) : Prop := σ[o]? = some .free
instance (σ : Store) (o : Nat) : Decidable (isFree σ o) := by unfold isFree; exact match h : σ[o]? with
  | some .free => isTrue rfl
  | some .dead => isFalse (by simp)
  | some (.live _) => isFalse (by simp)
  | none => isFalse (by simp)

/-- one step that is no call: the value for its temporary, and the store behind it -/
def astep (o : AO) (a : Env) (σ : Store) : Option (V × Store) :=
  match o with
  | .mov x => some (x.ev a, σ)
  | .pick c x y => match c.ev a with
    | .bool b => some (if b then x.ev a else y.ev a, σ)
    | _ => none
  | .alloc id s z => if isFree σ id then some (.ptr id s 0 0, σ.set id (.live ⟨s, [z]⟩)) else none
  | .box id s x => match (x.ev a).cells with
    | some cs => if isFree σ id ∧ cs.length = s then some (.ptr id s 0 0, σ.set id (.live ⟨s, [cs]⟩)) else none
    | none => none
  | .build z ps => (fillV z (ps.map fun p => (p.1, p.2.1, p.2.2.ev a))).map fun cs => (.agg cs, σ)
  | .bslice id s n z ps => match fillR (List.replicate n z) s (ps.map fun p => (p.1, p.2.ev a)) with
    | some es => if isFree σ id then some (.sl id s 0 n, σ.set id (.live ⟨s, es⟩)) else none
    | none => none
  | .load s ag x => match x.ev a with
    | .ptr o s' e c => match σ[o]? with
      | some (.live ob) => match ob.es[e]? with
        | some l => if ob.s = s' ∧ c + s ≤ l.length then (one ag ((l.drop c).take s)).map fun v => (v, σ) else none
        | none => none
      | _ => none
    | .fp cs => if s ≤ cs.length then (one ag (cs.take s)).map fun v => (v, σ) else none
    | _ => none
  | .store s x y => match x.ev a, (y.ev a).cells with
    | .ptr o s' e c, some cs => match σ[o]? with
      | some (.live ob) => match ob.es[e]? with
        | some l => if ob.s = s' ∧ cs.length = s ∧ c + s ≤ l.length then some (.unk, σ.set o (.live ⟨ob.s, ob.es.set e (splice l c cs)⟩)) else none
        | none => none
      | _ => none
    | _, _ => none
  | .faddr k x => match x.ev a with
    | .ptr o s e c => some (.ptr o s e (c + k), σ)
    | .fp cs => some (.fp (cs.drop k), σ)
    | _ => none
  | .field off s ag x => match x.ev a with
    | .agg cs => if off + s ≤ cs.length then (one ag ((cs.drop off).take s)).map fun v => (v, σ) else none
    | _ => none
  | .iaddr s x i => match x.ev a, i.ev a with
    | .fz s' es, .int _ n => if s' = s ∧ 0 ≤ n then (es[n.toNat]?).map fun l => (.fp l, σ) else none
    | .sl o s' off len, .int _ n => if s' = s ∧ 0 ≤ n ∧ n < len then some (.ptr o s (off + n.toNat) 0, σ) else none
    | _, _ => none
  | .sindex x i => match x.ev a, i.ev a with
    | .str b, .int _ n => if 0 ≤ n then (b.toList[n.toNat]?).map fun c : UInt8 => (V.int .u8 (c.toNat : Int), σ) else none
    | _, _ => none
  | .slice s x lo hi => match x.ev a with
    | .nl => (bounds 0 (lo.map (·.ev a)) (hi.map (·.ev a))).map fun _ => (.nl, σ)
    | .fz s' es => if s' = s then (bounds es.length (lo.map (·.ev a)) (hi.map (·.ev a))).map fun p => (.fz s ((es.take p.2).drop p.1), σ) else none
    | .sl o s' off len => if s' = s then (bounds len (lo.map (·.ev a)) (hi.map (·.ev a))).map fun p => (.sl o s (off + p.1) (p.2 - p.1), σ) else none
    | _ => none
  | .sslice x lo hi => match x.ev a with
    | .str b => (bounds b.size (lo.map (·.ev a)) (hi.map (·.ev a))).map fun p => (.str (b.extract p.1 p.2), σ)
    | _ => none
  | .bin op x y => (binV op (x.ev a) (y.ev a)).map fun v => (v, σ)
  | .eqs ks neg x y => match x.ev a, y.ev a with
    | .agg xs, .agg ys => (cellsEq ks xs ys).map fun b => (.bool (if neg then !b else b), σ)
    | _, _ => none
  | .beq neg x y => match x.ev a, y.ev a with
    | .bool p, .bool q => some (.bool (if neg then !(decide (p = q)) else decide (p = q)), σ)
    | _, _ => none
  | .nilc x => match x.ev a with
    | .ptr o s e c => some (.ptr o s e c, σ)
    | .fp cs => some (.fp cs, σ)
    | _ => none
  | .not x => match x.ev a with
    | .bool b => some (.bool (!b), σ)
    | _ => none
  | .neg x => match x.ev a with
    | .int k n => some (.int k (k.wrap (0 - n)), σ)
    | _ => none
  | .cint k x => match x.ev a with
    | .int _ n => some (.int k (k.wrap n), σ)
    | _ => none
  | .mkf x => match x.ev a with
    | .sl o s off len => if 0 < len then match rows σ 1 (.sl o s off len) with
      | some es => match bytesV es with
        | some _ => some (.fz 1 es, σ.set o .dead)
        | none => none
      | none => none
      else none
    | _ => none
  | .s2f x => match x.ev a with
    | .str b => some (.fz 1 (ofBytes b), σ)
    | _ => none
  | .s2b id x => match x.ev a with
    | .str b => if isFree σ id then some (.sl id 1 0 b.size, σ.set id (.live ⟨1, ofBytes b⟩)) else none
    | _ => none
  | .b2s x => match rows σ 1 (x.ev a) with
    | some es => (bytesV es).map fun l => (.str ⟨l.toArray⟩, σ)
    | none => none
  | .mks id s bytes z l c => match l.ev a, c.ev a with
    | .int .i64 n, .int .i64 m => if isFree σ id ∧ 0 ≤ n ∧ n ≤ m ∧ m * bytes ≤ 140737488355328 ∧ m ≤ 140737488355328 then
        some (.sl id s 0 n.toNat, σ.set id (.live ⟨s, List.replicate n.toNat z⟩)) else none
    | _, _ => none
  | .len x => (lenV (x.ev a)).map fun n : Nat => (V.int .i64 (n : Int), σ)
  | .slen x => match x.ev a with
    | .str b => some (.int .i64 b.size, σ)
    | _ => none
  | .app id s bytes x y => match x.ev a, rows σ s (y.ev a) with
    | .nl, some ys => match ys with
      | [] => some (.nl, σ)
      | _ :: _ => if isFree σ id ∧ ys.length * (bytes + 1) ≤ 70368744177664 then some (.sl id s 0 ys.length, σ.set id (.live ⟨s, ys⟩)) else none
    | .sl o s' off len, some ys => match σ[o]? with
      | some (.live ob) => if s' = s ∧ ob.s = s ∧ off = 0 ∧ len ≤ ob.es.length ∧ isFree σ id ∧ (len + ys.length) * (bytes + 1) ≤ 70368744177664 then
          some (.sl id s 0 (len + ys.length), (σ.set o .dead).set id (.live ⟨s, ob.es.take len ++ ys⟩)) else none
      | _ => none
    | _, _ => none
  | .max xs => match (xs.map fun x => x.ev a : List V) with
    | [.int k x, .int k' y] => if k = k' then some (.int k (if y > x then y else x), σ) else none
    | _ => none
  | .min xs => match (xs.map fun x => x.ev a : List V) with
    | [.int k x, .int k' y] => if k = k' then some (.int k (if y < x then y else x), σ) else none
    | _ => none
  | .ext x i => match x.ev a with
    | .tup vs => (vs[i]?).map fun v => (v, σ)
    | _ => none
  | .call .. => none

end Go.Proofs.YtffigokicddekaaGreat.Abs
/- How a store of abstract objects stands to the model's world, and what a step may turn. No condition. -/
set_option linter.unusedVariables false
set_option linter.unusedSimpArgs false
namespace Go.Proofs.YtffigokicddekaaGreat.Abs
open Go

/-- what the object is, in the world -/
def Lies (w : World) (F : Nat → Prop) (β : Ids) (ob : Ob) (c : Array Value) : Prop :=
  ∀ (e : Nat) l, ob.es[e]? = some l → l.length = ob.s ∧ e * ob.s + ob.s ≤ c.size ∧ ∀ (j : Nat) x, l[j]? = some x → VR w F β x (c.getD (e * ob.s + j) undef) ∧ (c.getD (e * ob.s + j) undef).oneCell' = true

structure Rel (σ : Store) (β : Ids) (F : Nat → Prop) (w : World) : Prop where
  live : ∀ (o : Nat) ob, σ[o]? = some (.live ob) → ∃ b c elem fr, β o = some b ∧ w.heap[b]? = some (.cells c elem fr) ∧ (∀ i, i < c.size → ¬ (fr.1 ≤ i ∧ i < fr.2)) ∧ ¬ F b ∧ Lies w F β ob c
  inj : ∀ (o o' : Nat) ob ob', σ[o]? = some (.live ob) → σ[o']? = some (.live ob') → β o = β o' → o = o'
  free : ∀ o : Nat, σ[o]? = some .free ∨ σ[o]? = none → β o = none
  bF : ∀ b, F b → b < w.heap.size

structure After (σ' : Store) (β β' : Ids) (F F' : Nat → Prop) (w w' : World) : Prop where
  rel : Rel σ' β' F' w'
  le : β.le β'
  sub : ∀ b, F b → F' b
  grow : Grow F w w'
  frame : ∀ b, b < w.heap.size → (∀ o, β o ≠ some b) → w'.heap[b]? = w.heap[b]?
  newF : ∀ b, F' b → F b ∨ w.heap.size ≤ b ∨ ∃ o, β o = some b
  newB : ∀ o b, β' o = some b → w.heap.size ≤ b ∨ ∃ o', β o' = some b

theorem After.refl {σ : Store} {β : Ids} {F : Nat → Prop} {w : World} (h : Rel σ β F w) : After σ β β F F w w :=
  ⟨h, Ids.le_refl _, fun _ h => h, Grow.refl _ _, fun _ _ _ => rfl, fun _ h => .inl h, fun o b h => .inr ⟨o, h⟩⟩

theorem After.trans {σ1 σ2 : Store} {β β1 β2 : Ids} {F F1 F2 : Nat → Prop} {w w1 w2 : World} (h : After σ1 β β1 F F1 w w1) (k : After σ2 β1 β2 F1 F2 w1 w2) : After σ2 β β2 F F2 w w2 where
  rel := k.rel
  le := Ids.le_trans h.le k.le
  sub := fun b hb => k.sub b (h.sub b hb)
  grow := h.grow.trans k.grow h.sub
  frame := fun b hb hn => (k.frame b (Nat.lt_of_lt_of_le hb h.grow.size) (fun o ho => by
    rcases h.newB o b ho with h1 | ⟨o', h1⟩
    · omega
    · exact hn o' h1)).trans (h.frame b hb hn)
  newF := fun b hb => by
    rcases k.newF b hb with h1 | h1 | ⟨o, h1⟩
    · exact h.newF b h1
    · exact .inr (.inl (Nat.le_trans h.grow.size h1))
    · exact .inr (h.newB o b h1)
  newB := fun o b hb => by
    rcases k.newB o b hb with h1 | ⟨o', h1⟩
    · exact .inl (Nat.le_trans h.grow.size h1)
    · exact h.newB o' b h1

theorem After.mono {σ : Store} {β β' : Ids} {F F' : Nat → Prop} {w w' : World} (h : After σ β β' F F' w w') {x : V} {v : Value} (hv : VR w F β x v) : VR w' F' β' x v :=
  hv.mono h.grow h.sub β' h.le

theorem Lies.mono {w w' : World} {F F' : Nat → Prop} {β β' : Ids} (hg : Grow F w w') (hF : ∀ b, F b → F' b) (hb : β.le β') {ob : Ob} {c : Array Value} (h : Lies w F β ob c) : Lies w' F' β' ob c :=
  fun e l he => ⟨(h e l he).1, (h e l he).2.1, fun j x hx => ⟨((h e l he).2.2 j x hx).1.mono hg hF β' hb, ((h e l he).2.2 j x hx).2⟩⟩

theorem push_get {w : World} {b : Nat} {ob o : Obj} (h : w.heap[b]? = some o) : (w.heap.push ob)[b]? = some o := by
  have hlt := (Array.getElem?_eq_some_iff.1 h).1
  rw [Array.getElem?_push, if_neg (by omega)]; exact h

/-- a new block changes nothing that was there -/
theorem grow_new {F : Nat → Prop} {w w' : World} {ob : Obj} (h1 : w'.os = w.os) (h2 : w'.tape = w.tape) (h3 : w'.output = w.output) (h4 : w'.heap = w.heap.push ob) (hF : ∀ b, F b → b < w.heap.size) : Grow F w w' where
  os := h1
  tape := h2
  output := h3
  size := by rw [h4]; simp
  cells := fun b c elem fr h => ⟨c, fr, by rw [h4]; exact push_get h, rfl⟩
  same := fun b hb => by
    have := hF b hb
    rw [h4, Array.getElem?_push, if_neg (by omega)]

def Ids.put (β : Ids) (o b : Nat) : Ids := fun x => if x = o then some b else β x
theorem Ids.le_put {β : Ids} {o b : Nat} (h : β o = none) : β.le (β.put o b) := by
  intro x y hxy
  unfold Ids.put
  split
  · rename_i e; rw [e, h] at hxy; cases hxy
  · exact hxy

theorem get_set_same {σ : Store} {o : Nat} {s x : Slot} (h : σ[o]? = some x) : (σ.set o s)[o]? = some s := by
  have := (List.getElem?_eq_some_iff.1 h).1
  simp [this]
theorem get_set_ne {σ : Store} {o o' : Nat} {s : Slot} (h : o ≠ o') : (σ.set o s)[o']? = σ[o']? := by
  simp [List.getElem?_set, h]

/-- an object in a new block -/
theorem After.new {σ : Store} {β : Ids} {F : Nat → Prop} {w w' : World} {id : Nat} {ob : Ob} {c : Array Value} {elem : TypeId} {fr : Nat × Nat} (hr : Rel σ β F w) (hid : isFree σ id)
    (h1 : w'.os = w.os) (h2 : w'.tape = w.tape) (h3 : w'.output = w.output) (h4 : w'.heap = w.heap.push (.cells c elem fr)) (hfr : ∀ i, i < c.size → ¬ (fr.1 ≤ i ∧ i < fr.2))
    (hl : Lies w F β ob c) : After (σ.set id (.live ob)) β (β.put id w.heap.size) F F w w' := by
  have hb0 : β id = none := hr.free id (.inl hid)
  have hle : β.le (β.put id w.heap.size) := Ids.le_put hb0
  have hg : Grow F w w' := grow_new h1 h2 h3 h4 hr.bF
  have hlt : ∀ (o : Nat) ob b, σ[o]? = some (.live ob) → β o = some b → b < w.heap.size := by
    intro o ob b ho hb
    obtain ⟨b', c', e', f', hb', hh, _⟩ := hr.live o ob ho
    rw [hb'] at hb; cases hb
    exact (Array.getElem?_eq_some_iff.1 hh).1
  refine ⟨⟨?_, ?_, ?_, ?_⟩, hle, fun _ h => h, hg, ?_, fun _ h => .inl h, ?_⟩
  · intro o ob' ho
    by_cases e : id = o
    · subst e
      rw [get_set_same hid] at ho
      cases ho
      refine ⟨w.heap.size, c, elem, fr, by simp [Ids.put], by rw [h4]; simp, hfr, fun hF => by have := hr.bF _ hF; omega, hl.mono hg (fun _ h => h) hle⟩
    · rw [get_set_ne e] at ho
      obtain ⟨b, c', e', f', hb, hh, hf, hn, hL⟩ := hr.live o ob' ho
      exact ⟨b, c', e', f', hle _ _ hb, by rw [h4]; exact push_get hh, hf, hn, hL.mono hg (fun _ h => h) hle⟩
  · intro o o' a a' ho ho' hbb
    by_cases e : id = o
    · by_cases e' : id = o'
      · omega
      · subst e
        rw [get_set_ne e'] at ho'
        obtain ⟨b, c', e1, f', hb, hh, _⟩ := hr.live o' a' ho'
        have := hlt o' a' b ho' hb
        simp [Ids.put, Ne.symm e', hb] at hbb
        omega
    · by_cases e' : id = o'
      · subst e'
        rw [get_set_ne e] at ho
        obtain ⟨b, c', e1, f', hb, hh, _⟩ := hr.live o a ho
        have := hlt o a b ho hb
        simp [Ids.put, Ne.symm e, hb] at hbb
        omega
      · rw [get_set_ne e] at ho
        rw [get_set_ne e'] at ho'
        simp [Ids.put, Ne.symm e, Ne.symm e'] at hbb
        exact hr.inj o o' a a' ho ho' hbb
  · intro o ho
    by_cases e : id = o
    · subst e
      rw [get_set_same hid] at ho
      rcases ho with ho | ho <;> cases ho
    · rw [get_set_ne e] at ho
      simp [Ids.put, Ne.symm e]
      exact hr.free o ho
  · intro b hb
    rw [h4]
    have := hr.bF b hb
    simp
    omega
  · intro b hb _
    rw [h4, Array.getElem?_push, if_neg (by omega)]
  · intro o b hb
    unfold Ids.put at hb
    split at hb
    · cases hb; exact .inl (Nat.le_refl _)
    · exact .inr ⟨o, hb⟩

/-- an object that takes another's place, in the same block -/
theorem After.turn {σ : Store} {β : Ids} {F : Nat → Prop} {w w' : World} {o b : Nat} {ob ob' : Ob} {c c' : Array Value} {elem : TypeId} {fr : Nat × Nat} (hr : Rel σ β F w) (ho : σ[o]? = some (.live ob))
    (hb : β o = some b) (hh : w.heap[b]? = some (.cells c elem fr)) (hfr : ∀ i, i < c.size → ¬ (fr.1 ≤ i ∧ i < fr.2)) (hF : ¬ F b) (hsz : c'.size = c.size)
    (h1 : w'.os = w.os) (h2 : w'.tape = w.tape) (h3 : w'.output = w.output) (h4 : w'.heap.size = w.heap.size) (h5 : w'.heap[b]? = some (.cells c' elem fr)) (h6 : ∀ k, k ≠ b → w'.heap[k]? = w.heap[k]?)
    (hl : Lies w F β ob' c') :
    After (σ.set o (.live ob')) β β F F w w' ∧ ∀ id, isFree σ id → After ((σ.set o .dead).set id (.live ob')) β (β.put id b) F F w w' := by
  have hlt : b < w.heap.size := (Array.getElem?_eq_some_iff.1 hh).1
  have hg : Grow F w w' := by
    refine ⟨h1, h2, h3, by omega, ?_, ?_⟩
    · intro x cx e f hx
      by_cases hxb : x = b
      · subst hxb
        rw [hh] at hx; cases hx
        exact ⟨c', _, h5, hsz⟩
      · exact ⟨cx, f, by rw [h6 x hxb]; exact hx, rfl⟩
    · intro x hx
      exact h6 x (fun e => hF (e ▸ hx))
  have hbne : ∀ (o' : Nat) a, σ[o']? = some (.live a) → o ≠ o' → β o' ≠ some b := by
    intro o' a ha hne hx
    exact hne (hr.inj o o' ob a ho ha (hb.trans hx.symm))
  constructor
  · refine ⟨⟨?_, ?_, ?_, ?_⟩, Ids.le_refl _, fun _ h => h, hg, ?_, fun _ h => .inl h, fun o b h => .inr ⟨o, h⟩⟩
    · intro o' a ha
      by_cases e : o = o'
      · subst e
        rw [get_set_same ho] at ha; cases ha
        exact ⟨b, c', elem, fr, hb, h5, by rw [hsz]; exact hfr, hF, hl.mono hg (fun _ h => h) (Ids.le_refl _)⟩
      · rw [get_set_ne e] at ha
        obtain ⟨b', c1, e1, f1, hb', hh', hf', hn', hL⟩ := hr.live o' a ha
        have hne : b' ≠ b := fun e' => hbne o' a ha e (e' ▸ hb')
        exact ⟨b', c1, e1, f1, hb', by rw [h6 b' hne]; exact hh', hf', hn', hL.mono hg (fun _ h => h) (Ids.le_refl _)⟩
    · intro x y a a' hx hy hxy
      have live_of : ∀ (z : Nat) d, (σ.set o (.live ob'))[z]? = some (.live d) → ∃ d', σ[z]? = some (.live d') := by
        intro z d hz
        by_cases e : o = z
        · subst e; exact ⟨_, ho⟩
        · rw [get_set_ne e] at hz; exact ⟨_, hz⟩
      obtain ⟨d, hd⟩ := live_of x a hx
      obtain ⟨d', hd'⟩ := live_of y a' hy
      exact hr.inj x y d d' hd hd' hxy
    · intro x hx
      by_cases e : o = x
      · subst e
        rw [get_set_same ho] at hx
        rcases hx with hx | hx <;> cases hx
      · rw [get_set_ne e] at hx; exact hr.free x hx
    · intro x hx
      have := hr.bF x hx
      omega
    · intro x hx hn
      exact h6 x (fun e => hn o (e ▸ hb))
  · intro id hid
    have hb0 : β id = none := hr.free id (.inl hid)
    have hle : β.le (β.put id b) := Ids.le_put hb0
    have hne : o ≠ id := by intro e; subst e; unfold isFree at hid; rw [ho] at hid; cases hid
    have hid' : (σ.set o .dead)[id]? = some .free := by rw [get_set_ne hne]; exact hid
    have old : ∀ (z : Nat) d, id ≠ z → ((σ.set o .dead).set id (.live ob'))[z]? = some (.live d) → σ[z]? = some (.live d) ∧ o ≠ z := by
      intro z d e hz
      rw [get_set_ne e] at hz
      by_cases e' : o = z
      · subst e'; rw [get_set_same ho] at hz; cases hz
      · rw [get_set_ne e'] at hz; exact ⟨hz, e'⟩
    refine ⟨⟨?_, ?_, ?_, ?_⟩, hle, fun _ h => h, hg, ?_, fun _ h => .inl h, ?_⟩
    · intro o' a ha
      by_cases e : id = o'
      · subst e
        rw [get_set_same hid'] at ha; cases ha
        exact ⟨b, c', elem, fr, by simp [Ids.put], h5, by rw [hsz]; exact hfr, hF, hl.mono hg (fun _ h => h) hle⟩
      · obtain ⟨ha', e'⟩ := old o' a e ha
        obtain ⟨b', c1, e1, f1, hb', hh', hf', hn', hL⟩ := hr.live o' a ha'
        have hne : b' ≠ b := fun e2 => hbne o' a ha' e' (e2 ▸ hb')
        exact ⟨b', c1, e1, f1, hle _ _ hb', by rw [h6 b' hne]; exact hh', hf', hn', hL.mono hg (fun _ h => h) hle⟩
    · intro x y a a' hx hy hxy
      by_cases e : id = x
      · by_cases e' : id = y
        · omega
        · obtain ⟨hy', hy2⟩ := old y a' e' hy
          subst e
          simp [Ids.put, Ne.symm e'] at hxy
          exact absurd hxy.symm (hbne y a' hy' hy2)
      · obtain ⟨hx', hx2⟩ := old x a e hx
        by_cases e' : id = y
        · subst e'
          simp [Ids.put, Ne.symm e] at hxy
          exact absurd hxy (hbne x a hx' hx2)
        · obtain ⟨hy', hy2⟩ := old y a' e' hy
          simp [Ids.put, Ne.symm e, Ne.symm e'] at hxy
          exact hr.inj x y a a' hx' hy' hxy
    · intro x hx
      by_cases e : id = x
      · subst e
        rw [get_set_same hid'] at hx
        rcases hx with hx | hx <;> cases hx
      · rw [get_set_ne e] at hx
        by_cases e' : o = x
        · subst e'
          rw [get_set_same ho] at hx
          rcases hx with hx | hx <;> cases hx
        · rw [get_set_ne e'] at hx
          simp [Ids.put, Ne.symm e]
          exact hr.free x hx
    · intro x hx
      have := hr.bF x hx
      omega
    · intro x hx hn
      exact h6 x (fun e => hn o (e ▸ hb))
    · intro x y hxy
      unfold Ids.put at hxy
      split at hxy
      · cases hxy; exact .inr ⟨o, hb⟩
      · exact .inr ⟨x, hxy⟩

end Go.Proofs.YtffigokicddekaaGreat.Abs
/- From the program's operations to steps over abstract values, and that each says what the operation does. No condition. -/
set_option linter.unusedVariables false
set_option linter.unusedSimpArgs false
namespace Go.Proofs.YtffigokicddekaaGreat.Abs
open Go

def ofVal : Value → V
  | .int k n => .int k n
  | .bool b => .bool b
  | .string s => .str s
  | .pointer none => .nilp
  | .slice none 0 0 => .nl
  | _ => .unk

theorem ofVal_ok (w : World) (F : Nat → Prop) (β : Ids) (v : Value) : VR w F β (ofVal v) v := by
  unfold ofVal
  split <;> constructor

def opdOf : Operand → Opd
  | .tmp t => .t t
  | .const v => .k (ofVal v)
  | .global _ | .func _ => .k .unk

def EnvR (w : World) (F : Nat → Prop) (β : Ids) (a : Env) (act : Act) : Prop := ∀ t, VR w F β (a t) (act.tmps.getD t undef)

theorem opd_ok {w : World} {F : Nat → Prop} {β : Ids} {a : Env} {act : Act} (h : EnvR w F β a act) (x : Operand) : VR w F β ((opdOf x).ev a) (act.eval x) := by
  cases x with
  | tmp t => exact h t
  | const v => exact ofVal_ok w F β v
  | global g => exact .unk _ _
  | func f => exact .unk _ _

def VRs (w : World) (F : Nat → Prop) (β : Ids) (xs : List V) (vs : List Value) : Prop :=
  xs.length = vs.length ∧ ∀ (j : Nat) x, xs[j]? = some x → VR w F β x (vs.getD j undef)

theorem VRs.nil (w : World) (F : Nat → Prop) (β : Ids) : VRs w F β [] [] := ⟨rfl, fun j x h => by simp at h⟩
theorem VRs.cons {w : World} {F : Nat → Prop} {β : Ids} {x : V} {v : Value} {xs : List V} {vs : List Value} (h : VR w F β x v) (hs : VRs w F β xs vs) : VRs w F β (x :: xs) (v :: vs) := by
  refine ⟨by simp [hs.1], fun j y hy => ?_⟩
  cases j with
  | zero => simp at hy; subst hy; simpa using h
  | succ j => simp at hy; simpa using hs.2 j y hy
theorem VRs.head {w : World} {F : Nat → Prop} {β : Ids} {x : V} {v : Value} {xs : List V} {vs : List Value} (h : VRs w F β (x :: xs) (v :: vs)) : VR w F β x v := by
  simpa using h.2 0 x (by simp)
theorem VRs.tail {w : World} {F : Nat → Prop} {β : Ids} {x : V} {v : Value} {xs : List V} {vs : List Value} (h : VRs w F β (x :: xs) (v :: vs)) : VRs w F β xs vs :=
  ⟨by simpa using h.1, fun j y hy => by simpa using h.2 (j + 1) y (by simpa using hy)⟩
theorem VRs.append {w : World} {F : Nat → Prop} {β : Ids} : ∀ {xs : List V} {vs : List Value} {ys : List V} {us : List Value}, VRs w F β xs vs → VRs w F β ys us → VRs w F β (xs ++ ys) (vs ++ us)
  | [], [], _, _, _, h => h
  | x :: xs, v :: vs, _, _, h, h' => .cons h.head (VRs.append h.tail h')
  | [], _ :: _, _, _, h, _ => absurd h.1 (by simp)
  | _ :: _, [], _, _, h, _ => absurd h.1 (by simp)
theorem VRs.take {w : World} {F : Nat → Prop} {β : Ids} : ∀ (n : Nat) {xs : List V} {vs : List Value}, VRs w F β xs vs → VRs w F β (xs.take n) (vs.take n)
  | 0, _, _, _ => by simpa using VRs.nil w F β
  | n + 1, [], [], h => by simpa using h
  | n + 1, x :: xs, v :: vs, h => by simpa using VRs.cons h.head (VRs.take n h.tail)
  | _ + 1, [], _ :: _, h => absurd h.1 (by simp)
  | _ + 1, _ :: _, [], h => absurd h.1 (by simp)
theorem VRs.drop {w : World} {F : Nat → Prop} {β : Ids} : ∀ (n : Nat) {xs : List V} {vs : List Value}, VRs w F β xs vs → VRs w F β (xs.drop n) (vs.drop n)
  | 0, _, _, h => by simpa using h
  | n + 1, [], [], h => by simpa using h
  | n + 1, x :: xs, v :: vs, h => by simpa using VRs.drop n h.tail
  | _ + 1, [], _ :: _, h => absurd h.1 (by simp)
  | _ + 1, _ :: _, [], h => absurd h.1 (by simp)

theorem VRs.mono {w w' : World} {F F' : Nat → Prop} {β β' : Ids} (hg : Grow F w w') (hF : ∀ b, F b → F' b) (hb : β.le β') {xs : List V} {vs : List Value} (h : VRs w F β xs vs) : VRs w' F' β' xs vs :=
  ⟨h.1, fun j x hx => (h.2 j x hx).mono hg hF β' hb⟩

theorem agg_inv {w : World} {F : Nat → Prop} {β : Ids} {cs : List V} {v : Value} (h : VR w F β (.agg cs) v) : ∃ vs, v = .agg vs ∧ VRs w F β cs vs.toList := by
  cases h with
  | agg _ _ vs hl hr => exact ⟨vs, rfl, by simpa using hl, fun j x hx => by simpa [Array.getD_eq_getD_getElem?, List.getD_eq_getElem?_getD] using hr j x hx⟩
theorem agg_mk {w : World} {F : Nat → Prop} {β : Ids} {cs : List V} {vs : Array Value} (h : VRs w F β cs vs.toList) : VR w F β (.agg cs) (.agg vs) :=
  .agg β cs vs (by simpa using h.1) fun j x hx => by simpa [Array.getD_eq_getD_getElem?, List.getD_eq_getElem?_getD] using h.2 j x hx
theorem tup_inv {w : World} {F : Nat → Prop} {β : Ids} {cs : List V} {v : Value} (h : VR w F β (.tup cs) v) : ∃ vs, v = .tuple vs ∧ VRs w F β cs vs.toList := by
  cases h with
  | tup _ _ vs hl hr => exact ⟨vs, rfl, by simpa using hl, fun j x hx => by simpa [Array.getD_eq_getD_getElem?, List.getD_eq_getElem?_getD] using hr j x hx⟩
theorem tup_mk {w : World} {F : Nat → Prop} {β : Ids} {cs : List V} {vs : Array Value} (h : VRs w F β cs vs.toList) : VR w F β (.tup cs) (.tuple vs) :=
  .tup β cs vs (by simpa using h.1) fun j x hx => by simpa [Array.getD_eq_getD_getElem?, List.getD_eq_getElem?_getD] using h.2 j x hx

theorem cell_one {w : World} {F : Nat → Prop} {β : Ids} {x : V} {v : Value} (hc : x.cell = true) (h : VR w F β x v) : v.oneCell' = true ∧ v.cells = #[v] := by
  cases h <;> simp_all [V.cell, Value.oneCell', Value.cells]

theorem cells_ok {w : World} {F : Nat → Prop} {β : Ids} {x : V} {v : Value} {cs : List V} (hc : x.cells = some cs) (h : VR w F β x v) :
    VRs w F β cs v.cells.toList ∧ ∀ u ∈ v.cells.toList, u.oneCell' = true := by
  have scalar : x.cell = true → cs = [x] → VRs w F β cs v.cells.toList ∧ ∀ u ∈ v.cells.toList, u.oneCell' = true := by
    intro hx e
    obtain ⟨h1, h2⟩ := cell_one hx h
    subst e
    rw [h2]
    exact ⟨.cons h (.nil _ _ _), by simpa using h1⟩
  cases x <;> simp only [V.cells, Option.some.injEq, reduceCtorEq] at hc
  case agg ds =>
    split at hc
    · rename_i hall
      cases hc
      obtain ⟨vs, rfl, hv⟩ := agg_inv h
      refine ⟨hv, fun u hu => ?_⟩
      obtain ⟨j, hj, e⟩ := List.getElem_of_mem hu
      have hj' : j < cs.length := by rw [hv.1]; simpa [Value.cells] using hj
      have hcell : (cs[j]).cell = true := by
        have := List.all_eq_true.1 hall cs[j] (List.getElem_mem hj')
        exact this
      have hr := hv.2 j cs[j] (List.getElem?_eq_getElem hj')
      have hget : vs.toList.getD j undef = u := by
        simp only [Value.cells] at e hj
        rw [List.getD_eq_getElem?_getD, List.getElem?_eq_getElem hj]; simpa using e
      rw [hget] at hr
      exact (cell_one hcell hr).1
    · cases hc
  all_goals exact scalar rfl hc.symm

theorem one_ok {w : World} {F : Nat → Prop} {β : Ids} {ag : Bool} {cs : List V} {vs : List Value} {x : V} (ho : one ag cs = some x) (h : VRs w F β cs vs) :
    (ag = true ∧ VR w F β x (.agg vs.toArray)) ∨ (ag = false ∧ ∃ v, vs = [v] ∧ VR w F β x v) := by
  unfold one at ho
  cases ag with
  | true => simp at ho; subst ho; exact .inl ⟨rfl, agg_mk (by simpa using h)⟩
  | false =>
    simp only [Bool.false_eq_true, if_false] at ho
    split at ho
    · cases ho
      match vs, h with
      | [v], h => exact .inr ⟨rfl, v, rfl, h.head⟩
      | [], h => exact absurd h.1 (by simp)
      | _ :: _ :: _, h => exact absurd h.1 (by simp)
    · cases ho

/-- what an operation's run must come to -/
def StepOk (r : Result Next) (σ' : Store) (β : Ids) (F : Nat → Prop) (w : World) (v : V) : Prop :=
  ∃ val w' β' F', (r = .ok (.value val) w' ∨ (r = .ok .skip w' ∧ val = undef)) ∧ VR w' F' β' v val ∧ After σ' β β' F F' w w'

theorem StepOk.pure {r : Result Next} {σ : Store} {β : Ids} {F : Nat → Prop} {w : World} {v : V} {val : Value} (hr : Rel σ β F w) (h : r = .ok (.value val) w) (hv : VR w F β v val) : StepOk r σ β F w v :=
  ⟨val, w, β, F, .inl h, hv, .refl hr⟩

end Go.Proofs.YtffigokicddekaaGreat.Abs
/- The operations that write nothing. No condition. -/
set_option linter.unusedVariables false
set_option linter.unusedSimpArgs false
namespace Go.Proofs.YtffigokicddekaaGreat.Abs
open Go

def sz (P : Program) (t : TypeId) : Option Nat := (P.info? t).map (·.size)
def aggD : TypeDesc → Bool
  | .struct _ | .array _ _ => true
  | _ => false
def zeroOf (P : Program) (t : TypeId) : Option (List V) := ((P.info? t).bind (·.zero)).map fun v => v.cells.toList.map ofVal

theorem zeroOf_ok {P : Program} {t : TypeId} {z : List V} (h : zeroOf P t = some z) (w : World) (F : Nat → Prop) (β : Ids) :
    ∃ i v, P.info? t = some i ∧ i.zero = some v ∧ VRs w F β z v.cells.toList := by
  unfold zeroOf at h
  cases hi : P.info? t with
  | none => simp [hi] at h
  | some i =>
    cases hz : i.zero with
    | none => simp [hi, hz] at h
    | some v =>
      simp [hi, hz] at h
      refine ⟨i, v, rfl, hz, ?_⟩
      subst h
      refine ⟨by simp, fun j x hx => ?_⟩
      simp only [List.getElem?_map] at hx
      cases hg : v.cells.toList[j]? with
      | none => rw [hg] at hx; cases hx
      | some u =>
        rw [hg] at hx; simp at hx; subst hx
        rw [List.getD_eq_getElem?_getD, hg]
        exact ofVal_ok w F β u

section
variable {P : Program} {σ : Store} {β : Ids} {F : Nat → Prop} {w : World} {a : Env} {act : Act}

theorem addr_add (b off n : Nat) : (⟨b, off, none⟩ : Addr).add n = ⟨b, off + n, none⟩ := by unfold Addr.add; split <;> simp_all

theorem list_getD_drop {α : Type} (l : List α) (n j : Nat) (d : α) : (l.drop n).getD j d = l.getD (n + j) d := by
  simp [List.getD_eq_getElem?_getD, List.getElem?_drop]

/-- cells that lie one behind another are loaded -/
theorem load_run {d : TypeDesc} {t : TypeId} {s : Nat} {i : TypeInfo} (hu : P.underlying t = some d) (hi : P.info? t = some i) (hs : i.size = s) (hag : aggD d = true ∨ s = 1)
    {b off : Nat} {xs : List V} {f : Nat → Value} (hl : xs.length = s) (hc : ∀ (j : Nat) x, xs[j]? = some x → w.cell? ⟨b, off + j, none⟩ = some (f j)) (hr : ∀ (j : Nat) x, xs[j]? = some x → VR w F β x (f j))
    {x : V} (ho : one (aggD d) xs = some x) : ∃ val, (Instr.loadAt t (.pointer (some ⟨b, off, none⟩))).run P w = .ok val w ∧ VR w F β x val := by
  have hvs : VRs w F β xs ((List.range s).map f) := by
    refine ⟨by simp [hl], fun j y hy => ?_⟩
    have hj : j < s := by rw [← hl]; exact (List.getElem?_eq_some_iff.1 hy).1
    rw [List.getD_eq_getElem?_getD]
    simp [hj]
    exact hr j y hy
  have hrun : (loadCells ⟨b, off, none⟩ s).run P w = .ok ((List.range s).map f).toArray w := by
    refine run_loadCells w _ s f fun j hj => ?_
    rw [addr_add]
    exact hc j xs[j] (List.getElem?_eq_getElem (by omega))
  rcases one_ok ho hvs with ⟨hg, hv⟩ | ⟨hg, v, he, hv⟩
  · refine ⟨_, ?_, hv⟩
    cases d <;> simp [aggD] at hg <;> simp [Instr.loadAt, Instr.sureAddr, loadVar, isAgg, run_underlying hu, sizeOf, typeInfo, hi, hs, hrun]
  · refine ⟨v, ?_, hv⟩
    have hs1 : s = 1 := by rcases hag with h | h; simp [hg] at h; exact h
    have hc0 : w.cell? ⟨b, off, none⟩ = some (f 0) := by
      have := hc 0 xs[0] (List.getElem?_eq_getElem (by omega))
      simpa using this
    have hv0 : f 0 = v := by
      rw [hs1] at he; simpa using he
    cases d <;> simp [aggD] at hg <;> simp [Instr.loadAt, Instr.sureAddr, loadVar, isAgg, run_underlying hu, hc0, hv0]

theorem load_ok (hr : Rel σ β F w) (ha : EnvR w F β a act) {t : TypeId} {d : TypeDesc} {s : Nat} {i : TypeInfo} (hu : P.underlying t = some d) (hi : P.info? t = some i) (hs : i.size = s) (hag : aggD d = true ∨ s = 1)
    {x : Operand} {v : V} {σ' : Store} (h : astep (.load s (aggD d) (opdOf x)) a σ = some (v, σ')) :
    σ' = σ ∧ ∃ val, (Instr.loadAt t (act.eval x)).run P w = .ok val w ∧ VR w F β v val := by
  have hx := opd_ok ha x
  simp only [astep] at h
  split at h
  · rename_i o s' e c hop
    rw [hop] at hx
    split at h
    · rename_i ob ho
      split at h
      · rename_i l hl
        split at h
        · rename_i hcond
          obtain ⟨hs', hle⟩ := hcond
          simp only [Option.map_eq_some_iff, Prod.mk.injEq] at h
          obtain ⟨y, hy, rfl, rfl⟩ := h
          refine ⟨rfl, ?_⟩
          obtain ⟨b, cc, elem, fr, hb, hh, _, _, hL⟩ := hr.live o ob ho
          obtain ⟨hlen, hfit, hval⟩ := hL e l hl
          generalize hval0 : act.eval x = av at hx
          cases hx with
          | ptr _ _ _ _ _ b' hb' =>
            rw [hb] at hb'; cases hb'
            refine load_run (f := fun j => cc.getD (e * ob.s + (c + j)) undef) hu hi hs hag (by simp; omega) ?_ ?_ hy
            · intro j z hz
              have hj : j < s := by
                have := (List.getElem?_eq_some_iff.1 hz).1
                simp at this; omega
              simp only [World.cell?, hh]
              have : e * s' + c + j = e * ob.s + (c + j) := by rw [hs']; omega
              rw [this]
              have hlt : e * ob.s + (c + j) < cc.size := by omega
              simp [hlt]
            · intro j z hz
              rw [List.getElem?_take] at hz
              split at hz
              · rw [List.getElem?_drop] at hz
                exact (hval (c + j) z hz).1
              · cases hz
        · cases h
      · cases h
    · cases h
  · rename_i cs hop
    rw [hop] at hx
    split at h
    · rename_i hle
      simp only [Option.map_eq_some_iff, Prod.mk.injEq] at h
      obtain ⟨y, hy, rfl, rfl⟩ := h
      refine ⟨rfl, ?_⟩
      generalize hval0 : act.eval x = av at hx
      cases hx with
      | fp _ _ b off f hF hc hv =>
        refine load_run (f := f) hu hi hs hag (by simp; omega) ?_ ?_ hy
        · intro j z hz
          rw [List.getElem?_take] at hz
          split at hz
          · exact (hc j z hz).1
          · cases hz
        · intro j z hz
          rw [List.getElem?_take] at hz
          split at hz
          · exact (hv j z hz).mono (Grow.refl F w) (fun _ h => h) β (fun _ _ h => by simp [noIds] at h)
          · cases hz
    · cases h
  · cases h

end
end Go.Proofs.YtffigokicddekaaGreat.Abs
/- More operations that write nothing. No condition. -/
set_option linter.unusedVariables false
set_option linter.unusedSimpArgs false
namespace Go.Proofs.YtffigokicddekaaGreat.Abs
open Go

section
variable {P : Program} {σ : Store} {β : Ids} {F : Nat → Prop} {w : World} {a : Env} {act : Act}

theorem faddr_ok (ha : EnvR w F β a act) {t : TypeId} {fs : Array Field} {f : Nat} {fd : Field} {i : TypeInfo} (hu : P.underlying t = some (.struct fs)) (hf : fs[f]? = some fd) (hi : P.info? fd.type = some i) (hs : i.size ≠ 0)
    {x : Operand} {v : V} {σ' : Store} (h : astep (.faddr fd.offset (opdOf x)) a σ = some (v, σ')) :
    σ' = σ ∧ ∃ val, (Instr.fieldAt t (act.eval x) f).run P w = .ok val w ∧ VR w F β v val := by
  have hx := opd_ok ha x
  simp only [astep] at h
  split at h
  · rename_i o s e c hop
    rw [hop] at hx
    cases h
    refine ⟨rfl, ?_⟩
    generalize act.eval x = av at hx
    cases hx with
    | ptr _ _ _ _ _ b hb =>
      refine ⟨.pointer (some ⟨b, e * s + (c + fd.offset), none⟩), ?_, .ptr _ _ _ _ _ b hb⟩
      simp [Instr.fieldAt, run_underlying hu, hf, Instr.sureAddr, fieldPlace, sizeOf, typeInfo, hi, hs, addr_add, Nat.add_assoc]
  · rename_i cs hop
    rw [hop] at hx
    cases h
    refine ⟨rfl, ?_⟩
    generalize act.eval x = av at hx
    cases hx with
    | fp _ _ b off g hF hc hr =>
      refine ⟨.pointer (some ⟨b, off + fd.offset, none⟩), ?_, .fp _ _ b _ (fun j => g (fd.offset + j)) hF ?_ ?_⟩
      · simp [Instr.fieldAt, run_underlying hu, hf, Instr.sureAddr, fieldPlace, sizeOf, typeInfo, hi, hs, addr_add, Nat.add_assoc]
      · intro j z hz
        rw [List.getElem?_drop] at hz
        rw [Nat.add_assoc]
        exact hc _ z hz
      · intro j z hz
        rw [List.getElem?_drop] at hz
        exact hr _ z hz
  · cases h

theorem field_ok (ha : EnvR w F β a act) {t : TypeId} {fs : Array Field} {f : Nat} {fd : Field} {i : TypeInfo} {d : TypeDesc} {s : Nat} (hu : P.underlying t = some (.struct fs)) (hf : fs[f]? = some fd) (hi : P.info? fd.type = some i) (hs : i.size = s)
    (hd : P.underlying fd.type = some d) (hag : aggD d = true ∨ s = 1)
    {x : Operand} {v : V} {σ' : Store} (h : astep (.field fd.offset s (aggD d) (opdOf x)) a σ = some (v, σ')) :
    σ' = σ ∧ ∃ val, (Instr.field t (act.eval x) f).run P w = .ok val w ∧ VR w F β v val := by
  have hx := opd_ok ha x
  simp only [astep] at h
  split at h
  · rename_i cs hop
    rw [hop] at hx
    split at h
    · rename_i hle
      simp only [Option.map_eq_some_iff, Prod.mk.injEq] at h
      obtain ⟨y, hy, rfl, rfl⟩ := h
      refine ⟨rfl, ?_⟩
      obtain ⟨vs, hv, hvs⟩ := agg_inv hx
      rw [hv]
      have hsub := VRs.take s (VRs.drop fd.offset hvs)
      rcases one_ok hy hsub with ⟨hg, hr⟩ | ⟨hg, u, he, hr⟩
      · refine ⟨_, ?_, hr⟩
        have hex : vs.extract fd.offset (fd.offset + s) = (vs.toList.drop fd.offset |>.take s).toArray := by
          apply Array.ext'
          simp [List.drop_take]
        cases d <;> simp [aggD] at hg <;> simp [Instr.field, run_underlying hu, hf, asAgg, part, isAgg, run_underlying hd, sizeOf, typeInfo, hi, hs, hex]
      · refine ⟨u, ?_, hr⟩
        have hs1 : s = 1 := by rcases hag with h | h; simp [hg] at h; exact h
        have hget : vs[fd.offset]? = some u := by
          rw [hs1] at he
          have : ((vs.toList.drop fd.offset).take 1)[0]? = some u := by rw [he]; rfl
          simpa [List.getElem?_take, List.getElem?_drop] using this
        cases d <;> simp [aggD] at hg <;> simp [Instr.field, run_underlying hu, hf, asAgg, part, isAgg, run_underlying hd, hget]
    · cases h
  · cases h

theorem iaddr_ok (ha : EnvR w F β a act) {t e : TypeId} {i : TypeInfo} {s : Nat} (hu : P.underlying t = some (.slice e)) (hi : P.info? e = some i) (hs : i.size = s)
    {x y : Operand} {v : V} {σ' : Store} (h : astep (.iaddr s (opdOf x) (opdOf y)) a σ = some (v, σ')) :
    σ' = σ ∧ ∃ val, (Instr.indexAt t (act.eval x) (act.eval y)).run P w = .ok val w ∧ VR w F β v val := by
  have hx := opd_ok ha x
  have hy := opd_ok ha y
  simp only [astep] at h
  split at h
  · rename_i s' es k n hop1 hop2
    rw [hop1] at hx
    rw [hop2] at hy
    split at h
    · rename_i hc
      obtain ⟨rfl, hn⟩ := hc
      simp only [Option.map_eq_some_iff, Prod.mk.injEq] at h
      obtain ⟨l, hl, rfl, rfl⟩ := h
      refine ⟨rfl, ?_⟩
      have hlt := (List.getElem?_eq_some_iff.1 hl).1
      generalize act.eval x = av at hx
      generalize act.eval y = bv at hy
      cases hy
      cases hx with
      | fz0 => simp at hl
      | fz _ _ _ b off cap g hF hcap hlen hcell hr =>
        refine ⟨.pointer (some ⟨b, off + n.toNat * s', none⟩), ?_, .fp _ _ b _ (fun j => g n.toNat j) hF (fun j z hz => hcell _ l hl j z hz) (fun j z hz => hr _ l hl j z hz)⟩
        have hn' : n < (es.length : Int) := by omega
        simp [Instr.indexAt, asIntOf, run_underlying hu, hn, hn', sizeOf, typeInfo, hi, hs, addr_add]
    · cases h
  · rename_i o s' off len k n hop1 hop2
    rw [hop1] at hx
    rw [hop2] at hy
    split at h
    · rename_i hc
      obtain ⟨rfl, hn, hn'⟩ := hc
      cases h
      refine ⟨rfl, ?_⟩
      generalize act.eval x = av at hx
      generalize act.eval y = bv at hy
      cases hy
      cases hx with
      | sl _ _ _ _ _ b ad cap c elem fr hb hh hfit hlc had =>
        have hcap : cap ≠ 0 := by omega
        rcases had with h0 | rfl
        · exact absurd h0 hcap
        refine ⟨.pointer (some ⟨b, off * s' + n.toNat * s', none⟩), ?_, ?_⟩
        · simp [Instr.indexAt, asIntOf, run_underlying hu, hn, hn', sizeOf, typeInfo, hi, hs, addr_add]
        · have : off * s' + n.toNat * s' = (off + n.toNat) * s' + 0 := by rw [Nat.add_mul]; omega
          rw [this]
          exact .ptr _ _ _ _ _ b hb
    · cases h
  · cases h

theorem bytes_get (b : ByteArray) (n : Nat) : b[n]? = b.toList[n]? := by
  rw [ByteArray.toList_eq]
  obtain ⟨⟨l⟩⟩ := b
  show (if h : n < l.length then some (l[n]) else none) = l[n]?
  split
  · rename_i h; simp [h]
  · rename_i h; simp at h; simp [h]

theorem sindex_ok (ha : EnvR w F β a act) {t : TypeId} (hu : P.underlying t = some .string)
    {x y : Operand} {v : V} {σ' : Store} (h : astep (.sindex (opdOf x) (opdOf y)) a σ = some (v, σ')) :
    σ' = σ ∧ ∃ val, (Instr.index t (act.eval x) (act.eval y)).run P w = .ok val w ∧ VR w F β v val := by
  have hx := opd_ok ha x
  have hy := opd_ok ha y
  simp only [astep] at h
  split at h
  · rename_i b k n hop1 hop2
    rw [hop1] at hx
    rw [hop2] at hy
    split at h
    · rename_i hn
      simp only [Option.map_eq_some_iff, Prod.mk.injEq] at h
      obtain ⟨c, hc, rfl, rfl⟩ := h
      refine ⟨rfl, .int .u8 (c.toNat : Int), ?_, .int _ _ _⟩
      generalize act.eval x = av at hx
      generalize act.eval y = bv at hy
      cases hy
      cases hx
      rw [← bytes_get] at hc
      simp [Instr.index, asIntOf, run_underlying hu, hn, hc]
    · cases h
  · cases h

theorem bounds_run {n cap : Nat} (hcap : n ≤ cap) {lo hi : Option V} {vlo vhi : Option Value} {p : Nat × Nat} (h : bounds n lo hi = some p)
    (hlo : ∀ x, lo = some x → ∃ v, vlo = some v ∧ VR w F β x v) (hlo0 : lo = none → vlo = none) (hhi : ∀ x, hi = some x → ∃ v, vhi = some v ∧ VR w F β x v) (hhi0 : hi = none → vhi = none) (b : Bool) :
    (Instr.sliceBounds b n cap vlo vhi none).run P w = .ok (p.1, p.2, cap) w ∧ p.1 ≤ p.2 ∧ p.2 ≤ n := by
  have hint : ∀ (x : V) (v : Value) (m : Int), VR w F β x v → intOf? x = some m → ∃ k, v = .int k m := by
    intro x v m hv hm
    cases x <;> simp [intOf?] at hm
    subst hm
    cases hv
    exact ⟨_, rfl⟩
  unfold bounds at h
  cases hhi' : hi with
  | none =>
    rw [hhi'] at h
    simp only [Option.elim] at h
    rw [if_pos ⟨by omega, Int.le_refl _⟩] at h
    rw [hhi0 hhi']
    cases hlo' : lo with
    | none =>
      rw [hlo'] at h
      simp only [Option.elim] at h
      rw [if_pos ⟨Int.le_refl _, by omega⟩] at h
      cases h
      rw [hlo0 hlo']
      simp [Instr.sliceBounds]
    | some x =>
      rw [hlo'] at h
      simp only [Option.elim] at h
      obtain ⟨v, hv, hr⟩ := hlo x hlo'
      cases hm : intOf? x with
      | none => simp [hm] at h
      | some m =>
        rw [hm] at h
        simp only at h
        obtain ⟨k, rfl⟩ := hint x v m hr hm
        split at h
        · rename_i hc
          cases h
          rw [hv]
          have := run_sliceBound (P := P) w k m n .sliceB hc.1 hc.2
          refine ⟨by simp [Instr.sliceBounds, this], ?_, ?_⟩ <;> simp <;> omega
        · cases h
  | some x =>
    rw [hhi'] at h
    simp only [Option.elim] at h
    obtain ⟨v, hv, hr⟩ := hhi x hhi'
    cases hm : intOf? x with
    | none => simp [hm] at h
    | some m =>
      rw [hm] at h
      simp only at h
      obtain ⟨k, rfl⟩ := hint x v m hr hm
      split at h
      · rename_i hc
        have hb : ∀ code, (Instr.sliceBound (.int k m) cap code).run P w = .ok m.toNat w := fun code => run_sliceBound (P := P) w k m cap code hc.1 (by omega)
        cases hlo' : lo with
        | none =>
          rw [hlo'] at h
          simp only [Option.elim] at h
          rw [if_pos ⟨Int.le_refl _, hc.1⟩] at h
          cases h
          rw [hlo0 hlo', hv]
          refine ⟨?_, ?_, ?_⟩
          · cases b <;> simp [Instr.sliceBounds, hb]
          · simp
          · simp; omega
        | some y =>
          rw [hlo'] at h
          simp only [Option.elim] at h
          obtain ⟨v', hv', hr'⟩ := hlo y hlo'
          cases hm' : intOf? y with
          | none => simp [hm'] at h
          | some m' =>
            rw [hm'] at h
            simp only at h
            obtain ⟨k', rfl⟩ := hint y v' m' hr' hm'
            split at h
            · rename_i hc'
              cases h
              rw [hv, hv']
              have h2 : (Instr.sliceBound (.int k' m') m.toNat .sliceB).run P w = .ok m'.toNat w := run_sliceBound (P := P) w k' m' m.toNat .sliceB hc'.1 (by omega)
              refine ⟨?_, ?_, ?_⟩
              · cases b <;> simp [Instr.sliceBounds, hb, h2]
              · simp; omega
              · simp; omega
            · cases h
      · cases h

theorem opds_map (ha : EnvR w F β a act) (lo : Option Operand) :
    (∀ x, (lo.map opdOf).map (·.ev a) = some x → ∃ v, lo.map act.eval = some v ∧ VR w F β x v) ∧ ((lo.map opdOf).map (·.ev a) = none → lo.map act.eval = none) := by
  cases lo with
  | none => simp
  | some o => exact ⟨fun x hx => by simp at hx; subst hx; exact ⟨_, rfl, opd_ok ha o⟩, fun h => by simp at h⟩

theorem slice_ok (ha : EnvR w F β a act) {t e : TypeId} {i : TypeInfo} {s : Nat} (hu : P.underlying t = some (.slice e)) (hi : P.info? e = some i) (hs : i.size = s)
    {x : Operand} {lo hi' : Option Operand} {v : V} {σ' : Store} (h : astep (.slice s (opdOf x) (lo.map opdOf) (hi'.map opdOf)) a σ = some (v, σ')) :
    σ' = σ ∧ ∃ val, (Instr.sliceAt t (act.eval x) (lo.map act.eval) (hi'.map act.eval) none).run P w = .ok val w ∧ VR w F β v val := by
  have hx := opd_ok ha x
  obtain ⟨l1, l0⟩ := opds_map ha lo
  obtain ⟨h1, h0⟩ := opds_map ha hi'
  have key : ∀ (ad : Option Addr) (n cap : Nat) (p : Nat × Nat), n ≤ cap → bounds n ((lo.map opdOf).map (·.ev a)) ((hi'.map opdOf).map (·.ev a)) = some p →
      (Instr.sliceAt t (.slice ad n cap) (lo.map act.eval) (hi'.map act.eval) none).run P w = .ok (.slice (if cap = p.1 then ad else ad.map (·.add (p.1 * s))) (p.2 - p.1) (cap - p.1)) w ∧ p.1 ≤ p.2 ∧ p.2 ≤ n := by
    intro ad n cap p hn hb
    obtain ⟨hrun, h3, h4⟩ := bounds_run (P := P) (w := w) (F := F) (β := β) hn hb l1 l0 h1 h0 true
    refine ⟨?_, h3, h4⟩
    simp [Instr.sliceAt, Instr.slice, run_underlying hu, hrun, sizeOf, typeInfo, hi, hs]
  simp only [astep] at h
  split at h
  · rename_i hop
    rw [hop] at hx
    simp only [Option.map_eq_some_iff, Prod.mk.injEq] at h
    obtain ⟨p, hp, rfl, rfl⟩ := h
    refine ⟨rfl, ?_⟩
    generalize act.eval x = av at hx
    cases hx
    obtain ⟨hrun, h3, h4⟩ := key none 0 0 p (Nat.le_refl _) (by simpa using hp)
    have e1 : p.1 = 0 := by omega
    have e2 : p.2 = 0 := by omega
    rw [e1, e2] at hrun
    exact ⟨_, hrun, by simpa using VR.nl _⟩
  · rename_i s' es hop
    rw [hop] at hx
    split at h
    · rename_i hs'
      subst hs'
      simp only [Option.map_eq_some_iff, Prod.mk.injEq] at h
      obtain ⟨p, hp, rfl, rfl⟩ := h
      refine ⟨rfl, ?_⟩
      generalize act.eval x = av at hx
      cases hx with
      | fz0 _ _ ad cap =>
        obtain ⟨hrun, h3, h4⟩ := key ad 0 cap p (Nat.zero_le _) (by simpa using hp)
        have e1 : p.1 = 0 := by omega
        have e2 : p.2 = 0 := by omega
        rw [e1, e2] at hrun
        exact ⟨_, hrun, by simpa [e1, e2] using VR.fz0 _ _ _ _⟩
      | fz _ _ _ b off cap g hF hcap hlen hcell hr =>
        obtain ⟨hrun, h3, h4⟩ := key (some ⟨b, off, none⟩) es.length cap p hcap (by simpa using hp)
        refine ⟨_, hrun, ?_⟩
        have hlen' : ((es.take p.2).drop p.1).length = p.2 - p.1 := by simp; omega
        by_cases hc : cap = p.1
        · have : (es.take p.2).drop p.1 = [] := by
            apply List.eq_nil_of_length_eq_zero
            omega
          rw [this]
          have e0 : p.2 - p.1 = 0 := by omega
          rw [e0]
          exact .fz0 _ _ _ _
        · rw [if_neg hc]
          simp only [Option.map_some, addr_add]
          rw [← hlen']
          refine .fz _ _ _ b _ _ (fun e j => g (p.1 + e) j) hF (by omega) ?_ ?_ ?_
          · intro l hl
            exact hlen l (List.mem_of_mem_take (List.mem_of_mem_drop hl))
          · intro e l he j z hz
            rw [List.getElem?_drop, List.getElem?_take] at he
            split at he
            · have := hcell _ l he j z hz
              rw [show off + p.1 * s' + e * s' + j = off + (p.1 + e) * s' + j by rw [Nat.add_mul]; omega]
              exact this
            · cases he
          · intro e l he j z hz
            rw [List.getElem?_drop, List.getElem?_take] at he
            split at he
            · exact hr _ l he j z hz
            · cases he
    · cases h
  · rename_i o s' off len hop
    rw [hop] at hx
    split at h
    · rename_i hs'
      subst hs'
      simp only [Option.map_eq_some_iff, Prod.mk.injEq] at h
      obtain ⟨p, hp, rfl, rfl⟩ := h
      refine ⟨rfl, ?_⟩
      generalize act.eval x = av at hx
      cases hx with
      | sl _ _ _ _ _ b ad cap c elem fr hb hh hfit hlc had =>
        obtain ⟨hrun, h3, h4⟩ := key (some ad) len cap p hlc (by simpa using hp)
        by_cases hc : cap = p.1
        · refine ⟨.slice (some ad) (p.2 - p.1) (cap - p.1), by simpa [hc] using hrun, ?_⟩
          refine .sl _ _ _ _ _ b ad _ c elem fr hb hh ?_ (by omega) (.inl (by omega))
          have : off + p.1 + (cap - p.1) = off + cap := by omega
          rw [this]; exact hfit
        · refine ⟨.slice (some (ad.add (p.1 * s'))) (p.2 - p.1) (cap - p.1), by simpa [hc] using hrun, ?_⟩
          refine .sl _ _ _ _ _ b _ _ c elem fr hb hh ?_ (by omega) ?_
          · have : off + p.1 + (cap - p.1) = off + cap := by omega
            rw [this]; exact hfit
          · rcases had with h0 | rfl
            · left; omega
            · right; rw [addr_add, ← Nat.add_mul]
    · cases h
  · cases h

theorem sslice_ok (ha : EnvR w F β a act) {t : TypeId} (hu : P.underlying t = some .string)
    {x : Operand} {lo hi' : Option Operand} {v : V} {σ' : Store} (h : astep (.sslice (opdOf x) (lo.map opdOf) (hi'.map opdOf)) a σ = some (v, σ')) :
    σ' = σ ∧ ∃ val, (Instr.sliceAt t (act.eval x) (lo.map act.eval) (hi'.map act.eval) none).run P w = .ok val w ∧ VR w F β v val := by
  have hx := opd_ok ha x
  obtain ⟨l1, l0⟩ := opds_map ha lo
  obtain ⟨h1, h0⟩ := opds_map ha hi'
  simp only [astep] at h
  split at h
  · rename_i b hop
    rw [hop] at hx
    simp only [Option.map_eq_some_iff, Prod.mk.injEq] at h
    obtain ⟨p, hp, rfl, rfl⟩ := h
    refine ⟨rfl, .string (b.extract p.1 p.2), ?_, .str _ _⟩
    obtain ⟨hrun, h3, h4⟩ := bounds_run (P := P) (w := w) (F := F) (β := β) (Nat.le_refl b.size) hp l1 l0 h1 h0 false
    generalize act.eval x = av at hx
    cases hx
    simp [Instr.sliceAt, Instr.slice, run_underlying hu, hrun]
  · cases h

end
end Go.Proofs.YtffigokicddekaaGreat.Abs
/- Operators, struct equality, conversions, len, min, max, tuples. No condition. -/
set_option linter.unusedVariables false
set_option linter.unusedSimpArgs false
namespace Go.Proofs.YtffigokicddekaaGreat.Abs
open Go

theorem list_beq_bytes (x y : ByteArray) : (x.toList == y.toList) = decide (x = y) := by
  have h : x.toList = y.toList ↔ x = y := by
    rw [ByteArray.toList_eq, ByteArray.toList_eq]
    obtain ⟨⟨x⟩⟩ := x
    obtain ⟨⟨y⟩⟩ := y
    simp
  by_cases e : x = y
  · subst e; simp
  · have : ¬ x.toList = y.toList := fun h' => e (h.1 h')
    simp [e, this]

/-- the model's value of a scalar -/
def valOf : V → Value
  | .int k n => .int k n
  | .bool b => .bool b
  | .str s => .string s
  | _ => undef
def scalar : V → Bool
  | .int _ _ | .bool _ | .str _ => true
  | _ => false
theorem valOf_ok {x : V} (h : scalar x = true) (w : World) (F : Nat → Prop) (β : Ids) : VR w F β x (valOf x) := by
  cases x <;> simp [scalar] at h <;> constructor

section
variable {P : Program} {σ : Store} {β : Ids} {F : Nat → Prop} {w : World} {a : Env} {act : Act}

theorem eqGuard_scalar (op : BinOp) (t : TypeId) (x y : Operand) {u v : Value} (hu : (∃ k n, u = .int k n) ∨ (∃ b, u = .bool b) ∨ (∃ s, u = .string s)) : (eqGuard op t x y u v).run P w = .ok () w := by
  rcases hu with ⟨k, n, rfl⟩ | ⟨b, rfl⟩ | ⟨s, rfl⟩ <;> cases op <;> cases v <;> simp [eqGuard]

theorem intBin_run (op : BinOp) (t : TypeId) (k : IntKind) (m n : Int) {v : V} (h1 : op ≠ .shl) (h2 : op ≠ .shr) (hv : intBin op k m n = some v) :
    scalar v = true ∧ (binOp op t (.int k m) (.int k n)).run P w = .ok (valOf v) w := by
  cases op <;> simp only [intBin, Option.some.injEq, reduceCtorEq, ne_eq, not_true_eq_false] at hv h1 h2
  case quo => split at hv; · cases hv
              · rename_i hn; cases hv; exact ⟨rfl, by simp [binOp, Op.intDiv, hn, valOf]⟩
  case rem => split at hv; · cases hv
              · rename_i hn; cases hv; exact ⟨rfl, by simp [binOp, Op.intDiv, hn, valOf]⟩
  all_goals
    subst hv
    refine ⟨rfl, ?_⟩
    simp [binOp, Op.intArith, Op.intBits, Op.intCmp, valOf]
  all_goals rfl

theorem strBin_run (op : BinOp) (t : TypeId) (s1 s2 : ByteArray) {v : V} (hv : strBin op s1 s2 = some v) :
    scalar v = true ∧ (binOp op t (.string s1) (.string s2)).run P w = .ok (valOf v) w := by
  cases op <;> simp only [strBin, Option.some.injEq, reduceCtorEq] at hv
  case add =>
    split at hv
    · rename_i hsz
      cases hv
      have : ¬ (9223372036854775807 : Int) < (s1.size : Int) + (s2.size : Int) := by omega
      exact ⟨rfl, by simp [binOp, Op.stringOp, this, valOf]⟩
    · cases hv
  all_goals
    subst hv
    refine ⟨rfl, ?_⟩
    simp [binOp, Op.stringOp, valOf, list_beq_bytes]

theorem bin_ok (ha : EnvR w F β a act) {op : BinOp} {t : TypeId}
    {x y : Operand} {v : V} {σ' : Store} (h : astep (.bin op (opdOf x) (opdOf y)) a σ = some (v, σ')) :
    σ' = σ ∧ ∃ val, (do eqGuard op t x y (act.eval x) (act.eval y); binOp op t (act.eval x) (act.eval y)).run P w = .ok val w ∧ VR w F β v val := by
  have hx := opd_ok ha x
  have hy := opd_ok ha y
  simp only [astep, Option.map_eq_some_iff, Prod.mk.injEq] at h
  obtain ⟨v', hv, rfl, rfl⟩ := h
  refine ⟨rfl, ?_⟩
  generalize hxe : act.eval x = av at hx
  generalize hye : act.eval y = bv at hy
  unfold binV at hv
  split at hv
  · rename_i k m k' n hop1 hop2
    rw [hop1] at hx; rw [hop2] at hy
    cases hx; cases hy
    have hg := fun op => eqGuard_scalar (P := P) (w := w) op t x y (u := .int k m) (v := .int k' n) (.inl ⟨_, _, rfl⟩)
    split at hv
    · split at hv
      · cases hv
      · rename_i hn
        cases hv
        exact ⟨_, by simp [hg, binOp, Op.shift, hn], .int _ _ _⟩
    · split at hv
      · cases hv
      · rename_i hn
        cases hv
        exact ⟨_, by simp [hg, binOp, Op.shift, hn], .int _ _ _⟩
    · rename_i n1 n2
      split at hv
      · rename_i hk
        subst hk
        obtain ⟨hs, hrun⟩ := intBin_run (P := P) (w := w) op t k m n (fun e => n1 e) (fun e => n2 e) hv
        exact ⟨_, by simp [hg, hrun], valOf_ok hs _ _ _⟩
      · cases hv
  · rename_i s1 s2 hop1 hop2
    rw [hop1] at hx; rw [hop2] at hy
    cases hx; cases hy
    have hg := fun op => eqGuard_scalar (P := P) (w := w) op t x y (u := .string s1) (v := .string s2) (.inr (.inr ⟨_, rfl⟩))
    obtain ⟨hs, hrun⟩ := strBin_run (P := P) (w := w) op t s1 s2 hv
    exact ⟨_, by simp [hg, hrun], valOf_ok hs _ _ _⟩
  · cases hv


theorem beq_ok (ha : EnvR w F β a act) {neg : Bool} {t : TypeId} (hu : P.underlying t = some .bool)
    {x y : Operand} {v : V} {σ' : Store} (h : astep (.beq neg (opdOf x) (opdOf y)) a σ = some (v, σ')) :
    σ' = σ ∧ ∃ val, (do eqGuard (if neg then .neq else .eql) t x y (act.eval x) (act.eval y); binOp (if neg then .neq else .eql) t (act.eval x) (act.eval y)).run P w = .ok val w ∧ VR w F β v val := by
  have hx := opd_ok ha x
  have hy := opd_ok ha y
  simp only [astep] at h
  split at h
  · rename_i p q hop1 hop2
    rw [hop1] at hx; rw [hop2] at hy
    cases h
    refine ⟨rfl, ?_⟩
    generalize hxe : act.eval x = av at hx
    generalize hye : act.eval y = bv at hy
    cases hx; cases hy
    have hg := fun op => eqGuard_scalar (P := P) (w := w) op t x y (u := .bool p) (v := .bool q) (.inr (.inl ⟨_, rfl⟩))
    refine ⟨_, ?_, .bool _ _⟩
    cases neg
    · simp only [Sem.run_bind, hg, Result.andThen_ok, Bool.false_eq_true, if_false]
      rw [run_eql_bool w t p q hu]; cases p <;> cases q <;> rfl
    · simp only [Sem.run_bind, hg, Result.andThen_ok, if_true]
      rw [run_neq_bool w t p q hu]; cases p <;> cases q <;> rfl
  · cases h

/-- the type's values can be held against each other cell by cell: the cells' kinds -/
def eqFs (P : Program) (ok : TypeId → Option (List Nat)) : List Field → Nat → Option (List Nat)
  | [], _ => some []
  | f :: fs, off =>
    if f.name ≠ "_" ∧ f.offset = off then
      match ok f.type with
      | some ks => if sz P f.type = some ks.length then (eqFs P ok fs (off + ks.length)).map (ks ++ ·) else none
      | none => none
    else none
def eqT (P : Program) : Nat → TypeId → Option (List Nat)
  | 0, _ => none
  | d + 1, t =>
    match P.underlying t with
    | some (.int _) => some [0]
    | some .bool => some [1]
    | some .string => some [2]
    | some (.struct fs) => if P.stoodInHeld t then none else eqFs P (eqT P d) fs.toList 0
    | _ => none

theorem cellsEq_len : ∀ {ks : List Nat} {xs ys : List V} {b : Bool}, cellsEq ks xs ys = some b → xs.length = ks.length ∧ ys.length = ks.length
  | [], [], [], _, _ => ⟨rfl, rfl⟩
  | k :: ks, x :: xs, y :: ys, b, h => by
    simp only [cellsEq] at h
    split at h
    · rename_i a c ha hc
      simp [cellsEq_len hc]
    · cases h
  | [], [], _ :: _, b, h => by simp [cellsEq] at h
  | [], _ :: _, _, b, h => by simp [cellsEq] at h
  | _ :: _, [], _, b, h => by simp [cellsEq] at h
  | _ :: _, _ :: _, [], b, h => by simp [cellsEq] at h

theorem cellsEq_split : ∀ {ks ks' : List Nat} {xs ys : List V} {b : Bool}, cellsEq (ks ++ ks') xs ys = some b →
    ∃ b1 b2, cellsEq ks (xs.take ks.length) (ys.take ks.length) = some b1 ∧ cellsEq ks' (xs.drop ks.length) (ys.drop ks.length) = some b2 ∧ b = (b1 && b2)
  | [], ks', xs, ys, b, h => ⟨true, b, by simp [cellsEq], by simpa using h, by simp⟩
  | k :: ks, ks', x :: xs, y :: ys, b, h => by
    simp only [List.cons_append, cellsEq] at h
    split at h
    · rename_i a c ha hc
      cases h
      obtain ⟨b1, b2, h1, h2, h3⟩ := cellsEq_split hc
      exact ⟨a && b1, b2, by simp [cellsEq, ha, h1], by simpa using h2, by rw [h3, Bool.and_assoc]⟩
    · cases h
  | _ :: _, _, [], _, b, h => by simp [cellsEq] at h
  | _ :: _, _, _ :: _, [], b, h => by simp [cellsEq] at h

/-- THE LAW OF EQUALITY: what the model answers at two values that stand in cells is what the cells say. -/
theorem equal_part (d : Nat) : ∀ (D : Nat) (t : TypeId) (ks : List Nat), d ≤ D → eqT P d t = some ks → sz P t = some ks.length → ∀ (xs ys : List V) (vx vy : Array Value) (off : Nat) (b : Bool),
    VRs w F β xs (vx.toList.drop off |>.take ks.length) → VRs w F β ys (vy.toList.drop off |>.take ks.length) → cellsEq ks xs ys = some b →
    (do let u ← part t vx off; let v ← part t vy off; Op.equalIn D t u v).run P w = .ok b w := by
  induction d with
  | zero => intro D t ks _ hE; simp [eqT] at hE
  | succ d ih =>
    intro D t ks hD hE hsz xs ys vx vy off b hx hy hb
    obtain ⟨D, rfl⟩ : ∃ D', D = D' + 1 := ⟨D - 1, by omega⟩
    have single : ∀ dd (kk : Nat), P.underlying t = some dd → aggD dd = false → ks = [kk] →
        ∃ x y u v, xs = [x] ∧ ys = [y] ∧ scalarEq kk x y = some b ∧ VR w F β x u ∧ VR w F β y v ∧ (do let u ← part t vx off; let v ← part t vy off; Op.equalIn (D + 1) t u v).run P w = (Op.equalIn (D + 1) t u v).run P w := by
      intro dd kk hd hag hks
      subst hks
      obtain ⟨l1, l2⟩ := cellsEq_len hb
      match xs, ys, l1, l2 with
      | [x], [y], _, _ =>
        have hlx : off < vx.size := by have := hx.1; simp at this; omega
        have hly : off < vy.size := by have := hy.1; simp at this; omega
        have h1 : VR w F β x vx[off] := by simpa [List.getD_eq_getElem?_getD, List.getElem?_take, List.getElem?_drop, hlx] using hx.2 0 x rfl
        have h2 : VR w F β y vy[off] := by simpa [List.getD_eq_getElem?_getD, List.getElem?_take, List.getElem?_drop, hly] using hy.2 0 y rfl
        refine ⟨x, y, _, _, rfl, rfl, ?_, h1, h2, ?_⟩
        · simp only [cellsEq] at hb
          split at hb
          · rename_i a c ha hc; cases hc; simpa [ha] using hb
          · cases hb
        · cases dd <;> simp [aggD] at hag <;> simp [part, isAgg, run_underlying hd, hlx, hly]
    simp only [eqT] at hE
    split at hE
    · rename_i k hu
      cases hE
      obtain ⟨x, y, u, v, rfl, rfl, hs, h1, h2, hrun⟩ := single _ 0 hu rfl rfl
      rw [hrun]
      unfold scalarEq at hs
      split at hs
      · split at hs
        · rename_i hk
          obtain ⟨_, rfl⟩ := hk
          cases hs; cases h1; cases h2
          rw [run_equalIn_int w D t _ _ _ _ hu]; rfl
        · cases hs
      · split at hs
        · rename_i hk; cases hk
        · cases hs
      · split at hs
        · rename_i hk; cases hk
        · cases hs
      · cases hs
    · rename_i hu
      cases hE
      obtain ⟨x, y, u, v, rfl, rfl, hs, h1, h2, hrun⟩ := single _ 1 hu rfl rfl
      rw [hrun]
      unfold scalarEq at hs
      split at hs
      · split at hs
        · rename_i hk; cases hk.1
        · cases hs
      · simp at hs
        subst hs
        rename_i p q
        cases h1; cases h2
        rw [run_equalIn_bool' w D t _ _ hu]; cases p <;> cases q <;> rfl
      · split at hs
        · rename_i hk; cases hk
        · cases hs
      · cases hs
    · rename_i hu
      cases hE
      obtain ⟨x, y, u, v, rfl, rfl, hs, h1, h2, hrun⟩ := single _ 2 hu rfl rfl
      rw [hrun]
      unfold scalarEq at hs
      split at hs
      · split at hs
        · rename_i hk; cases hk.1
        · cases hs
      · split at hs
        · rename_i hk; cases hk
        · cases hs
      · simp at hs
        subst hs
        cases h1; cases h2
        rw [run_equalIn_string w D t _ _ hu, list_beq_bytes]
      · cases hs
    · rename_i fs hu
      split at hE
      · cases hE
      · rename_i hst
        unfold sz at hsz
        cases hi : P.info? t with
        | none => simp [hi] at hsz
        | some i =>
          simp [hi] at hsz
          have hfs : P.fieldsOf t = fs := by simp [Program.fieldsOf, hu]
          have hp : ∀ (vv : Array Value), (part t vv off).run P w = .ok (.agg (vv.toList.drop off |>.take ks.length).toArray) w := by
            intro vv
            have hex : vv.extract off (off + ks.length) = (vv.toList.drop off |>.take ks.length).toArray := by
              apply Array.ext'
              simp [List.drop_take]
            simp [part, isAgg, run_underlying hu, sizeOf, typeInfo, hi, hsz, hex]
          have hst' : P.stoodInHeld t = false := by simpa using hst
          simp only [Sem.run_bind, hp, Result.andThen_ok]
          rw [run_equalIn_struct w D t _ _ (by rw [hfs]; exact hu) hst', hfs]
          generalize hvx : (vx.toList.drop off |>.take ks.length) = lx at hx
          generalize hvy : (vy.toList.drop off |>.take ks.length) = ly at hy
          have key : ∀ (fl : List Field) (k2 : List Nat) (o : Nat) (b : Bool), eqFs P (eqT P d) fl o = some k2 → ∀ (xs ys : List V), VRs w F β xs ((lx.drop o).take k2.length) → VRs w F β ys ((ly.drop o).take k2.length) →
              cellsEq k2 xs ys = some b → (Op.eqFields D lx.toArray ly.toArray fl).run P w = .ok b w := by
            intro fl
            induction fl with
            | nil =>
              intro k2 o b hk xs ys hx hy hc
              simp [eqFs] at hk
              subst hk
              obtain ⟨l1, l2⟩ := cellsEq_len hc
              match xs, ys, l1, l2 with
              | [], [], _, _ => simp [cellsEq] at hc; subst hc; simp [Op.eqFields]
            | cons f fl ihf =>
              intro k2 o b hk xs ys hx hy hc
              simp only [eqFs] at hk
              split at hk
              · rename_i hn
                split at hk
                · rename_i k1 hk1
                  split at hk
                  · rename_i hs1
                    simp only [Option.map_eq_some_iff] at hk
                    obtain ⟨k3, hk3, rfl⟩ := hk
                    obtain ⟨b1, b2, hb1, hb2, rfl⟩ := cellsEq_split hc
                    have e1 : ((lx.drop o).take (k1 ++ k3).length).take k1.length = (lx.drop o).take k1.length := by rw [List.take_take]; congr 1; simp
                    have e1' : ((ly.drop o).take (k1 ++ k3).length).take k1.length = (ly.drop o).take k1.length := by rw [List.take_take]; congr 1; simp
                    have e2 : ((lx.drop o).take (k1 ++ k3).length).drop k1.length = (lx.drop (o + k1.length)).take k3.length := by rw [List.drop_take, List.drop_drop]; congr 1; simp
                    have e2' : ((ly.drop o).take (k1 ++ k3).length).drop k1.length = (ly.drop (o + k1.length)).take k3.length := by rw [List.drop_take, List.drop_drop]; congr 1; simp
                    have hx1 := VRs.take k1.length hx
                    have hy1 := VRs.take k1.length hy
                    have hx2 := VRs.drop k1.length hx
                    have hy2 := VRs.drop k1.length hy
                    rw [e1] at hx1; rw [e1'] at hy1; rw [e2] at hx2; rw [e2'] at hy2
                    have hone := ih D f.type k1 (by omega) hk1 hs1 _ _ lx.toArray ly.toArray f.offset b1 (by rw [hn.2]; exact hx1) (by rw [hn.2]; exact hy1) hb1
                    have hrest := ihf k3 (o + k1.length) b2 hk3 _ _ hx2 hy2 hb2
                    simp only [Op.eqFields, hn.1, ne_eq, not_false_eq_true, if_true]
                    simp only [Sem.run_bind] at hone ⊢
                    generalize (part f.type lx.toArray f.offset).run P w = r1 at hone ⊢
                    cases r1 with
                    | ok u w1 =>
                      simp only [Result.andThen_ok] at hone ⊢
                      generalize (part f.type ly.toArray f.offset).run P w1 = r2 at hone ⊢
                      cases r2 with
                      | ok v w2 =>
                        simp only [Result.andThen_ok] at hone ⊢
                        rw [hone]
                        cases b1
                        · simp
                        · simpa using hrest
                      | halt h w2 => simp at hone
                    | halt h w1 => simp at hone
                  · cases hk
                · cases hk
              · cases hk
          refine key fs.toList ks 0 b hE xs ys ?_ ?_ hb
          · rw [List.drop_zero, ← hvx, List.take_take, Nat.min_self, hvx]; exact hx
          · rw [List.drop_zero, ← hvy, List.take_take, Nat.min_self, hvy]; exact hy
    · cases hE

end
end Go.Proofs.YtffigokicddekaaGreat.Abs
/- The rest of the operations that write nothing. No condition. -/
set_option linter.unusedVariables false
set_option linter.unusedSimpArgs false
namespace Go.Proofs.YtffigokicddekaaGreat.Abs
open Go

section
variable {P : Program} {σ : Store} {β : Ids} {F : Nat → Prop} {w : World} {a : Env} {act : Act}

theorem eqs_ok (ha : EnvR w F β a act) {ks : List Nat} {neg : Bool} {t : TypeId} {d : Nat} {fs : Array Field} {i : TypeInfo} (hu : P.underlying t = some (.struct fs)) (hE : eqT P d t = some ks) (hd : d ≤ 10000) (hsz : sz P t = some ks.length)
    (hg : P.eqGuardType P.depth t = false)
    {x y : Operand} {v : V} {σ' : Store} (h : astep (.eqs ks neg (opdOf x) (opdOf y)) a σ = some (v, σ')) :
    σ' = σ ∧ ∃ val, (do eqGuard (if neg then .neq else .eql) t x y (act.eval x) (act.eval y); binOp (if neg then .neq else .eql) t (act.eval x) (act.eval y)).run P w = .ok val w ∧ VR w F β v val := by
  have hx := opd_ok ha x
  have hy := opd_ok ha y
  simp only [astep] at h
  split at h
  · rename_i xs ys hop1 hop2
    rw [hop1] at hx; rw [hop2] at hy
    simp only [Option.map_eq_some_iff, Prod.mk.injEq] at h
    obtain ⟨b, hb, rfl, rfl⟩ := h
    refine ⟨rfl, ?_⟩
    obtain ⟨vx, hvx, hx'⟩ := agg_inv hx
    obtain ⟨vy, hvy, hy'⟩ := agg_inv hy
    obtain ⟨l1, l2⟩ := cellsEq_len hb
    have ex : (vx.toList.drop 0).take ks.length = vx.toList := by rw [List.drop_zero, List.take_of_length_le]; rw [← hx'.1]; omega
    have ey : (vy.toList.drop 0).take ks.length = vy.toList := by rw [List.drop_zero, List.take_of_length_le]; rw [← hy'.1]; omega
    have hrun := equal_part (P := P) (w := w) (F := F) (β := β) d Op.maxDepth t ks (by unfold Op.maxDepth; exact hd) hE hsz xs ys vx vy 0 b (by rw [ex]; exact hx') (by rw [ey]; exact hy') hb
    have hi : ∃ i, P.info? t = some i ∧ i.size = ks.length := by
      unfold sz at hsz
      cases hi : P.info? t with
      | none => simp [hi] at hsz
      | some i => simp [hi] at hsz; exact ⟨i, rfl, hsz⟩
    obtain ⟨i, hi, his⟩ := hi
    have hp : ∀ (vv : Array Value), vv.size = ks.length → (part t vv 0).run P w = .ok (.agg vv) w := by
      intro vv hvv
      have : vv.extract 0 (0 + ks.length) = vv := by
        rw [Nat.zero_add, ← hvv, Array.extract_size]
      simp [part, isAgg, run_underlying hu, sizeOf, typeInfo, hi, his]
      simpa using this
    have sx : vx.size = ks.length := by have := hx'.1; simp at this; omega
    have sy : vy.size = ks.length := by have := hy'.1; simp at this; omega
    simp only [Sem.run_bind, hp vx sx, hp vy sy, Result.andThen_ok] at hrun
    rw [hvx, hvy]
    have hgd : ∀ op, (eqGuard op t x y (.agg vx) (.agg vy)).run P w = .ok () w := by
      intro op
      cases op <;> simp [eqGuard, hg]
    cases neg
    · refine ⟨.bool b, ?_, .bool _ _⟩
      simp only [Sem.run_bind, hgd, Result.andThen_ok, Bool.false_eq_true, if_false]
      simp [binOp, Op.equal, hrun]
    · refine ⟨.bool (!b), ?_, .bool _ _⟩
      simp only [Sem.run_bind, hgd, Result.andThen_ok, if_true]
      simp [binOp, Op.equal, hrun]
  · cases h

theorem len_ok (ha : EnvR w F β a act) {t ty e : TypeId} (hu : P.underlying t = some (.slice e))
    {x : Operand} {v : V} {σ' : Store} (h : astep (.len (opdOf x)) a σ = some (v, σ')) :
    σ' = σ ∧ ∃ val, (Builtin.len_ #[t] ty #[act.eval x]).run P w = .ok val w ∧ VR w F β v val := by
  have hx := opd_ok ha x
  simp only [astep, Option.map_eq_some_iff, Prod.mk.injEq] at h
  obtain ⟨n, hn, rfl, rfl⟩ := h
  refine ⟨rfl, .int .i64 n, ?_, .int _ _ _⟩
  generalize act.eval x = av at hx
  unfold lenV at hn
  split at hn
  · rename_i hop; rw [hop] at hx; cases hn; cases hx; simp [Builtin.len_, run_underlying hu, goInt]
  · rename_i hop; rw [hop] at hx; cases hn; cases hx <;> simp [Builtin.len_, run_underlying hu, goInt]
  · rename_i hop; rw [hop] at hx; cases hn; cases hx <;> simp [Builtin.len_, run_underlying hu, goInt]
  · cases hn

theorem slen_ok (ha : EnvR w F β a act) {t ty : TypeId} (hu : P.underlying t = some .string)
    {x : Operand} {v : V} {σ' : Store} (h : astep (.slen (opdOf x)) a σ = some (v, σ')) :
    σ' = σ ∧ ∃ val, (Builtin.len_ #[t] ty #[act.eval x]).run P w = .ok val w ∧ VR w F β v val := by
  have hx := opd_ok ha x
  simp only [astep] at h
  split at h
  · rename_i b hop
    rw [hop] at hx
    cases h
    refine ⟨rfl, .int .i64 b.size, ?_, .int _ _ _⟩
    generalize act.eval x = av at hx
    cases hx
    simp [Builtin.len_, run_underlying hu, goInt]
  · cases h

theorem pick_ok (ha : EnvR w F β a act) {c x y : Operand} {v : V} {σ' : Store} (h : astep (.pick (opdOf c) (opdOf x) (opdOf y)) a σ = some (v, σ')) :
    σ' = σ ∧ ∃ val, (do pure (Next.value (if ← asBool (act.eval c) then act.eval x else act.eval y)) : Sem Next).run P w = .ok (.value val) w ∧ VR w F β v val := by
  have hc := opd_ok ha c
  have hx := opd_ok ha x
  have hy := opd_ok ha y
  simp only [astep] at h
  split at h
  · rename_i b hop
    rw [hop] at hc
    cases h
    refine ⟨rfl, (if b then act.eval x else act.eval y), ?_, ?_⟩
    · generalize act.eval c = cv at hc
      cases hc
      simp [asBool]
    · cases b <;> simp [hx, hy]
  · cases h

theorem nilc_ok (ha : EnvR w F β a act) {x : Operand} {v : V} {σ' : Store} (h : astep (.nilc (opdOf x)) a σ = some (v, σ')) :
    σ' = σ ∧ VR w F β v (act.eval x) ∧ ∃ ad, act.eval x = .pointer (some ad) := by
  have hx := opd_ok ha x
  simp only [astep] at h
  split at h
  · rename_i o s e c hop
    rw [hop] at hx
    cases h
    refine ⟨rfl, hx, ?_⟩
    generalize act.eval x = av at hx
    cases hx
    exact ⟨_, rfl⟩
  · rename_i cs hop
    rw [hop] at hx
    cases h
    refine ⟨rfl, hx, ?_⟩
    generalize act.eval x = av at hx
    cases hx
    exact ⟨_, rfl⟩
  · cases h

theorem not_ok (ha : EnvR w F β a act) {x : Operand} {v : V} {σ' : Store} (h : astep (.not (opdOf x)) a σ = some (v, σ')) :
    σ' = σ ∧ ∃ val, (Op.unary .not (act.eval x)).run P w = .ok val w ∧ VR w F β v val := by
  have hx := opd_ok ha x
  simp only [astep] at h
  split at h
  · rename_i b hop
    rw [hop] at hx
    cases h
    refine ⟨rfl, .bool (!b), ?_, .bool _ _⟩
    generalize act.eval x = av at hx
    cases hx
    simp [Op.unary]
  · cases h

theorem neg_ok (ha : EnvR w F β a act) {x : Operand} {v : V} {σ' : Store} (h : astep (.neg (opdOf x)) a σ = some (v, σ')) :
    σ' = σ ∧ ∃ val, (Op.unary .neg (act.eval x)).run P w = .ok val w ∧ VR w F β v val := by
  have hx := opd_ok ha x
  simp only [astep] at h
  split at h
  · rename_i k n hop
    rw [hop] at hx
    cases h
    refine ⟨rfl, .int k (k.wrap (0 - n)), ?_, .int _ _ _⟩
    generalize act.eval x = av at hx
    cases hx
    simp [Op.unary, Op.intArith]
  · cases h

theorem cint_ok (ha : EnvR w F β a act) {t u : TypeId} {k k' : IntKind} (ht : P.underlying t = some (.int k')) (hu : P.underlying u = some (.int k)) {x : Operand} {v : V} {σ' : Store} (h : astep (.cint k (opdOf x)) a σ = some (v, σ')) :
    σ' = σ ∧ ∃ val, (convert t u (act.eval x)).run P w = .ok val w ∧ VR w F β v val := by
  have hx := opd_ok ha x
  simp only [astep] at h
  split at h
  · rename_i k0 n hop
    rw [hop] at hx
    cases h
    refine ⟨rfl, .int k (k.wrap n), ?_, .int _ _ _⟩
    generalize act.eval x = av at hx
    cases hx
    simp [convert, run_underlying ht, run_underlying hu, Conv.intToInt]
  · cases h

theorem ext_ok (ha : EnvR w F β a act) {x : Operand} {i : Nat} {v : V} {σ' : Store} (h : astep (.ext (opdOf x) i) a σ = some (v, σ')) :
    σ' = σ ∧ ∃ val, (Instr.extract (act.eval x) i).run P w = .ok val w ∧ VR w F β v val := by
  have hx := opd_ok ha x
  simp only [astep] at h
  split at h
  · rename_i vs hop
    rw [hop] at hx
    simp only [Option.map_eq_some_iff, Prod.mk.injEq] at h
    obtain ⟨y, hy, rfl, rfl⟩ := h
    refine ⟨rfl, ?_⟩
    obtain ⟨us, hus, hr⟩ := tup_inv hx
    have hlt := (List.getElem?_eq_some_iff.1 hy).1
    have hlt' : i < us.size := by have := hr.1; simp at this; omega
    refine ⟨us[i], ?_, ?_⟩
    · rw [hus]; simp [Instr.extract, hlt']
    · simpa [List.getD_eq_getElem?_getD, hlt'] using hr.2 i y hy
  · cases h

theorem max_ok (ha : EnvR w F β a act) {ts : Array TypeId} {t : TypeId} {x y : Operand} {v : V} {σ' : Store} (h : astep (.max [opdOf x, opdOf y]) a σ = some (v, σ')) :
    σ' = σ ∧ ∃ val, (Builtin.max_ ts t #[act.eval x, act.eval y]).run P w = .ok val w ∧ VR w F β v val := by
  have hx := opd_ok ha x
  have hy := opd_ok ha y
  simp only [astep, List.map_cons, List.map_nil] at h
  split at h
  · rename_i k m k' n hop
    simp only [List.cons.injEq, and_true] at hop
    rw [hop.1] at hx
    rw [hop.2] at hy
    split at h
    · cases h
      refine ⟨rfl, .int k (if n > m then n else m), ?_, .int _ _ _⟩
      generalize act.eval x = av at hx
      generalize act.eval y = bv at hy
      cases hx; cases hy
      exact run_max_int2 w ts t _ _ _ _
    · cases h
  · cases h

theorem min_ok (ha : EnvR w F β a act) {ts : Array TypeId} {t : TypeId} {x y : Operand} {v : V} {σ' : Store} (h : astep (.min [opdOf x, opdOf y]) a σ = some (v, σ')) :
    σ' = σ ∧ ∃ val, (Builtin.min_ ts t #[act.eval x, act.eval y]).run P w = .ok val w ∧ VR w F β v val := by
  have hx := opd_ok ha x
  have hy := opd_ok ha y
  simp only [astep, List.map_cons, List.map_nil] at h
  split at h
  · rename_i k m k' n hop
    simp only [List.cons.injEq, and_true] at hop
    rw [hop.1] at hx
    rw [hop.2] at hy
    split at h
    · cases h
      refine ⟨rfl, .int k (if n < m then n else m), ?_, .int _ _ _⟩
      generalize act.eval x = av at hx
      generalize act.eval y = bv at hy
      cases hx; cases hy
      exact run_min_int2 w ts t _ _ _ _
    · cases h
  · cases h

theorem fillV_ok {pl : Nat → Option (Nat × Nat)} : ∀ {ps : List (Nat × Value)} {qs : List (Nat × Nat × V)} {z : List V} {zv : Array Value} {cs : List V},
    VRs w F β z zv.toList → ps.length = qs.length → (∀ (j : Nat) p, ps[j]? = some p → ∃ q, qs[j]? = some q ∧ pl p.1 = some (q.1, q.2.1) ∧ VR w F β q.2.2 p.2) → fillV z qs = some cs →
    ∃ cv, Instr.fill pl zv ps = some cv ∧ VRs w F β cs cv.toList
  | [], [], z, zv, cs, hz, _, _, h => by simp [fillV] at h; subst h; exact ⟨zv, rfl, hz⟩
  | [], _ :: _, _, _, _, _, hl, _, _ => by simp at hl
  | _ :: _, [], _, _, _, _, hl, _, _ => by simp at hl
  | (i, v) :: ps, (off, size, x) :: qs, z, zv, cs, hz, hl, hp, h => by
    obtain ⟨q, hq, hpl, hv⟩ := hp 0 (i, v) rfl
    simp at hq; subst hq
    simp only [fillV] at h
    split at h
    · rename_i xs hxs
      split at h
      · rename_i hc
        obtain ⟨hv1, hv2⟩ := cells_ok hxs hv
        have hsz : v.cells.size = size := by have := hv1.1; simp at this; omega
        have hzl : zv.size = z.length := by have := hz.1; simp at this; omega
        have hnew : VRs w F β (splice z off xs) (zv.toList.take off ++ v.cells.toList ++ zv.toList.drop (off + v.cells.size)) := by
          unfold splice
          have : xs.length = v.cells.size := by have := hv1.1; simpa using this
          rw [this]
          exact ((hz.take off).append hv1).append (hz.drop _)
        have hfold : (v.cells.zipIdx.foldl (fun cs (p : Value × Nat) => cs.setIfInBounds (off + p.2) p.1) zv).toList = zv.toList.take off ++ v.cells.toList ++ zv.toList.drop (off + v.cells.size) := by
          have aux : ∀ (l : List Value) (k : Nat) (acc : Array Value), off + k + l.length ≤ acc.size →
              ((l.zipIdx k).foldl (fun cs (p : Value × Nat) => cs.setIfInBounds (off + p.2) p.1) acc).toList = acc.toList.take (off + k) ++ l ++ acc.toList.drop (off + k + l.length) := by
            intro l
            induction l with
            | nil => intro k acc h; simp
            | cons y l ih =>
              intro k acc h
              simp only [List.zipIdx_cons, List.foldl_cons]
              rw [ih (k + 1) _ (by simp at h ⊢; omega)]
              have e := list_seg_step acc.toList (off + k) y l (by simp at h ⊢; omega)
              simpa [Array.toList_setIfInBounds, Nat.add_assoc] using e
          have := aux v.cells.toList 0 zv (by simp; omega)
          rw [← Array.foldl_toList]
          simpa [Array.toList_zipIdx] using this
        have hcond : ¬ (v.cells.size ≠ size ∨ off + v.cells.size > zv.size) := by omega
        obtain ⟨cv, h1, h2⟩ := fillV_ok (ps := ps) (qs := qs) (zv := v.cells.zipIdx.foldl (fun cs (p : Value × Nat) => cs.setIfInBounds (off + p.2) p.1) zv) (by rw [hfold]; exact hnew) (by simpa using hl)
          (fun j p hj => by simpa using hp (j + 1) p (by simpa using hj)) h
        refine ⟨cv, ?_, h2⟩
        simp only [Instr.fill, hpl]
        rw [if_neg (by simpa using hcond)]
        exact h1
      · cases h
    · cases h

end
end Go.Proofs.YtffigokicddekaaGreat.Abs
/- The operations that make objects. No condition. -/
set_option linter.unusedVariables false
set_option linter.unusedSimpArgs false
namespace Go.Proofs.YtffigokicddekaaGreat.Abs
open Go

def partsOf (places : List (Nat × Nat)) : List (Nat × Operand) → Option (List (Nat × Nat × Opd))
  | [] => some []
  | (i, x) :: r => match places[i]?, partsOf places r with
    | some q, some l => some ((q.1, q.2, opdOf x) :: l)
    | _, _ => none

theorem partsOf_get {places : List (Nat × Nat)} : ∀ {ps : List (Nat × Operand)} {l : List (Nat × Nat × Opd)}, partsOf places ps = some l →
    ps.length = l.length ∧ ∀ (j : Nat) i x, ps[j]? = some (i, x) → ∃ q, places[i]? = some q ∧ l[j]? = some (q.1, q.2, opdOf x)
  | [], l, h => by simp [partsOf] at h; subst h; simp
  | (i, x) :: r, l, h => by
    simp only [partsOf] at h
    split at h
    · rename_i q l' hq hl'
      cases h
      obtain ⟨h1, h2⟩ := partsOf_get hl'
      refine ⟨by simp [h1], fun j i' x' hj => ?_⟩
      cases j with
      | zero => simp at hj; obtain ⟨rfl, rfl⟩ := hj; exact ⟨q, hq, rfl⟩
      | succ j => simpa using h2 j i' x' (by simpa using hj)
    · cases h

section
variable {P : Program} {σ : Store} {β : Ids} {F : Nat → Prop} {w : World} {a : Env} {act : Act}

theorem build_ok (ha : EnvR w F β a act) {t : TypeId} {fs : Array Field} {places : List (Nat × Nat)} {z : List V} (hu : P.underlying t = some (.struct fs))
    (hp : fs.toList.mapM (fun f => (P.info? f.type).map fun i => (f.offset, i.size)) = some places) (hz : zeroOf P t = some z)
    {ps : Array (Nat × Operand)} {l : List (Nat × Nat × Opd)} (hl : partsOf places ps.toList = some l) {v : V} {σ' : Store} (h : astep (.build z l) a σ = some (v, σ')) :
    σ' = σ ∧ ∃ val, (Instr.build t (ps.map fun (i, x) => (i, act.eval x))).run P w = .ok val w ∧ VR w F β v val := by
  simp only [astep, Option.map_eq_some_iff, Prod.mk.injEq] at h
  obtain ⟨cs, hcs, rfl, rfl⟩ := h
  refine ⟨rfl, ?_⟩
  obtain ⟨it, zv, hit, hzz, hzr⟩ := zeroOf_ok hz w F β
  obtain ⟨g1, g2⟩ := partsOf_get hl
  obtain ⟨cv, h1, h2⟩ := fillV_ok (w := w) (F := F) (β := β) (pl := fun i => places[i]?) (ps := (ps.toList.map fun p => (p.1, act.eval p.2))) (qs := l.map fun p => (p.1, p.2.1, p.2.2.ev a)) (zv := zv.cells) hzr (by simp [g1]) (by
    intro j p hj
    simp only [List.getElem?_map, Option.map_eq_some_iff] at hj
    obtain ⟨⟨i, x⟩, hx, rfl⟩ := hj
    obtain ⟨q, hq, hlj⟩ := g2 j i x hx
    exact ⟨(q.1, q.2, (opdOf x).ev a), by simp [hlj], by simpa using hq, opd_ok ha x⟩) hcs
  refine ⟨.agg cv, ?_, agg_mk h2⟩
  apply run_build
  unfold Program.built
  simp only [hit, hu, hzz, hp]
  simpa using h1

theorem alloc_ok (hr : Rel σ β F w) {t : TypeId} {s id : Nat} {z : List V} (hs : sz P t = some s) (hz : zeroOf P t = some z) (hl : z.length = s) (h1 : ∀ i v, P.info? t = some i → i.zero = some v → v.cells.all (·.oneCell') = true) {v : V} {σ' : Store} (h : astep (.alloc id s z) a σ = some (v, σ')) :
    ∃ val w' β', (Instr.alloc t true (.tuple #[])).run P w = .ok val w' ∧ VR w' F β' v val ∧ After σ' β β' F F w w' := by
  simp only [astep] at h
  split at h
  · rename_i hid
    cases h
    obtain ⟨it, zv, hit, hzz, hzr⟩ := zeroOf_ok hz w F β
    have hlies : Lies w F β ⟨s, [z]⟩ zv.cells := by
      intro e l he
      cases e with
      | zero =>
        simp at he; subst he
        refine ⟨hl, by have := hzr.1; simp at this; simp; omega, fun j x hx => ⟨?_, ?_⟩⟩
        · simpa [Array.getD_eq_getD_getElem?, List.getD_eq_getElem?_getD] using hzr.2 j x hx
        · have hj : j < zv.cells.size := by have := hzr.1; have := (List.getElem?_eq_some_iff.1 hx).1; simp at *; omega
          have := (Array.all_eq_true.1 (h1 it zv hit hzz)) j hj
          simpa [Array.getD_eq_getD_getElem?, hj] using this
      | succ e => simp at he
    have hA := After.new (w' := w.alloc (.cells zv.cells t)) (elem := t) (fr := (0, 0)) hr hid rfl rfl rfl rfl (fun i _ h => by omega) hlies
    refine ⟨.pointer (some ⟨w.heap.size, 0, none⟩), w.alloc (.cells zv.cells t), _, ?_, ?_, hA⟩
    · simp [Instr.alloc, zeroValue, typeInfo, hit, hzz, newVar, newRow]
    · simpa using VR.ptr (w := w.alloc (.cells zv.cells t)) (F := F) (β.put id w.heap.size) id s 0 0 w.heap.size (by simp [Ids.put])
  · cases h

theorem box_ok (hr : Rel σ β F w) (ha : EnvR w F β a act) {t : TypeId} {s id : Nat} {x : Operand} {v : V} {σ' : Store} (h : astep (.box id s (opdOf x)) a σ = some (v, σ')) :
    ∃ val w' β', (Instr.box t (act.eval x)).run P w = .ok val w' ∧ VR w' F β' v val ∧ After σ' β β' F F w w' := by
  have hx := opd_ok ha x
  simp only [astep] at h
  split at h
  · rename_i cs hcs
    split at h
    · rename_i hc
      obtain ⟨hid, hl⟩ := hc
      cases h
      obtain ⟨hv, h1⟩ := cells_ok hcs hx
      have hlies : Lies w F β ⟨s, [cs]⟩ (act.eval x).cells := by
        intro e l he
        cases e with
        | zero =>
          simp at he; subst he
          refine ⟨hl, by have := hv.1; simp at this; simp; omega, fun j y hy => ⟨?_, ?_⟩⟩
          · simpa [Array.getD_eq_getD_getElem?, List.getD_eq_getElem?_getD] using hv.2 j y hy
          · have hj : j < (act.eval x).cells.size := by have := hv.1; have := (List.getElem?_eq_some_iff.1 hy).1; simp at *; omega
            have := h1 ((act.eval x).cells[j]) (by simp)
            simpa [Array.getD_eq_getD_getElem?, hj] using this
        | succ e => simp at he
      have hA := After.new (w' := w.alloc (.cells (act.eval x).cells t)) (elem := t) (fr := (0, 0)) hr hid rfl rfl rfl rfl (fun i _ h => by omega) hlies
      refine ⟨.pointer (some ⟨w.heap.size, 0, none⟩), w.alloc (.cells (act.eval x).cells t), _, ?_, ?_, hA⟩
      · simp [Instr.box, newVar, newRow]
      · simpa using VR.ptr (w := w.alloc (.cells (act.eval x).cells t)) (F := F) (β.put id w.heap.size) id s 0 0 w.heap.size (by simp [Ids.put])
    · cases h
  · cases h

theorem run_storeCells_any (g o : Nat) (t : TypeId) (fr : Nat × Nat) : ∀ (vs : List Value) (i : Nat) (cur : Array Value) (w : World), w.heap[g]? = some (.cells cur t fr) → (∀ j, j < vs.length → ¬ (fr.1 ≤ o + i + j ∧ o + i + j < fr.2)) → o + i + vs.length ≤ cur.size → (∀ v ∈ vs, v.oneCell' = true) →
    (storeCells ⟨g, o, none⟩ vs i).run P w = .ok () (w.setRow g (cur.toList.take (o + i) ++ vs ++ cur.toList.drop (o + i + vs.length)).toArray)
  | [], i, cur, w, hg, _, _, _ => by
    simp only [storeCells, List.append_nil, List.length_nil, Nat.add_zero, List.take_append_drop, Array.toArray_toList]
    rw [setRow_self w g cur t fr hg]
    rfl
  | v :: rest, i, cur, w, hg, hfz, hl, h1 => by
    have hi : o + i < cur.size := by simp at hl; omega
    have hcell : w.cell? ⟨g, o + i, none⟩ = some cur[o + i] := by simp [World.cell?, hg, hi]
    have hfro : w.frozen? ⟨g, o + i, none⟩ = false := by
      have := hfz 0 (by simp)
      simp only [World.frozen?, hg, Bool.and_eq_false_iff, decide_eq_false_iff_not]
      simp only [Nat.add_zero] at this
      omega
    have hst : (store ((⟨g, o, none⟩ : Addr).add i) v).run P w = .ok () (w.setRow g (cur.setIfInBounds (o + i) v)) := by
      rw [addr_add, run_store P w _ v _ (h1 v (by simp)), hcell]
      simp [hfro, setCell_eq_setRow w g (o + i) cur t fr v hg]
    have ih := run_storeCells_any g o t fr rest (i + 1) (cur.setIfInBounds (o + i) v) (w.setRow g (cur.setIfInBounds (o + i) v)) (setRow_heap w g cur _ t _ hg)
      (fun j hj => by have := hfz (j + 1) (by simp; omega); rwa [show o + i + (j + 1) = o + (i + 1) + j by omega] at this) (by simp at hl ⊢; omega) (fun x hx => h1 x (by simp [hx]))
    simp only [storeCells, Sem.run_bind, hst, Result.andThen_ok, ih, setRow_setRow]
    congr 3
    have e := list_seg_step cur.toList (o + i) v rest (by simp at hl ⊢; omega)
    simpa [Array.toList_setIfInBounds, Nat.add_assoc] using e

theorem getD_mid {α : Type} (A M B : List α) (n : Nat) (d : α) : (A ++ M ++ B).toArray.getD n d = if n < A.length then A.getD n d else if n < A.length + M.length then M.getD (n - A.length) d else B.getD (n - A.length - M.length) d := by
  simp only [Array.getD_eq_getD_getElem?, List.getElem?_toArray, List.getD_eq_getElem?_getD]
  split
  · rename_i h; rw [List.append_assoc, List.getElem?_append_left h]
  · rename_i h
    rw [List.append_assoc, List.getElem?_append_right (by omega)]
    split
    · rename_i h2; rw [List.getElem?_append_left (by omega)]
    · rename_i h2; rw [List.getElem?_append_right (by omega)]

theorem store_ok (hr : Rel σ β F w) (ha : EnvR w F β a act) {t : TypeId} {s : Nat} {x y : Operand} {v : V} {σ' : Store} (hs : sz P t = some s) (h : astep (.store s (opdOf x) (opdOf y)) a σ = some (v, σ')) :
    v = .unk ∧ ∃ w' β', (Instr.storeAt t (act.eval x) (act.eval y)).run P w = .ok () w' ∧ After σ' β β' F F w w' := by
  have hx := opd_ok ha x
  have hy := opd_ok ha y
  simp only [astep] at h
  split at h
  · rename_i o s' e c cs hop hcs
    rw [hop] at hx
    split at h
    · rename_i ob ho
      split at h
      · rename_i l hl
        split at h
        · rename_i hc
          obtain ⟨rfl, hlen, hfit⟩ := hc
          cases h
          refine ⟨rfl, ?_⟩
          obtain ⟨b, cc, elem, fr, hb, hh, hfr, hF, hL⟩ := hr.live o ob ho
          obtain ⟨hll, hfit2, hval⟩ := hL e l hl
          obtain ⟨hv, h1⟩ := cells_ok hcs hy
          generalize hxe : act.eval x = xv at hx
          cases hx with
          | ptr _ _ _ _ _ b' hb' =>
            rw [hb] at hb'; cases hb'
            have hvl : (act.eval y).cells.toList.length = s := by rw [← hv.1]; exact hlen
            have hcc : e * ob.s + c + s ≤ cc.size := by omega
            have hrun := run_storeCells_any (P := P) b (e * ob.s + c) elem fr (act.eval y).cells.toList 0 cc w hh (fun j hj => hfr _ (by omega)) (by omega) h1
            generalize hvs : (act.eval y).cells.toList = vs at *
            have hg : ∃ i, P.info? t = some i ∧ i.size = s := by
              unfold sz at hs
              cases hi : P.info? t with
              | none => simp [hi] at hs
              | some i => simp [hi] at hs; exact ⟨i, rfl, hs⟩
            obtain ⟨i, hi, his⟩ := hg
            have hcsz : (act.eval y).cells.size = s := by rw [← hvs] at hvl; simpa using hvl
            have hT := (After.turn (w' := w.setRow b (cc.toList.take (e * ob.s + c) ++ vs ++ cc.toList.drop (e * ob.s + c + vs.length)).toArray) (ob' := ⟨ob.s, ob.es.set e (splice l c cs)⟩)
              hr ho hb hh hfr hF (c' := (cc.toList.take (e * ob.s + c) ++ vs ++ cc.toList.drop (e * ob.s + c + vs.length)).toArray) (by simp; omega) rfl rfl rfl (by simp) (setRow_heap w b cc _ elem fr hh) (fun k hk => setRow_other w b k _ hk) ?_).1
            · refine ⟨_, β, ?_, hT⟩
              simp only [Nat.add_zero] at hrun
              simp [Instr.storeAt, Instr.sureAddr, storeVar, sizeOf, typeInfo, hi, his, hcsz, hvs, hrun]
            · intro e' l' he'
              dsimp only at he' ⊢
              simp only [List.getElem?_set] at he'
              have htl : (cc.toList.take (e * ob.s + c)).length = e * ob.s + c := by simp; omega
              split at he'
              · rename_i hee
                subst hee
                have helt := (List.getElem?_eq_some_iff.1 hl).1
                simp [helt] at he'
                subst he'
                refine ⟨by unfold splice; simp; omega, by simp; omega, fun j z hz => ?_⟩
                rw [getD_mid, htl]
                have hv2 : ∀ (k : Nat), k < vs.length → (vs.getD k undef).oneCell' = true := fun k hk => h1 _ (by simp [List.getD_eq_getElem?_getD, hk])
                unfold splice at hz
                by_cases h1' : j < c
                · rw [List.append_assoc, List.getElem?_append_left (by simp; omega), List.getElem?_take, if_pos h1'] at hz
                  rw [if_pos (by omega)]
                  have := hval j z hz
                  rw [List.getD_eq_getElem?_getD, List.getElem?_take, if_pos (by omega)]
                  simpa [Array.getD_eq_getD_getElem?] using this
                · rw [List.append_assoc, List.getElem?_append_right (by simp; omega)] at hz
                  have hlt : (l.take c).length = c := by simp; omega
                  rw [hlt] at hz
                  rw [if_neg (by omega)]
                  by_cases h2' : j < c + s
                  · rw [List.getElem?_append_left (by omega)] at hz
                    rw [if_pos (by omega)]
                    have := hv.2 _ z hz
                    rw [show e * ob.s + j - (e * ob.s + c) = j - c by omega]
                    exact ⟨this, hv2 _ (by omega)⟩
                  · rw [List.getElem?_append_right (by omega), List.getElem?_drop] at hz
                    rw [if_neg (by omega)]
                    have e1 : c + cs.length + (j - c - cs.length) = j := by omega
                    rw [e1] at hz
                    have := hval j z hz
                    rw [List.getD_eq_getElem?_getD, List.getElem?_drop]
                    have e2 : e * ob.s + c + vs.length + (e * ob.s + j - (e * ob.s + c) - vs.length) = e * ob.s + j := by omega
                    rw [e2]
                    simpa [Array.getD_eq_getD_getElem?] using this
              · rename_i hee
                obtain ⟨h3, h4, h5⟩ := hL e' l' he'
                refine ⟨h3, by simp; omega, fun j z hz => ?_⟩
                have hj : j < ob.s := by have := (List.getElem?_eq_some_iff.1 hz).1; omega
                have := h5 j z hz
                rw [getD_mid, htl]
                rcases Nat.lt_or_ge e' e with hlt | hge
                · have : e' * ob.s + ob.s ≤ e * ob.s := by
                    have := Nat.mul_le_mul_right ob.s (show e' + 1 ≤ e by omega)
                    rw [Nat.add_mul] at this; omega
                  rw [if_pos (by omega), List.getD_eq_getElem?_getD, List.getElem?_take, if_pos (by omega)]
                  simpa [Array.getD_eq_getD_getElem?] using h5 j z hz
                · have : e * ob.s + ob.s ≤ e' * ob.s := by
                    have := Nat.mul_le_mul_right ob.s (show e + 1 ≤ e' by omega)
                    rw [Nat.add_mul] at this; omega
                  rw [if_neg (by omega), if_neg (by omega), List.getD_eq_getElem?_getD, List.getElem?_drop]
                  have e2 : e * ob.s + c + vs.length + (e' * ob.s + j - (e * ob.s + c) - vs.length) = e' * ob.s + j := by omega
                  rw [e2]
                  simpa [Array.getD_eq_getD_getElem?] using h5 j z hz
        · cases h
      · cases h
    · cases h
  · cases h

end
end Go.Proofs.YtffigokicddekaaGreat.Abs
/- Rows: slices made, appended to, turned from and to strings. No condition. -/
set_option linter.unusedVariables false
set_option linter.unusedSimpArgs false
namespace Go.Proofs.YtffigokicddekaaGreat.Abs
open Go

theorem flat_len {s : Nat} : ∀ {es : List (List V)}, (∀ l ∈ es, l.length = s) → es.flatten.length = es.length * s
  | [], _ => by simp
  | l :: es, h => by
    have h1 := h l (by simp)
    have h2 := flat_len (es := es) (fun x hx => h x (by simp [hx]))
    simp [h1] at h2 ⊢
    rw [h2, Nat.add_mul]; omega

theorem flat_get {s : Nat} : ∀ {es : List (List V)} {e : Nat} {l : List V}, (∀ l ∈ es, l.length = s) → es[e]? = some l → ∀ j, j < s → es.flatten[e * s + j]? = l[j]?
  | [], e, l, _, h => by simp at h
  | l0 :: es, 0, l, hs, h => by
    intro j hj
    have h1 := hs l0 (by simp)
    simp at h; subst h
    simp only [List.flatten_cons, Nat.zero_mul, Nat.zero_add]
    rw [List.getElem?_append_left (by omega)]
  | l0 :: es, e + 1, l, hs, h => by
    intro j hj
    have h1 := hs l0 (by simp)
    have h2 := flat_get (es := es) (e := e) (l := l) (fun x hx => hs x (by simp [hx])) (by simpa using h) j hj
    simp only [List.flatten_cons]
    rw [List.getElem?_append_right (by rw [h1, Nat.add_mul]; omega), h1]
    have : (e + 1) * s + j - s = e * s + j := by rw [Nat.add_mul]; omega
    rw [this]; exact h2

/-- cells that stand in a row, as an object -/
theorem lies_flat {w : World} {F : Nat → Prop} {β : Ids} {s : Nat} {es : List (List V)} {vs : List Value} {c : Array Value} (hs : ∀ l ∈ es, l.length = s) (hv : VRs w F β es.flatten vs) (h1 : ∀ u ∈ vs, u.oneCell' = true)
    (hc : ∀ k, k < vs.length → c.getD k undef = vs.getD k undef) (hl : vs.length ≤ c.size) : Lies w F β ⟨s, es⟩ c := by
  intro e l he
  dsimp only at he
  have hle := hs l (List.mem_of_getElem? he)
  have hlt := (List.getElem?_eq_some_iff.1 he).1
  have hfl := flat_len hs
  have hvl := hv.1
  have hb : e * s + s ≤ es.length * s := by
    have := Nat.mul_le_mul_right s (show e + 1 ≤ es.length by omega)
    rw [Nat.add_mul] at this; omega
  dsimp only
  refine ⟨hle, by omega, fun j x hx => ?_⟩
  have hj : j < s := by have := (List.getElem?_eq_some_iff.1 hx).1; omega
  have hg := flat_get hs he j hj
  rw [hx] at hg
  have hk : e * s + j < vs.length := by omega
  rw [hc _ hk]
  refine ⟨hv.2 _ x hg, h1 _ ?_⟩
  simp [List.getD_eq_getElem?_getD, hk]

/-- a slice's rows, in the world -/
theorem rows_ok {σ : Store} {β : Ids} {F : Nat → Prop} {w : World} (hr : Rel σ β F w) {s : Nat} {x : V} {v : Value} {es : List (List V)} (h : rows σ s x = some es) (hv : VR w F β x v) :
    ∃ ad cap, v = .slice ad es.length cap ∧ es.length ≤ cap ∧ (∀ l ∈ es, l.length = s) ∧
      ∃ vs : List Value, VRs w F β es.flatten vs ∧ (∀ u ∈ vs, u.oneCell' = true) ∧ (es = [] ∨ ∃ b off, ad = some ⟨b, off, none⟩ ∧ ∀ (k : Nat) u, vs[k]? = some u → w.cell? ⟨b, off + k, none⟩ = some u) := by
  have mk : ∀ (es : List (List V)) (b off : Nat) (f : Nat → Nat → Value), (∀ l ∈ es, l.length = s) → (∀ (e : Nat) l, es[e]? = some l → ∀ (j : Nat) z, l[j]? = some z → w.cell? ⟨b, off + e * s + j, none⟩ = some (f e j) ∧ (f e j).oneCell' = true) →
      (∀ (e : Nat) l, es[e]? = some l → ∀ (j : Nat) z, l[j]? = some z → VR w F β z (f e j)) →
      ∃ vs : List Value, VRs w F β es.flatten vs ∧ (∀ u ∈ vs, u.oneCell' = true) ∧ ∀ (k : Nat) u, vs[k]? = some u → w.cell? ⟨b, off + k, none⟩ = some u := by
    intro es b off f hs hc hR
    have hfl := flat_len hs
    have dm : ∀ k, k < es.length * s → k / s < es.length ∧ k % s < s ∧ (k / s) * s + k % s = k := by
      intro k hk
      have hs0 : 0 < s := by rcases Nat.eq_zero_or_pos s with h0 | h0; subst h0; omega; exact h0
      exact ⟨(Nat.div_lt_iff_lt_mul hs0).2 hk, Nat.mod_lt _ hs0, by rw [Nat.mul_comm]; exact Nat.div_add_mod k s⟩
    have el : ∀ e, e < es.length → ∀ j, j < s → ∃ l z, es[e]? = some l ∧ l[j]? = some z := by
      intro e he j hj
      have := hs es[e] (List.getElem_mem he)
      exact ⟨es[e], es[e][j], by simp [he], by simp [this, hj]⟩
    refine ⟨(List.range (es.length * s)).map (fun k => f (k / s) (k % s)), ⟨by simp [hfl], ?_⟩, ?_, ?_⟩
    · intro k z hz
      have hk : k < es.length * s := by have := (List.getElem?_eq_some_iff.1 hz).1; omega
      obtain ⟨d1, d2, d3⟩ := dm k hk
      obtain ⟨l, z', hl, hz'⟩ := el _ d1 _ d2
      have hg := flat_get hs hl (k % s) d2
      rw [d3, hz'] at hg
      rw [hz] at hg; cases hg
      rw [List.getD_eq_getElem?_getD]
      simp [hk]
      exact hR _ l hl _ z hz'
    · intro u hu
      simp only [List.mem_map, List.mem_range] at hu
      obtain ⟨k, hk, rfl⟩ := hu
      obtain ⟨d1, d2, d3⟩ := dm k hk
      obtain ⟨l, z', hl, hz'⟩ := el _ d1 _ d2
      exact (hc _ l hl _ z' hz').2
    · intro k u hu
      simp only [List.getElem?_map, Option.map_eq_some_iff, List.getElem?_range] at hu
      obtain ⟨k', hk', rfl⟩ := hu
      have hk : k < es.length * s := by
        rcases Nat.lt_or_ge k (es.length * s) with h' | h'
        · exact h'
        · rw [List.getElem?_eq_none (by simpa using h')] at hk'; cases hk'
      rw [List.getElem?_range hk] at hk'; cases hk'
      obtain ⟨d1, d2, d3⟩ := dm k hk
      obtain ⟨l, z', hl, hz'⟩ := el _ d1 _ d2
      have := (hc _ l hl _ z' hz').1
      rwa [show off + k / s * s + k % s = off + k by omega] at this
  unfold rows at h
  split at h
  · cases h
    cases hv
    exact ⟨none, 0, rfl, Nat.le_refl _, by simp, [], VRs.nil _ _ _, by simp, .inl rfl⟩
  · rename_i s' es'
    split at h
    · rename_i hs'
      subst hs'
      cases h
      cases hv with
      | fz0 _ _ ad cap => exact ⟨ad, cap, rfl, Nat.zero_le _, by simp, [], VRs.nil _ _ _, by simp, .inl rfl⟩
      | fz _ _ _ b off cap f hF hcap hlen hcell hR =>
        obtain ⟨vs, h1, h2, h3⟩ := mk es b off f hlen hcell (fun e l he j z hz => (hR e l he j z hz).mono (Grow.refl F w) (fun _ h => h) β (fun _ _ h => by simp [noIds] at h))
        exact ⟨_, cap, rfl, hcap, hlen, vs, h1, h2, .inr ⟨b, off, rfl, h3⟩⟩
    · cases h
  · rename_i o s' off len
    split at h
    · rename_i ob ho
      split at h
      · rename_i hc
        obtain ⟨rfl, hs', hle⟩ := hc
        cases h
        obtain ⟨b, cc, elem, fr, hb, hh, hfr, hF, hL⟩ := hr.live o ob ho
        cases hv with
        | sl _ _ _ _ _ b' ad cap c2 elem2 fr2 hb' hh' hfit hlc had =>
          rw [hb] at hb'; cases hb'
          rw [hh] at hh'; cases hh'
          have hlen : ((ob.es.drop off).take len).length = len := by simp; omega
          have hall : ∀ l ∈ (ob.es.drop off).take len, l.length = s' := by
            intro l hl
            obtain ⟨e, he⟩ := List.mem_iff_getElem?.1 (List.mem_of_mem_drop (List.mem_of_mem_take hl))
            rw [(hL e l he).1, hs']
          refine ⟨some ad, cap, by rw [hlen], by omega, hall, ?_⟩
          have get : ∀ (e : Nat) l, ((ob.es.drop off).take len)[e]? = some l → ob.es[off + e]? = some l := by
            intro e l he
            rw [List.getElem?_take] at he
            split at he
            · rwa [List.getElem?_drop] at he
            · cases he
          have hcell : ∀ (e : Nat) l, ((ob.es.drop off).take len)[e]? = some l → ∀ (j : Nat) z, l[j]? = some z → w.cell? ⟨b, off * s' + e * s' + j, none⟩ = some (cc.getD ((off + e) * s' + j) undef) ∧ (cc.getD ((off + e) * s' + j) undef).oneCell' = true := by
            intro e l he j z hz
            obtain ⟨g1, g2, g3⟩ := hL _ l (get e l he)
            rw [hs'] at g1 g2 g3
            have hj : j < s' := by have := (List.getElem?_eq_some_iff.1 hz).1; omega
            refine ⟨?_, (g3 j z hz).2⟩
            rw [show off * s' + e * s' + j = (off + e) * s' + j by rw [Nat.add_mul]]
            have hlt : (off + e) * s' + j < cc.size := by omega
            simp [World.cell?, hh, hlt]
          obtain ⟨vs, h1, h2, h3⟩ := mk _ b (off * s') (fun e j => cc.getD ((off + e) * s' + j) undef) hall hcell (fun e l he j z hz => by
            have := (hL _ l (get e l he)).2.2 j z hz
            rw [hs'] at this; exact this.1)
          refine ⟨vs, h1, h2, ?_⟩
          rcases had with h0 | rfl
          · left; apply List.eq_nil_of_length_eq_zero; omega
          · exact .inr ⟨b, _, rfl, h3⟩
      · cases h
    · cases h
  · cases h

section
variable {P : Program} {σ : Store} {β : Ids} {F : Nat → Prop} {w : World} {a : Env} {act : Act}

theorem flatten_set {s : Nat} : ∀ {es : List (List V)} {i : Nat} {cs : List V}, (∀ l ∈ es, l.length = s) → cs.length = s → i < es.length → (es.set i cs).flatten = splice es.flatten (i * s) cs
  | [], i, cs, _, _, h => by simp at h
  | l :: es, 0, cs, hs, hc, _ => by
    have h1 := hs l (by simp)
    simp only [List.set_cons_zero, List.flatten_cons, splice, Nat.zero_mul, List.take_zero, List.nil_append, Nat.zero_add]
    rw [hc, List.drop_append_of_le_length (by omega)]
    simp [← h1]
  | l :: es, i + 1, cs, hs, hc, h => by
    have h1 := hs l (by simp)
    have ih := flatten_set (es := es) (i := i) (cs := cs) (fun x hx => hs x (by simp [hx])) hc (by simpa using h)
    simp only [List.set_cons_succ, List.flatten_cons, ih, splice]
    have e : (i + 1) * s = s + i * s := by rw [Nat.add_mul]; omega
    rw [e, ← h1, List.take_length_add_append, Nat.add_assoc, List.drop_length_add_append]
    simp [List.append_assoc]

theorem fillR_fillV {s : Nat} : ∀ {qs : List (Nat × V)} {es es' : List (List V)}, (∀ l ∈ es, l.length = s) → fillR es s qs = some es' →
    fillV es.flatten (qs.map fun p => (p.1 * s, s, p.2)) = some es'.flatten ∧ (∀ l ∈ es', l.length = s) ∧ es'.length = es.length
  | [], es, es', hs, h => by simp [fillR] at h; subst h; exact ⟨by simp [fillV], hs, rfl⟩
  | (i, x) :: qs, es, es', hs, h => by
    simp only [fillR] at h
    split at h
    · rename_i cs hcs
      split at h
      · rename_i hc
        have hs' : ∀ l ∈ es.set i cs, l.length = s := by
          intro l hl
          rcases List.mem_or_eq_of_mem_set hl with h1 | h1
          · exact hs l h1
          · rw [h1]; exact hc.1
        obtain ⟨h1, h2, h3⟩ := fillR_fillV hs' h
        refine ⟨?_, h2, by simpa using h3⟩
        simp only [List.map_cons, fillV, hcs]
        have hfl := flat_len hs
        have hb : i * s + s ≤ es.length * s := by
          have := Nat.mul_le_mul_right s (show i + 1 ≤ es.length by omega)
          rw [Nat.add_mul] at this; omega
        rw [if_pos ⟨hc.1, by omega⟩, ← flatten_set hs hc.1 hc.2]
        exact h1
      · cases h
    · cases h

theorem made_ok {z : List V} {zv : Array Value} (hz : VRs w F β z zv.toList) (hpos : 0 < z.length) (n : Nat) : VRs w F β (List.replicate n z).flatten (madeCells zv (n * z.length)).toList := by
  have hzl : zv.size = z.length := by have := hz.1; simp at this; omega
  have hs : ∀ l ∈ List.replicate n z, l.length = z.length := fun l hl => by rw [(List.mem_replicate.1 hl).2]
  refine ⟨by rw [flat_len hs]; simp [size_madeCells], fun k x hk => ?_⟩
  have hlt : k < n * z.length := by have := (List.getElem?_eq_some_iff.1 hk).1; rw [flat_len hs] at this; simpa using this
  have d1 : k / z.length < n := (Nat.div_lt_iff_lt_mul hpos).2 hlt
  have d2 : k % z.length < z.length := Nat.mod_lt _ hpos
  have d3 : k / z.length * z.length + k % z.length = k := by rw [Nat.mul_comm]; exact Nat.div_add_mod k _
  have hg := flat_get hs (e := k / z.length) (l := z) (by simp [d1]) _ d2
  rw [d3, hk] at hg
  have := hz.2 _ x hg.symm
  rw [List.getD_eq_getElem?_getD] at this ⊢
  have e1 : (madeCells zv (n * z.length)).toList[k]? = zv.toList[k % z.length]? := by
    have h1 : k % zv.size < zv.size := by rw [hzl]; exact d2
    simp only [madeCells, Array.toList_map, Array.toList_range, List.getElem?_map]
    rw [List.getElem?_range hlt]
    simp [h1, ← hzl]
  rw [e1]; exact this

theorem made_one {zv : Array Value} (h1 : zv.all (·.oneCell') = true) (hpos : 0 < zv.size) (n : Nat) : ∀ u ∈ (madeCells zv n).toList, u.oneCell' = true := by
  intro u hu
  simp only [madeCells, Array.toList_map, List.mem_map] at hu
  obtain ⟨k, _, rfl⟩ := hu
  have hk : k % zv.size < zv.size := Nat.mod_lt _ hpos
  have := Array.all_eq_true.1 h1 _ hk
  simpa [hk] using this

theorem fill_one {pl : Nat → Option (Nat × Nat)} : ∀ {ps : List (Nat × Value)} {zv cv : Array Value}, (∀ u ∈ zv.toList, u.oneCell' = true) → (∀ p ∈ ps, ∀ u ∈ p.2.cells.toList, u.oneCell' = true) → Instr.fill pl zv ps = some cv → ∀ u ∈ cv.toList, u.oneCell' = true
  | [], zv, cv, hz, _, h => by simp [Instr.fill] at h; subst h; exact hz
  | (i, v) :: ps, zv, cv, hz, hp, h => by
    simp only [Instr.fill] at h
    split at h
    · cases h
    · split at h
      · cases h
      · refine fill_one ?_ (fun p hp' => hp p (by simp [hp'])) h
        have aux : ∀ (l : List (Value × Nat)) (acc : Array Value) (off : Nat), (∀ u ∈ acc.toList, u.oneCell' = true) → (∀ q ∈ l, q.1.oneCell' = true) → ∀ u ∈ (l.foldl (fun cs (p : Value × Nat) => cs.setIfInBounds (off + p.2) p.1) acc).toList, u.oneCell' = true := by
          intro l
          induction l with
          | nil => intro acc off h1 _; simpa using h1
          | cons y l ih =>
            intro acc off h1 h2
            simp only [List.foldl_cons]
            refine ih _ _ ?_ (fun q hq => h2 q (by simp [hq]))
            intro u hu
            rw [Array.toList_setIfInBounds] at hu
            rcases List.mem_or_eq_of_mem_set hu with h3 | h3
            · exact h1 u h3
            · rw [h3]; exact h2 y (by simp)
        rw [← Array.foldl_toList]
        refine aux _ _ _ hz ?_
        intro q hq
        have : q.1 ∈ v.cells.toList := by
          rw [Array.toList_zipIdx] at hq
          exact (List.mem_zipIdx hq).2.2 ▸ List.getElem_mem _
        exact hp (i, v) (by simp) q.1 this

theorem bslice_ok (hr : Rel σ β F w) (ha : EnvR w F β a act) {t e : TypeId} {s id n : Nat} {z : List V} (hu : P.underlying t = some (.slice e)) (hs : sz P e = some s) (hz : zeroOf P e = some z) (hl : z.length = s) (hpos : 0 < s) (hn : n * s ≤ 16777216)
    (h1 : ∀ i v, P.info? e = some i → i.zero = some v → v.cells.all (·.oneCell') = true)
    {ps : Array (Nat × Operand)} {v : V} {σ' : Store} (h : astep (.bslice id s n z (ps.toList.map fun p => (p.1, opdOf p.2))) a σ = some (v, σ')) :
    ∃ val w' β', (Instr.buildSlice t n (ps.map fun (i, x) => (i, act.eval x))).run P w = .ok val w' ∧ VR w' F β' v val ∧ After σ' β β' F F w w' := by
  simp only [astep] at h
  split at h
  · rename_i es hes
    split at h
    · rename_i hid
      cases h
      obtain ⟨it, zv, hit, hzz, hzr⟩ := zeroOf_ok hz w F β
      have hsz : it.size = s := by unfold sz at hs; simp [hit] at hs; exact hs
      have hzs : zv.cells.size = s := by have := hzr.1; simp at this; omega
      have hrep : ∀ l ∈ List.replicate n z, l.length = s := fun l hl' => by rw [(List.mem_replicate.1 hl').2, hl]
      obtain ⟨f1, f2, f3⟩ := fillR_fillV hrep hes
      have hmade := made_ok (w := w) (F := F) (β := β) hzr (by omega) n
      rw [hl] at hmade
      obtain ⟨cv, g1, g2⟩ := fillV_ok (w := w) (F := F) (β := β) (pl := fun i => some (i * s, s)) (ps := ps.toList.map fun p => (p.1, act.eval p.2)) (qs := (List.map (fun p => (p.1, p.2.ev a)) (ps.toList.map fun p => (p.1, opdOf p.2))).map fun p => (p.1 * s, s, p.2)) (zv := madeCells zv.cells (n * s)) hmade (by simp) (by
        intro j p hj
        simp only [List.getElem?_map, Option.map_eq_some_iff] at hj
        obtain ⟨⟨i, x⟩, hx, rfl⟩ := hj
        exact ⟨(i * s, s, (opdOf x).ev a), by simp [hx], rfl, opd_ok ha x⟩) f1
      have hcv : cv.size = n * s := by
        have := g2.1
        rw [flat_len f2, f3] at this
        simp at this; omega
      have hfull : (Instr.fill (fun i => some (i * it.size, it.size)) (if n * s = 0 then #[] else madeCells zv.cells (n * s)) (ps.toList.map fun p => (p.1, act.eval p.2))) = some cv := by
        rw [hsz]
        split
        · rename_i h0
          have : madeCells zv.cells (n * s) = #[] := by rw [h0]; simp [madeCells]
          rw [← this]; exact g1
        · exact g1
      have hpsone : ∀ p ∈ ps.toList.map (fun p => (p.1, act.eval p.2)), ∀ u ∈ p.2.cells.toList, u.oneCell' = true := by
        -- each part has cells of its own
        intro p hp u hu'
        simp only [List.mem_map] at hp
        obtain ⟨⟨i, x⟩, hx, rfl⟩ := hp
        have key : ∀ (qs : List (Nat × V)) (es es' : List (List V)), fillR es s qs = some es' → ∀ q ∈ qs, ∃ cs, q.2.cells = some cs := by
          intro qs
          induction qs with
          | nil => intro es es' _ q hq; simp at hq
          | cons q0 qs ih =>
            intro es es' hf q hq
            simp only [fillR] at hf
            split at hf
            · rename_i cs hcs
              split at hf
              · simp only [List.mem_cons] at hq
                rcases hq with rfl | hq
                · exact ⟨cs, hcs⟩
                · exact ih _ _ hf q hq
              · cases hf
            · cases hf
        obtain ⟨cs, hcs⟩ := key _ _ _ hes (i, (opdOf x).ev a) (by
          simp only [List.mem_map]
          exact ⟨(i, opdOf x), ⟨(i, x), hx, rfl⟩, rfl⟩)
        exact (cells_ok hcs (opd_ok ha x)).2 u hu'
      have hone : ∀ u ∈ cv.toList, u.oneCell' = true := fill_one (made_one (h1 it zv hit hzz) (by omega) _) hpsone g1
      have hlies : Lies w F β ⟨s, es⟩ cv := lies_flat f2 g2 hone (fun k hk => by simp [Array.getD_eq_getD_getElem?, List.getD_eq_getElem?_getD]) (by simp)
      have hA := After.new (w' := w.alloc (.cells cv e)) (elem := e) (fr := (0, 0)) hr hid rfl rfl rfl rfl (fun i _ h => by omega) hlies
      refine ⟨.slice (some ⟨w.heap.size, 0, none⟩) n n, w.alloc (.cells cv e), _, ?_, ?_, hA⟩
      · have hsm : ¬ n * it.size > 2 ^ 24 := by rw [hsz]; simp; omega
        have hsm' : ¬ 16777216 < n * it.size := by rw [hsz]; omega
        by_cases h0 : n * s = 0
        · simp only [h0, if_true] at hfull
          have h0' : n * it.size = 0 := by rw [hsz]; exact h0
          have hf : Instr.fill (fun i => some (i * it.size, it.size)) (#[] : Array Value) (ps.toList.map fun p => (p.1, act.eval p.2)) = some cv := hfull
          simp [Instr.buildSlice, run_underlying hu, sizeOf, typeInfo, hit, h0', newRow, hf, Array.range_zero']
        · simp only [h0, if_false] at hfull
          have h0' : ¬ n * it.size = 0 := by rw [hsz]; exact h0
          have := run_buildSlice (P := P) w t e n (ps.map fun (i, x) => (i, act.eval x)) cv it zv hu hit hzz hsm h0' (by
            rw [hsz]; simpa [madeCells, hsz] using hfull)
          exact this
      · refine .sl _ id s 0 n w.heap.size _ n cv e (0, 0) (by simp [Ids.put]) (heap_alloc_new w _) ?_ (Nat.le_refl _) (.inr (by simp))
        rw [hcv]; simp
    · cases h
  · cases h

end
end Go.Proofs.YtffigokicddekaaGreat.Abs
/- make, append, strings from bytes and back. No condition. -/
set_option linter.unusedVariables false
set_option linter.unusedSimpArgs false
namespace Go.Proofs.YtffigokicddekaaGreat.Abs
open Go

section
variable {P : Program} {σ : Store} {β : Ids} {F : Nat → Prop} {w : World} {a : Env} {act : Act}

theorem mks_ok (hr : Rel σ β F w) (ha : EnvR w F β a act) {t e : TypeId} {s id : Nat} {it : TypeInfo} {z : List V} (hu : P.underlying t = some (.slice e)) (hit : P.info? e = some it) (hs : it.size = s) (hz : zeroOf P e = some z) (hl : z.length = s) (hpos : 0 < s)
    (h1 : ∀ i v, P.info? e = some i → i.zero = some v → v.cells.all (·.oneCell') = true)
    {x y : Operand} {v : V} {σ' : Store} (h : astep (.mks id s it.bytes z (opdOf x) (opdOf y)) a σ = some (v, σ')) :
    ∃ val w' β', (Instr.makeSlice t (act.eval x) (act.eval y)).run P w = .ok val w' ∧ VR w' F β' v val ∧ After σ' β β' F F w w' := by
  have hx := opd_ok ha x
  have hy := opd_ok ha y
  simp only [astep] at h
  split at h
  · rename_i n m hop1 hop2
    rw [hop1] at hx; rw [hop2] at hy
    split at h
    · rename_i hc
      obtain ⟨hid, h0, hnm, hby, hm⟩ := hc
      cases h
      obtain ⟨i', zv, hi', hzz, hzr⟩ := zeroOf_ok hz w F β
      rw [hit] at hi'; cases hi'
      have hzs : zv.cells.size = s := by have := hzr.1; simp at this; omega
      generalize act.eval x = xv at hx
      generalize act.eval y = yv at hy
      cases hx; cases hy
      have hrun := run_make (P := P) w t e it zv hu hit hzz .i64 .i64 n m h0 hnm (by rw [Int.mul_comm]; omega) (by omega)
      have hmade := made_ok (w := w) (F := F) (β := β) hzr (by omega) m.toNat
      rw [hl] at hmade
      have hone := made_one (h1 it zv hit hzz) (by omega) (m.toNat * s)
      rw [hs] at hrun
      have hrep : ∀ k, ∀ l ∈ List.replicate k z, l.length = s := fun k l hl' => by rw [(List.mem_replicate.1 hl').2, hl]
      have hfl : (List.replicate n.toNat z).flatten = (List.replicate m.toNat z).flatten.take (n.toNat * s) := by
        have e1 : List.replicate m.toNat z = List.replicate n.toNat z ++ List.replicate (m.toNat - n.toNat) z := by
          rw [List.replicate_append_replicate]; congr 1; omega
        have e2 := flat_len (hrep n.toNat)
        rw [List.length_replicate] at e2
        rw [e1, List.flatten_append, ← e2, List.take_left']
        rfl
      have hlies : Lies w F β ⟨s, List.replicate n.toNat z⟩ (madeCells zv.cells (m.toNat * s)) := by
        refine lies_flat (vs := (madeCells zv.cells (m.toNat * s)).toList.take (n.toNat * s)) (hrep _) ?_ (fun u hu' => hone u (List.mem_of_mem_take hu')) ?_ ?_
        · rw [hfl]; exact hmade.take _
        · intro k hk
          have hk' : k < n.toNat * s := by simp [List.length_take] at hk; omega
          rw [List.getD_eq_getElem?_getD, List.getElem?_take, if_pos hk']
          simp [Array.getD_eq_getD_getElem?]
        · simp; omega
      have hA := After.new (w' := w.alloc (.cells (madeCells zv.cells (m.toNat * s)) e)) (elem := e) (fr := (0, 0)) hr hid rfl rfl rfl rfl (fun i _ h => by omega) hlies
      refine ⟨_, _, _, hrun, ?_, hA⟩
      refine .sl _ id s 0 _ w.heap.size _ _ _ e (0, 0) (by simp [Ids.put]) (heap_alloc_new w _) ?_ (by omega) (.inr (by simp))
      simp [size_madeCells]
    · cases h
  · cases h

theorem ofBytes_flat (s : ByteArray) : (ofBytes s).flatten = s.toList.map fun b => V.int .u8 (b.toNat : Int) := by
  unfold ofBytes
  induction s.toList with
  | nil => rfl
  | cons b l ih => simp [ih]

theorem modify_push (h : Array Obj) (o : Obj) (f : Obj → Obj) : (h.push o).modify h.size f = h.push (f o) := by
  apply Array.ext
  · simp
  · intro i h1 h2
    rw [Array.getElem_modify, Array.getElem_push, Array.getElem_push]
    simp at h1
    by_cases e : h.size = i
    · subst e; simp
    · have : i < h.size := by omega
      simp [e, this]

theorem s2b_ok (hr : Rel σ β F w) (ha : EnvR w F β a act) {t u e : TypeId} {id : Nat} (ht : P.underlying t = some .string) (hu : P.underlying u = some (.slice e)) (he : P.underlying e = some (.int .u8))
    {x : Operand} {v : V} {σ' : Store} (h : astep (.s2b id (opdOf x)) a σ = some (v, σ')) :
    ∃ val w' β', (convert t u (act.eval x)).run P w = .ok val w' ∧ VR w' F β' v val ∧ After σ' β β' F F w w' := by
  have hx := opd_ok ha x
  simp only [astep] at h
  split at h
  · rename_i b hop
    rw [hop] at hx
    split at h
    · rename_i hid
      cases h
      generalize act.eval x = xv at hx
      cases hx
      have hcap : b.size ≤ grownCap w b.size 0 e := grownCap_ge w b.size 0 e
      let c : Array Value := b.data.map (fun x => Value.int .u8 (x.toNat : Int)) ++ Array.replicate (grownCap w b.size 0 e - b.size) (.int .u8 0)
      have hc : c.size = grownCap w b.size 0 e := by simp [c]; omega
      obtain ⟨w', hw'⟩ : ∃ w' : World, w' = { w.drew with heap := w.heap.push (.cells c e (c.size, c.size + 1)) } := ⟨_, rfl⟩
      have hfz : (w.drew.alloc (.cells c e)).freeze ⟨w.heap.size, c.size, none⟩ 1 = w' := by
        rw [hw']
        show ({ w.drew with heap := (w.heap.push (.cells c e)).modify w.heap.size _ } : World) = _
        rw [modify_push]
        simp
      have hone : ∀ u ∈ (b.toList.map fun x => Value.int .u8 (x.toNat : Int)), u.oneCell' = true := by
        intro u hu'
        simp only [List.mem_map] at hu'
        obtain ⟨_, _, rfl⟩ := hu'; rfl
      have hbl : b.toList.length = b.size := by rw [ByteArray.toList_eq]; simp
      have hlies : Lies w F β ⟨1, ofBytes b⟩ c := by
        refine lies_flat (vs := b.toList.map fun x => Value.int .u8 (x.toNat : Int)) ?_ ?_ hone ?_ ?_
        · intro l hl; unfold ofBytes at hl; simp only [List.mem_map] at hl; obtain ⟨_, _, rfl⟩ := hl; rfl
        · rw [ofBytes_flat]
          refine ⟨by simp, fun j y hy => ?_⟩
          simp only [List.getElem?_map, Option.map_eq_some_iff] at hy
          obtain ⟨q, hq, rfl⟩ := hy
          rw [List.getD_eq_getElem?_getD]
          simp [hq]
          exact .int _ _ _
        · intro k hk
          simp [hbl] at hk
          have : c.getD k undef = (b.data.map (fun x => Value.int .u8 (x.toNat : Int))).getD k undef := by
            simp only [c, Array.getD_eq_getD_getElem?]
            rw [Array.getElem?_append_left (by simpa using hk)]
          rw [this, List.getD_eq_getElem?_getD, ByteArray.toList_eq]
          simp [Array.getD_eq_getD_getElem?]
        · simp [hbl, hc, hcap]
      have hA := After.new (w' := w') (c := c) (elem := e) (fr := (c.size, c.size + 1)) hr hid (by rw [hw']; rfl) (by rw [hw']; rfl) (by rw [hw']; rfl) (by rw [hw']) (fun i hi h => by omega) hlies
      refine ⟨.slice (some ⟨w.heap.size, 0, none⟩) b.size (grownCap w b.size 0 e), w', _, ?_, ?_, hA⟩
      · have hsh : (w.drew.alloc (.cells c e)).shape? w.heap.size = some (e, c.size) := by
          unfold World.shape?
          rw [show w.heap.size = w.drew.heap.size from rfl, heap_alloc_new w.drew]
        have hch : (choose (.appendCap b.size 0 e)).run P w = .ok (grownCap w b.size 0 e) w.drew := by simp [Question.forced, grownCap]
        have hnew : (newRow e c).run P w.drew = .ok ⟨w.heap.size, 0, none⟩ (w.drew.alloc (.cells c e)) := by simp [newRow]
        have hmk : (markStringish ⟨w.heap.size, 0, none⟩).run P (w.drew.alloc (.cells c e)) = .ok () w' := by
          simp only [markStringish, Sem.run_bind, run_shape, Result.andThen_ok, hsh, run_freeze, hfz]
        simp only [convert, Sem.run_bind, run_underlying ht, run_underlying hu, run_underlying he, Result.andThen_ok, Conv.stringToBytes, hch]
        rw [show (b.data.map (fun x => Value.int .u8 (x.toNat : Int)) ++ Array.replicate (grownCap w b.size 0 e - b.size) (Value.int .u8 0)) = c from rfl]
        rw [hnew, Result.andThen_ok, hmk, Result.andThen_ok, Sem.run_pure]
      · refine .sl _ id 1 0 _ w.heap.size _ _ c e (c.size, c.size + 1) (by simp [Ids.put]) (by rw [hw']; simp) ?_ hcap (.inr (by simp))
        omega
    · cases h
  · cases h

theorem s2f_ok (hr : Rel σ β F w) (ha : EnvR w F β a act) {t u e : TypeId} (ht : P.underlying t = some .string) (hu : P.underlying u = some (.slice e)) (he : P.underlying e = some (.int .u8))
    {x : Operand} {v : V} {σ' : Store} (h : astep (.s2f (opdOf x)) a σ = some (v, σ')) :
    ∃ val w' F', (convert t u (act.eval x)).run P w = .ok val w' ∧ VR w' F' β v val ∧ After σ' β β F F' w w' := by
  have hx := opd_ok ha x
  simp only [astep] at h
  split at h
  · rename_i b hop
    rw [hop] at hx
    · cases h
      generalize act.eval x = xv at hx
      cases hx
      have hcap : b.size ≤ grownCap w b.size 0 e := grownCap_ge w b.size 0 e
      let c : Array Value := b.data.map (fun x => Value.int .u8 (x.toNat : Int)) ++ Array.replicate (grownCap w b.size 0 e - b.size) (.int .u8 0)
      have hc : c.size = grownCap w b.size 0 e := by simp [c]; omega
      obtain ⟨w', hw'⟩ : ∃ w' : World, w' = { w.drew with heap := w.heap.push (.cells c e (c.size, c.size + 1)) } := ⟨_, rfl⟩
      have hfz : (w.drew.alloc (.cells c e)).freeze ⟨w.heap.size, c.size, none⟩ 1 = w' := by
        rw [hw']
        show ({ w.drew with heap := (w.heap.push (.cells c e)).modify w.heap.size _ } : World) = _
        rw [modify_push]
        simp
      have hone : ∀ u ∈ (b.toList.map fun x => Value.int .u8 (x.toNat : Int)), u.oneCell' = true := by
        intro u hu'
        simp only [List.mem_map] at hu'
        obtain ⟨_, _, rfl⟩ := hu'; rfl
      have hbl : b.toList.length = b.size := by rw [ByteArray.toList_eq]; simp
      have hlies : Lies w F β ⟨1, ofBytes b⟩ c := by
        refine lies_flat (vs := b.toList.map fun x => Value.int .u8 (x.toNat : Int)) ?_ ?_ hone ?_ ?_
        · intro l hl; unfold ofBytes at hl; simp only [List.mem_map] at hl; obtain ⟨_, _, rfl⟩ := hl; rfl
        · rw [ofBytes_flat]
          refine ⟨by simp, fun j y hy => ?_⟩
          simp only [List.getElem?_map, Option.map_eq_some_iff] at hy
          obtain ⟨q, hq, rfl⟩ := hy
          rw [List.getD_eq_getElem?_getD]
          simp [hq]
          exact .int _ _ _
        · intro k hk
          simp [hbl] at hk
          have : c.getD k undef = (b.data.map (fun x => Value.int .u8 (x.toNat : Int))).getD k undef := by
            simp only [c, Array.getD_eq_getD_getElem?]
            rw [Array.getElem?_append_left (by simpa using hk)]
          rw [this, List.getD_eq_getElem?_getD, ByteArray.toList_eq]
          simp [Array.getD_eq_getD_getElem?]
        · simp [hbl, hc, hcap]
      have hg : Grow F w w' := grow_new (w := w) (ob := .cells c e (c.size, c.size + 1)) (by rw [hw']; rfl) (by rw [hw']; rfl) (by rw [hw']; rfl) (by rw [hw']) hr.bF
      have hA : After σ β β F (fun b => F b ∨ b = w.heap.size) w w' := by
        refine ⟨⟨?_, hr.inj, hr.free, ?_⟩, Ids.le_refl _, fun b h => .inl h, hg, ?_, ?_, fun o b h => .inr ⟨o, h⟩⟩
        · intro o ob ho
          obtain ⟨b, c', e', f', hb, hh, hf, hn, hL⟩ := hr.live o ob ho
          have hlt := (Array.getElem?_eq_some_iff.1 hh).1
          refine ⟨b, c', e', f', hb, by rw [hw']; exact push_get hh, hf, ?_, hL.mono hg (fun _ h => .inl h) (Ids.le_refl _)⟩
          rintro (h1 | h1)
          · exact hn h1
          · omega
        · intro b hb
          rw [hw']
          rcases hb with hb | hb
          · have := hr.bF b hb; simp; omega
          · simp; omega
        · intro b hb _
          rw [hw']
          show (w.heap.push _)[b]? = _
          rw [Array.getElem?_push, if_neg (by omega)]
        · intro b hb
          rcases hb with hb | hb
          · exact .inl hb
          · exact .inr (.inl (by omega))
      refine ⟨.slice (some ⟨w.heap.size, 0, none⟩) b.size (grownCap w b.size 0 e), w', _, ?_, ?_, hA⟩
      · have hsh : (w.drew.alloc (.cells c e)).shape? w.heap.size = some (e, c.size) := by
          unfold World.shape?
          rw [show w.heap.size = w.drew.heap.size from rfl, heap_alloc_new w.drew]
        have hch : (choose (.appendCap b.size 0 e)).run P w = .ok (grownCap w b.size 0 e) w.drew := by simp [Question.forced, grownCap]
        have hnew : (newRow e c).run P w.drew = .ok ⟨w.heap.size, 0, none⟩ (w.drew.alloc (.cells c e)) := by simp [newRow]
        have hmk : (markStringish ⟨w.heap.size, 0, none⟩).run P (w.drew.alloc (.cells c e)) = .ok () w' := by
          simp only [markStringish, Sem.run_bind, run_shape, Result.andThen_ok, hsh, run_freeze, hfz]
        simp only [convert, Sem.run_bind, run_underlying ht, run_underlying hu, run_underlying he, Result.andThen_ok, Conv.stringToBytes, hch]
        rw [show (b.data.map (fun x => Value.int .u8 (x.toNat : Int)) ++ Array.replicate (grownCap w b.size 0 e - b.size) (Value.int .u8 0)) = c from rfl]
        rw [hnew, Result.andThen_ok, hmk, Result.andThen_ok, Sem.run_pure]
      · have hfz := VR.fz (w := w') (F := fun b => F b ∨ b = w.heap.size) β 1 (ofBytes b) w.heap.size 0 (grownCap w b.size 0 e) (fun e' j => c.getD (e' * 1 + j) undef) (.inr rfl) (by simp [ofBytes, hbl]; exact hcap) ?_ ?_ ?_
        · have : (ofBytes b).length = b.size := by simp [ofBytes, hbl]
          rw [this] at hfz
          exact hfz
        · intro l hl; unfold ofBytes at hl; simp only [List.mem_map] at hl; obtain ⟨_, _, rfl⟩ := hl; rfl
        · intro e' l he j x hx
          obtain ⟨g1, g2, g3⟩ := hlies e' l he
          have hj : j < 1 := by
            have h1 := (List.getElem?_eq_some_iff.1 hx).1
            have h2 : l.length = 1 := g1
            omega
          have h2' : e' * 1 + 1 ≤ c.size := g2
          refine ⟨?_, (g3 j x hx).2⟩
          have hlt : e' * 1 + j < c.size := by omega
          rw [hw']
          simp [World.cell?, show e' + j < c.size by omega]
        · intro e' l he j x hx
          have hxi : ∃ n, x = .int .u8 n := by
            unfold ofBytes at he
            have := List.mem_of_getElem? he
            simp only [List.mem_map] at this
            obtain ⟨_, _, rfl⟩ := this
            have := List.mem_of_getElem? hx
            simp at this
            exact ⟨_, this⟩
          obtain ⟨n, rfl⟩ := hxi
          obtain ⟨g1, g2, g3⟩ := hlies e' l he
          have h3 := (g3 j _ hx).1
          have e2 : e' * (⟨1, ofBytes b⟩ : Ob).s + j = e' * 1 + j := rfl
          rw [e2] at h3
          show VR w' _ noIds _ (c.getD (e' * 1 + j) undef)
          generalize c.getD (e' * 1 + j) undef = z at h3
          cases h3
          exact .int _ _ _
  · cases h

theorem bytesV_len : ∀ {es : List (List V)} {l : List UInt8}, bytesV es = some l → es.length = l.length
  | [], l, h => by simp [bytesV] at h; subst h; rfl
  | x :: es, l, h => by
    unfold bytesV at h
    split at h
    · rename_i h0; cases h0
    · rename_i n r hx
      cases hx
      simp only [Option.map_eq_some_iff] at h
      obtain ⟨l', hl', rfl⟩ := h
      simp [bytesV_len hl']
    · cases h

theorem bytesV_vals : ∀ {es : List (List V)} {l : List UInt8} {vs : List Value}, bytesV es = some l → VRs w F β es.flatten vs → ∃ ns : List Int, vs = ns.map (Value.int .u8) ∧ l = ns.map fun n => UInt8.ofNat n.toNat
  | [], l, vs, h, hv => by
    simp [bytesV] at h; subst h
    have := hv.1; simp at this
    exact ⟨[], by simpa using List.eq_nil_of_length_eq_zero this.symm, rfl⟩
  | x :: es, l, vs, h, hv => by
    unfold bytesV at h
    split at h
    · rename_i h0; cases h0
    · rename_i n r hx
      cases hx
      simp only [Option.map_eq_some_iff] at h
      obtain ⟨l', hl', rfl⟩ := h
      simp only [List.flatten_cons, List.singleton_append] at hv
      match vs, hv with
      | v :: vs, hv =>
        obtain ⟨ns, h1, h2⟩ := bytesV_vals hl' hv.tail
        have := hv.head
        cases this
        exact ⟨n :: ns, by simp [h1], by simp [h2]⟩
      | [], hv => exact absurd hv.1 (by simp)
    · cases h

theorem foldl_push : ∀ (ns : List Int) (s : ByteArray), (ns.foldl (fun r n => r.push (UInt8.ofNat n.toNat)) s) = ⟨(s.data.toList ++ ns.map fun n => UInt8.ofNat n.toNat).toArray⟩
  | [], s => by simp
  | n :: ns, s => by
    simp only [List.foldl_cons]
    rw [foldl_push ns]
    congr 1
    simp [ByteArray.push]

theorem bytesV_int : ∀ {es : List (List V)} {l : List UInt8}, bytesV es = some l → ∀ (e : Nat) r, es[e]? = some r → ∃ n, r = [.int .u8 n]
  | [], l, h, e, r, he => by simp at he
  | x :: es, l, h, e, r, he => by
    unfold bytesV at h
    split at h
    · rename_i h0; cases h0
    · rename_i n r' hx
      cases hx
      simp only [Option.map_eq_some_iff] at h
      obtain ⟨l', hl', rfl⟩ := h
      cases e with
      | zero => simp at he; exact ⟨n, he.symm⟩
      | succ e => exact bytesV_int hl' e r (by simpa using he)
    · cases h

theorem mkf_ok (hr : Rel σ β F w) (ha : EnvR w F β a act) {t e : TypeId} (hu : P.underlying t = some (.slice e)) (he : P.underlying e = some (.int .u8))
    {x : Operand} {v : V} {σ' : Store} (h : astep (.mkf (opdOf x)) a σ = some (v, σ')) :
    ∃ val w' F', (convert t t (act.eval x)).run P w = .ok val w' ∧ VR w' F' β v val ∧ After σ' β β F F' w w' := by
  have hx := opd_ok ha x
  simp only [astep] at h
  split at h
  · rename_i o s off len hop
    rw [hop] at hx
    split at h
    · rename_i hlen
      split at h
      · rename_i es hes
        split at h
        · rename_i l hl
          cases h
          generalize act.eval x = xv at hx
          have hes' := hes
          simp only [rows] at hes
          split at hes
          · rename_i ob ho
            split at hes
            · rename_i hc
              obtain ⟨hs1, hs2, hle⟩ := hc
              cases hes
              obtain ⟨b, cc, elem, fr, hb, hh, hfr, hFb, hL⟩ := hr.live o ob ho
              cases hx with
              | sl _ _ _ _ _ b' ad cap c2 elem2 fr2 hb' hh' hfit hlc had =>
                rw [hb] at hb'; cases hb'
                rw [hh] at hh'; cases hh'
                subst hs1
                rcases had with h1 | rfl
                · omega
                have hblt : b < w.heap.size := (Array.getElem?_eq_some_iff.1 hh).1
                obtain ⟨fr', hfr'⟩ : ∃ fr', fr' = (if fr.1 == fr.2 then (cc.size, cc.size + 1) else (min fr.1 cc.size, max fr.2 (cc.size + 1))) := ⟨_, rfl⟩
                obtain ⟨w', hw'⟩ : ∃ w' : World, w' = w.freeze ⟨b, cc.size, none⟩ 1 := ⟨_, rfl⟩
                have hheap : w'.heap = w.heap.modify b fun
                    | .cells c elem (lo, hi) => .cells c elem (if lo == hi then (cc.size, cc.size + 1) else (min lo cc.size, max hi (cc.size + 1)))
                    | o => o := by rw [hw']; rfl
                have hat : w'.heap[b]? = some (.cells cc elem fr') := by
                  rw [hheap, Array.getElem?_modify, if_pos rfl, hh, hfr']
                  rfl
                have hne : ∀ k, k ≠ b → w'.heap[k]? = w.heap[k]? := by
                  intro k hk
                  rw [hheap, Array.getElem?_modify, if_neg (fun e => hk e.symm)]
                have hsz : w'.heap.size = w.heap.size := by rw [hheap]; simp
                have hg : Grow F w w' := by
                  refine ⟨by rw [hw']; rfl, by rw [hw']; rfl, by rw [hw']; rfl, by omega, ?_, ?_⟩
                  · intro k c elem' fr1 hk
                    by_cases e1 : k = b
                    · subst e1
                      rw [hh] at hk; cases hk
                      exact ⟨cc, fr', hat, rfl⟩
                    · exact ⟨c, fr1, by rw [hne k e1]; exact hk, rfl⟩
                  · intro k hk
                    exact hne k fun e1 => hFb (e1 ▸ hk)
                have live' : ∀ (o' : Nat) ob', (σ.set o .dead)[o']? = some (.live ob') → o ≠ o' ∧ σ[o']? = some (.live ob') := by
                  intro o' ob' h1
                  by_cases e1 : o = o'
                  · subst e1; rw [get_set_same ho] at h1; cases h1
                  · rw [get_set_ne e1] at h1; exact ⟨e1, h1⟩
                have hA : After (σ.set o .dead) β β F (fun k => F k ∨ k = b) w w' := by
                  refine ⟨⟨?_, ?_, ?_, ?_⟩, Ids.le_refl _, fun _ h => .inl h, hg, ?_, ?_, fun o b h => .inr ⟨o, h⟩⟩
                  · intro o' ob' h1
                    obtain ⟨h2, h3⟩ := live' o' ob' h1
                    obtain ⟨b1, c1, e1, f1, hb1, hh1, hf1, hn1, hL1⟩ := hr.live o' ob' h3
                    have hbb : b1 ≠ b := fun e2 => h2 (hr.inj o o' ob ob' ho h3 (by rw [hb, hb1, e2]))
                    refine ⟨b1, c1, e1, f1, hb1, by rw [hne b1 hbb]; exact hh1, hf1, ?_, hL1.mono hg (fun _ h => .inl h) (Ids.le_refl _)⟩
                    rintro (h4 | h4)
                    · exact hn1 h4
                    · exact hbb h4
                  · intro o1 o2 a1 a2 h1 h2 h3
                    exact hr.inj o1 o2 a1 a2 (live' o1 a1 h1).2 (live' o2 a2 h2).2 h3
                  · intro o' h1
                    by_cases e1 : o = o'
                    · subst e1; rw [get_set_same ho] at h1; rcases h1 with h1 | h1 <;> cases h1
                    · rw [get_set_ne e1] at h1; exact hr.free o' h1
                  · intro k hk
                    rcases hk with hk | hk
                    · have := hr.bF k hk; omega
                    · omega
                  · intro k hk hk2
                    exact hne k fun e1 => hk2 o (by rw [hb, e1])
                  · intro k hk
                    rcases hk with hk | hk
                    · exact .inl hk
                    · exact .inr (.inr ⟨o, by rw [hk]; exact hb⟩)
                refine ⟨.slice (some ⟨b, off * 1, none⟩) len cap, w', _, ?_, ?_, hA⟩
                · have hsh : w.shape? b = some (elem, cc.size) := by
                    unfold World.shape?
                    rw [hh]
                  have hmk : (markStringish ⟨b, off * 1, none⟩).run P w = .ok () w' := by
                    simp only [markStringish, Sem.run_bind, run_shape, Result.andThen_ok, hsh, run_freeze, hw']
                  simp only [convert, Sem.run_bind, run_underlying hu, run_underlying he, Result.andThen_ok, beq_self_eq_true, hmk, Sem.run_pure]
                · have hlen' : ((ob.es.drop off).take len).length = len := by simp; omega
                  have get : ∀ (e : Nat) r, ((ob.es.drop off).take len)[e]? = some r → ob.es[off + e]? = some r := by
                    intro e r he'
                    rw [List.getElem?_take] at he'
                    split at he'
                    · rwa [List.getElem?_drop] at he'
                    · cases he'
                  have hfz := VR.fz (w := w') (F := fun k => F k ∨ k = b) β 1 ((ob.es.drop off).take len) b (off * 1) cap (fun e j => cc.getD ((off + e) * 1 + j) undef) (.inr rfl) (by omega) ?_ ?_ ?_
                  · rw [hlen'] at hfz; exact hfz
                  · intro r hr'
                    obtain ⟨e1, he1⟩ := List.mem_iff_getElem?.1 hr'
                    obtain ⟨n, rfl⟩ := bytesV_int hl e1 r he1
                    rfl
                  · intro e1 r he1 j y hy
                    obtain ⟨g1, g2, g3⟩ := hL _ r (get e1 r he1)
                    rw [hs2] at g1 g2 g3
                    have hj : j < 1 := by have := (List.getElem?_eq_some_iff.1 hy).1; omega
                    refine ⟨?_, (g3 j y hy).2⟩
                    have hlt : off * 1 + e1 * 1 + j < cc.size := by omega
                    rw [show (off + e1) * 1 + j = off * 1 + e1 * 1 + j by omega]
                    simp only [World.cell?, hat, Array.getD_eq_getD_getElem?, Array.getElem?_eq_getElem hlt, Option.getD_some]
                    rfl
                  · intro e1 r he1 j y hy
                    obtain ⟨n, rfl⟩ := bytesV_int hl e1 r he1
                    obtain ⟨g1, g2, g3⟩ := hL _ _ (get e1 _ he1)
                    rw [hs2] at g3
                    have h3 := (g3 j y hy).1
                    have hy2 := List.mem_of_getElem? hy
                    simp at hy2
                    subst hy2
                    show VR w' _ noIds _ (cc.getD ((off + e1) * 1 + j) undef)
                    generalize cc.getD ((off + e1) * 1 + j) undef = z at h3
                    cases h3
                    exact .int _ _ _
            · cases hes
          · cases hes
        · cases h
      · cases h
    · cases h
  · cases h

theorem b2s_ok (hr : Rel σ β F w) (ha : EnvR w F β a act) {t u e : TypeId} (ht : P.underlying t = some (.slice e)) (hu : P.underlying u = some .string) (he : P.underlying e = some (.int .u8))
    {x : Operand} {v : V} {σ' : Store} (h : astep (.b2s (opdOf x)) a σ = some (v, σ')) :
    σ' = σ ∧ ∃ val, (convert t u (act.eval x)).run P w = .ok val w ∧ VR w F β v val := by
  have hx := opd_ok ha x
  simp only [astep] at h
  split at h
  · rename_i es hes
    simp only [Option.map_eq_some_iff, Prod.mk.injEq] at h
    obtain ⟨l, hl, rfl, rfl⟩ := h
    refine ⟨rfl, ?_⟩
    obtain ⟨ad, cap, hv, hcap, hlen, vs, hvs, hone, hcell⟩ := rows_ok hr hes hx
    rw [hv]
    obtain ⟨ns, h1, h2⟩ := bytesV_vals hl hvs
    refine ⟨.string ⟨l.toArray⟩, ?_, .str _ _⟩
    have hel := bytesV_len hl
    rw [run_convert_bytes_string w t u e ad es.length cap ht he hu]
    have hnl : ns.length = es.length := by rw [hel, h2]; simp
    rcases hcell with h0 | ⟨b, off, hb, hc⟩
    · subst h0
      have : l = [] := by simpa using hel.symm
      subst this
      cases ad with
      | none => simp [Conv.bytesToString]; rfl
      | some ad => simp [Conv.bytesToString, loadCells, loadCellsFrom]; rfl
    · rw [hb]
      have hload : (loadCells ⟨b, off, none⟩ es.length).run P w = .ok (ns.map (Value.int .u8)).toArray w := by
        rw [← hnl, ← List.length_map (f := Value.int .u8) (as := ns)]
        refine run_loadCells_list w _ _ fun j u hu' => ?_
        rw [addr_add]
        rw [h1] at hc
        exact hc j u hu'
      rw [run_bytesToString w _ _ _ ns hload, foldl_push, h2]
      simp
  · cases h

end
end Go.Proofs.YtffigokicddekaaGreat.Abs
/- append. No condition. -/
set_option linter.unusedVariables false
set_option linter.unusedSimpArgs false
namespace Go.Proofs.YtffigokicddekaaGreat.Abs
open Go

section
variable {P : Program} {σ : Store} {β : Ids} {F : Nat → Prop} {w : World} {a : Env} {act : Act}

theorem VRs.nil_of {xs : List V} {vs : List Value} (h : VRs w F β xs vs) (h0 : xs = []) : vs = [] := by
  have := h.1
  rw [h0] at this
  exact List.eq_nil_of_length_eq_zero this.symm

/-- a new row of cells: what was there, what is appended, zeros -/
theorem app_new (hr : Rel σ β F w) {id s : Nat} {es : List (List V)} {vs : List Value} {rest : Array Value} {e : TypeId} {w' : World} (hid : isFree σ id) (hs : ∀ l ∈ es, l.length = s) (hv : VRs w F β es.flatten vs) (h1 : ∀ u ∈ vs, u.oneCell' = true)
    (hos : w'.os = w.os) (htape : w'.tape = w.tape) (hout : w'.output = w.output) (hheap : w'.heap = w.heap.push (.cells (vs.toArray ++ rest) e)) :
    After (σ.set id (.live ⟨s, es⟩)) β (β.put id w.heap.size) F F w w' := by
  have hlies : Lies w F β ⟨s, es⟩ (vs.toArray ++ rest) := by
    refine lies_flat hs hv h1 (fun k hk => ?_) (by simp)
    simp only [Array.getD_eq_getD_getElem?, List.getD_eq_getElem?_getD]
    rw [Array.getElem?_append_left (by simpa using hk)]
    simp
  exact After.new (c := vs.toArray ++ rest) (elem := e) (fr := (0, 0)) hr hid hos htape hout hheap (fun i _ h => by omega) hlies

theorem app_ok (hr : Rel σ β F w) (ha : EnvR w F β a act) {t ty e : TypeId} {s id : Nat} {it : TypeInfo} {z : List V} (hu : P.underlying t = some (.slice e)) (hit : P.info? e = some it) (hs : it.size = s) (hz : zeroOf P e = some z) (hl : z.length = s) (hpos : 0 < s)
    {x y : Operand} {v : V} {σ' : Store} (h : astep (.app id s it.bytes (opdOf x) (opdOf y)) a σ = some (v, σ')) :
    ∃ val w' β', (Builtin.append_ #[t, t] ty #[act.eval x, act.eval y]).run P w = .ok val w' ∧ VR w' F β' v val ∧ After σ' β β' F F w w' := by
  have hx := opd_ok ha x
  have hy := opd_ok ha y
  obtain ⟨i', zv, hi', hzz, hzr⟩ := zeroOf_ok hz w F β
  rw [hit] at hi'; cases hi'
  simp only [astep] at h
  split at h
  · rename_i ys hop hys
    rw [hop] at hx
    generalize act.eval x = xv at hx
    cases hx
    obtain ⟨ad, cap, hv, hcap, hlen, vs, hvs, hone, hcell⟩ := rows_ok hr hys hy
    rw [hv]
    split at h
    · cases h
      refine ⟨.slice none 0 0, w, β, ?_, .nl _, .refl hr⟩
      have hf : (Builtin.firstCells it.size 0 (.slice ad ([] : List (List V)).length cap)).run P w = .ok #[] w := by
        cases ad with
        | none => simp [Builtin.firstCells]
        | some ad => simp [Builtin.firstCells, loadCells, loadCellsFrom]
      simp at hf
      simp [Builtin.append_, run_underlying hu, sizeOf, typeInfo, hit, Builtin.lenOf, hf]
    · rename_i y0 yr
      split at h
      · rename_i hc
        obtain ⟨hid, hb⟩ := hc
        cases h
        rcases hcell with h0 | ⟨b, off, hb', hcc⟩
        · cases h0
        rw [hb']
        have hfl := flat_len hlen
        have hvl : vs.length = (y0 :: yr).length * it.size := by rw [← hvs.1, hfl, hs]
        have hlb : (y0 :: yr).length ≤ 70368744177664 := Nat.le_trans (Nat.le_mul_of_pos_right _ (by omega)) hb
        have hbb : (y0 :: yr).length * it.bytes ≤ 70368744177664 := Nat.le_trans (Nat.mul_le_mul_left _ (by omega)) hb
        have hrun := run_append_nil (P := P) (w := w) t ty e it zv hu hit hzz ⟨b, off, none⟩ (y0 :: yr).length cap vs hvl (fun j u hj => by rw [addr_add]; exact hcc j u hj) (by simp) (by omega) (by omega)
        have hA := app_new (w' := w.drew.alloc (.cells (vs.toArray ++ Builtin.zeroCells zv.cells (grownCap w (y0 :: yr).length 0 e - (y0 :: yr).length)) e)) hr hid hlen hvs hone rfl rfl rfl rfl
        refine ⟨_, _, _, hrun, ?_, hA⟩
        refine .sl _ id s 0 _ w.heap.size _ _ _ e (0, 0) (by simp [Ids.put]) (heap_alloc_new w.drew _) ?_ (grownCap_ge w _ _ _) (.inr (by simp))
        have hge := grownCap_ge w (y0 :: yr).length 0 e
        have hzs : zv.cells.size = s := by have := hzr.1; simp at this; omega
        simp only [Array.size_append, List.size_toArray, size_zeroCells, hvl, hs, hzs]
        rw [← Nat.add_mul]
        apply Nat.mul_le_mul_right
        omega
      · cases h
  · rename_i o s' off len ys hop hys
    rw [hop] at hx
    split at h
    · rename_i ob ho
      split at h
      · rename_i hc
        obtain ⟨rfl, hobs, rfl, hle, hid, hb⟩ := hc
        cases h
        have hxr := hx
        have hrows : rows σ s' (.sl o s' 0 len) = some ((ob.es.drop 0).take len) := by simp [rows, ho, hobs, hle]
        generalize act.eval x = xv at hx hxr
        obtain ⟨ad0, cap0, hv0, hcap0, hlen0, vs0, hvs0, hone0, hcell0⟩ := rows_ok hr hrows hxr
        obtain ⟨ad, cap, hv, hcap, hlen, vs, hvs, hone, hcell⟩ := rows_ok hr hys hy
        rw [hv]
        obtain ⟨b, cc, elem, fr, hbb, hh, hfr, hF, hL⟩ := hr.live o ob ho
        rw [List.drop_zero] at hvs0 hlen0 hcell0 hcap0 hv0
        have htl : (ob.es.take len).length = len := by simp; omega
        rw [htl] at hcap0 hv0
        cases hx with
        | sl _ _ _ _ _ b2 ad2 cap2 c2 elem2 fr2 hb2 hh2 hfit hlc had =>
          rw [hbb] at hb2; cases hb2
          rw [hh] at hh2; cases hh2
          have hall : ∀ l ∈ ob.es.take len ++ ys, l.length = s' := by
            intro l hl'
            rcases List.mem_append.1 hl' with h1 | h1
            · exact hlen0 l h1
            · exact hlen l h1
          have hfl0 := flat_len hlen0
          have hfl := flat_len hlen
          rw [htl] at hfl0
          have hvl0 : vs0.length = len * s' := by rw [← hvs0.1, hfl0]
          have hvl : vs.length = ys.length * s' := by rw [← hvs.1, hfl]
          have hboth : VRs w F β (ob.es.take len ++ ys).flatten (vs0 ++ vs) := by
            rw [List.flatten_append]; exact hvs0.append hvs
          have hone2 : ∀ u ∈ vs0 ++ vs, u.oneCell' = true := by
            intro u hu'
            rcases List.mem_append.1 hu' with h1 | h1
            · exact hone0 u h1
            · exact hone u h1
          by_cases hroom : len + ys.length ≤ cap2
          · -- there is room
            have hst : (Builtin.append_ #[t, t] ty #[.slice (some ad2) len cap2, .slice ad ys.length cap]).run P w =
                .ok (.slice (some ad2) (len + ys.length) cap2) (w.setRow b (cc.toList.take (len * s') ++ vs ++ cc.toList.drop (len * s' + vs.length)).toArray) := by
              have hf : (Builtin.firstCells it.size ys.length (.slice ad ys.length cap)).run P w = .ok vs.toArray w := by
                rcases hcell with h0 | ⟨b', off', hb', hcc⟩
                · have hv0' : vs = [] := hvs.nil_of (by rw [h0]; rfl)
                  subst h0; subst hv0'
                  cases ad with
                  | none => simp [Builtin.firstCells]
                  | some ad => simp [Builtin.firstCells, loadCells, loadCellsFrom]
                · rw [hb']
                  exact run_firstCells_some (P := P) w it.size ys.length ⟨b', off', none⟩ ys.length cap vs (by rw [hs]; exact hvl) (fun j u hj => by rw [addr_add]; exact hcc j u hj)
              have hstore : (storeCells (ad2.add (len * it.size)) vs).run P w = .ok () (w.setRow b (cc.toList.take (len * s') ++ vs ++ cc.toList.drop (len * s' + vs.length)).toArray) := by
                rcases had with h0 | rfl
                · have : ys.length = 0 := by omega
                  have hv0' : vs = [] := List.eq_nil_of_length_eq_zero (by rw [hvl, this]; simp)
                  subst hv0'
                  simp only [storeCells, List.append_nil, List.length_nil, Nat.add_zero, List.take_append_drop, Array.toArray_toList]
                  rw [setRow_self w b cc elem fr hh]; rfl
                · rw [addr_add, hs]
                  have hfit' : len * s' + vs.length ≤ cc.size := by
                    have := Nat.mul_le_mul_right s' hroom
                    rw [Nat.add_mul] at this
                    simp only [Nat.zero_add] at hfit
                    omega
                  have := run_storeCells_any (P := P) b (0 * s' + len * s') elem fr vs 0 cc w hh (fun j hj => hfr _ (by omega)) (by omega) hone
                  simpa using this
              have hnl : ¬ len + ys.length > cap2 := by omega
              simp [Builtin.append_, run_underlying hu, sizeOf, typeInfo, hit, Builtin.lenOf, hroom, hf, hstore]
            have hfit' : len * s' + vs.length ≤ cc.size := by
              have := Nat.mul_le_mul_right s' hroom
              rw [Nat.add_mul] at this
              simp only [Nat.zero_add] at hfit
              omega
            have hlies : Lies w F β ⟨s', ob.es.take len ++ ys⟩ (cc.toList.take (len * s') ++ vs ++ cc.toList.drop (len * s' + vs.length)).toArray := by
              refine lies_flat hall hboth hone2 (fun k hk => ?_) (by simp; omega)
              rw [getD_mid]
              have htk : (cc.toList.take (len * s')).length = len * s' := by simp; omega
              rw [htk]
              simp only [List.length_append] at hk
              split
              · rename_i hk1
                rw [List.getD_eq_getElem?_getD, List.getElem?_take, if_pos hk1, List.getD_eq_getElem?_getD, List.getElem?_append_left (by omega)]
                -- the old cells
                rcases hcell0 with h0 | ⟨b0, off0, hb0, hcc0⟩
                · have : vs0 = [] := hvs0.nil_of (by rw [h0]; rfl)
                  rw [this] at hvl0; simp at hvl0; omega
                · have e1 : ad0 = some ad2 := by cases hv0; rfl
                  have hcap2 : cap2 ≠ 0 := by
                    rcases Nat.eq_zero_or_pos len with h0 | h0
                    · subst h0; simp at hk1
                    · omega
                  rcases had with h0 | had
                  · exact absurd h0 hcap2
                  rw [hb0] at e1
                  have e2 : (⟨b0, off0, none⟩ : Addr) = ⟨b, 0 * s', none⟩ := by rw [← had]; exact Option.some.inj e1
                  simp only [Addr.mk.injEq, and_true] at e2
                  obtain ⟨rfl, rfl⟩ := e2
                  have hlt : k < vs0.length := by omega
                  have := hcc0 k vs0[k] (List.getElem?_eq_getElem hlt)
                  have hkc : k < cc.size := by omega
                  simp [World.cell?, hh, hkc] at this
                  simp [hkc, hlt, this]
              · rename_i hk1
                rw [if_pos (by omega), List.getD_eq_getElem?_getD (l := vs0 ++ vs), List.getElem?_append_right (by omega), hvl0, List.getD_eq_getElem?_getD]
            have hT := (After.turn (w' := w.setRow b (cc.toList.take (len * s') ++ vs ++ cc.toList.drop (len * s' + vs.length)).toArray) (ob' := ⟨s', ob.es.take len ++ ys⟩)
              hr ho hbb hh hfr hF (c' := (cc.toList.take (len * s') ++ vs ++ cc.toList.drop (len * s' + vs.length)).toArray) (by simp; omega) rfl rfl rfl (by simp) (setRow_heap w b cc _ elem fr hh) (fun k hk => setRow_other w b k _ hk) hlies).2 id hid
            refine ⟨_, _, _, hst, ?_, hT⟩
            refine .sl _ id s' 0 _ b ad2 cap2 _ elem fr (by simp [Ids.put]) (setRow_heap w b cc _ elem fr hh) ?_ hroom had
            simp only [List.size_toArray, List.length_append, List.length_take, List.length_drop, Array.length_toList]
            simp only [Nat.zero_add] at hfit ⊢
            omega
          · -- a new row
            have hyn : ys.length ≠ 0 := by omega
            rcases hcell with h0 | ⟨b', off', hb', hcc⟩
            · rw [h0] at hyn; simp at hyn
            rw [hb']
            have hlb : len + ys.length ≤ 70368744177664 := Nat.le_trans (Nat.le_mul_of_pos_right _ (by omega)) hb
            have hbb2 : (len + ys.length) * it.bytes ≤ 70368744177664 := Nat.le_trans (Nat.mul_le_mul_left _ (by omega)) hb
            have hrun := run_append_grow (P := P) (w := w) t ty e it zv hu hit hzz ad2 len cap2 vs0 (by rw [hs]; exact hvl0) (fun j u hj => by
                rcases hcell0 with h0 | ⟨b0, off0, hb0, hcc0⟩
                · have : vs0 = [] := hvs0.nil_of (by rw [h0]; rfl)
                  rw [this] at hj; simp at hj
                · have e1 : ad0 = some ad2 := by cases hv0; rfl
                  rw [hb0] at e1
                  have e2 : (⟨b0, off0, none⟩ : Addr) = ad2 := Option.some.inj e1
                  rw [← e2, addr_add]; exact hcc0 j u hj) ⟨b', off', none⟩ ys.length cap vs (by rw [hs]; exact hvl) (fun j u hj => by rw [addr_add]; exact hcc j u hj) (by omega) (by omega) (growslice_fits (by omega) (by omega))
            have earr : vs0.toArray ++ vs.toArray = (vs0 ++ vs).toArray := by simp
            rw [earr] at hrun
            have hA := app_new (w' := w.drew.alloc (.cells ((vs0 ++ vs).toArray ++ Builtin.zeroCells zv.cells (grownCap w (len + ys.length) cap2 e - (len + ys.length))) e)) (vs := vs0 ++ vs) (rest := Builtin.zeroCells zv.cells (grownCap w (len + ys.length) cap2 e - (len + ys.length))) hr hid hall hboth hone2 rfl rfl rfl rfl
            have hA2 : After ((σ.set o .dead).set id (.live ⟨s', ob.es.take len ++ ys⟩)) β (β.put id w.heap.size) F F w (w.drew.alloc (.cells ((vs0 ++ vs).toArray ++ Builtin.zeroCells zv.cells (grownCap w (len + ys.length) cap2 e - (len + ys.length))) e)) := by
              have hne : o ≠ id := by intro e; subst e; unfold isFree at hid; rw [ho] at hid; cases hid
              have hsub : ∀ (q : Nat) ob', ((σ.set o .dead).set id (.live ⟨s', ob.es.take len ++ ys⟩))[q]? = some (.live ob') → (σ.set id (.live ⟨s', ob.es.take len ++ ys⟩))[q]? = some (.live ob') := by
                intro q ob' hq
                by_cases e1 : id = q
                · subst e1
                  have hq' : (σ.set o .dead)[id]? = some .free := by rw [get_set_ne hne]; exact hid
                  rw [get_set_same hq'] at hq
                  rw [get_set_same hid]; exact hq
                · rw [get_set_ne e1] at hq ⊢
                  by_cases e2 : o = q
                  · subst e2; rw [get_set_same ho] at hq; cases hq
                  · rwa [get_set_ne e2] at hq
              refine ⟨⟨fun q ob' hq => hA.rel.live q ob' (hsub q ob' hq), fun q q' a1 a2 h1 h2 => hA.rel.inj q q' a1 a2 (hsub q a1 h1) (hsub q' a2 h2), ?_, hA.rel.bF⟩, hA.le, hA.sub, hA.grow, hA.frame, hA.newF, hA.newB⟩
              intro q hq
              apply hA.rel.free q
              by_cases e1 : id = q
              · subst e1
                have hq' : (σ.set o .dead)[id]? = some .free := by rw [get_set_ne hne]; exact hid
                rw [get_set_same hq'] at hq
                rcases hq with hq | hq <;> cases hq
              · rw [get_set_ne e1] at hq ⊢
                by_cases e2 : o = q
                · subst e2; rw [get_set_same ho] at hq; rcases hq with hq | hq <;> cases hq
                · rwa [get_set_ne e2] at hq
            refine ⟨_, _, _, hrun, ?_, hA2⟩
            refine .sl _ id s' 0 _ w.heap.size _ _ _ e (0, 0) (by simp [Ids.put]) (heap_alloc_new w.drew _) ?_ (grownCap_ge w _ _ _) (.inr (by simp))
            have hge := grownCap_ge w (len + ys.length) cap2 e
            have hzs : zv.cells.size = s' := by have := hzr.1; simp at this; omega
            simp only [Array.size_append, List.size_toArray, List.length_append, size_zeroCells, hvl, hvl0, hzs]
            rw [← Nat.add_mul, ← Nat.add_mul, Nat.zero_add]
            apply Nat.mul_le_mul_right
            omega
      · cases h
    · cases h
  · cases h

end
end Go.Proofs.YtffigokicddekaaGreat.Abs
/- The program's operations as steps, and that each does what its step says. No condition. -/
set_option linter.unusedVariables false
set_option linter.unusedSimpArgs false
namespace Go.Proofs.YtffigokicddekaaGreat.Abs
open Go

def oneZ (P : Program) (t : TypeId) : Bool :=
  match (P.info? t).bind (·.zero) with
  | some v => v.cells.all (·.oneCell')
  | none => true

theorem oneZ_ok {P : Program} {t : TypeId} (h : oneZ P t = true) : ∀ i v, P.info? t = some i → i.zero = some v → v.cells.all (·.oneCell') = true := by
  intro i v hi hv
  unfold oneZ at h
  simpa [hi, hv] using h

def isStr (P : Program) (t : TypeId) : Bool := match P.underlying t with | some .string => true | _ => false
def isU8 (P : Program) (t : TypeId) : Bool := match P.underlying t with | some (.int .u8) => true | _ => false
def elemOf? (P : Program) (t : TypeId) : Option TypeId := match P.underlying t with | some (.slice e) => some e | _ => none
def kindOf? (P : Program) (t : TypeId) : Option IntKind := match P.underlying t with | some (.int k) => some k | _ => none
def fieldsOf? (P : Program) (t : TypeId) : Option (Array Field) := match P.underlying t with | some (.struct fs) => some fs | _ => none

theorem isStr_ok {P : Program} {t : TypeId} (h : isStr P t = true) : P.underlying t = some .string := by
  unfold isStr at h; split at h
  · assumption
  · cases h
theorem isU8_ok {P : Program} {t : TypeId} (h : isU8 P t = true) : P.underlying t = some (.int .u8) := by
  unfold isU8 at h; split at h
  · assumption
  · cases h
theorem elemOf?_ok {P : Program} {t e : TypeId} (h : elemOf? P t = some e) : P.underlying t = some (.slice e) := by
  unfold elemOf? at h; split at h
  · cases h; assumption
  · cases h
theorem kindOf?_ok {P : Program} {t : TypeId} {k : IntKind} (h : kindOf? P t = some k) : P.underlying t = some (.int k) := by
  unfold kindOf? at h; split at h
  · cases h; assumption
  · cases h
theorem fieldsOf?_ok {P : Program} {t : TypeId} {fs : Array Field} (h : fieldsOf? P t = some fs) : P.underlying t = some (.struct fs) := by
  unfold fieldsOf? at h; split at h
  · cases h; assumption
  · cases h

/-- which calls turn what they are handed; how many objects a call makes for its caller -/
structure Fns where
  wr : FuncId → Bool
  own : FuncId → Nat
  frz : Bool

def compOp (P : Program) (Γ : Fns) (id : Nat) : Op → Option AO
  | .move x => some (.mov (opdOf x))
  | .assign x => some (.mov (opdOf x))
  | .pick c x y => some (.pick (opdOf c) (opdOf x) (opdOf y))
  | .alloc t => match sz P t, zeroOf P t with
    | some s, some z => if z.length = s ∧ oneZ P t = true then some (.alloc id s z) else none
    | _, _ => none
  | .box t x => match sz P t with
    | some s => some (.box id s (opdOf x))
    | none => none
  | .build t ps => match fieldsOf? P t, zeroOf P t with
    | some fs, some z => match fs.toList.mapM (fun f => (P.info? f.type).map fun i => (f.offset, i.size)) with
      | some places => match partsOf places ps.toList with
        | some l => some (.build z l)
        | none => none
      | none => none
    | _, _ => none
  | .buildSlice t n ps => match elemOf? P t with
    | some e => match sz P e, zeroOf P e with
      | some s, some z => if z.length = s ∧ 0 < s ∧ n * s ≤ 16777216 ∧ oneZ P e = true then some (.bslice id s n z (ps.toList.map fun p => (p.1, opdOf p.2))) else none
      | _, _ => none
    | none => none
  | .load t x => match sz P t, P.underlying t with
    | some s, some d => if aggD d = true ∨ s = 1 then some (.load s (aggD d) (opdOf x)) else none
    | _, _ => none
  | .store t x y => match sz P t with
    | some s => some (.store s (opdOf x) (opdOf y))
    | none => none
  | .nilCheck x => some (.nilc (opdOf x))
  | .binOp op t x y _ => match P.underlying t with
    | some (.int _) => some (.bin op (opdOf x) (opdOf y))
    | some .string => some (.bin op (opdOf x) (opdOf y))
    | some .bool => match op with
      | .eql => some (.beq false (opdOf x) (opdOf y))
      | .neq => some (.beq true (opdOf x) (opdOf y))
      | _ => none
    | some (.struct _) => match eqT P 8 t with
      | some ks => if sz P t = some ks.length ∧ P.eqGuardType P.depth t = false then match op with
          | .eql => some (.eqs ks false (opdOf x) (opdOf y))
          | .neq => some (.eqs ks true (opdOf x) (opdOf y))
          | _ => none
        else none
      | none => none
    | _ => none
  | .unOp .not _ x => some (.not (opdOf x))
  | .unOp .neg _ x => some (.neg (opdOf x))
  | .convert t u x => match kindOf? P t, kindOf? P u with
    | some _, some k => some (.cint k (opdOf x))
    | _, _ => if isStr P t then match elemOf? P u with
        | some e => if isU8 P e then (if Γ.frz = true then some (.s2f (opdOf x)) else some (.s2b id (opdOf x))) else none
        | none => none
      else if isStr P u then match elemOf? P t with
        | some e => if isU8 P e then some (.b2s (opdOf x)) else none
        | none => none
      else if t = u then match elemOf? P t with
        | some e => if isU8 P e then some (.mkf (opdOf x)) else none
        | none => none
      else none
  | .makeSlice t l c => match elemOf? P t with
    | some e => match P.info? e, zeroOf P e with
      | some i, some z => if z.length = i.size ∧ 0 < i.size ∧ oneZ P e = true then some (.mks id i.size i.bytes z (opdOf l) (opdOf c)) else none
      | _, _ => none
    | none => none
  | .slice t x lo hi none => match elemOf? P t with
    | some e => match sz P e with
      | some s => some (.slice s (opdOf x) (lo.map opdOf) (hi.map opdOf))
      | none => none
    | none => if isStr P t then some (.sslice (opdOf x) (lo.map opdOf) (hi.map opdOf)) else none
  | .fieldAddr t x f => match fieldsOf? P t with
    | some fs => match fs[f]? with
      | some fd => match sz P fd.type with
        | some s => if s ≠ 0 then some (.faddr fd.offset (opdOf x)) else none
        | none => none
      | none => none
    | none => none
  | .field t x f => match fieldsOf? P t with
    | some fs => match fs[f]? with
      | some fd => match sz P fd.type, P.underlying fd.type with
        | some s, some d => if aggD d = true ∨ s = 1 then some (.field fd.offset s (aggD d) (opdOf x)) else none
        | _, _ => none
      | none => none
    | none => none
  | .indexAddr t x i => match elemOf? P t with
    | some e => match sz P e with
      | some s => some (.iaddr s (opdOf x) (opdOf i))
      | none => none
    | none => none
  | .index t x i => if isStr P t then some (.sindex (opdOf x) (opdOf i)) else none
  | .extract x i => some (.ext (opdOf x) i)
  | .call c => match c.callee with
    | .builtin .len => match c.argTypes.toList, c.args.toList with
      | [t], [x] => match elemOf? P t with
        | some _ => some (.len (opdOf x))
        | none => if isStr P t then some (.slen (opdOf x)) else none
      | _, _ => none
    | .builtin .append => match c.argTypes.toList, c.args.toList with
      | [t, t'], [x, y] => if t = t' then match elemOf? P t with
          | some e => match P.info? e, zeroOf P e with
            | some i, some z => if z.length = i.size ∧ 0 < i.size then some (.app id i.size i.bytes (opdOf x) (opdOf y)) else none
            | _, _ => none
          | none => none
        else none
      | _, _ => none
    | .builtin .max => match c.args.toList with
      | [x, y] => some (.max [opdOf x, opdOf y])
      | _ => none
    | .builtin .min => match c.args.toList with
      | [x, y] => some (.min [opdOf x, opdOf y])
      | _ => none
    | .value (.func f) => match P.funcs[f]? with
      | some fn => if fn.body.isSome ∧ fn.name ≠ "runtime.NumGoroutine" then some (.call (Γ.wr f) id (Γ.own f) f (c.args.toList.map opdOf)) else none
      | none => none
    | _ => none
  | _ => none

theorem sz_ok {P : Program} {t : TypeId} {s : Nat} (h : sz P t = some s) : ∃ i, P.info? t = some i ∧ i.size = s := by
  unfold sz at h
  cases hi : P.info? t with
  | none => simp [hi] at h
  | some i => simp [hi] at h; exact ⟨i, rfl, h⟩

theorem array_two {α : Type} {x : Array α} {a b : α} (h : x.toList = [a, b]) : x = #[a, b] := by
  apply Array.ext'; simpa using h
theorem array_one {α : Type} {x : Array α} {a : α} (h : x.toList = [a]) : x = #[a] := by
  apply Array.ext'; simpa using h

section
variable {P : Program} {Γ : Fns} {σ : Store} {β : Ids} {F : Nat → Prop} {w : World} {a : Env} {act : Act}

/-- THE STEP IS RIGHT: what the operation does in the model is what its step says. -/
theorem astep_sound (hr : Rel σ β F w) (ha : EnvR w F β a act) {o : Oper} {id : Nat} {ao : AO} (hc : compOp P Γ id o.op = some ao) {v : V} {σ' : Store} (h : astep ao a σ = some (v, σ')) :
    StepOk ((execOp act.eval o).run P w) σ' β F w v := by
  have pureV : ∀ (m : Sem Value), (σ' = σ ∧ ∃ val, m.run P w = .ok val w ∧ VR w F β v val) → (execOp act.eval o = (do pure (.value (← m)))) → StepOk ((execOp act.eval o).run P w) σ' β F w v := by
    rintro m ⟨rfl, val, hm, hv⟩ he
    exact .pure hr (by rw [he]; simp [hm]) hv
  have newV : ∀ (m : Sem Value), (∃ val w' β', m.run P w = .ok val w' ∧ VR w' F β' v val ∧ After σ' β β' F F w w') → (execOp act.eval o = (do pure (.value (← m)))) → StepOk ((execOp act.eval o).run P w) σ' β F w v := by
    rintro m ⟨val, w', β', hm, hv, hA⟩ he
    exact ⟨val, w', β', F, .inl (by rw [he]; simp [hm]), hv, hA⟩
  have newF : ∀ (m : Sem Value), (∃ val w' F', m.run P w = .ok val w' ∧ VR w' F' β v val ∧ After σ' β β F F' w w') → (execOp act.eval o = (do pure (.value (← m)))) → StepOk ((execOp act.eval o).run P w) σ' β F w v := by
    rintro m ⟨val, w', F', hm, hv, hA⟩ he
    exact ⟨val, w', β, F', .inl (by rw [he]; simp [hm]), hv, hA⟩
  obtain ⟨dst, op, type, pos, after, guard⟩ := o
  dsimp only at hc
  cases op <;> simp only [compOp, reduceCtorEq] at hc
  case move x =>
    cases hc; simp only [astep, Option.some.injEq, Prod.mk.injEq] at h
    obtain ⟨rfl, rfl⟩ := h
    exact .pure hr (by simp [execOp]) (opd_ok ha x)
  case assign x =>
    cases hc; simp only [astep, Option.some.injEq, Prod.mk.injEq] at h
    obtain ⟨rfl, rfl⟩ := h
    exact .pure hr (by simp [execOp]) (opd_ok ha x)
  case pick c x y =>
    cases hc
    obtain ⟨rfl, val, h1, h2⟩ := pick_ok (P := P) (w := w) ha h
    exact .pure hr h1 h2
  case alloc t =>
    split at hc
    · rename_i s z hs hz
      split at hc
      · rename_i hcond
        cases hc
        exact newV _ (alloc_ok hr hs hz hcond.1 (oneZ_ok hcond.2) h) rfl
      · cases hc
    · cases hc
  case box t x =>
    split at hc
    · cases hc; exact newV _ (box_ok hr ha h) rfl
    · cases hc
  case build t ps =>
    split at hc
    · rename_i fs z hfs hz
      split at hc
      · rename_i places hpl
        split at hc
        · rename_i l hl
          cases hc
          exact pureV _ (build_ok (P := P) ha (fieldsOf?_ok hfs) hpl hz hl h) rfl
        · cases hc
      · cases hc
    · cases hc
  case buildSlice t n ps =>
    split at hc
    · rename_i e he
      split at hc
      · rename_i s z hs hz
        split at hc
        · rename_i hcond
          cases hc
          exact newV _ (bslice_ok hr ha (elemOf?_ok he) hs hz hcond.1 hcond.2.1 hcond.2.2.1 (oneZ_ok hcond.2.2.2) h) rfl
        · cases hc
      · cases hc
    · cases hc
  case load t x =>
    split at hc
    · rename_i s d hs hd
      split at hc
      · rename_i hag
        cases hc
        obtain ⟨i, hi, his⟩ := sz_ok hs
        exact pureV _ (load_ok hr ha hd hi his hag h) rfl
      · cases hc
    · cases hc
  case store t x y =>
    split at hc
    · rename_i s hs
      cases hc
      obtain ⟨rfl, w', β', hrun, hA⟩ := store_ok (P := P) hr ha hs h
      exact ⟨undef, w', β', F, .inr ⟨by simp [execOp, hrun], rfl⟩, .unk _ _, hA⟩
    · cases hc
  case nilCheck x =>
    cases hc
    obtain ⟨rfl, hv, ad, had⟩ := nilc_ok ha h
    refine .pure hr ?_ hv
    simp [execOp, had]
  case binOp op t x y yt =>
    split at hc
    · cases hc; exact pureV _ (bin_ok (P := P) ha h) rfl
    · cases hc; exact pureV _ (bin_ok (P := P) ha h) rfl
    · rename_i hu
      split at hc
      · cases hc; exact pureV _ (by simpa using beq_ok (P := P) (t := t) ha hu h) rfl
      · cases hc; exact pureV _ (by simpa using beq_ok (P := P) (t := t) ha hu h) rfl
      · cases hc
    · rename_i fs hu
      split at hc
      · rename_i ks hks
        split at hc
        · rename_i hcond
          obtain ⟨i, hi, _⟩ := sz_ok hcond.1
          split at hc
          · cases hc; exact pureV _ (by simpa using eqs_ok (P := P) (t := t) (i := i) ha hu hks (by omega) hcond.1 hcond.2 h) rfl
          · cases hc; exact pureV _ (by simpa using eqs_ok (P := P) (t := t) (i := i) ha hu hks (by omega) hcond.1 hcond.2 h) rfl
          · cases hc
        · cases hc
      · cases hc
    · cases hc
  case unOp op t x =>
    cases op <;> simp only [compOp, reduceCtorEq, Option.some.injEq] at hc
    · subst hc; exact pureV _ (neg_ok (P := P) ha h) rfl
    · subst hc; exact pureV _ (not_ok (P := P) ha h) rfl
  case convert t u x =>
    split at hc
    · rename_i k k' h1 h2
      cases hc
      exact pureV _ (cint_ok (P := P) ha (kindOf?_ok h1) (kindOf?_ok h2) h) rfl
    · split at hc
      · rename_i hs
        split at hc
        · rename_i e he
          split at hc
          · rename_i h8
            split at hc
            · cases hc
              exact newF _ (s2f_ok (P := P) hr ha (isStr_ok hs) (elemOf?_ok he) (isU8_ok h8) h) rfl
            cases hc
            exact newV _ (s2b_ok (P := P) hr ha (isStr_ok hs) (elemOf?_ok he) (isU8_ok h8) h) rfl
          · cases hc
        · cases hc
      · split at hc
        · rename_i hs
          split at hc
          · rename_i e he
            split at hc
            · rename_i h8
              cases hc
              exact pureV _ (b2s_ok (P := P) hr ha (elemOf?_ok he) (isStr_ok hs) (isU8_ok h8) h) rfl
            · cases hc
          · cases hc
        · split at hc
          · rename_i htu
            subst htu
            split at hc
            · rename_i e he
              split at hc
              · rename_i h8
                cases hc
                exact newF _ (mkf_ok (P := P) hr ha (elemOf?_ok he) (isU8_ok h8) h) rfl
              · cases hc
            · cases hc
          · cases hc
  case makeSlice t l c =>
    split at hc
    · rename_i e he
      split at hc
      · rename_i i z hi hz
        split at hc
        · rename_i hcond
          cases hc
          exact newV _ (mks_ok (P := P) hr ha (elemOf?_ok he) hi rfl hz hcond.1 hcond.2.1 (oneZ_ok hcond.2.2) h) rfl
        · cases hc
      · cases hc
    · cases hc
  case slice t x lo hi mx =>
    cases mx with
    | some m => simp only [compOp, reduceCtorEq] at hc
    | none =>
      simp only [compOp] at hc
      split at hc
      · rename_i e he
        split at hc
        · rename_i s hs
          cases hc
          obtain ⟨i, hi', his⟩ := sz_ok hs
          exact pureV _ (slice_ok (P := P) ha (elemOf?_ok he) hi' his h) rfl
        · cases hc
      · split at hc
        · rename_i hs
          cases hc
          exact pureV _ (sslice_ok (P := P) ha (isStr_ok hs) h) rfl
        · cases hc
  case fieldAddr t x f =>
    split at hc
    · rename_i fs hfs
      split at hc
      · rename_i fd hfd
        split at hc
        · rename_i s hs
          split at hc
          · rename_i hne
            cases hc
            obtain ⟨i, hi, his⟩ := sz_ok hs
            exact pureV _ (faddr_ok (P := P) ha (fieldsOf?_ok hfs) hfd hi (by rw [his]; exact hne) h) rfl
          · cases hc
        · cases hc
      · cases hc
    · cases hc
  case field t x f =>
    split at hc
    · rename_i fs hfs
      split at hc
      · rename_i fd hfd
        split at hc
        · rename_i s d hs hd
          split at hc
          · rename_i hag
            cases hc
            obtain ⟨i, hi, his⟩ := sz_ok hs
            exact pureV _ (field_ok (P := P) ha (fieldsOf?_ok hfs) hfd hi his hd hag h) rfl
          · cases hc
        · cases hc
      · cases hc
    · cases hc
  case indexAddr t x i =>
    split at hc
    · rename_i e he
      split at hc
      · rename_i s hs
        cases hc
        obtain ⟨i', hi, his⟩ := sz_ok hs
        exact pureV _ (iaddr_ok (P := P) ha (elemOf?_ok he) hi his h) rfl
      · cases hc
    · cases hc
  case index t x i =>
    split at hc
    · rename_i hs
      cases hc
      exact pureV _ (sindex_ok (P := P) ha (isStr_ok hs) h) rfl
    · cases hc
  case extract x i =>
    cases hc
    exact pureV _ (ext_ok (P := P) ha h) rfl
  case call c =>
    obtain ⟨callee, args, argTypes⟩ := c
    dsimp only at hc
    split at hc
    · -- len
      split at hc
      · rename_i t x ht hx
        have e1 := array_one ht
        have e2 := array_one hx
        subst e1; subst e2
        split at hc
        · rename_i e he
          cases hc
          exact pureV _ (len_ok (P := P) (ty := type) ha (elemOf?_ok he) h) (by simp [execOp, resolve, invoke, builtin])
        · split at hc
          · rename_i hs
            cases hc
            exact pureV _ (slen_ok (P := P) (ty := type) ha (isStr_ok hs) h) (by simp [execOp, resolve, invoke, builtin])
          · cases hc
      · cases hc
    · -- append
      split at hc
      · rename_i t t' x y ht hx
        have e1 := array_two ht
        have e2 := array_two hx
        subst e1; subst e2
        split at hc
        · rename_i htt
          subst htt
          split at hc
          · rename_i e he
            split at hc
            · rename_i i z hi hz
              split at hc
              · rename_i hcond
                cases hc
                exact newV _ (app_ok (P := P) (ty := type) hr ha (elemOf?_ok he) hi rfl hz hcond.1 hcond.2 h) (by simp [execOp, resolve, invoke, builtin])
              · cases hc
            · cases hc
          · cases hc
        · cases hc
      · cases hc
    · -- max
      split at hc
      · rename_i x y hx
        have e2 := array_two hx
        subst e2
        cases hc
        exact pureV _ (max_ok (P := P) (ts := argTypes) (t := type) ha h) (by simp [execOp, resolve, invoke, builtin])
      · cases hc
    · -- min
      split at hc
      · rename_i x y hx
        have e2 := array_two hx
        subst e2
        cases hc
        exact pureV _ (min_ok (P := P) (ts := argTypes) (t := type) ha h) (by simp [execOp, resolve, invoke, builtin])
      · cases hc
    · -- a call of a function is no step
      split at hc
      · split at hc
        · cases hc; simp [astep] at h
        · cases hc
      · cases hc
    · cases hc

end
end Go.Proofs.YtffigokicddekaaGreat.Abs
/- What a function does, told over abstract values; a call. No condition. -/
set_option linter.unusedVariables false
set_option linter.unusedSimpArgs false
namespace Go.Proofs.YtffigokicddekaaGreat.Abs
open Go

mutual
/-- the value names no object of the store -/
def V.closed : V → Bool
  | .ptr _ _ _ _ | .sl _ _ _ _ => false
  | .agg cs => V.closeds cs
  | .tup cs => V.closeds cs
  | _ => true
def V.closeds : List V → Bool
  | [] => true
  | x :: xs => x.closed && V.closeds xs
end

mutual
/-- the value leans on no frozen block -/
def V.flat : V → Bool
  | .fp _ => false
  | .fz _ es => es.isEmpty
  | .agg cs => V.flats cs
  | .tup cs => V.flats cs
  | _ => true
def V.flats : List V → Bool
  | [] => true
  | x :: xs => x.flat && V.flats xs
end

mutual
/-- other names for the objects -/
def V.ren (f : Nat → Nat) : V → V
  | .ptr o s e c => .ptr (f o) s e c
  | .sl o s off len => .sl (f o) s off len
  | .agg cs => .agg (V.rens f cs)
  | .tup cs => .tup (V.rens f cs)
  | x => x
def V.rens (f : Nat → Nat) : List V → List V
  | [] => []
  | x :: xs => x.ren f :: V.rens f xs
end

theorem closeds_get : ∀ {xs : List V}, V.closeds xs = true → ∀ (j : Nat) x, xs[j]? = some x → x.closed = true
  | [], _, j, x, h => by simp at h
  | y :: ys, hc, 0, x, h => by simp [V.closeds] at hc; simp at h; subst h; exact hc.1
  | y :: ys, hc, j + 1, x, h => by simp [V.closeds] at hc; exact closeds_get hc.2 j x (by simpa using h)
theorem flats_get : ∀ {xs : List V}, V.flats xs = true → ∀ (j : Nat) x, xs[j]? = some x → x.flat = true
  | [], _, j, x, h => by simp at h
  | y :: ys, hc, 0, x, h => by simp [V.flats] at hc; simp at h; subst h; exact hc.1
  | y :: ys, hc, j + 1, x, h => by simp [V.flats] at hc; exact flats_get hc.2 j x (by simpa using h)
theorem rens_get (f : Nat → Nat) : ∀ {xs : List V}, (V.rens f xs).length = xs.length ∧ ∀ (j : Nat), (V.rens f xs)[j]? = xs[j]?.map (V.ren f)
  | [] => ⟨rfl, fun j => by simp [V.rens]⟩
  | y :: ys => by
    obtain ⟨h1, h2⟩ := rens_get f (xs := ys)
    refine ⟨by simp [V.rens, h1], fun j => ?_⟩
    cases j with
    | zero => simp [V.rens]
    | succ j => simpa [V.rens] using h2 j

theorem VR.closed {w : World} {F : Nat → Prop} {β : Ids} {x : V} {v : Value} (h : VR w F β x v) : x.closed = true → ∀ β', VR w F β' x v := by
  induction h with
  | int β k n => exact fun _ β' => .int β' k n
  | bool β b => exact fun _ β' => .bool β' b
  | str β s => exact fun _ β' => .str β' s
  | nilp β => exact fun _ β' => .nilp β'
  | ptr => exact fun h => by simp [V.closed] at h
  | fp β cs b off f hF hc hr ih => exact fun _ β' => .fp β' cs b off f hF hc hr
  | nl β => exact fun _ β' => .nl β'
  | fz0 β s a cap => exact fun _ β' => .fz0 β' s a cap
  | fz β s es b off cap f hF hcap hl hc hr ih => exact fun _ β' => .fz β' s es b off cap f hF hcap hl hc hr
  | sl => exact fun h => by simp [V.closed] at h
  | agg β cs vs hl hr ih => exact fun h β' => .agg β' cs vs hl fun j x hx => ih j x hx (closeds_get (by simpa [V.closed] using h) j x hx) β'
  | tup β cs vs hl hr ih => exact fun h β' => .tup β' cs vs hl fun j x hx => ih j x hx (closeds_get (by simpa [V.closed] using h) j x hx) β'
  | unk β v => exact fun _ β' => .unk β' v

theorem VR.flat {w : World} {F : Nat → Prop} {β : Ids} {x : V} {v : Value} (h : VR w F β x v) : x.flat = true → ∀ F', VR w F' β x v := by
  induction h with
  | int β k n => exact fun _ _ => .int β k n
  | bool β b => exact fun _ _ => .bool β b
  | str β s => exact fun _ _ => .str β s
  | nilp β => exact fun _ _ => .nilp β
  | ptr β o s e c b h => exact fun _ _ => .ptr β o s e c b h
  | fp => exact fun h => by simp [V.flat] at h
  | nl β => exact fun _ _ => .nl β
  | fz0 β s a cap => exact fun _ _ => .fz0 β s a cap
  | fz β s es b off cap f hF hcap hl hc hr ih =>
    intro h F'
    simp [V.flat] at h
    subst h
    exact .fz0 β s _ _
  | sl β o s off len b a cap c elem fr h1 h2 h3 h4 h5 => exact fun _ _ => .sl β o s off len b a cap c elem fr h1 h2 h3 h4 h5
  | agg β cs vs hl hr ih => exact fun h F' => .agg β cs vs hl fun j x hx => ih j x hx (flats_get (by simpa [V.flat] using h) j x hx) F'
  | tup β cs vs hl hr ih => exact fun h F' => .tup β cs vs hl fun j x hx => ih j x hx (flats_get (by simpa [V.flat] using h) j x hx) F'
  | unk β v => exact fun _ _ => .unk β v

theorem VR.ren {w : World} {F : Nat → Prop} {f : Nat → Nat} {β : Ids} {x : V} {v : Value} (h : VR w F β x v) : ∀ β' : Ids, (∀ k b, β k = some b → β' (f k) = some b) → VR w F β' (x.ren f) v := by
  induction h with
  | int β k n => exact fun β' _ => .int β' k n
  | bool β b => exact fun β' _ => .bool β' b
  | str β s => exact fun β' _ => .str β' s
  | nilp β => exact fun β' _ => .nilp β'
  | ptr β o s e c b h => exact fun β' hf => .ptr β' (f o) s e c b (hf o b h)
  | fp β cs b off g hF hc hr ih => exact fun β' _ => .fp β' cs b off g hF hc hr
  | nl β => exact fun β' _ => .nl β'
  | fz0 β s a cap => exact fun β' _ => .fz0 β' s a cap
  | fz β s es b off cap g hF hcap hl hc hr ih => exact fun β' _ => .fz β' s es b off cap g hF hcap hl hc hr
  | sl β o s off len b a cap c elem fr h1 h2 h3 h4 h5 => exact fun β' hf => .sl β' (f o) s off len b a cap c elem fr (hf o b h1) h2 h3 h4 h5
  | agg β cs vs hl hr ih =>
    intro β' hf
    obtain ⟨g1, g2⟩ := rens_get f (xs := cs)
    refine .agg β' _ vs (by rw [g1]; exact hl) fun j x hx => ?_
    rw [g2, Option.map_eq_some_iff] at hx
    obtain ⟨y, hy, rfl⟩ := hx
    exact ih j y hy β' hf
  | tup β cs vs hl hr ih =>
    intro β' hf
    obtain ⟨g1, g2⟩ := rens_get f (xs := cs)
    refine .tup β' _ vs (by rw [g1]; exact hl) fun j x hx => ?_
    rw [g2, Option.map_eq_some_iff] at hx
    obtain ⟨y, hy, rfl⟩ := hx
    exact ih j y hy β' hf
  | unk β v => exact fun β' _ => .unk β' v

/-- the object names no object, each cell of it -/
def Ob.closed (ob : Ob) : Prop := ∀ l ∈ ob.es, ∀ x ∈ l, x.closed = true
def Ob.flat (ob : Ob) : Prop := ∀ l ∈ ob.es, ∀ x ∈ l, x.flat = true

def lives (σ : List Ob) : Store := σ.map .live

/-- WHAT A FUNCTION DOES: called with values that vs says, and the objects σ that they name, it returns what v says, and leaves the objects σ' (those that it was handed first, then those that it made); nothing else has turned. -/
def FS (P : Program) (f : FuncId) (σ : List Ob) (vs : List V) (v : V) (σ' : List Ob) : Prop :=
  ∀ (β : Ids) (F : Nat → Prop) (w : World) (args : Array Value), Rel (lives σ) β F w → VRs w F β vs args.toList →
    Calls P f args w fun e w' => ∃ val β' F', e = .returned val ∧ VR w' F' β' v val ∧ After (lives σ') β β' F F' w w'

/-- y says no more than x -/
def VLe (x y : V) : Prop := ∀ (w : World) (F : Nat → Prop) (β : Ids) (v : Value), VR w F β x v → VR w F β y v
theorem VLe.refl (x : V) : VLe x x := fun _ _ _ _ h => h
theorem VLe.nl (s : Nat) : VLe .nl (.fz s []) := fun _ _ _ _ h => by cases h; exact .fz0 _ _ _ _
theorem VLe.unk (x : V) : VLe x .unk := fun _ _ _ v _ => .unk _ v
theorem VLe.agg {xs ys : List V} (hl : xs.length = ys.length) (h : ∀ (j : Nat) x y, xs[j]? = some x → ys[j]? = some y → VLe x y) : VLe (.agg xs) (.agg ys) := fun w F β v hv => by
  obtain ⟨vs, rfl, hvs⟩ := agg_inv hv
  refine agg_mk ⟨by rw [← hl]; exact hvs.1, fun j y hy => ?_⟩
  have hj : j < xs.length := by rw [hl]; exact (List.getElem?_eq_some_iff.1 hy).1
  exact h j xs[j] y (List.getElem?_eq_getElem hj) hy _ _ _ _ (hvs.2 j xs[j] (List.getElem?_eq_getElem hj))

/-- how what the caller hands over looks to the one that is called: objects in m under the callee's names; other objects as frozen rows (b: there are such) -/
inductive View (σ : Store) (m : List Nat) : Bool → V → V → Prop where
  | same (b : Bool) (x y : V) : x.closed = true → VLe x y → View σ m b x y
  | ptr (b : Bool) (o k s e c : Nat) : m[k]? = some o → View σ m b (.ptr o s e c) (.ptr k s e c)
  | sl (b : Bool) (o k s off len : Nat) : m[k]? = some o → View σ m b (.sl o s off len) (.sl k s off len)
  | rows (o s off len : Nat) (es : List (List V)) : o ∉ m → rows σ s (.sl o s off len) = some es → (∀ l ∈ es, ∀ x ∈ l, x.closed = true) → View σ m true (.sl o s off len) (.fz s es)
  | agg (b : Bool) (xs ys : List V) : xs.length = ys.length → (∀ (j : Nat) x y, xs[j]? = some x → ys[j]? = some y → View σ m b x y) → View σ m b (.agg xs) (.agg ys)

def renOf (m : List Nat) (id : Nat) (k : Nat) : Nat := match m[k]? with
  | some o => o
  | none => id + (k - m.length)

/-- the objects behind a call -/
def putObs (σ : Store) (m : List Nat) (id : Nat) (σo : List Ob) : Store :=
  (σo.zipIdx).foldl (fun τ p => τ.set (renOf m id p.2) (.live p.1)) σ

mutual
/-- the objects that a value names -/
def V.ids : V → List Nat
  | .ptr o _ _ _ => [o]
  | .sl o _ _ _ => [o]
  | .agg cs => V.idsL cs
  | .tup cs => V.idsL cs
  | _ => []
def V.idsL : List V → List Nat
  | [] => []
  | x :: xs => x.ids ++ V.idsL xs
end

theorem idsL_mem : ∀ {xs : List V} {j : Nat} {x : V}, xs[j]? = some x → ∀ o ∈ x.ids, o ∈ V.idsL xs
  | [], j, x, h => by simp at h
  | y :: ys, 0, x, h => by simp at h; subst h; intro o ho; simp [V.idsL, ho]
  | y :: ys, j + 1, x, h => by
    intro o ho
    have := idsL_mem (xs := ys) (j := j) (x := x) (by simpa using h) o ho
    simp [V.idsL, this]

structure CallOk (P : Program) (f : FuncId) (id own : Nat) (σ : Store) (xs : List V) (v' : V) (σ' : Store) (m : List Nat) (σi σo : List Ob) (vs : List V) (v : V) (b : Bool) : Prop where
  fs : FS P f σi vs v σo
  nd : m.Nodup
  sub : ∀ o ∈ m, o ∈ V.idsL xs
  len : m.length = σi.length
  at_ : ∀ (k o : Nat) ob, m[k]? = some o → σi[k]? = some ob → σ[o]? = some (.live ob)
  view : xs.length = vs.length ∧ ∀ (j : Nat) x y, xs[j]? = some x → vs[j]? = some y → View σ m b x y
  ole : m.length ≤ σo.length
  olen : σo.length ≤ m.length + own
  new : ∀ j, j < own → isFree σ (id + j)
  icl : ∀ ob ∈ σi, ob.closed
  ocl : ∀ ob ∈ σo, ob.closed
  flat : b = true → v.flat = true ∧ ∀ ob ∈ σo, ob.flat
  res : v' = v.ren (renOf m id)
  st : σ' = putObs σ m id σo

end Go.Proofs.YtffigokicddekaaGreat.Abs
/- A call is right. No condition. -/
set_option linter.unusedVariables false
set_option linter.unusedSimpArgs false
namespace Go.Proofs.YtffigokicddekaaGreat.Abs
open Go

theorem Grow.weaken {F F' : Nat → Prop} {w w' : World} (h : Grow F' w w') (hF : ∀ b, F b → F' b) : Grow F w w' :=
  ⟨h.os, h.tape, h.output, h.size, h.cells, fun b hb => h.same b (hF b hb)⟩

theorem Lies.closed {w : World} {F F' : Nat → Prop} {β β' : Ids} {ob : Ob} {c : Array Value} (h : Lies w F β ob c) (hc : ob.closed) (hF : (∀ b, F b → F' b) ∨ ob.flat) : Lies w F' β' ob c := by
  intro e l he
  obtain ⟨h1, h2, h3⟩ := h e l he
  refine ⟨h1, h2, fun j x hx => ⟨?_, (h3 j x hx).2⟩⟩
  have hx1 := (h3 j x hx).1
  have hcl := hc l (List.mem_of_getElem? he) x (List.mem_of_getElem? hx)
  rcases hF with hF | hF
  · exact (hx1.mono (Grow.refl F w) hF β (Ids.le_refl _)).closed hcl β'
  · exact (hx1.flat (hF l (List.mem_of_getElem? he) x (List.mem_of_getElem? hx)) F').closed hcl β'

/-- an object's slice, seen as frozen rows -/
theorem sl_view {σ : Store} {β : Ids} {F F1 : Nat → Prop} {w : World} (hr : Rel σ β F w) {o s off len : Nat} {es : List (List V)} (h : rows σ s (.sl o s off len) = some es) (hcl : ∀ l ∈ es, ∀ x ∈ l, x.closed = true)
    (hF : ∀ b, F b → F1 b) (hF1 : ∀ b ob, σ[o]? = some (.live ob) → β o = some b → F1 b) {v : Value} (hv : VR w F β (.sl o s off len) v) (β' : Ids) : VR w F1 β' (.fz s es) v := by
  simp only [rows] at h
  split at h
  · rename_i ob ho
    split at h
    · rename_i hc
      obtain ⟨_, hs, hle⟩ := hc
      cases h
      obtain ⟨b, cc, elem, fr, hb, hh, hfr, hFb, hL⟩ := hr.live o ob ho
      cases hv with
      | sl _ _ _ _ _ b' ad cap c2 elem2 fr2 hb' hh' hfit hlc had =>
        rw [hb] at hb'; cases hb'
        rw [hh] at hh'; cases hh'
        have hlen : ((ob.es.drop off).take len).length = len := by simp; omega
        rcases Nat.eq_zero_or_pos len with h0 | h0
        · subst h0
          simp only [List.take_zero]
          exact .fz0 _ _ _ _
        · rcases had with h1 | rfl
          · omega
          · have get : ∀ (e : Nat) l, ((ob.es.drop off).take len)[e]? = some l → ob.es[off + e]? = some l := by
              intro e l he
              rw [List.getElem?_take] at he
              split at he
              · rwa [List.getElem?_drop] at he
              · cases he
            have hfz := VR.fz (w := w) (F := F1) β' s ((ob.es.drop off).take len) b (off * s) cap (fun e j => cc.getD ((off + e) * s + j) undef) (hF1 b ob ho hb) (by omega) ?_ ?_ ?_
            · rw [hlen] at hfz; exact hfz
            · intro l hl
              obtain ⟨e, he⟩ := List.mem_iff_getElem?.1 hl
              rw [(hL _ l (get e l he)).1, hs]
            · intro e l he j x hx
              obtain ⟨g1, g2, g3⟩ := hL _ l (get e l he)
              rw [hs] at g1 g2 g3
              have hj : j < s := by have := (List.getElem?_eq_some_iff.1 hx).1; omega
              refine ⟨?_, (g3 j x hx).2⟩
              rw [show off * s + e * s + j = (off + e) * s + j by rw [Nat.add_mul]]
              have hlt : (off + e) * s + j < cc.size := by omega
              simp [World.cell?, hh, hlt]
            · intro e l he j x hx
              obtain ⟨g1, g2, g3⟩ := hL _ l (get e l he)
              rw [hs] at g3
              exact ((g3 j x hx).1.mono (Grow.refl F w) hF β (Ids.le_refl _)).closed (hcl l (List.mem_of_getElem? he) x (List.mem_of_getElem? hx)) _
    · cases h
  · cases h

theorem view_ok {σ : Store} {β : Ids} {F F1 : Nat → Prop} {w : World} (hr : Rel σ β F w) {m : List Nat} {b : Bool} (hF : ∀ q, F q → F1 q) (hF1 : b = true → ∀ (o q : Nat) ob, o ∉ m → σ[o]? = some (.live ob) → β o = some q → F1 q)
    {x y : V} (h : View σ m b x y) : ∀ {v : Value}, VR w F β x v → VR w F1 (fun k => (m[k]?).bind β) y v := by
  induction h with
  | same b x y hc hle => exact fun hv => hle _ _ _ _ ((hv.mono (Grow.refl F w) hF β (Ids.le_refl _)).closed hc _)
  | ptr b o k s e c hm =>
    intro v hv
    cases hv with
    | ptr _ _ _ _ _ q hq => exact .ptr _ k s e c q (by simp [hm, hq])
  | sl b o k s off len hm =>
    intro v hv
    cases hv with
    | sl _ _ _ _ _ q ad cap c elem fr hq hh hfit hl had => exact .sl _ k s off len q ad cap c elem fr (by simp [hm, hq]) hh hfit hl had
  | rows o s off len es hm hes hcl => exact fun hv => sl_view hr hes hcl hF (fun q ob ho hq => hF1 rfl o q ob hm ho hq) hv _
  | agg b xs ys hl h ih =>
    intro v hv
    obtain ⟨vs, rfl, hvs⟩ := agg_inv hv
    refine agg_mk ⟨by rw [← hl]; exact hvs.1, fun j y hy => ?_⟩
    have hj : j < xs.length := by rw [hl]; exact (List.getElem?_eq_some_iff.1 hy).1
    exact ih j xs[j] y (List.getElem?_eq_getElem hj) hy hF1 (hvs.2 j xs[j] (List.getElem?_eq_getElem hj))

theorem nodup_inj {m : List Nat} (h : m.Nodup) {i j o : Nat} (hi : m[i]? = some o) (hj : m[j]? = some o) : i = j :=
  (List.getElem?_inj (List.getElem?_eq_some_iff.1 hi).1 h).1 (hi.trans hj.symm)

theorem foldl_set_get (g : Nat → Nat) : ∀ (l : List Ob) (k : Nat) (τ : Store) (o : Nat), (∀ i j, i < l.length → j < l.length → g (k + i) = g (k + j) → i = j) → (∀ i, i < l.length → g (k + i) < τ.length) →
    ((l.zipIdx k).foldl (fun τ (p : Ob × Nat) => τ.set (g p.2) (.live p.1)) τ).length = τ.length ∧
    (∀ i ob, l[i]? = some ob → ((l.zipIdx k).foldl (fun τ (p : Ob × Nat) => τ.set (g p.2) (.live p.1)) τ)[g (k + i)]? = some (.live ob)) ∧
    ((∀ i, i < l.length → g (k + i) ≠ o) → ((l.zipIdx k).foldl (fun τ (p : Ob × Nat) => τ.set (g p.2) (.live p.1)) τ)[o]? = τ[o]?)
  | [], k, τ, o, _, _ => ⟨rfl, fun i ob h => by simp at h, fun _ => rfl⟩
  | x :: l, k, τ, o, hinj, hlt => by
    have ih := fun o => foldl_set_get g l (k + 1) (τ.set (g k) (.live x)) o (fun i j hi hj h => by
      have := hinj (i + 1) (j + 1) (by simp; omega) (by simp; omega) (by rwa [show k + (i + 1) = k + 1 + i by omega, show k + (j + 1) = k + 1 + j by omega])
      omega) (fun i hi => by have := hlt (i + 1) (by simp; omega); rw [show k + (i + 1) = k + 1 + i by omega] at this; simpa using this)
    simp only [List.zipIdx_cons, List.foldl_cons]
    refine ⟨by rw [(ih o).1]; simp, ?_, ?_⟩
    · intro i ob hi
      cases i with
      | zero =>
        simp at hi; subst hi
        rw [show k + 0 = k from rfl, (ih (g k)).2.2 (fun i hi h => by
          have := hinj (i + 1) 0 (by simp; omega) (by simp) (by rw [Nat.add_zero, show k + (i + 1) = k + 1 + i by omega]; exact h)
          omega)]
        have := hlt 0 (by simp)
        simp at this
        simp [this]
      | succ i =>
        have := (ih o).2.1 i ob (by simpa using hi)
        rwa [show k + (i + 1) = k + 1 + i by omega]
    · intro hne
      rw [(ih o).2.2 (fun i hi => by have := hne (i + 1) (by simp; omega); rwa [show k + (i + 1) = k + 1 + i by omega] at this)]
      have := hne 0 (by simp)
      rw [get_set_ne (by simpa using this)]

section
variable {P : Program} {σ : Store} {β : Ids} {F : Nat → Prop} {w : World}

/-- what stands where behind a call -/
theorem putObs_get {f : FuncId} {id own : Nat} {xs : List V} {v' : V} {σ' : Store} {m : List Nat} {σi σo : List Ob} {vs : List V} {v : V} {b : Bool} (h : CallOk P f id own σ xs v' σ' m σi σo vs v b) :
    σ'.length = σ.length ∧ (∀ (i : Nat) ob, σo[i]? = some ob → σ'[renOf m id i]? = some (.live ob)) ∧ (∀ o, (∀ i, i < σo.length → renOf m id i ≠ o) → σ'[o]? = σ[o]?) ∧
    (∀ i j, i < σo.length → j < σo.length → renOf m id i = renOf m id j → i = j) := by
  have hm : ∀ i, i < m.length → ∃ ob, σ[m.getD i 0]? = some (.live ob) ∧ renOf m id i = m.getD i 0 := by
    intro i hi
    have hi' : i < σi.length := by rw [← h.len]; exact hi
    refine ⟨σi[i], ?_, ?_⟩
    · have := h.at_ i m[i] σi[i] (List.getElem?_eq_getElem hi) (List.getElem?_eq_getElem hi')
      simpa [List.getD_eq_getElem?_getD, hi] using this
    · simp [renOf, hi, List.getD_eq_getElem?_getD]
  have hn : ∀ i, m.length ≤ i → i < σo.length → σ[renOf m id i]? = some .free ∧ renOf m id i = id + (i - m.length) := by
    intro i hi hlt
    have e : renOf m id i = id + (i - m.length) := by simp [renOf, hi]
    have := h.new (i - m.length) (by have := h.olen; omega)
    exact ⟨by rw [e]; exact this, e⟩
  have inj : ∀ i j, i < σo.length → j < σo.length → renOf m id i = renOf m id j → i = j := by
    intro i j hi hj hij
    rcases Nat.lt_or_ge i m.length with h1 | h1
    · rcases Nat.lt_or_ge j m.length with h2 | h2
      · rw [(hm i h1).choose_spec.2, (hm j h2).choose_spec.2] at hij
        simp [List.getD_eq_getElem?_getD, h1, h2] at hij
        exact nodup_inj h.nd (List.getElem?_eq_getElem h1) (by rw [hij]; exact List.getElem?_eq_getElem h2)
      · obtain ⟨ob, h3, h4⟩ := hm i h1
        rw [← h4, hij, (hn j h2 hj).1] at h3; cases h3
    · rcases Nat.lt_or_ge j m.length with h2 | h2
      · obtain ⟨ob, h3, h4⟩ := hm j h2
        rw [← h4, ← hij, (hn i h1 hi).1] at h3; cases h3
      · rw [(hn i h1 hi).2, (hn j h2 hj).2] at hij; omega
  have lt : ∀ i, i < σo.length → renOf m id i < σ.length := by
    intro i hi
    rcases Nat.lt_or_ge i m.length with h1 | h1
    · obtain ⟨ob, h3, h4⟩ := hm i h1
      rw [h4]; exact (List.getElem?_eq_some_iff.1 h3).1
    · exact (List.getElem?_eq_some_iff.1 (hn i h1 hi).1).1
  have key := fun o => foldl_set_get (renOf m id) σo 0 σ o (by simpa using inj) (by simpa using lt)
  rw [h.st]
  unfold putObs
  refine ⟨(key 0).1, fun i ob hi => by simpa using (key 0).2.1 i ob hi, fun o ho => (key o).2.2 (by simpa using ho), inj⟩

theorem call_ok (hr : Rel σ β F w) {f : FuncId} {id own : Nat} {xs : List V} {args : Array Value} (hx : VRs w F β xs args.toList) {v' : V} {σ' : Store} {m : List Nat} {σi σo : List Ob} {vs : List V} {v : V} {b : Bool}
    (h : CallOk P f id own σ xs v' σ' m σi σo vs v b) :
    Calls P f args w fun e w' => ∃ val β' F', e = .returned val ∧ VR w' F' β' v' val ∧ After σ' β β' F F' w w' := by
  obtain ⟨pl, p1, p2, p3⟩ := putObs_get h
  obtain ⟨F1, hF1def⟩ : ∃ F1 : Nat → Prop, F1 = fun q => F q ∨ (b = true ∧ ∃ o ob, o ∉ m ∧ σ[o]? = some (.live ob) ∧ β o = some q) := ⟨_, rfl⟩
  have hFF1 : ∀ q, F q → F1 q := fun q hq => by rw [hF1def]; exact .inl hq
  obtain ⟨βc, hβc⟩ : ∃ βc : Ids, βc = fun k => (m[k]?).bind β := ⟨_, rfl⟩
  have hmi : ∀ (k : Nat) ob, σi[k]? = some ob → ∃ o, m[k]? = some o ∧ σ[o]? = some (.live ob) := by
    intro k ob hk
    have hlt : k < m.length := by rw [h.len]; exact (List.getElem?_eq_some_iff.1 hk).1
    exact ⟨m[k], List.getElem?_eq_getElem hlt, h.at_ k m[k] ob (List.getElem?_eq_getElem hlt) hk⟩
  have hblt : ∀ (o q : Nat) ob, σ[o]? = some (.live ob) → β o = some q → q < w.heap.size := by
    intro o q ob ho hq
    obtain ⟨b', c, elem, fr, hb, hh, _⟩ := hr.live o ob ho
    rw [hb] at hq; cases hq
    exact (Array.getElem?_eq_some_iff.1 hh).1
  have hrc : Rel (lives σi) βc F1 w := by
    refine ⟨?_, ?_, ?_, ?_⟩
    · intro k ob hk
      simp only [lives, List.getElem?_map, Option.map_eq_some_iff] at hk
      obtain ⟨ob', hk', he⟩ := hk
      cases he
      obtain ⟨o, hm, ho⟩ := hmi k ob hk'
      obtain ⟨b', c, elem, fr, hb, hh, hfr, hFb, hL⟩ := hr.live o ob ho
      refine ⟨b', c, elem, fr, by rw [hβc]; simp [hm, hb], hh, hfr, ?_, hL.closed (h.icl ob (List.mem_of_getElem? hk')) (.inl hFF1)⟩
      rw [hF1def]
      rintro (h1 | ⟨_, o', ob', ho', hl', hb'⟩)
      · exact hFb h1
      · have : o = o' := hr.inj o o' ob ob' ho hl' (hb.trans hb'.symm)
        subst this
        exact ho' (List.mem_of_getElem? hm)
    · intro k k' a a' hk hk' hkk
      simp only [lives, List.getElem?_map, Option.map_eq_some_iff] at hk hk'
      obtain ⟨x1, hk1, e1⟩ := hk; cases e1
      obtain ⟨x2, hk2, e2⟩ := hk'; cases e2
      obtain ⟨o, hm, ho⟩ := hmi k a hk1
      obtain ⟨o', hm', ho'⟩ := hmi k' a' hk2
      rw [hβc] at hkk
      simp [hm, hm'] at hkk
      have := hr.inj o o' a a' ho ho' hkk
      subst this
      exact nodup_inj h.nd hm hm'
    · intro k hk
      rcases hk with hk | hk
      · simp only [lives, List.getElem?_map, Option.map_eq_some_iff] at hk
        obtain ⟨_, _, e⟩ := hk; cases e
      · have hge : m.length ≤ k := by
          simp [lives] at hk; rw [h.len]; exact hk
        rw [hβc]; simp [hge]
    · intro q hq
      rw [hF1def] at hq
      rcases hq with h1 | ⟨_, o, ob, _, hl, hb⟩
      · exact hr.bF q h1
      · exact hblt o q ob hl hb
  have hvs : VRs w F1 βc vs args.toList := by
    refine ⟨by rw [← h.view.1]; exact hx.1, fun j y hy => ?_⟩
    have hj : j < xs.length := by rw [h.view.1]; exact (List.getElem?_eq_some_iff.1 hy).1
    rw [hβc]
    exact view_ok hr hFF1 (fun hb o q ob ho hl hq => by rw [hF1def]; exact .inr ⟨hb, o, ob, ho, hl, hq⟩) (h.view.2 j xs[j] y (List.getElem?_eq_getElem hj) hy) (hx.2 j xs[j] (List.getElem?_eq_getElem hj))
  refine (h.fs βc F1 w args hrc hvs).mono ?_
  rintro e w' ⟨val, βc', F1', rfl, hv, hA⟩
  obtain ⟨F2, hF2⟩ : ∃ F2 : Nat → Prop, F2 = fun q => F q ∨ (w.heap.size ≤ q ∧ F1' q) := ⟨_, rfl⟩
  obtain ⟨β2, hβ2⟩ : ∃ β2 : Ids, β2 = fun o => if id ≤ o ∧ o < id + own then βc' (m.length + (o - id)) else β o := ⟨_, rfl⟩
  have hnew0 : ∀ o, id ≤ o → o < id + own → σ[o]? = some .free := by
    intro o h1 h2
    have := h.new (o - id) (by omega)
    rwa [show id + (o - id) = o by omega] at this
  have hle : β.le β2 := by
    intro o q hq
    rw [hβ2]
    simp only
    split
    · rename_i hc
      rw [hr.free o (.inl (hnew0 o hc.1 hc.2))] at hq; cases hq
    · exact hq
  have hsub : ∀ q, F q → F2 q := fun q hq => by rw [hF2]; exact .inl hq
  have hbb : b = false → ∀ q, F1' q → F2 q := by
    intro hb q hq
    rw [hF2]
    rcases hA.newF q hq with h1 | h1 | ⟨k, h1⟩
    · rw [hF1def] at h1
      rcases h1 with h1 | ⟨h2, _⟩
      · exact .inl h1
      · rw [hb] at h2; cases h2
    · exact .inr ⟨h1, hq⟩
    · have hk : k < σo.length := by
        rcases Nat.lt_or_ge k m.length with h2 | h2
        · have := h.ole; omega
        · rw [hβc] at h1; simp [h2] at h1
      obtain ⟨b', c, elem, fr, hb', hh, hfr, hFb, hL⟩ := hA.rel.live k σo[k] (by simp [lives, hk])
      rw [hA.le k q h1] at hb'; cases hb'
      exact absurd hq hFb
  have hflat : (∀ q, F1' q → F2 q) ∨ (v.flat = true ∧ ∀ ob ∈ σo, ob.flat) := by
    cases hb : b with
    | false => exact .inl (hbb hb)
    | true => exact .inr (h.flat hb)
  have hren : ∀ k q, βc' k = some q → β2 (renOf m id k) = some q := by
    intro k q hq
    have hk : k < σo.length := by
      rcases Nat.lt_or_ge k σo.length with h1 | h1
      · exact h1
      · rw [hA.rel.free k (.inr (by simp [lives, h1]))] at hq; cases hq
    rcases Nat.lt_or_ge k m.length with h1 | h1
    · have hki : k < σi.length := by rw [← h.len]; exact h1
      obtain ⟨o, hm, ho⟩ := hmi k σi[k] (List.getElem?_eq_getElem hki)
      obtain ⟨b', c, elem, fr, hb, hh, _⟩ := hr.live o _ ho
      have e1 : βc k = some b' := by rw [hβc]; simp [hm, hb]
      have e2 := hA.le k b' e1
      rw [hq] at e2; cases e2
      have e3 : renOf m id k = o := by simp [renOf, hm]
      rw [e3]
      exact hle o q hb
    · have e3 : renOf m id k = id + (k - m.length) := by simp [renOf, h1]
      have := h.olen
      rw [e3, hβ2]
      simp only
      rw [if_pos ⟨by omega, by omega⟩, show m.length + (id + (k - m.length) - id) = k by omega]
      exact hq
  refine ⟨val, β2, F2, rfl, ?_, ?_⟩
  · rw [h.res]
    have h1 : VR w' F2 βc' v val := by
      rcases hflat with h2 | h2
      · exact hv.mono (Grow.refl F1' w') h2 βc' (Ids.le_refl _)
      · exact hv.flat h2.1 F2
    exact h1.ren β2 hren
  have hgrow : Grow F w w' := hA.grow.weaken hFF1
  have img : ∀ o, (∃ i, i < σo.length ∧ renOf m id i = o) ∨ (∀ i, i < σo.length → renOf m id i ≠ o) := by
    intro o
    by_cases hex : ∃ i, i < σo.length ∧ renOf m id i = o
    · exact .inl hex
    · exact .inr fun i hi e => hex ⟨i, hi, e⟩
  have notm : ∀ o, (∀ i, i < σo.length → renOf m id i ≠ o) → o ∉ m ∧ (id ≤ o → o < id + own → σo.length ≤ m.length + (o - id)) := by
    intro o ho
    constructor
    · intro hmem
      obtain ⟨k, hk, e⟩ := List.getElem_of_mem hmem
      have := h.ole
      exact ho k (by omega) (by simp [renOf, hk, e])
    · intro h1 h2
      rcases Nat.lt_or_ge (m.length + (o - id)) σo.length with h3 | h3
      · exfalso
        refine ho (m.length + (o - id)) h3 ?_
        simp [renOf]
        omega
      · exact h3
  have frameO : ∀ (o q : Nat) ob, (∀ i, i < σo.length → renOf m id i ≠ o) → σ[o]? = some (.live ob) → β o = some q → w'.heap[q]? = w.heap[q]? := by
    intro o q ob ho hl hq
    refine hA.frame q (hblt o q ob hl hq) fun k hk => ?_
    rw [hβc] at hk
    simp only [Option.bind_eq_some_iff] at hk
    obtain ⟨o', hm, hb'⟩ := hk
    have hi : k < σi.length := by rw [← h.len]; exact (List.getElem?_eq_some_iff.1 hm).1
    have := h.at_ k o' σi[k] hm (List.getElem?_eq_getElem hi)
    have e := hr.inj o o' ob _ hl this (hq.trans hb'.symm)
    subst e
    exact (notm o ho).1 (List.mem_of_getElem? hm)
  refine ⟨⟨?_, ?_, ?_, ?_⟩, hle, hsub, hgrow, ?_, ?_, ?_⟩
  · -- live
    intro o ob ho
    rcases img o with ⟨i, hi, rfl⟩ | hno
    · have e := p1 i σo[i] (List.getElem?_eq_getElem hi)
      rw [ho] at e; cases e
      obtain ⟨b', c, elem, fr, hb, hh, hfr, hFb, hL⟩ := hA.rel.live i σo[i] (by simp [lives, hi])
      refine ⟨b', c, elem, fr, hren i b' hb, hh, hfr, ?_, ?_⟩
      · rw [hF2]
        rintro (h1 | ⟨_, h1⟩)
        · exact hFb (hA.sub _ (hFF1 _ h1))
        · exact hFb h1
      · refine hL.closed (h.ocl _ (List.getElem_mem hi)) ?_
        rcases hflat with h2 | h2
        · exact .inl h2
        · exact .inr (h2.2 _ (List.getElem_mem hi))
    · rw [p2 o hno] at ho
      obtain ⟨b', c, elem, fr, hb, hh, hfr, hFb, hL⟩ := hr.live o ob ho
      refine ⟨b', c, elem, fr, hle o b' hb, by rw [frameO o b' ob hno ho hb]; exact hh, hfr, ?_, hL.mono hgrow hsub hle⟩
      rw [hF2]
      rintro (h1 | ⟨h1, _⟩)
      · exact hFb h1
      · have := hblt o b' ob ho hb; omega
  · -- inj
    have blk : ∀ i, i < σo.length → ∃ q, βc' i = some q ∧ β2 (renOf m id i) = some q := by
      intro i hi
      obtain ⟨b', c, elem, fr, hb, _⟩ := hA.rel.live i σo[i] (by simp [lives, hi])
      exact ⟨b', hb, hren i b' hb⟩
    have mixed : ∀ (i o : Nat) ob, i < σo.length → (∀ i, i < σo.length → renOf m id i ≠ o) → σ[o]? = some (.live ob) → β2 (renOf m id i) ≠ β2 o := by
      intro i o ob hi hno hl heq
      obtain ⟨q, hq1, hq2⟩ := blk i hi
      obtain ⟨b', c, elem, fr, hb, hh, _⟩ := hr.live o ob hl
      have e1 := hle o b' hb
      rw [hq2, e1] at heq
      cases heq
      have hlt := hblt o q ob hl hb
      rcases hA.newB i q hq1 with h1 | ⟨k', hk'⟩
      · omega
      · rw [hβc] at hk'
        simp only [Option.bind_eq_some_iff] at hk'
        obtain ⟨o', hm, hb'⟩ := hk'
        have hi' : k' < σi.length := by rw [← h.len]; exact (List.getElem?_eq_some_iff.1 hm).1
        have := h.at_ k' o' σi[k'] hm (List.getElem?_eq_getElem hi')
        have e := hr.inj o o' ob _ hl this (hb.trans hb'.symm)
        subst e
        exact (notm o hno).1 (List.mem_of_getElem? hm)
    intro o o' a a' ho ho' hoo
    rcases img o with ⟨i, hi, rfl⟩ | hno
    · rcases img o' with ⟨i', hi', rfl⟩ | hno'
      · obtain ⟨q, hq1, hq2⟩ := blk i hi
        obtain ⟨q', hq1', hq2'⟩ := blk i' hi'
        rw [hq2, hq2'] at hoo
        cases hoo
        have := hA.rel.inj i i' σo[i] σo[i'] (by simp [lives, hi]) (by simp [lives, hi']) (hq1.trans hq1'.symm)
        subst this; rfl
      · rw [p2 o' hno'] at ho'
        exact absurd hoo (mixed i o' a' hi hno' ho')
    · rw [p2 o hno] at ho
      rcases img o' with ⟨i', hi', rfl⟩ | hno'
      · exact absurd hoo.symm (mixed i' o a hi' hno ho)
      · rw [p2 o' hno'] at ho'
        obtain ⟨b1, _, _, _, hb1, _⟩ := hr.live o a ho
        obtain ⟨b2, _, _, _, hb2, _⟩ := hr.live o' a' ho'
        rw [hle o b1 hb1, hle o' b2 hb2] at hoo
        exact hr.inj o o' a a' ho ho' (by rw [hb1, hb2]; exact hoo)
  · -- free
    intro o ho
    rcases img o with ⟨i, hi, rfl⟩ | hno
    · have e := p1 i σo[i] (List.getElem?_eq_getElem hi)
      rw [e] at ho
      rcases ho with ho | ho <;> cases ho
    · rw [p2 o hno] at ho
      rw [hβ2]
      simp only
      split
      · rename_i hc
        exact hA.rel.free _ (.inr (by simp [lives, (notm o hno).2 hc.1 hc.2]))
      · exact hr.free o ho
  · -- bF
    intro q hq
    rw [hF2] at hq
    rcases hq with h1 | ⟨_, h1⟩
    · have := hr.bF q h1; have := hA.grow.size; omega
    · exact hA.rel.bF q h1
  · -- frame
    intro q hq hn
    refine hA.frame q hq fun k hk => ?_
    rw [hβc] at hk
    simp only [Option.bind_eq_some_iff] at hk
    obtain ⟨o', _, hb'⟩ := hk
    exact hn o' hb'
  · intro q hq
    rw [hF2] at hq
    rcases hq with h1 | ⟨h1, _⟩
    · exact .inl h1
    · exact .inr (.inl h1)
  · -- newB
    intro o q hq
    rw [hβ2] at hq
    simp only at hq
    split at hq
    · rcases hA.newB _ q hq with h1 | ⟨k', hk'⟩
      · exact .inl h1
      · rw [hβc] at hk'
        simp only [Option.bind_eq_some_iff] at hk'
        obtain ⟨o', _, hb'⟩ := hk'
        exact .inr ⟨o', hb'⟩
    · exact .inr ⟨o, hq⟩

end
end Go.Proofs.YtffigokicddekaaGreat.Abs
/- One operation of a region, its guard and its temporary; a region in the text's order. No condition. -/
set_option linter.unusedVariables false
set_option linter.unusedSimpArgs false
namespace Go.Proofs.YtffigokicddekaaGreat.Abs
open Go

structure AR where
  dst : Option Nat
  guard : Option (Nat × Bool)
  lab : Nat
  op : AO

/-- the names of new objects, b further on -/
def AO.sh (b : Nat) : AO → AO
  | .alloc id s z => .alloc (b + id) s z
  | .box id s x => .box (b + id) s x
  | .bslice id s n z ps => .bslice (b + id) s n z ps
  | .s2b id x => .s2b (b + id) x
  | .mks id s bytes z l c => .mks (b + id) s bytes z l c
  | .app id s bytes x y => .app (b + id) s bytes x y
  | .call wr id own f args => .call wr (b + id) own f args
  | o => o

def AO.slots : AO → Nat
  | .alloc .. | .box .. | .bslice .. | .s2b .. | .mks .. | .app .. => 1
  | .call _ _ own _ _ => own
  | _ => 0

def guardOk (g : Option (Nat × Bool)) (a : Env) : Option Bool :=
  match g with
  | none => some true
  | some (t, want) => match a t with
    | .bool b => some (b == want)
    | .unk => none
    | _ => some false

def putE (a : Env) (d : Option Nat) (v : V) : Env := match d with
  | some d => upd a d v
  | none => a

def CallR (P : Program) (f : FuncId) (id own : Nat) (σ : Store) (xs : List V) (v' : V) (σ' : Store) : Prop :=
  ∃ m σi σo vs v b, CallOk P f id own σ xs v' σ' m σi σo vs v b

def OpR (P : Program) (o : AO) (a : Env) (σ : Store) (v : V) (σ' : Store) : Prop :=
  match o with
  | .call wr id own f args => CallR P f id own σ (args.map fun x => x.ev a) v σ' ∧ (wr = false → own = 0 → σ' = σ)
  | o => astep o a σ = some (v, σ')

def StepR (P : Program) (r : AR) (a : Env) (σ : Store) (a' : Env) (σ' : Store) : Prop :=
  match guardOk r.guard a with
  | none => False
  | some false => a' = putE a r.dst (.tup []) ∧ σ' = σ
  | some true => ∃ v, OpR P r.op a σ v σ' ∧ a' = putE a r.dst v

def runL (P : Program) (b : Nat) : List AR → Env → Store → (Env → Store → Prop) → Prop
  | [], a, σ, Q => Q a σ
  | r :: rs, a, σ, Q => ∃ a' σ', StepR P { r with op := r.op.sh b } a σ a' σ' ∧ runL P b rs a' σ' Q

def compG (ops : Array Oper) (g : Option (Nat × Bool)) : Option (Option (Nat × Bool)) :=
  match g with
  | none => some none
  | some (j, want) => match (ops[j]?).bind (·.dst) with
    | some d => some (some (d, want))
    | none => none

def compAR (P : Program) (Γ : Fns) (nt : Nat) (ops : Array Oper) (id : Nat) (o : Oper) : Option AR :=
  match compOp P Γ id o.op, compG ops o.guard with
  | some op, some g => if o.dst.all (· < nt) then some { dst := o.dst, guard := g, lab := 0, op } else none
  | _, _ => none

def compOps (P : Program) (Γ : Fns) (nt : Nat) (ops : Array Oper) : List Oper → Nat → Option (List AR × Nat)
  | [], k => some ([], k)
  | o :: os, k => match compAR P Γ nt ops k o with
    | some r => match compOps P Γ nt ops os (k + r.op.slots) with
      | some (rs, n) => some (r :: rs, n)
      | none => none
    | none => none

section
variable {P : Program} {Γ : Fns} {σ : Store} {β : Ids} {F : Nat → Prop} {w : World} {a : Env} {act : Act}

theorem compOp_sh {id b : Nat} {o : Op} {ao : AO} (h : compOp P Γ id o = some ao) : compOp P Γ (b + id) o = some (ao.sh b) := by
  cases o <;> simp only [compOp, reduceCtorEq, Option.some.injEq] at h ⊢
  case move => subst h; rfl
  case assign => subst h; rfl
  case pick => subst h; rfl
  case nilCheck => subst h; rfl
  case extract => subst h; rfl
  case unOp op t x => cases op <;> simp only [compOp, reduceCtorEq, Option.some.injEq] at h ⊢ <;> (subst h; rfl)
  case slice t x lo hi mx =>
    cases mx with
    | some m => simp only [compOp, reduceCtorEq] at h
    | none =>
      simp only [compOp] at h ⊢
      repeat' (split at h)
      all_goals first
        | cases h; done
        | (cases h; simp_all [AO.sh])
  all_goals
    repeat' (split at h)
    all_goals first
      | (cases h; done)
      | (cases h; simp_all [AO.sh])

/-- the relation behind an operation, with the frame's own things -/
structure Goes (σ' : Store) (β : Ids) (F : Nat → Prop) (w : World) (a' : Env) (act act' : Act) (w' : World) : Prop where
  ex : ∃ β' F', After σ' β β' F F' w w' ∧ EnvR w' F' β' a' act'
  size : act'.tmps.size = act.tmps.size
  defers : act'.defers = act.defers

theorem envR_put {w' : World} {F' : Nat → Prop} {β' : Ids} {a : Env} {act : Act} {d : Option Nat} {v : V} {val : Value} (ha : EnvR w' F' β' a act) (hv : VR w' F' β' v val) (hd : d.all (· < act.tmps.size) = true) : EnvR w' F' β' (putE a d v) (act.put d val) := by
  cases d with
  | none => exact ha
  | some d =>
    intro t
    simp at hd
    by_cases e : t = d
    · subst e
      simp [putE, upd, Act.put, Array.getD_eq_getD_getElem?, hd]
      exact hv
    · simp only [putE, upd, if_neg e, Act.put, Array.getD_eq_getD_getElem?]
      rw [Array.getElem?_setIfInBounds_ne (Ne.symm e)]
      simpa [Array.getD_eq_getD_getElem?] using ha t

theorem envR_mono {w' : World} {F' : Nat → Prop} {β' : Ids} {σ' : Store} (ha : EnvR w F β a act) (h : After σ' β β' F F' w w') : EnvR w' F' β' a act := fun t => h.mono (ha t)

theorem put_size (act : Act) (d : Option Nat) (v : Value) : (act.put d v).tmps.size = act.tmps.size := by cases d <;> simp [Act.put]
theorem put_defers (act : Act) (d : Option Nat) (v : Value) : (act.put d v).defers = act.defers := by cases d <;> rfl

theorem undef_ok : VR w F β (.tup []) undef := tup_mk (VRs.nil _ _ _)

theorem wanted_of (ha : EnvR w F β a act) {ops : Array Oper} {o : Oper} {g : Option (Nat × Bool)} (hg : compG ops o.guard = some g) {b : Bool} (h : guardOk g a = some b) : Region.wanted o (yielded ops act.tmps) = b := by
  unfold compG at hg
  split at hg
  · rename_i hn
    cases hg
    simp [guardOk] at h
    subst h
    simp [Region.wanted, hn]
  · rename_i j want hj
    split at hg
    · rename_i d hd
      cases hg
      have hr := ha d
      simp only [Region.wanted, hj, yielded, hd, Option.bind_some]
      simp only [guardOk] at h
      have hget : ∀ x, act.tmps[d]? = some x → act.tmps.getD d undef = x := by intro x hx; simp [Array.getD_eq_getD_getElem?, hx]
      split at h
      · rename_i q hq
        rw [hq] at hr
        cases h
        cases hx : act.tmps[d]? with
        | none => simp [Array.getD_eq_getD_getElem?, hx, undef] at hr; cases hr
        | some x =>
          rw [hget x hx] at hr
          cases hr
          cases q <;> cases want <;> rfl
      · cases h
      · rename_i h1 h2
        cases h
        cases hx : act.tmps[d]? with
        | none => cases want <;> rfl
        | some x =>
          rw [hget x hx] at hr
          have : ∀ q, x ≠ .bool q := by
            rintro q rfl
            generalize hax : a d = y at *
            cases hr with
            | bool => exact h1 _ rfl
            | unk => exact h2 rfl
          cases x <;> first | (exact absurd rfl (this _)) | (cases want <;> rfl)
    · cases hg

/-- ONE OPERATION, AT ITS TURN. -/
theorem opr_wp (hr : Rel σ β F w) (ha : EnvR w F β a act) {nt : Nat} (hnt : act.tmps.size = nt) {ops : Array Oper} {i id : Nat} {o : Oper} (hi : ops[i]? = some o) {r : AR} (hc : compAR P Γ nt ops id o = some r) {b : Nat} {a' : Env} {σ' : Store}
    (hs : StepR P { r with op := r.op.sh b } a σ a' σ') {Q : Exit → Act → World → Prop} {K : Act → World → Prop} (hK : ∀ act' w', Goes σ' β F w a' act act' w' → K act' w') : wpOp P ops Q i K act w := by
  unfold compAR at hc
  split at hc
  · rename_i op g hop hg
    split at hc
    · rename_i hd
      cases hc
      have hd' : o.dst.all (· < act.tmps.size) = true := by rw [hnt]; exact hd
      unfold StepR at hs
      dsimp only at hs
      unfold wpOp
      rw [hi]
      dsimp only
      split at hs
      · exact hs.elim
      · rename_i hgo
        rw [wanted_of ha hg hgo, if_neg (by simp)]
        obtain ⟨rfl, rfl⟩ := hs
        exact hK _ _ ⟨⟨β, F, .refl hr, envR_put ha undef_ok hd'⟩, put_size _ _ _, put_defers _ _ _⟩
      · rename_i hgo
        rw [wanted_of ha hg hgo, if_pos rfl]
        left
        obtain ⟨v, hov, rfl⟩ := hs
        have hsh := compOp_sh (b := b) hop
        generalize op.sh b = op' at hsh hov
        have notcall : (∀ wr id own f args, op' ≠ .call wr id own f args) → o.wp P act w K Q := by
          intro hnc
          have hst : astep op' a σ = some (v, σ') := by
            unfold OpR at hov
            split at hov
            · exact absurd rfl (hnc _ _ _ _ _)
            · exact hov
          obtain ⟨val, w', β', F', hrun, hv, hA⟩ := astep_sound hr ha hsh hst
          have hgoes : Goes σ' β F w (putE a o.dst v) act (act.put o.dst val) w' :=
            ⟨⟨β', F', hA, envR_put (envR_mono ha hA) hv hd'⟩, put_size _ _ _, put_defers _ _ _⟩
          unfold Oper.wp
          rcases hrun with hrun | ⟨hrun, rfl⟩
          · rw [hrun]; exact hK _ _ hgoes
          · rw [hrun]; exact hK _ _ hgoes
        cases op' with
        | call wr id own f args =>
          simp only [OpR] at hov
          obtain ⟨⟨m, σi, σo, vs, v0, bb, hcall⟩, _⟩ := hov
          -- the operation is the call of f
          have hcop : ∃ c, o.op = .call c ∧ c.callee = .value (.func f) ∧ args = c.args.toList.map opdOf ∧ ∃ fn, P.funcs[f]? = some fn ∧ fn.body.isSome ∧ fn.name ≠ "runtime.NumGoroutine" := by
            generalize o.op = oo at hsh
            cases oo <;> simp only [compOp, reduceCtorEq, Option.some.injEq] at hsh
            case call c =>
              cases hce : c.callee with
              | value x =>
                cases x with
                | func q =>
                  simp only [hce] at hsh
                  split at hsh
                  · rename_i fn hfn
                    split at hsh
                    · rename_i hcond
                      cases hsh
                      exact ⟨c, rfl, hce, rfl, fn, hfn, hcond.1, hcond.2⟩
                    · cases hsh
                  · cases hsh
                | _ => simp only [hce, reduceCtorEq] at hsh
              | invoke _ _ => simp only [hce, reduceCtorEq] at hsh
              | builtin q =>
                cases q <;> simp only [hce, reduceCtorEq] at hsh
                all_goals
                  repeat' (split at hsh)
                  all_goals cases hsh
            case unOp op t x => cases op <;> simp only [compOp, reduceCtorEq, Option.some.injEq] at hsh
            case slice t x lo hi mx =>
              cases mx <;> simp only [compOp, reduceCtorEq] at hsh
              repeat' (split at hsh)
              all_goals cases hsh
            all_goals
              repeat' (split at hsh)
              all_goals (first | cases hsh | (cases hsh; done))
          obtain ⟨c, hoc, hce, hargs, fn, hfn, hb, hname⟩ := hcop
          have hxs : VRs w F β (args.map fun x => x.ev a) (c.args.map act.eval).toList := by
            rw [hargs]
            refine ⟨by simp, fun j x hx => ?_⟩
            simp only [List.getElem?_map, Option.map_eq_some_iff] at hx
            obtain ⟨y, ⟨z, hz, rfl⟩, rfl⟩ := hx
            rw [List.getD_eq_getElem?_getD]
            simp only [Array.toList_map, List.getElem?_map, hz, Option.map_some, Option.getD_some]
            exact opd_ok ha z
          have hcalls := call_ok hr hxs hcall
          have hbn : fn.body.isNone = false := by cases hbb : fn.body <;> simp_all
          have hrun : (execOp act.eval o).run P w = .ok (.enter f (c.args.map act.eval)) w := by
            unfold execOp
            rw [hoc]
            have hbn' : fn.body ≠ none := fun e => by rw [e] at hb; cases hb
            simp [resolve, hce, Act.eval, Deferred.ofValue, invoke, callFunc, hfn, hname, hbn']
          unfold Oper.wp
          rw [hrun]
          show Calls P f (c.args.map act.eval) w _
          refine hcalls.mono ?_
          rintro e w' ⟨val, β', F', rfl, hv, hA⟩
          exact hK _ _ ⟨⟨β', F', hA, envR_put (envR_mono ha hA) hv hd'⟩, put_size _ _ _, put_defers _ _ _⟩
        | _ => exact notcall (fun _ _ _ _ _ e => by cases e)
    · cases hc
  · cases hc

end
end Go.Proofs.YtffigokicddekaaGreat.Abs
