/- The abstract values of a walk: what they are, and how they stand to the model's values. No condition. -/
import Derived.Orders
import Derived.WalkKit
import Derived.Below
import Derived.Laws.Append
import Derived.Laws.IdiomCopy
import Derived.KernelRfl
set_option linter.unusedVariables false
set_option linter.unusedSimpArgs false
namespace Go.Proofs.Ytffigokicddekaa.Abs
open Go

inductive V where
  | int (k : IntKind) (n : Int)
  | bool (b : Bool)
  | str (s : ByteArray)
  | nilp
  | ptr (o s e c : Nat)
  | fp (cs : List V)
  | nl
  | fz (s : Nat) (es : List (List V))
  | sl (o s off len : Nat)
  | agg (cs : List V)
  | tup (vs : List V)
  | unk

instance : Inhabited V := ⟨.unk⟩

structure Ob where
  s : Nat
  es : List (List V)

inductive Slot where
  | free
  | dead
  | live (ob : Ob)

abbrev Store := List Slot
abbrev Ids := Nat → Option Nat
def noIds : Ids := fun _ => none

def Ids.le (β β' : Ids) : Prop := ∀ o b, β o = some b → β' o = some b
theorem Ids.le_refl (β : Ids) : β.le β := fun _ _ h => h
theorem Ids.le_trans {a b c : Ids} (h : a.le b) (h' : b.le c) : a.le c := fun o x e => h' o x (h o x e)

/-- the model's value v is what the abstract value x says, in the world w, where the blocks of F are not written any more -/
inductive VR (w : World) (F : Nat → Prop) : Ids → V → Value → Prop where
  | int (β : Ids) (k : IntKind) (n : Int) : VR w F β (.int k n) (.int k n)
  | bool (β : Ids) (b : Bool) : VR w F β (.bool b) (.bool b)
  | str (β : Ids) (s : ByteArray) : VR w F β (.str s) (.string s)
  | nilp (β : Ids) : VR w F β .nilp (.pointer none)
  | ptr (β : Ids) (o s e c b : Nat) : β o = some b → VR w F β (.ptr o s e c) (.pointer (some ⟨b, e * s + c, none⟩))
  | fp (β : Ids) (cs : List V) (b off : Nat) (f : Nat → Value) : F b →
      (∀ (j : Nat) x, cs[j]? = some x → w.cell? ⟨b, off + j, none⟩ = some (f j) ∧ (f j).oneCell' = true) →
      (∀ (j : Nat) x, cs[j]? = some x → VR w F noIds x (f j)) → VR w F β (.fp cs) (.pointer (some ⟨b, off, none⟩))
  | nl (β : Ids) : VR w F β .nl (.slice none 0 0)
  | fz0 (β : Ids) (s : Nat) (a : Option Addr) (cap : Nat) : VR w F β (.fz s []) (.slice a 0 cap)
  | fz (β : Ids) (s : Nat) (es : List (List V)) (b off cap : Nat) (f : Nat → Nat → Value) : F b → es.length ≤ cap → (∀ l ∈ es, l.length = s) →
      (∀ (e : Nat) l, es[e]? = some l → ∀ (j : Nat) x, l[j]? = some x → w.cell? ⟨b, off + e * s + j, none⟩ = some (f e j) ∧ (f e j).oneCell' = true) →
      (∀ (e : Nat) l, es[e]? = some l → ∀ (j : Nat) x, l[j]? = some x → VR w F noIds x (f e j)) →
      VR w F β (.fz s es) (.slice (some ⟨b, off, none⟩) es.length cap)
  | sl (β : Ids) (o s off len b : Nat) (a : Addr) (cap : Nat) (c : Array Value) (elem : TypeId) (fr : Nat × Nat) : β o = some b →
      w.heap[b]? = some (.cells c elem fr) → (off + cap) * s ≤ c.size → len ≤ cap → (cap = 0 ∨ a = ⟨b, off * s, none⟩) →
      VR w F β (.sl o s off len) (.slice (some a) len cap)
  | agg (β : Ids) (cs : List V) (vs : Array Value) : cs.length = vs.size → (∀ (j : Nat) x, cs[j]? = some x → VR w F β x (vs.getD j undef)) → VR w F β (.agg cs) (.agg vs)
  | tup (β : Ids) (cs : List V) (vs : Array Value) : cs.length = vs.size → (∀ (j : Nat) x, cs[j]? = some x → VR w F β x (vs.getD j undef)) → VR w F β (.tup cs) (.tuple vs)
  | unk (β : Ids) (v : Value) : VR w F β .unk v

/-- w' came of w: nothing that is frozen has turned, no block has gone or shrunk -/
structure Grow (F : Nat → Prop) (w w' : World) : Prop where
  os : w'.os = w.os
  tape : w'.tape = w.tape
  output : w'.output = w.output
  size : w.heap.size ≤ w'.heap.size
  cells : ∀ (b : Nat) c elem fr, w.heap[b]? = some (.cells c elem fr) → ∃ c' fr', w'.heap[b]? = some (.cells c' elem fr') ∧ c'.size = c.size
  same : ∀ b, F b → w'.heap[b]? = w.heap[b]?

theorem Grow.refl (F : Nat → Prop) (w : World) : Grow F w w := ⟨rfl, rfl, rfl, Nat.le_refl _, fun b c e fr h => ⟨c, fr, h, rfl⟩, fun _ _ => rfl⟩

theorem Grow.trans {F F' : Nat → Prop} {a b c : World} (h : Grow F a b) (k : Grow F' b c) (hF : ∀ x, F x → F' x) : Grow F a c where
  os := k.os.trans h.os
  tape := k.tape.trans h.tape
  output := k.output.trans h.output
  size := Nat.le_trans h.size k.size
  cells := fun x c e fr hx => by
    obtain ⟨c1, fr1, h1, s1⟩ := h.cells x c e fr hx
    obtain ⟨c2, fr2, h2, s2⟩ := k.cells x c1 e fr1 h1
    exact ⟨c2, fr2, h2, s2.trans s1⟩
  same := fun x hx => (k.same x (hF x hx)).trans (h.same x hx)

theorem cell_same {w w' : World} {b off : Nat} {s : Option Nat} (h : w'.heap[b]? = w.heap[b]?) : w'.cell? ⟨b, off, s⟩ = w.cell? ⟨b, off, s⟩ := World.cell?_of_block (w := w) (a := ⟨b, off, s⟩) h

theorem VR.mono {w w' : World} {F F' : Nat → Prop} (hg : Grow F w w') (hF : ∀ b, F b → F' b) {β : Ids} {x : V} {v : Value} (h : VR w F β x v) :
    ∀ β', β.le β' → VR w' F' β' x v := by
  induction h with
  | int β k n => exact fun β' _ => .int β' k n
  | bool β b => exact fun β' _ => .bool β' b
  | str β s => exact fun β' _ => .str β' s
  | nilp β => exact fun β' _ => .nilp β'
  | ptr β o s e c b h => exact fun β' hb => .ptr β' o s e c b (hb _ _ h)
  | fp β cs b off f hFb hc hr ih => exact fun β' hb => .fp β' cs b off f (hF _ hFb) (fun j x hx => by rw [cell_same (hg.same b hFb)]; exact hc j x hx) (fun j x hx => ih j x hx _ (Ids.le_refl _))
  | nl β => exact fun β' _ => .nl β'
  | fz0 β s a cap => exact fun β' _ => .fz0 β' s a cap
  | fz β s es b off cap f hFb hcap hl hc hr ih => exact fun β' hb => .fz β' s es b off cap f (hF _ hFb) hcap hl (fun e l he j x hx => by rw [cell_same (hg.same b hFb)]; exact hc e l he j x hx) (fun e l he j x hx => ih e l he j x hx _ (Ids.le_refl _))
  | sl β o s off len b a cap c elem fr h hh hs hl ha =>
    intro β' hb
    obtain ⟨c', fr', h', hs'⟩ := hg.cells b c elem fr hh
    exact .sl β' o s off len b a cap c' elem fr' (hb _ _ h) h' (by rw [hs']; exact hs) hl ha
  | agg β cs vs hl hr ih => exact fun β' hb => .agg β' cs vs hl (fun j x hx => ih j x hx β' hb)
  | tup β cs vs hl hr ih => exact fun β' hb => .tup β' cs vs hl (fun j x hx => ih j x hx β' hb)
  | unk β v => exact fun β' _ => .unk β' v

end Go.Proofs.Ytffigokicddekaa.Abs
