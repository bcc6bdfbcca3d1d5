/- How a store of abstract objects stands to the model's world, and what a step may turn. No condition. -/
import Derived.Test.YtffigokicddekaaMA2
set_option linter.unusedVariables false
set_option linter.unusedSimpArgs false
namespace Go.Proofs.Ytffigokicddekaa.Abs
open Go

/-- what the object is, in the world -/
def Lies (w : World) (F : Nat → Prop) (β : Ids) (ob : Ob) (c : Array Value) : Prop :=
  ∀ (e : Nat) l, ob.es[e]? = some l → l.length = ob.s ∧ e * ob.s + ob.s ≤ c.size ∧ ∀ (j : Nat) x, l[j]? = some x → VR w F β x (c.getD (e * ob.s + j) undef) ∧ (c.getD (e * ob.s + j) undef).oneCell' = true

structure Rel (σ : Store) (β : Ids) (F : Nat → Prop) (w : World) : Prop where
  live : ∀ (o : Nat) ob, σ[o]? = some (.live ob) → ∃ b c elem fr, β o = some b ∧ w.heap[b]? = some (.cells c elem fr) ∧ (∀ i, i < c.size → ¬ (fr.1 ≤ i ∧ i < fr.2)) ∧ ¬ F b ∧ Lies w F β ob c
  inj : ∀ (o o' : Nat) ob ob', σ[o]? = some (.live ob) → σ[o']? = some (.live ob') → β o = β o' → o = o'
  free : ∀ o : Nat, σ[o]? = some .free ∨ σ[o]? = none → β o = none
  bF : ∀ b, F b → b < w.heap.size

structure After (σ' : Store) (β β' : Ids) (F F' : Nat → Prop) (w w' : World) : Prop where
  rel : Rel σ' β' F' w'
  le : β.le β'
  sub : ∀ b, F b → F' b
  grow : Grow F w w'
  frame : ∀ b, b < w.heap.size → (∀ o, β o ≠ some b) → w'.heap[b]? = w.heap[b]?
  newF : ∀ b, F' b → F b ∨ w.heap.size ≤ b ∨ ∃ o, β o = some b
  newB : ∀ o b, β' o = some b → w.heap.size ≤ b ∨ ∃ o', β o' = some b

theorem After.refl {σ : Store} {β : Ids} {F : Nat → Prop} {w : World} (h : Rel σ β F w) : After σ β β F F w w :=
  ⟨h, Ids.le_refl _, fun _ h => h, Grow.refl _ _, fun _ _ _ => rfl, fun _ h => .inl h, fun o b h => .inr ⟨o, h⟩⟩

theorem After.trans {σ1 σ2 : Store} {β β1 β2 : Ids} {F F1 F2 : Nat → Prop} {w w1 w2 : World} (h : After σ1 β β1 F F1 w w1) (k : After σ2 β1 β2 F1 F2 w1 w2) : After σ2 β β2 F F2 w w2 where
  rel := k.rel
  le := Ids.le_trans h.le k.le
  sub := fun b hb => k.sub b (h.sub b hb)
  grow := h.grow.trans k.grow h.sub
  frame := fun b hb hn => (k.frame b (Nat.lt_of_lt_of_le hb h.grow.size) (fun o ho => by
    rcases h.newB o b ho with h1 | ⟨o', h1⟩
    · omega
    · exact hn o' h1)).trans (h.frame b hb hn)
  newF := fun b hb => by
    rcases k.newF b hb with h1 | h1 | ⟨o, h1⟩
    · exact h.newF b h1
    · exact .inr (.inl (Nat.le_trans h.grow.size h1))
    · exact .inr (h.newB o b h1)
  newB := fun o b hb => by
    rcases k.newB o b hb with h1 | ⟨o', h1⟩
    · exact .inl (Nat.le_trans h.grow.size h1)
    · exact h.newB o' b h1

theorem After.mono {σ : Store} {β β' : Ids} {F F' : Nat → Prop} {w w' : World} (h : After σ β β' F F' w w') {x : V} {v : Value} (hv : VR w F β x v) : VR w' F' β' x v :=
  hv.mono h.grow h.sub β' h.le

theorem Lies.mono {w w' : World} {F F' : Nat → Prop} {β β' : Ids} (hg : Grow F w w') (hF : ∀ b, F b → F' b) (hb : β.le β') {ob : Ob} {c : Array Value} (h : Lies w F β ob c) : Lies w' F' β' ob c :=
  fun e l he => ⟨(h e l he).1, (h e l he).2.1, fun j x hx => ⟨((h e l he).2.2 j x hx).1.mono hg hF β' hb, ((h e l he).2.2 j x hx).2⟩⟩

theorem push_get {w : World} {b : Nat} {ob o : Obj} (h : w.heap[b]? = some o) : (w.heap.push ob)[b]? = some o := by
  have hlt := (Array.getElem?_eq_some_iff.1 h).1
  rw [Array.getElem?_push, if_neg (by omega)]; exact h

/-- a new block changes nothing that was there -/
theorem grow_new {F : Nat → Prop} {w w' : World} {ob : Obj} (h1 : w'.os = w.os) (h2 : w'.tape = w.tape) (h3 : w'.output = w.output) (h4 : w'.heap = w.heap.push ob) (hF : ∀ b, F b → b < w.heap.size) : Grow F w w' where
  os := h1
  tape := h2
  output := h3
  size := by rw [h4]; simp
  cells := fun b c elem fr h => ⟨c, fr, by rw [h4]; exact push_get h, rfl⟩
  same := fun b hb => by
    have := hF b hb
    rw [h4, Array.getElem?_push, if_neg (by omega)]

def Ids.put (β : Ids) (o b : Nat) : Ids := fun x => if x = o then some b else β x
theorem Ids.le_put {β : Ids} {o b : Nat} (h : β o = none) : β.le (β.put o b) := by
  intro x y hxy
  unfold Ids.put
  split
  · rename_i e; rw [e, h] at hxy; cases hxy
  · exact hxy

theorem get_set_same {σ : Store} {o : Nat} {s x : Slot} (h : σ[o]? = some x) : (σ.set o s)[o]? = some s := by
  have := (List.getElem?_eq_some_iff.1 h).1
  simp [this]
theorem get_set_ne {σ : Store} {o o' : Nat} {s : Slot} (h : o ≠ o') : (σ.set o s)[o']? = σ[o']? := by
  simp [List.getElem?_set, h]

/-- an object in a new block -/
theorem After.new {σ : Store} {β : Ids} {F : Nat → Prop} {w w' : World} {id : Nat} {ob : Ob} {c : Array Value} {elem : TypeId} {fr : Nat × Nat} (hr : Rel σ β F w) (hid : isFree σ id)
    (h1 : w'.os = w.os) (h2 : w'.tape = w.tape) (h3 : w'.output = w.output) (h4 : w'.heap = w.heap.push (.cells c elem fr)) (hfr : ∀ i, i < c.size → ¬ (fr.1 ≤ i ∧ i < fr.2))
    (hl : Lies w F β ob c) : After (σ.set id (.live ob)) β (β.put id w.heap.size) F F w w' := by
  have hb0 : β id = none := hr.free id (.inl hid)
  have hle : β.le (β.put id w.heap.size) := Ids.le_put hb0
  have hg : Grow F w w' := grow_new h1 h2 h3 h4 hr.bF
  have hlt : ∀ (o : Nat) ob b, σ[o]? = some (.live ob) → β o = some b → b < w.heap.size := by
    intro o ob b ho hb
    obtain ⟨b', c', e', f', hb', hh, _⟩ := hr.live o ob ho
    rw [hb'] at hb; cases hb
    exact (Array.getElem?_eq_some_iff.1 hh).1
  refine ⟨⟨?_, ?_, ?_, ?_⟩, hle, fun _ h => h, hg, ?_, fun _ h => .inl h, ?_⟩
  · intro o ob' ho
    by_cases e : id = o
    · subst e
      rw [get_set_same hid] at ho
      cases ho
      refine ⟨w.heap.size, c, elem, fr, by simp [Ids.put], by rw [h4]; simp, hfr, fun hF => by have := hr.bF _ hF; omega, hl.mono hg (fun _ h => h) hle⟩
    · rw [get_set_ne e] at ho
      obtain ⟨b, c', e', f', hb, hh, hf, hn, hL⟩ := hr.live o ob' ho
      exact ⟨b, c', e', f', hle _ _ hb, by rw [h4]; exact push_get hh, hf, hn, hL.mono hg (fun _ h => h) hle⟩
  · intro o o' a a' ho ho' hbb
    by_cases e : id = o
    · by_cases e' : id = o'
      · omega
      · subst e
        rw [get_set_ne e'] at ho'
        obtain ⟨b, c', e1, f', hb, hh, _⟩ := hr.live o' a' ho'
        have := hlt o' a' b ho' hb
        simp [Ids.put, Ne.symm e', hb] at hbb
        omega
    · by_cases e' : id = o'
      · subst e'
        rw [get_set_ne e] at ho
        obtain ⟨b, c', e1, f', hb, hh, _⟩ := hr.live o a ho
        have := hlt o a b ho hb
        simp [Ids.put, Ne.symm e, hb] at hbb
        omega
      · rw [get_set_ne e] at ho
        rw [get_set_ne e'] at ho'
        simp [Ids.put, Ne.symm e, Ne.symm e'] at hbb
        exact hr.inj o o' a a' ho ho' hbb
  · intro o ho
    by_cases e : id = o
    · subst e
      rw [get_set_same hid] at ho
      rcases ho with ho | ho <;> cases ho
    · rw [get_set_ne e] at ho
      simp [Ids.put, Ne.symm e]
      exact hr.free o ho
  · intro b hb
    rw [h4]
    have := hr.bF b hb
    simp
    omega
  · intro b hb _
    rw [h4, Array.getElem?_push, if_neg (by omega)]
  · intro o b hb
    unfold Ids.put at hb
    split at hb
    · cases hb; exact .inl (Nat.le_refl _)
    · exact .inr ⟨o, hb⟩

/-- an object that takes another's place, in the same block -/
theorem After.turn {σ : Store} {β : Ids} {F : Nat → Prop} {w w' : World} {o b : Nat} {ob ob' : Ob} {c c' : Array Value} {elem : TypeId} {fr : Nat × Nat} (hr : Rel σ β F w) (ho : σ[o]? = some (.live ob))
    (hb : β o = some b) (hh : w.heap[b]? = some (.cells c elem fr)) (hfr : ∀ i, i < c.size → ¬ (fr.1 ≤ i ∧ i < fr.2)) (hF : ¬ F b) (hsz : c'.size = c.size)
    (h1 : w'.os = w.os) (h2 : w'.tape = w.tape) (h3 : w'.output = w.output) (h4 : w'.heap.size = w.heap.size) (h5 : w'.heap[b]? = some (.cells c' elem fr)) (h6 : ∀ k, k ≠ b → w'.heap[k]? = w.heap[k]?)
    (hl : Lies w F β ob' c') :
    After (σ.set o (.live ob')) β β F F w w' ∧ ∀ id, isFree σ id → After ((σ.set o .dead).set id (.live ob')) β (β.put id b) F F w w' := by
  have hlt : b < w.heap.size := (Array.getElem?_eq_some_iff.1 hh).1
  have hg : Grow F w w' := by
    refine ⟨h1, h2, h3, by omega, ?_, ?_⟩
    · intro x cx e f hx
      by_cases hxb : x = b
      · subst hxb
        rw [hh] at hx; cases hx
        exact ⟨c', _, h5, hsz⟩
      · exact ⟨cx, f, by rw [h6 x hxb]; exact hx, rfl⟩
    · intro x hx
      exact h6 x (fun e => hF (e ▸ hx))
  have hbne : ∀ (o' : Nat) a, σ[o']? = some (.live a) → o ≠ o' → β o' ≠ some b := by
    intro o' a ha hne hx
    exact hne (hr.inj o o' ob a ho ha (hb.trans hx.symm))
  constructor
  · refine ⟨⟨?_, ?_, ?_, ?_⟩, Ids.le_refl _, fun _ h => h, hg, ?_, fun _ h => .inl h, fun o b h => .inr ⟨o, h⟩⟩
    · intro o' a ha
      by_cases e : o = o'
      · subst e
        rw [get_set_same ho] at ha; cases ha
        exact ⟨b, c', elem, fr, hb, h5, by rw [hsz]; exact hfr, hF, hl.mono hg (fun _ h => h) (Ids.le_refl _)⟩
      · rw [get_set_ne e] at ha
        obtain ⟨b', c1, e1, f1, hb', hh', hf', hn', hL⟩ := hr.live o' a ha
        have hne : b' ≠ b := fun e' => hbne o' a ha e (e' ▸ hb')
        exact ⟨b', c1, e1, f1, hb', by rw [h6 b' hne]; exact hh', hf', hn', hL.mono hg (fun _ h => h) (Ids.le_refl _)⟩
    · intro x y a a' hx hy hxy
      have live_of : ∀ (z : Nat) d, (σ.set o (.live ob'))[z]? = some (.live d) → ∃ d', σ[z]? = some (.live d') := by
        intro z d hz
        by_cases e : o = z
        · subst e; exact ⟨_, ho⟩
        · rw [get_set_ne e] at hz; exact ⟨_, hz⟩
      obtain ⟨d, hd⟩ := live_of x a hx
      obtain ⟨d', hd'⟩ := live_of y a' hy
      exact hr.inj x y d d' hd hd' hxy
    · intro x hx
      by_cases e : o = x
      · subst e
        rw [get_set_same ho] at hx
        rcases hx with hx | hx <;> cases hx
      · rw [get_set_ne e] at hx; exact hr.free x hx
    · intro x hx
      have := hr.bF x hx
      omega
    · intro x hx hn
      exact h6 x (fun e => hn o (e ▸ hb))
  · intro id hid
    have hb0 : β id = none := hr.free id (.inl hid)
    have hle : β.le (β.put id b) := Ids.le_put hb0
    have hne : o ≠ id := by intro e; subst e; unfold isFree at hid; rw [ho] at hid; cases hid
    have hid' : (σ.set o .dead)[id]? = some .free := by rw [get_set_ne hne]; exact hid
    have old : ∀ (z : Nat) d, id ≠ z → ((σ.set o .dead).set id (.live ob'))[z]? = some (.live d) → σ[z]? = some (.live d) ∧ o ≠ z := by
      intro z d e hz
      rw [get_set_ne e] at hz
      by_cases e' : o = z
      · subst e'; rw [get_set_same ho] at hz; cases hz
      · rw [get_set_ne e'] at hz; exact ⟨hz, e'⟩
    refine ⟨⟨?_, ?_, ?_, ?_⟩, hle, fun _ h => h, hg, ?_, fun _ h => .inl h, ?_⟩
    · intro o' a ha
      by_cases e : id = o'
      · subst e
        rw [get_set_same hid'] at ha; cases ha
        exact ⟨b, c', elem, fr, by simp [Ids.put], h5, by rw [hsz]; exact hfr, hF, hl.mono hg (fun _ h => h) hle⟩
      · obtain ⟨ha', e'⟩ := old o' a e ha
        obtain ⟨b', c1, e1, f1, hb', hh', hf', hn', hL⟩ := hr.live o' a ha'
        have hne : b' ≠ b := fun e2 => hbne o' a ha' e' (e2 ▸ hb')
        exact ⟨b', c1, e1, f1, hle _ _ hb', by rw [h6 b' hne]; exact hh', hf', hn', hL.mono hg (fun _ h => h) hle⟩
    · intro x y a a' hx hy hxy
      by_cases e : id = x
      · by_cases e' : id = y
        · omega
        · obtain ⟨hy', hy2⟩ := old y a' e' hy
          subst e
          simp [Ids.put, Ne.symm e'] at hxy
          exact absurd hxy.symm (hbne y a' hy' hy2)
      · obtain ⟨hx', hx2⟩ := old x a e hx
        by_cases e' : id = y
        · subst e'
          simp [Ids.put, Ne.symm e] at hxy
          exact absurd hxy (hbne x a hx' hx2)
        · obtain ⟨hy', hy2⟩ := old y a' e' hy
          simp [Ids.put, Ne.symm e, Ne.symm e'] at hxy
          exact hr.inj x y a a' hx' hy' hxy
    · intro x hx
      by_cases e : id = x
      · subst e
        rw [get_set_same hid'] at hx
        rcases hx with hx | hx <;> cases hx
      · rw [get_set_ne e] at hx
        by_cases e' : o = x
        · subst e'
          rw [get_set_same ho] at hx
          rcases hx with hx | hx <;> cases hx
        · rw [get_set_ne e'] at hx
          simp [Ids.put, Ne.symm e]
          exact hr.free x hx
    · intro x hx
      have := hr.bF x hx
      omega
    · intro x hx hn
      exact h6 x (fun e => hn o (e ▸ hb))
    · intro x y hxy
      unfold Ids.put at hxy
      split at hxy
      · cases hxy; exact .inr ⟨o, hb⟩
      · exact .inr ⟨x, hxy⟩

end Go.Proofs.Ytffigokicddekaa.Abs
