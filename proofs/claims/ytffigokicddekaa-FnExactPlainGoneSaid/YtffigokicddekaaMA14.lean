/- What a function does, told over abstract values; a call. No condition. -/
import Derived.Test.YtffigokicddekaaMA13
set_option linter.unusedVariables false
set_option linter.unusedSimpArgs false
namespace Go.Proofs.Ytffigokicddekaa.Abs
open Go

mutual
/-- the value names no object of the store -/
def V.closed : V → Bool
  | .ptr _ _ _ _ | .sl _ _ _ _ => false
  | .agg cs => V.closeds cs
  | .tup cs => V.closeds cs
  | _ => true
def V.closeds : List V → Bool
  | [] => true
  | x :: xs => x.closed && V.closeds xs
end

mutual
/-- the value leans on no frozen block -/
def V.flat : V → Bool
  | .fp _ => false
  | .fz _ es => es.isEmpty
  | .agg cs => V.flats cs
  | .tup cs => V.flats cs
  | _ => true
def V.flats : List V → Bool
  | [] => true
  | x :: xs => x.flat && V.flats xs
end

mutual
/-- other names for the objects -/
def V.ren (f : Nat → Nat) : V → V
  | .ptr o s e c => .ptr (f o) s e c
  | .sl o s off len => .sl (f o) s off len
  | .agg cs => .agg (V.rens f cs)
  | .tup cs => .tup (V.rens f cs)
  | x => x
def V.rens (f : Nat → Nat) : List V → List V
  | [] => []
  | x :: xs => x.ren f :: V.rens f xs
end

theorem closeds_get : ∀ {xs : List V}, V.closeds xs = true → ∀ (j : Nat) x, xs[j]? = some x → x.closed = true
  | [], _, j, x, h => by simp at h
  | y :: ys, hc, 0, x, h => by simp [V.closeds] at hc; simp at h; subst h; exact hc.1
  | y :: ys, hc, j + 1, x, h => by simp [V.closeds] at hc; exact closeds_get hc.2 j x (by simpa using h)
theorem flats_get : ∀ {xs : List V}, V.flats xs = true → ∀ (j : Nat) x, xs[j]? = some x → x.flat = true
  | [], _, j, x, h => by simp at h
  | y :: ys, hc, 0, x, h => by simp [V.flats] at hc; simp at h; subst h; exact hc.1
  | y :: ys, hc, j + 1, x, h => by simp [V.flats] at hc; exact flats_get hc.2 j x (by simpa using h)
theorem rens_get (f : Nat → Nat) : ∀ {xs : List V}, (V.rens f xs).length = xs.length ∧ ∀ (j : Nat), (V.rens f xs)[j]? = xs[j]?.map (V.ren f)
  | [] => ⟨rfl, fun j => by simp [V.rens]⟩
  | y :: ys => by
    obtain ⟨h1, h2⟩ := rens_get f (xs := ys)
    refine ⟨by simp [V.rens, h1], fun j => ?_⟩
    cases j with
    | zero => simp [V.rens]
    | succ j => simpa [V.rens] using h2 j

theorem VR.closed {w : World} {F : Nat → Prop} {β : Ids} {x : V} {v : Value} (h : VR w F β x v) : x.closed = true → ∀ β', VR w F β' x v := by
  induction h with
  | int β k n => exact fun _ β' => .int β' k n
  | bool β b => exact fun _ β' => .bool β' b
  | str β s => exact fun _ β' => .str β' s
  | nilp β => exact fun _ β' => .nilp β'
  | ptr => exact fun h => by simp [V.closed] at h
  | fp β cs b off f hF hc hr ih => exact fun _ β' => .fp β' cs b off f hF hc hr
  | nl β => exact fun _ β' => .nl β'
  | fz0 β s a cap => exact fun _ β' => .fz0 β' s a cap
  | fz β s es b off cap f hF hcap hl hc hr ih => exact fun _ β' => .fz β' s es b off cap f hF hcap hl hc hr
  | sl => exact fun h => by simp [V.closed] at h
  | agg β cs vs hl hr ih => exact fun h β' => .agg β' cs vs hl fun j x hx => ih j x hx (closeds_get (by simpa [V.closed] using h) j x hx) β'
  | tup β cs vs hl hr ih => exact fun h β' => .tup β' cs vs hl fun j x hx => ih j x hx (closeds_get (by simpa [V.closed] using h) j x hx) β'
  | unk β v => exact fun _ β' => .unk β' v

theorem VR.flat {w : World} {F : Nat → Prop} {β : Ids} {x : V} {v : Value} (h : VR w F β x v) : x.flat = true → ∀ F', VR w F' β x v := by
  induction h with
  | int β k n => exact fun _ _ => .int β k n
  | bool β b => exact fun _ _ => .bool β b
  | str β s => exact fun _ _ => .str β s
  | nilp β => exact fun _ _ => .nilp β
  | ptr β o s e c b h => exact fun _ _ => .ptr β o s e c b h
  | fp => exact fun h => by simp [V.flat] at h
  | nl β => exact fun _ _ => .nl β
  | fz0 β s a cap => exact fun _ _ => .fz0 β s a cap
  | fz β s es b off cap f hF hcap hl hc hr ih =>
    intro h F'
    simp [V.flat] at h
    subst h
    exact .fz0 β s _ _
  | sl β o s off len b a cap c elem fr h1 h2 h3 h4 h5 => exact fun _ _ => .sl β o s off len b a cap c elem fr h1 h2 h3 h4 h5
  | agg β cs vs hl hr ih => exact fun h F' => .agg β cs vs hl fun j x hx => ih j x hx (flats_get (by simpa [V.flat] using h) j x hx) F'
  | tup β cs vs hl hr ih => exact fun h F' => .tup β cs vs hl fun j x hx => ih j x hx (flats_get (by simpa [V.flat] using h) j x hx) F'
  | unk β v => exact fun _ _ => .unk β v

theorem VR.ren {w : World} {F : Nat → Prop} {f : Nat → Nat} {β : Ids} {x : V} {v : Value} (h : VR w F β x v) : ∀ β' : Ids, (∀ k b, β k = some b → β' (f k) = some b) → VR w F β' (x.ren f) v := by
  induction h with
  | int β k n => exact fun β' _ => .int β' k n
  | bool β b => exact fun β' _ => .bool β' b
  | str β s => exact fun β' _ => .str β' s
  | nilp β => exact fun β' _ => .nilp β'
  | ptr β o s e c b h => exact fun β' hf => .ptr β' (f o) s e c b (hf o b h)
  | fp β cs b off g hF hc hr ih => exact fun β' _ => .fp β' cs b off g hF hc hr
  | nl β => exact fun β' _ => .nl β'
  | fz0 β s a cap => exact fun β' _ => .fz0 β' s a cap
  | fz β s es b off cap g hF hcap hl hc hr ih => exact fun β' _ => .fz β' s es b off cap g hF hcap hl hc hr
  | sl β o s off len b a cap c elem fr h1 h2 h3 h4 h5 => exact fun β' hf => .sl β' (f o) s off len b a cap c elem fr (hf o b h1) h2 h3 h4 h5
  | agg β cs vs hl hr ih =>
    intro β' hf
    obtain ⟨g1, g2⟩ := rens_get f (xs := cs)
    refine .agg β' _ vs (by rw [g1]; exact hl) fun j x hx => ?_
    rw [g2, Option.map_eq_some_iff] at hx
    obtain ⟨y, hy, rfl⟩ := hx
    exact ih j y hy β' hf
  | tup β cs vs hl hr ih =>
    intro β' hf
    obtain ⟨g1, g2⟩ := rens_get f (xs := cs)
    refine .tup β' _ vs (by rw [g1]; exact hl) fun j x hx => ?_
    rw [g2, Option.map_eq_some_iff] at hx
    obtain ⟨y, hy, rfl⟩ := hx
    exact ih j y hy β' hf
  | unk β v => exact fun β' _ => .unk β' v

/-- the object names no object, each cell of it -/
def Ob.closed (ob : Ob) : Prop := ∀ l ∈ ob.es, ∀ x ∈ l, x.closed = true
def Ob.flat (ob : Ob) : Prop := ∀ l ∈ ob.es, ∀ x ∈ l, x.flat = true

def lives (σ : List Ob) : Store := σ.map .live

/-- WHAT A FUNCTION DOES: called with values that vs says, and the objects σ that they name, it returns what v says, and leaves the objects σ' (those that it was handed first, then those that it made); nothing else has turned. -/
def FS (P : Program) (f : FuncId) (σ : List Ob) (vs : List V) (v : V) (σ' : List Ob) : Prop :=
  ∀ (β : Ids) (F : Nat → Prop) (w : World) (args : Array Value), Rel (lives σ) β F w → VRs w F β vs args.toList →
    Calls P f args w fun e w' => ∃ val β' F', e = .returned val ∧ VR w' F' β' v val ∧ After (lives σ') β β' F F' w w'

/-- y says no more than x -/
def VLe (x y : V) : Prop := ∀ (w : World) (F : Nat → Prop) (β : Ids) (v : Value), VR w F β x v → VR w F β y v
theorem VLe.refl (x : V) : VLe x x := fun _ _ _ _ h => h
theorem VLe.nl (s : Nat) : VLe .nl (.fz s []) := fun _ _ _ _ h => by cases h; exact .fz0 _ _ _ _
theorem VLe.unk (x : V) : VLe x .unk := fun _ _ _ v _ => .unk _ v
theorem VLe.agg {xs ys : List V} (hl : xs.length = ys.length) (h : ∀ (j : Nat) x y, xs[j]? = some x → ys[j]? = some y → VLe x y) : VLe (.agg xs) (.agg ys) := fun w F β v hv => by
  obtain ⟨vs, rfl, hvs⟩ := agg_inv hv
  refine agg_mk ⟨by rw [← hl]; exact hvs.1, fun j y hy => ?_⟩
  have hj : j < xs.length := by rw [hl]; exact (List.getElem?_eq_some_iff.1 hy).1
  exact h j xs[j] y (List.getElem?_eq_getElem hj) hy _ _ _ _ (hvs.2 j xs[j] (List.getElem?_eq_getElem hj))

/-- how what the caller hands over looks to the one that is called: objects in m under the callee's names; other objects as frozen rows (b: there are such) -/
inductive View (σ : Store) (m : List Nat) : Bool → V → V → Prop where
  | same (b : Bool) (x y : V) : x.closed = true → VLe x y → View σ m b x y
  | ptr (b : Bool) (o k s e c : Nat) : m[k]? = some o → View σ m b (.ptr o s e c) (.ptr k s e c)
  | sl (b : Bool) (o k s off len : Nat) : m[k]? = some o → View σ m b (.sl o s off len) (.sl k s off len)
  | rows (o s off len : Nat) (es : List (List V)) : o ∉ m → rows σ s (.sl o s off len) = some es → (∀ l ∈ es, ∀ x ∈ l, x.closed = true) → View σ m true (.sl o s off len) (.fz s es)
  | agg (b : Bool) (xs ys : List V) : xs.length = ys.length → (∀ (j : Nat) x y, xs[j]? = some x → ys[j]? = some y → View σ m b x y) → View σ m b (.agg xs) (.agg ys)

def renOf (m : List Nat) (id : Nat) (k : Nat) : Nat := match m[k]? with
  | some o => o
  | none => id + (k - m.length)

/-- the objects behind a call -/
def putObs (σ : Store) (m : List Nat) (id : Nat) (σo : List Ob) : Store :=
  (σo.zipIdx).foldl (fun τ p => τ.set (renOf m id p.2) (.live p.1)) σ

mutual
/-- the objects that a value names -/
def V.ids : V → List Nat
  | .ptr o _ _ _ => [o]
  | .sl o _ _ _ => [o]
  | .agg cs => V.idsL cs
  | .tup cs => V.idsL cs
  | _ => []
def V.idsL : List V → List Nat
  | [] => []
  | x :: xs => x.ids ++ V.idsL xs
end

theorem idsL_mem : ∀ {xs : List V} {j : Nat} {x : V}, xs[j]? = some x → ∀ o ∈ x.ids, o ∈ V.idsL xs
  | [], j, x, h => by simp at h
  | y :: ys, 0, x, h => by simp at h; subst h; intro o ho; simp [V.idsL, ho]
  | y :: ys, j + 1, x, h => by
    intro o ho
    have := idsL_mem (xs := ys) (j := j) (x := x) (by simpa using h) o ho
    simp [V.idsL, this]

structure CallOk (P : Program) (f : FuncId) (id own : Nat) (σ : Store) (xs : List V) (v' : V) (σ' : Store) (m : List Nat) (σi σo : List Ob) (vs : List V) (v : V) (b : Bool) : Prop where
  fs : FS P f σi vs v σo
  nd : m.Nodup
  sub : ∀ o ∈ m, o ∈ V.idsL xs
  len : m.length = σi.length
  at_ : ∀ (k o : Nat) ob, m[k]? = some o → σi[k]? = some ob → σ[o]? = some (.live ob)
  view : xs.length = vs.length ∧ ∀ (j : Nat) x y, xs[j]? = some x → vs[j]? = some y → View σ m b x y
  ole : m.length ≤ σo.length
  olen : σo.length ≤ m.length + own
  new : ∀ j, j < own → isFree σ (id + j)
  icl : ∀ ob ∈ σi, ob.closed
  ocl : ∀ ob ∈ σo, ob.closed
  flat : b = true → v.flat = true ∧ ∀ ob ∈ σo, ob.flat
  res : v' = v.ren (renOf m id)
  st : σ' = putObs σ m id σo

end Go.Proofs.Ytffigokicddekaa.Abs
