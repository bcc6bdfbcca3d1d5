/- What an object holds, said in other words. No condition. -/
import Derived.Test.YtffigokicddekaaMA25
set_option linter.unusedVariables false
set_option linter.unusedSimpArgs false
namespace Go.Proofs.Ytffigokicddekaa.Abs
open Go

/-- row by row, cell by cell, no more is said -/
def ObLe (x y : Ob) : Prop := x.s = y.s ∧ ∀ (e : Nat) l', y.es[e]? = some l' → ∃ l, x.es[e]? = some l ∧ l.length = l'.length ∧ ∀ (j : Nat) u v, l[j]? = some u → l'[j]? = some v → VLe u v

theorem Gh.obj {σ : Store} {o : Nat} {ob ob' : Ob} (ho : σ[o]? = some (.live ob)) (hle : ObLe ob ob') : Gh σ (σ.set o (.live ob')) VLe := by
  intro β F w hr
  refine ⟨F, ⟨⟨?_, ?_, ?_, hr.bF⟩, Ids.le_refl _, fun _ h => h, .refl _ _, fun _ _ _ => rfl, fun _ h => .inl h, fun o b h => .inr ⟨o, h⟩⟩, fun x y val h hv => h _ _ _ _ hv⟩
  · intro o' ob1 h
    by_cases e : o = o'
    · subst e
      rw [get_set_same ho] at h
      cases h
      obtain ⟨b, c, elem, fr, hb, hh, hfr, hFb, hL⟩ := hr.live o ob ho
      refine ⟨b, c, elem, fr, hb, hh, hfr, hFb, fun e l' he => ?_⟩
      obtain ⟨l, h1, h2, h3⟩ := hle.2 e l' he
      obtain ⟨g1, g2, g3⟩ := hL e l h1
      rw [hle.1] at g1 g2 g3
      refine ⟨by omega, g2, fun j v hv => ?_⟩
      have hj : j < l.length := by rw [h2]; exact (List.getElem?_eq_some_iff.1 hv).1
      obtain ⟨k1, k2⟩ := g3 j l[j] (List.getElem?_eq_getElem hj)
      exact ⟨h3 j l[j] v (List.getElem?_eq_getElem hj) hv _ _ _ _ k1, k2⟩
    · rw [get_set_ne e] at h
      exact hr.live o' ob1 h
  · intro o1 o2 a1 a2 h1 h2
    have key : ∀ (q : Nat) a, (σ.set o (.live ob'))[q]? = some (.live a) → ∃ a', σ[q]? = some (.live a') := by
      intro q a h
      by_cases e : o = q
      · subst e; exact ⟨ob, ho⟩
      · rw [get_set_ne e] at h; exact ⟨a, h⟩
    obtain ⟨b1, g1⟩ := key o1 a1 h1
    obtain ⟨b2, g2⟩ := key o2 a2 h2
    exact hr.inj o1 o2 b1 b2 g1 g2
  · intro o' h
    by_cases e : o = o'
    · subst e; rw [get_set_same ho] at h; rcases h with h | h <;> cases h
    · rw [get_set_ne e] at h; exact hr.free o' h

theorem awp_obj {X : Cx} {Q : Exit → List V → Store → Prop} {L : List V} {σ : Store} {ac : AC} {o : Nat} {ob : Ob} (ob' : Ob) (ho : σ[o]? = some (.live ob)) (hle : ObLe ob ob') (h : AWP X ac Q L (σ.set o (.live ob'))) : AWP X ac Q L σ :=
  awp_ghost (Gh.wk (Gh.obj ho hle) rfl fun j x y hx hy => by rw [hx] at hy; cases hy; exact .refl x) h

theorem ObLe.rep {s n : Nat} {l l' : List V} (hl : l.length = l'.length) (h : ∀ (j : Nat) u v, l[j]? = some u → l'[j]? = some v → VLe u v) : ObLe ⟨s, List.replicate n l⟩ ⟨s, List.replicate n l'⟩ := by
  refine ⟨rfl, fun e r he => ?_⟩
  simp only [List.getElem?_replicate] at he ⊢
  split at he
  · rename_i hlt
    cases he
    exact ⟨l, by rw [if_pos hlt], hl, h⟩
  · cases he

/-! a store that has grown -/
@[go_sem] theorem app_get (σ τ : Store) : (σ ++ τ)[σ.length]? = τ[0]? := by
  rw [List.getElem?_append_right (Nat.le_refl _), Nat.sub_self]
@[go_sem] theorem app_getk (σ τ : Store) (k : Nat) : (σ ++ τ)[σ.length + k]? = τ[k]? := by
  rw [List.getElem?_append_right (Nat.le_add_right _ _), Nat.add_sub_cancel_left]
@[go_sem] theorem app_set (σ τ : Store) (x : Slot) : (σ ++ τ).set σ.length x = σ ++ τ.set 0 x := by
  rw [List.set_append_right _ _ (Nat.le_refl _), Nat.sub_self]
@[go_sem] theorem app_setk (σ τ : Store) (k : Nat) (x : Slot) : (σ ++ τ).set (σ.length + k) x = σ ++ τ.set k x := by
  rw [List.set_append_right _ _ (Nat.le_add_right _ _), Nat.add_sub_cancel_left]

end Go.Proofs.Ytffigokicddekaa.Abs
