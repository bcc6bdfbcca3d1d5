/- What a step reads and turns. No condition. -/
import Derived.Test.YtffigokicddekaaMA17
set_option linter.unusedVariables false
set_option linter.unusedSimpArgs false
namespace Go.Proofs.Ytffigokicddekaa.Abs
open Go

def Opd.uses : Opd → List Nat
  | .t n => [n]
  | .k _ => []
def usesL : List Opd → List Nat
  | [] => []
  | x :: xs => x.uses ++ usesL xs
def usesO : Option Opd → List Nat
  | none => []
  | some x => x.uses

def AO.uses : AO → List Nat
  | .mov x | .box _ _ x | .load _ _ x | .faddr _ x | .field _ _ _ x | .nilc x | .not x | .neg x | .cint _ x | .s2b _ x | .b2s x | .len x | .slen x | .ext x _ => x.uses
  | .pick c a b => c.uses ++ (a.uses ++ b.uses)
  | .alloc .. => []
  | .build _ ps => usesL (ps.map fun p => p.2.2)
  | .bslice _ _ _ _ ps => usesL (ps.map fun p => p.2)
  | .store _ x y | .iaddr _ x y | .sindex x y | .bin _ x y | .eqs _ _ x y | .beq _ x y | .mks _ _ _ _ x y | .app _ _ _ x y => x.uses ++ y.uses
  | .slice _ x lo hi | .sslice x lo hi => x.uses ++ (usesO lo ++ usesO hi)
  | .max xs | .min xs | .call _ _ _ _ xs => usesL xs

def AO.news : AO → List Nat
  | .alloc id .. | .box id .. | .bslice id .. | .s2b id _ | .mks id .. | .app id .. => [id]
  | .call _ id own _ _ => (List.range own).map (id + ·)
  | _ => []

/-- the objects that a step reads or turns -/
def AO.touch (o : AO) (a : Env) : List Nat :=
  match o with
  | .load _ _ x | .b2s x => (x.ev a).ids
  | .store _ x _ => (x.ev a).ids
  | .app _ _ _ x y => (x.ev a).ids ++ (y.ev a).ids
  | .call _ _ _ _ args => V.idsL (args.map fun x => x.ev a)
  | _ => []

/-- 0: it looks at no object; 1: it reads; 2: it makes one; 3: it turns one -/
def AO.kind : AO → Nat
  | .load .. | .b2s _ => 1
  | .alloc .. | .box .. | .bslice .. | .s2b .. | .mks .. => 2
  | .store .. | .app .. => 3
  | .call wr _ own _ _ => if wr = false ∧ own = 0 then 1 else 3
  | _ => 0

theorem ev_same {a b : Env} {x : Opd} (h : ∀ t ∈ x.uses, b t = a t) : x.ev b = x.ev a := by
  cases x with
  | t n => exact h n (by simp [Opd.uses])
  | k v => rfl

theorem evs_same {a b : Env} : ∀ {xs : List Opd}, (∀ t ∈ usesL xs, b t = a t) → (xs.map fun x => x.ev b) = xs.map fun x => x.ev a
  | [], _ => rfl
  | x :: xs, h => by
    simp only [List.map_cons]
    rw [ev_same (fun t ht => h t (by simp [usesL, ht])), evs_same (fun t ht => h t (by simp [usesL, ht]))]

theorem evo_same {a b : Env} {x : Option Opd} (h : ∀ t ∈ usesO x, b t = a t) : x.map (·.ev b) = x.map (·.ev a) := by
  cases x with
  | none => rfl
  | some x => simp only [Option.map_some]; rw [ev_same h]

/-- τ' came of τ as σ' of σ, at the places S; elsewhere nothing has turned -/
structure Upd (S : List Nat) (σ σ' τ τ' : Store) : Prop where
  on : ∀ q ∈ S, τ'[q]? = σ'[q]?
  off : ∀ q, q ∉ S → τ'[q]? = τ[q]? ∧ σ'[q]? = σ[q]?
  len : τ'.length = τ.length ∧ σ'.length = σ.length

theorem Upd.same {S : List Nat} {σ τ : Store} (h : ∀ q ∈ S, τ[q]? = σ[q]?) : Upd S σ σ τ τ := ⟨h, fun _ _ => ⟨rfl, rfl⟩, rfl, rfl⟩

theorem Upd.set {S : List Nat} {σ τ : Store} (h : ∀ q ∈ S, τ[q]? = σ[q]?) {o : Nat} (ho : o ∈ S) (s : Slot) : Upd S σ (σ.set o s) τ (τ.set o s) := by
  have hl : o < τ.length ↔ o < σ.length := by
    have := h o ho
    constructor
    · intro h1
      rw [List.getElem?_eq_getElem h1] at this
      exact (List.getElem?_eq_some_iff.1 this.symm).1
    · intro h1
      rw [List.getElem?_eq_getElem h1] at this
      exact (List.getElem?_eq_some_iff.1 this).1
  refine ⟨fun q hq => ?_, fun q hq => ?_, by simp, by simp⟩
  · by_cases e : o = q
    · subst e
      simp only [List.getElem?_set]
      simp only [if_true]
      by_cases h1 : o < σ.length
      · rw [if_pos h1, if_pos (hl.2 h1)]
      · rw [if_neg h1, if_neg (fun h2 => h1 (hl.1 h2))]
    · rw [get_set_ne e, get_set_ne e]; exact h q hq
  · have e : o ≠ q := fun e => hq (e ▸ ho)
    rw [get_set_ne e, get_set_ne e]; exact ⟨rfl, rfl⟩

theorem Upd.trans {S : List Nat} {σ σ1 σ2 τ τ1 τ2 : Store} (h : Upd S σ σ1 τ τ1) (k : Upd S σ1 σ2 τ1 τ2) : Upd S σ σ2 τ τ2 :=
  ⟨k.on, fun q hq => ⟨(k.off q hq).1.trans (h.off q hq).1, (k.off q hq).2.trans (h.off q hq).2⟩, k.len.1.trans h.len.1, k.len.2.trans h.len.2⟩

theorem rows_same {σ τ : Store} {s : Nat} {x : V} (h : ∀ q ∈ x.ids, τ[q]? = σ[q]?) : rows τ s x = rows σ s x := by
  unfold rows
  cases x <;> try rfl
  rename_i o s' off len
  dsimp only
  rw [h o (by simp [V.ids])]

theorem isFree_same {σ τ : Store} {id : Nat} (h : τ[id]? = σ[id]?) : isFree τ id ↔ isFree σ id := by unfold isFree; rw [h]

theorem astep_local {o : AO} {a b : Env} {σ σ' τ : Store} {v : V} (hs : astep o a σ = some (v, σ')) (hu : ∀ t ∈ o.uses, b t = a t) (ht : ∀ q ∈ o.touch a ++ o.news, τ[q]? = σ[q]?) :
    ∃ τ', astep o b τ = some (v, τ') ∧ Upd (o.touch a ++ o.news) σ σ' τ τ' ∧ (o.kind ≤ 1 → σ' = σ ∧ τ' = τ) ∧ (o.kind = 2 → Upd o.news σ σ' τ τ') := by
  have ev1 : ∀ {x : Opd}, (∀ t ∈ x.uses, t ∈ o.uses) → x.ev b = x.ev a := fun h => ev_same fun t ht => hu t (h t ht)
  have pure : σ' = σ → astep o b τ = some (v, τ) → ∃ τ', astep o b τ = some (v, τ') ∧ Upd (o.touch a ++ o.news) σ σ' τ τ' ∧ (o.kind ≤ 1 → σ' = σ ∧ τ' = τ) ∧ (o.kind = 2 → Upd o.news σ σ' τ τ') := by
    rintro rfl h
    exact ⟨τ, h, .same ht, fun _ => ⟨rfl, rfl⟩, fun _ => .same fun q hq => ht q (by simp [hq])⟩
  have made : ∀ (id : Nat) (ob : Ob), o.news = [id] → o.touch a = [] → o.kind = 2 → σ' = σ.set id (.live ob) → astep o b τ = some (v, τ.set id (.live ob)) →
      ∃ τ', astep o b τ = some (v, τ') ∧ Upd (o.touch a ++ o.news) σ σ' τ τ' ∧ (o.kind ≤ 1 → σ' = σ ∧ τ' = τ) ∧ (o.kind = 2 → Upd o.news σ σ' τ τ') := by
    rintro id ob h1 h2 h3 rfl h
    rw [h1, h2] at ht ⊢
    rw [h3]
    have hu := Upd.set ht (o := id) (by simp) (.live ob)
    exact ⟨_, h, hu, fun h => by omega, fun _ => by simpa using hu⟩
  have free1 : ∀ id, id ∈ o.news → (isFree τ id ↔ isFree σ id) := fun id hid => isFree_same (ht id (by simp [hid]))
  cases o with
  | call => simp [astep] at hs
  | mov x =>
    simp only [astep, Option.some.injEq, Prod.mk.injEq] at hs
    exact pure hs.2.symm (by simp only [astep]; rw [ev1 (x := x) (fun t h => h), hs.1])
  | pick c x y =>
    simp only [astep] at hs
    split at hs
    · rename_i q hq
      cases hs
      refine pure rfl ?_
      simp only [astep]
      rw [ev1 (x := c) (fun t h => by simp [AO.uses, h]), hq, ev1 (x := x) (fun t h => by simp [AO.uses, h]), ev1 (x := y) (fun t h => by simp [AO.uses, h])]
    · cases hs
  | alloc id s z =>
    simp only [astep] at hs
    split at hs
    · rename_i hid
      cases hs
      exact made id _ rfl rfl rfl rfl (by simp only [astep]; rw [if_pos ((free1 id (by simp [AO.news])).2 hid)])
    · cases hs
  | box id s x =>
    simp only [astep] at hs
    split at hs
    · rename_i cs hcs
      split at hs
      · rename_i hc
        cases hs
        exact made id _ rfl rfl rfl rfl (by simp only [astep]; rw [ev1 (x := x) (fun t h => h), hcs]; dsimp only; rw [if_pos ⟨(free1 id (by simp [AO.news])).2 hc.1, hc.2⟩])
      · cases hs
    · cases hs
  | bslice id s n z ps =>
    simp only [astep] at hs
    have e : (ps.map fun p => (p.1, p.2.ev b)) = ps.map fun p => (p.1, p.2.ev a) := by
      apply List.map_congr_left
      intro p hp
      congr 1
      refine ev1 fun t ht => ?_
      have : ∀ (ps : List (Nat × Opd)), p ∈ ps → t ∈ usesL (ps.map fun p => p.2) := by
        intro ps
        induction ps with
        | nil => intro h; simp at h
        | cons q ps ih =>
          intro h
          simp only [List.mem_cons] at h
          simp only [List.map_cons, usesL, List.mem_append]
          rcases h with rfl | h
          · exact .inl ht
          · exact .inr (ih h)
      exact this ps hp
    split at hs
    · rename_i es hes
      split at hs
      · rename_i hid
        cases hs
        exact made id _ rfl rfl rfl rfl (by simp only [astep]; rw [e, hes]; dsimp only; rw [if_pos ((free1 id (by simp [AO.news])).2 hid)])
      · cases hs
    · cases hs
  | build z ps =>
    simp only [astep] at hs
    have e : (ps.map fun p => (p.1, p.2.1, p.2.2.ev b)) = ps.map fun p => (p.1, p.2.1, p.2.2.ev a) := by
      apply List.map_congr_left
      intro p hp
      congr 2
      refine ev1 fun t ht => ?_
      have : ∀ (ps : List (Nat × Nat × Opd)), p ∈ ps → t ∈ usesL (ps.map fun p => p.2.2) := by
        intro ps
        induction ps with
        | nil => intro h; simp at h
        | cons q ps ih =>
          intro h
          simp only [List.mem_cons] at h
          simp only [List.map_cons, usesL, List.mem_append]
          rcases h with rfl | h
          · exact .inl ht
          · exact .inr (ih h)
      exact this ps hp
    simp only [Option.map_eq_some_iff, Prod.mk.injEq] at hs
    obtain ⟨cs, hcs, rfl, rfl⟩ := hs
    exact pure rfl (by simp only [astep]; rw [e, hcs]; rfl)
  | s2b id x =>
    simp only [astep] at hs
    split at hs
    · rename_i q hq
      split at hs
      · rename_i hid
        cases hs
        exact made id _ rfl rfl rfl rfl (by simp only [astep]; rw [ev1 (x := x) (fun t h => h), hq]; dsimp only; rw [if_pos ((free1 id (by simp [AO.news])).2 hid)])
      · cases hs
    · cases hs
  | mks id s bytes z x y =>
    simp only [astep] at hs
    split at hs
    · rename_i n m h1 h2
      split at hs
      · rename_i hc
        cases hs
        exact made id _ rfl rfl rfl rfl (by simp only [astep]; rw [ev1 (x := x) (fun t h => by simp [AO.uses, h]), ev1 (x := y) (fun t h => by simp [AO.uses, h]), h1, h2]; dsimp only; rw [if_pos ⟨(free1 id (by simp [AO.news])).2 hc.1, hc.2⟩])
      · cases hs
    · cases hs
  | load s ag x =>
    have ex := ev1 (x := x) (fun t h => h)
    simp only [astep] at hs
    split at hs
    · rename_i o' s' e c hop
      have hτ : τ[o']? = σ[o']? := ht o' (by simp [AO.touch, hop, V.ids])
      split at hs
      · rename_i ob ho
        split at hs
        · rename_i l hl
          split at hs
          · rename_i hc
            simp only [Option.map_eq_some_iff, Prod.mk.injEq] at hs
            obtain ⟨y, hy, rfl, rfl⟩ := hs
            exact pure rfl (by simp only [astep]; rw [ex, hop]; dsimp only; rw [hτ, ho]; dsimp only; rw [hl]; dsimp only; rw [if_pos hc, hy]; rfl)
          · cases hs
        · cases hs
      · cases hs
    · rename_i cs hop
      split at hs
      · rename_i hc
        simp only [Option.map_eq_some_iff, Prod.mk.injEq] at hs
        obtain ⟨y, hy, rfl, rfl⟩ := hs
        exact pure rfl (by simp only [astep]; rw [ex, hop]; dsimp only; rw [if_pos hc, hy]; rfl)
      · cases hs
    · cases hs
  | b2s x =>
    have ex := ev1 (x := x) (fun t h => h)
    simp only [astep] at hs
    split at hs
    · rename_i es hes
      simp only [Option.map_eq_some_iff, Prod.mk.injEq] at hs
      obtain ⟨l, hl, rfl, rfl⟩ := hs
      exact pure rfl (by simp only [astep]; rw [ex, rows_same (σ := σ) (fun q hq => ht q (by simp [AO.touch, hq])), hes]; dsimp only; rw [hl]; rfl)
    · cases hs
  | store s x y =>
    have ex := ev1 (x := x) (fun t h => by simp [AO.uses, h])
    have ey := ev1 (x := y) (fun t h => by simp [AO.uses, h])
    simp only [astep] at hs
    split at hs
    · rename_i o' s' e c cs hop hcs
      have hτ : τ[o']? = σ[o']? := ht o' (by simp [AO.touch, hop, V.ids])
      split at hs
      · rename_i ob ho
        split at hs
        · rename_i l hl
          split at hs
          · rename_i hc
            cases hs
            refine ⟨_, by simp only [astep]; rw [ex, ey, hop, hcs]; dsimp only; rw [hτ, ho]; dsimp only; rw [hl]; dsimp only; rw [if_pos hc], Upd.set ht (by simp [AO.touch, hop, V.ids]) _, fun h => by simp [AO.kind] at h, fun h => by simp [AO.kind] at h⟩
          · cases hs
        · cases hs
      · cases hs
    · cases hs
  | app id s bytes x y =>
    have ex := ev1 (x := x) (fun t h => by simp [AO.uses, h])
    have ey := ev1 (x := y) (fun t h => by simp [AO.uses, h])
    have er : rows τ s (y.ev a) = rows σ s (y.ev a) := rows_same (fun q hq => ht q (by simp [AO.touch, hq]))
    have hid : τ[id]? = σ[id]? := ht id (by simp [AO.news])
    have hfr := isFree_same hid
    simp only [astep] at hs
    split at hs
    · rename_i ys hop hys
      split at hs
      · cases hs
        refine ⟨τ, by simp only [astep]; rw [ex, ey, hop, er, hys], .same ht, fun h => by simp [AO.kind] at h, fun h => by simp [AO.kind] at h⟩
      · split at hs
        · rename_i hc
          cases hs
          refine ⟨_, by simp only [astep]; rw [ex, ey, hop, er, hys]; dsimp only; rw [if_pos ⟨hfr.2 hc.1, hc.2⟩], Upd.set ht (by simp [AO.news]) _, fun h => by simp [AO.kind] at h, fun h => by simp [AO.kind] at h⟩
        · cases hs
    · rename_i o' s' off len ys hop hys
      have hτ : τ[o']? = σ[o']? := ht o' (by simp [AO.touch, hop, V.ids])
      split at hs
      · rename_i ob ho
        split at hs
        · rename_i hc
          cases hs
          have h1 := Upd.set ht (o := o') (by simp [AO.touch, hop, V.ids]) .dead
          have h2 := Upd.set (σ := σ.set o' .dead) (τ := τ.set o' .dead) h1.on (o := id) (by simp [AO.news]) (.live ⟨s, ob.es.take len ++ ys⟩)
          refine ⟨_, by simp only [astep]; rw [ex, ey, hop, er, hys]; dsimp only; rw [hτ, ho]; dsimp only; rw [if_pos ⟨hc.1, hc.2.1, hc.2.2.1, hc.2.2.2.1, hfr.2 hc.2.2.2.2.1, hc.2.2.2.2.2⟩], h1.trans h2, fun h => by simp [AO.kind] at h, fun h => by simp [AO.kind] at h⟩
        · cases hs
      · cases hs
    · cases hs
  | slice s x lo hi =>
    have ex := ev1 (x := x) (fun t h => by simp [AO.uses, h])
    have el : lo.map (·.ev b) = lo.map (·.ev a) := evo_same fun t h => hu t (by simp [AO.uses, h])
    have eh : hi.map (·.ev b) = hi.map (·.ev a) := evo_same fun t h => hu t (by simp [AO.uses, h])
    have hσ : σ' = σ := by
      clear pure made free1 ev1 ht hu
      simp only [astep] at hs
      (repeat' (split at hs)) <;> first
        | (cases hs; done)
        | (cases hs; rfl)
        | (simp only [Option.map_eq_some_iff, Prod.mk.injEq] at hs; obtain ⟨_, _, _, h⟩ := hs; exact h.symm)
    have e : astep (.slice s x lo hi) b τ = (astep (.slice s x lo hi) a σ).map fun p => (p.1, τ) := by
      clear pure made free1 ev1 ht hu hs
      simp only [astep]
      rw [ex, el, eh]
      (repeat' split) <;> first
        | rfl
        | (rw [Option.map_map]; rfl)
    exact pure hσ (by rw [e, hs]; rfl)
  | sslice x lo hi =>
    have ex := ev1 (x := x) (fun t h => by simp [AO.uses, h])
    have el : lo.map (·.ev b) = lo.map (·.ev a) := evo_same fun t h => hu t (by simp [AO.uses, h])
    have eh : hi.map (·.ev b) = hi.map (·.ev a) := evo_same fun t h => hu t (by simp [AO.uses, h])
    have hσ : σ' = σ := by
      clear pure made free1 ev1 ht hu
      simp only [astep] at hs
      (repeat' (split at hs)) <;> first
        | (cases hs; done)
        | (cases hs; rfl)
        | (simp only [Option.map_eq_some_iff, Prod.mk.injEq] at hs; obtain ⟨_, _, _, h⟩ := hs; exact h.symm)
    have e : astep (.sslice x lo hi) b τ = (astep (.sslice x lo hi) a σ).map fun p => (p.1, τ) := by
      clear pure made free1 ev1 ht hu hs
      simp only [astep]
      rw [ex, el, eh]
      (repeat' split) <;> first
        | rfl
        | (rw [Option.map_map]; rfl)
    exact pure hσ (by rw [e, hs]; rfl)
  | max xs =>
    have ex : (xs.map fun x => x.ev b) = xs.map fun x => x.ev a := evs_same hu
    have hσ : σ' = σ := by
      clear pure made free1 ev1 ht hu
      simp only [astep] at hs
      (repeat' (split at hs)) <;> first
        | (cases hs; done)
        | (cases hs; rfl)
        | (simp only [Option.map_eq_some_iff, Prod.mk.injEq] at hs; obtain ⟨_, _, _, h⟩ := hs; exact h.symm)
    have e : astep (.max xs) b τ = (astep (.max xs) a σ).map fun p => (p.1, τ) := by
      clear pure made free1 ev1 ht hu hs
      simp only [astep]
      rw [ex]
      (repeat' split) <;> first
        | rfl
        | (rw [Option.map_map]; rfl)
    exact pure hσ (by rw [e, hs]; rfl)
  | min xs =>
    have ex : (xs.map fun x => x.ev b) = xs.map fun x => x.ev a := evs_same hu
    have hσ : σ' = σ := by
      clear pure made free1 ev1 ht hu
      simp only [astep] at hs
      (repeat' (split at hs)) <;> first
        | (cases hs; done)
        | (cases hs; rfl)
        | (simp only [Option.map_eq_some_iff, Prod.mk.injEq] at hs; obtain ⟨_, _, _, h⟩ := hs; exact h.symm)
    have e : astep (.min xs) b τ = (astep (.min xs) a σ).map fun p => (p.1, τ) := by
      clear pure made free1 ev1 ht hu hs
      simp only [astep]
      rw [ex]
      (repeat' split) <;> first
        | rfl
        | (rw [Option.map_map]; rfl)
    exact pure hσ (by rw [e, hs]; rfl)
  | faddr k x =>
    have ex := ev1 (x := x) (fun t h => h)
    have hσ : σ' = σ := by
      clear pure made free1 ev1 ht hu
      simp only [astep] at hs
      (repeat' (split at hs)) <;> first
        | (cases hs; done)
        | (cases hs; rfl)
        | (simp only [Option.map_eq_some_iff, Prod.mk.injEq] at hs; obtain ⟨_, _, _, h⟩ := hs; exact h.symm)
    have e : astep (.faddr k x) b τ = (astep (.faddr k x) a σ).map fun p => (p.1, τ) := by
      clear pure made free1 ev1 ht hu hs
      simp only [astep]
      rw [ex]
      (repeat' split) <;> first
        | rfl
        | (rw [Option.map_map]; rfl)
    exact pure hσ (by rw [e, hs]; rfl)
  | nilc x =>
    have ex := ev1 (x := x) (fun t h => h)
    have hσ : σ' = σ := by
      clear pure made free1 ev1 ht hu
      simp only [astep] at hs
      (repeat' (split at hs)) <;> first
        | (cases hs; done)
        | (cases hs; rfl)
        | (simp only [Option.map_eq_some_iff, Prod.mk.injEq] at hs; obtain ⟨_, _, _, h⟩ := hs; exact h.symm)
    have e : astep (.nilc x) b τ = (astep (.nilc x) a σ).map fun p => (p.1, τ) := by
      clear pure made free1 ev1 ht hu hs
      simp only [astep]
      rw [ex]
      (repeat' split) <;> first
        | rfl
        | (rw [Option.map_map]; rfl)
    exact pure hσ (by rw [e, hs]; rfl)
  | not x =>
    have ex := ev1 (x := x) (fun t h => h)
    have hσ : σ' = σ := by
      clear pure made free1 ev1 ht hu
      simp only [astep] at hs
      (repeat' (split at hs)) <;> first
        | (cases hs; done)
        | (cases hs; rfl)
        | (simp only [Option.map_eq_some_iff, Prod.mk.injEq] at hs; obtain ⟨_, _, _, h⟩ := hs; exact h.symm)
    have e : astep (.not x) b τ = (astep (.not x) a σ).map fun p => (p.1, τ) := by
      clear pure made free1 ev1 ht hu hs
      simp only [astep]
      rw [ex]
      (repeat' split) <;> first
        | rfl
        | (rw [Option.map_map]; rfl)
    exact pure hσ (by rw [e, hs]; rfl)
  | neg x =>
    have ex := ev1 (x := x) (fun t h => h)
    have hσ : σ' = σ := by
      clear pure made free1 ev1 ht hu
      simp only [astep] at hs
      (repeat' (split at hs)) <;> first
        | (cases hs; done)
        | (cases hs; rfl)
        | (simp only [Option.map_eq_some_iff, Prod.mk.injEq] at hs; obtain ⟨_, _, _, h⟩ := hs; exact h.symm)
    have e : astep (.neg x) b τ = (astep (.neg x) a σ).map fun p => (p.1, τ) := by
      clear pure made free1 ev1 ht hu hs
      simp only [astep]
      rw [ex]
      (repeat' split) <;> first
        | rfl
        | (rw [Option.map_map]; rfl)
    exact pure hσ (by rw [e, hs]; rfl)
  | cint k x =>
    have ex := ev1 (x := x) (fun t h => h)
    have hσ : σ' = σ := by
      clear pure made free1 ev1 ht hu
      simp only [astep] at hs
      (repeat' (split at hs)) <;> first
        | (cases hs; done)
        | (cases hs; rfl)
        | (simp only [Option.map_eq_some_iff, Prod.mk.injEq] at hs; obtain ⟨_, _, _, h⟩ := hs; exact h.symm)
    have e : astep (.cint k x) b τ = (astep (.cint k x) a σ).map fun p => (p.1, τ) := by
      clear pure made free1 ev1 ht hu hs
      simp only [astep]
      rw [ex]
      (repeat' split) <;> first
        | rfl
        | (rw [Option.map_map]; rfl)
    exact pure hσ (by rw [e, hs]; rfl)
  | len x =>
    have ex := ev1 (x := x) (fun t h => h)
    have hσ : σ' = σ := by
      clear pure made free1 ev1 ht hu
      simp only [astep] at hs
      (repeat' (split at hs)) <;> first
        | (cases hs; done)
        | (cases hs; rfl)
        | (simp only [Option.map_eq_some_iff, Prod.mk.injEq] at hs; obtain ⟨_, _, _, h⟩ := hs; exact h.symm)
    have e : astep (.len x) b τ = (astep (.len x) a σ).map fun p => (p.1, τ) := by
      clear pure made free1 ev1 ht hu hs
      simp only [astep]
      rw [ex]
      (repeat' split) <;> first
        | rfl
        | (rw [Option.map_map]; rfl)
    exact pure hσ (by rw [e, hs]; rfl)
  | slen x =>
    have ex := ev1 (x := x) (fun t h => h)
    have hσ : σ' = σ := by
      clear pure made free1 ev1 ht hu
      simp only [astep] at hs
      (repeat' (split at hs)) <;> first
        | (cases hs; done)
        | (cases hs; rfl)
        | (simp only [Option.map_eq_some_iff, Prod.mk.injEq] at hs; obtain ⟨_, _, _, h⟩ := hs; exact h.symm)
    have e : astep (.slen x) b τ = (astep (.slen x) a σ).map fun p => (p.1, τ) := by
      clear pure made free1 ev1 ht hu hs
      simp only [astep]
      rw [ex]
      (repeat' split) <;> first
        | rfl
        | (rw [Option.map_map]; rfl)
    exact pure hσ (by rw [e, hs]; rfl)
  | ext x k =>
    have ex := ev1 (x := x) (fun t h => h)
    have hσ : σ' = σ := by
      clear pure made free1 ev1 ht hu
      simp only [astep] at hs
      (repeat' (split at hs)) <;> first
        | (cases hs; done)
        | (cases hs; rfl)
        | (simp only [Option.map_eq_some_iff, Prod.mk.injEq] at hs; obtain ⟨_, _, _, h⟩ := hs; exact h.symm)
    have e : astep (.ext x k) b τ = (astep (.ext x k) a σ).map fun p => (p.1, τ) := by
      clear pure made free1 ev1 ht hu hs
      simp only [astep]
      rw [ex]
      (repeat' split) <;> first
        | rfl
        | (rw [Option.map_map]; rfl)
    exact pure hσ (by rw [e, hs]; rfl)
  | field off s ag x =>
    have ex := ev1 (x := x) (fun t h => h)
    have hσ : σ' = σ := by
      clear pure made free1 ev1 ht hu
      simp only [astep] at hs
      (repeat' (split at hs)) <;> first
        | (cases hs; done)
        | (cases hs; rfl)
        | (simp only [Option.map_eq_some_iff, Prod.mk.injEq] at hs; obtain ⟨_, _, _, h⟩ := hs; exact h.symm)
    have e : astep (.field off s ag x) b τ = (astep (.field off s ag x) a σ).map fun p => (p.1, τ) := by
      clear pure made free1 ev1 ht hu hs
      simp only [astep]
      rw [ex]
      (repeat' split) <;> first
        | rfl
        | (rw [Option.map_map]; rfl)
    exact pure hσ (by rw [e, hs]; rfl)
  | iaddr s x y =>
    have ex := ev1 (x := x) (fun t h => by simp [AO.uses, h])
    have ey := ev1 (x := y) (fun t h => by simp [AO.uses, h])
    have hσ : σ' = σ := by
      clear pure made free1 ev1 ht hu
      simp only [astep] at hs
      (repeat' (split at hs)) <;> first
        | (cases hs; done)
        | (cases hs; rfl)
        | (simp only [Option.map_eq_some_iff, Prod.mk.injEq] at hs; obtain ⟨_, _, _, h⟩ := hs; exact h.symm)
    have e : astep (.iaddr s x y) b τ = (astep (.iaddr s x y) a σ).map fun p => (p.1, τ) := by
      clear pure made free1 ev1 ht hu hs
      simp only [astep]
      rw [ex, ey]
      (repeat' split) <;> first
        | rfl
        | (rw [Option.map_map]; rfl)
    exact pure hσ (by rw [e, hs]; rfl)
  | sindex x y =>
    have ex := ev1 (x := x) (fun t h => by simp [AO.uses, h])
    have ey := ev1 (x := y) (fun t h => by simp [AO.uses, h])
    have hσ : σ' = σ := by
      clear pure made free1 ev1 ht hu
      simp only [astep] at hs
      (repeat' (split at hs)) <;> first
        | (cases hs; done)
        | (cases hs; rfl)
        | (simp only [Option.map_eq_some_iff, Prod.mk.injEq] at hs; obtain ⟨_, _, _, h⟩ := hs; exact h.symm)
    have e : astep (.sindex x y) b τ = (astep (.sindex x y) a σ).map fun p => (p.1, τ) := by
      clear pure made free1 ev1 ht hu hs
      simp only [astep]
      rw [ex, ey]
      (repeat' split) <;> first
        | rfl
        | (rw [Option.map_map]; rfl)
    exact pure hσ (by rw [e, hs]; rfl)
  | bin op x y =>
    have ex := ev1 (x := x) (fun t h => by simp [AO.uses, h])
    have ey := ev1 (x := y) (fun t h => by simp [AO.uses, h])
    have hσ : σ' = σ := by
      clear pure made free1 ev1 ht hu
      simp only [astep] at hs
      (repeat' (split at hs)) <;> first
        | (cases hs; done)
        | (cases hs; rfl)
        | (simp only [Option.map_eq_some_iff, Prod.mk.injEq] at hs; obtain ⟨_, _, _, h⟩ := hs; exact h.symm)
    have e : astep (.bin op x y) b τ = (astep (.bin op x y) a σ).map fun p => (p.1, τ) := by
      clear pure made free1 ev1 ht hu hs
      simp only [astep]
      rw [ex, ey]
      (repeat' split) <;> first
        | rfl
        | (rw [Option.map_map]; rfl)
    exact pure hσ (by rw [e, hs]; rfl)
  | eqs ks ng x y =>
    have ex := ev1 (x := x) (fun t h => by simp [AO.uses, h])
    have ey := ev1 (x := y) (fun t h => by simp [AO.uses, h])
    have hσ : σ' = σ := by
      clear pure made free1 ev1 ht hu
      simp only [astep] at hs
      (repeat' (split at hs)) <;> first
        | (cases hs; done)
        | (cases hs; rfl)
        | (simp only [Option.map_eq_some_iff, Prod.mk.injEq] at hs; obtain ⟨_, _, _, h⟩ := hs; exact h.symm)
    have e : astep (.eqs ks ng x y) b τ = (astep (.eqs ks ng x y) a σ).map fun p => (p.1, τ) := by
      clear pure made free1 ev1 ht hu hs
      simp only [astep]
      rw [ex, ey]
      (repeat' split) <;> first
        | rfl
        | (rw [Option.map_map]; rfl)
    exact pure hσ (by rw [e, hs]; rfl)
  | beq ng x y =>
    have ex := ev1 (x := x) (fun t h => by simp [AO.uses, h])
    have ey := ev1 (x := y) (fun t h => by simp [AO.uses, h])
    have hσ : σ' = σ := by
      clear pure made free1 ev1 ht hu
      simp only [astep] at hs
      (repeat' (split at hs)) <;> first
        | (cases hs; done)
        | (cases hs; rfl)
        | (simp only [Option.map_eq_some_iff, Prod.mk.injEq] at hs; obtain ⟨_, _, _, h⟩ := hs; exact h.symm)
    have e : astep (.beq ng x y) b τ = (astep (.beq ng x y) a σ).map fun p => (p.1, τ) := by
      clear pure made free1 ev1 ht hu hs
      simp only [astep]
      rw [ex, ey]
      (repeat' split) <;> first
        | rfl
        | (rw [Option.map_map]; rfl)
    exact pure hσ (by rw [e, hs]; rfl)

end Go.Proofs.Ytffigokicddekaa.Abs
