/- What may be forgotten, what is frozen; how a function ends. No condition. -/
import Derived.Test.YtffigokicddekaaMA20
set_option linter.unusedVariables false
set_option linter.unusedSimpArgs false
namespace Go.Proofs.Ytffigokicddekaa.Abs
open Go

mutual
/-- the value, where the object o is written no more -/
def V.frz (o : Nat) (ob : Ob) : V → V
  | .sl o' s off len => if o' = o then (if s = ob.s ∧ off + len ≤ ob.es.length then .fz s ((ob.es.drop off).take len) else .unk) else .sl o' s off len
  | .ptr o' s e c => if o' = o then (if s = ob.s then match ob.es[e]? with | some l => .fp (l.drop c) | none => .unk else .unk) else .ptr o' s e c
  | .agg cs => .agg (V.frzs o ob cs)
  | .tup cs => .tup (V.frzs o ob cs)
  | x => x
def V.frzs (o : Nat) (ob : Ob) : List V → List V
  | [] => []
  | x :: xs => x.frz o ob :: V.frzs o ob xs
end

theorem frzs_get (o : Nat) (ob : Ob) : ∀ {xs : List V}, (V.frzs o ob xs).length = xs.length ∧ ∀ (j : Nat), (V.frzs o ob xs)[j]? = xs[j]?.map (V.frz o ob)
  | [] => ⟨rfl, fun j => by simp [V.frzs]⟩
  | y :: ys => by
    obtain ⟨h1, h2⟩ := frzs_get o ob (xs := ys)
    refine ⟨by simp [V.frzs, h1], fun j => ?_⟩
    cases j with
    | zero => simp [V.frzs]
    | succ j => simpa [V.frzs] using h2 j

/-- the store turns from σ to σ', and what is known of a value turns by G; nothing happens in the world -/
def Gh (σ σ' : Store) (G : V → V → Prop) : Prop :=
  ∀ β F w, Rel σ β F w → ∃ F', After σ' β β F F' w w ∧ ∀ x y val, G x y → VR w F β x val → VR w F' β y val

theorem Gh.le (σ : Store) : Gh σ σ VLe := fun β F w hr => ⟨F, .refl hr, fun x y val h hv => h _ _ _ _ hv⟩

theorem Gh.trans {σ σ1 σ2 : Store} {G G' : V → V → Prop} (h : Gh σ σ1 G) (k : Gh σ1 σ2 G') : Gh σ σ2 fun x z => ∃ y, G x y ∧ G' y z := by
  intro β F w hr
  obtain ⟨F1, hA, h1⟩ := h β F w hr
  obtain ⟨F2, hA2, h2⟩ := k β F1 w hA.rel
  exact ⟨F2, hA.trans hA2, fun x z val ⟨y, g1, g2⟩ hv => h2 y z val g2 (h1 x y val g1 hv)⟩

theorem Gh.freeze {σ : Store} {o : Nat} {ob : Ob} (ho : σ[o]? = some (.live ob)) (hcl : ob.closed) : Gh σ (σ.set o .dead) fun x y => y = x.frz o ob := by
  intro β F w hr
  obtain ⟨F1, hF1⟩ : ∃ F1 : Nat → Prop, F1 = fun q => F q ∨ β o = some q := ⟨_, rfl⟩
  have hsub : ∀ b, F b → F1 b := fun b hb => by rw [hF1]; exact .inl hb
  have hg : Grow F w w := .refl _ _
  have live' : ∀ (o' : Nat) ob', (σ.set o .dead)[o']? = some (.live ob') → o' ≠ o ∧ σ[o']? = some (.live ob') := by
    intro o' ob' h
    by_cases e : o = o'
    · subst e; rw [get_set_same ho] at h; cases h
    · rw [get_set_ne e] at h; exact ⟨fun e' => e e'.symm, h⟩
  have hA : After (σ.set o .dead) β β F F1 w w := by
    refine ⟨⟨?_, ?_, ?_, ?_⟩, Ids.le_refl _, hsub, .refl _ _, fun _ _ _ => rfl, ?_, fun o b h => .inr ⟨o, h⟩⟩
    · intro o' ob' h
      obtain ⟨hne, h1⟩ := live' o' ob' h
      obtain ⟨b, c, elem, fr, hb, hh, hfr, hFb, hL⟩ := hr.live o' ob' h1
      refine ⟨b, c, elem, fr, hb, hh, hfr, ?_, hL.mono hg hsub (Ids.le_refl _)⟩
      rw [hF1]
      rintro (h2 | h2)
      · exact hFb h2
      · exact hne (hr.inj o' o ob' ob h1 ho (hb.trans h2.symm))
    · intro o1 o2 a1 a2 h1 h2
      exact hr.inj o1 o2 a1 a2 (live' o1 a1 h1).2 (live' o2 a2 h2).2
    · intro o' h
      by_cases e : o = o'
      · subst e; rw [get_set_same ho] at h; rcases h with h | h <;> cases h
      · rw [get_set_ne e] at h; exact hr.free o' h
    · intro b hb
      rw [hF1] at hb
      rcases hb with h | h
      · exact hr.bF b h
      · obtain ⟨b', c, elem, fr, hb, hh, _⟩ := hr.live o ob ho
        rw [hb] at h; cases h
        exact (Array.getElem?_eq_some_iff.1 hh).1
    · intro b hb
      rw [hF1] at hb
      rcases hb with h | h
      · exact .inl h
      · exact .inr (.inr ⟨o, h⟩)
  refine ⟨F1, hA, ?_⟩
  rintro x y val rfl hv
  obtain ⟨b, cc, elem, fr, hb, hh, hfr, hFb, hL⟩ := hr.live o ob ho
  have hFo : F1 b := by rw [hF1]; exact .inr hb
  have key : ∀ (β1 : Ids) (x : V) (val : Value), VR w F β1 x val → β1 = β → VR w F1 β (x.frz o ob) val := by
    intro β1 x val hv
    induction hv with
    | int β1 k n => intro _; exact .int _ k n
    | bool β1 q => intro _; exact .bool _ q
    | str β1 s => intro _; exact .str _ s
    | nilp β1 => intro _; exact .nilp _
    | ptr β1 o' s e c b' hb' =>
      intro he; subst he
      simp only [V.frz]
      split
      · rename_i e1; subst e1
        split
        · rename_i e2
          split
          · rename_i l hl
            rw [hb] at hb'; cases hb'
            obtain ⟨h1, h2, h3⟩ := hL e l hl
            refine .fp _ _ b (e * s + c) (fun j => cc.getD (e * s + c + j) undef) hFo ?_ ?_
            · intro j x hx
              rw [List.getElem?_drop] at hx
              have hj : c + j < ob.s := by rw [← h1]; exact (List.getElem?_eq_some_iff.1 hx).1
              have hlt : e * s + c + j < cc.size := by rw [e2]; omega
              refine ⟨by simp [World.cell?, hh, hlt], ?_⟩
              have := (h3 (c + j) x hx).2
              rw [e2, Nat.add_assoc]; exact this
            · intro j x hx
              rw [List.getElem?_drop] at hx
              have := (h3 (c + j) x hx).1
              rw [e2, Nat.add_assoc]
              exact (this.mono (Grow.refl F w) hsub _ (Ids.le_refl _)).closed (hcl l (List.mem_of_getElem? hl) x (List.mem_of_getElem? hx)) _
          · exact .unk _ _
        · exact .unk _ _
      · exact .ptr _ o' s e c b' hb'
    | fp β1 cs b' off f hF hc hr' ih => intro _; exact (VR.fp β cs b' off f hF hc hr').mono hg hsub _ (Ids.le_refl _)
    | nl => intro _; exact .nl _
    | fz0 => intro _; exact .fz0 _ _ _ _
    | fz β1 s es b' off cap f hF hcap hl hc hr' ih => intro _; exact (VR.fz β s es b' off cap f hF hcap hl hc hr').mono hg hsub _ (Ids.le_refl _)
    | sl β1 o' s off len b' a cap c elem' fr' h1 h2 h3 h4 h5 =>
      intro he; subst he
      simp only [V.frz]
      split
      · rename_i e1; subst e1
        split
        · rename_i e2
          refine sl_view (F1 := F1) hr (o := o') (s := s) (off := off) (len := len) ?_ (fun l hl x hx => hcl l ?_ x hx) hsub (fun b2 _ _ h => by rw [hF1]; exact .inr h) (.sl _ o' s off len b' a cap c elem' fr' h1 h2 h3 h4 h5) _
          · simp only [rows, ho]; rw [if_pos ⟨trivial, e2.1.symm, e2.2⟩]
          · exact List.mem_of_mem_drop (List.mem_of_mem_take hl)
        · exact .unk _ _
      · exact .sl _ o' s off len b' a cap c elem' fr' h1 h2 h3 h4 h5
    | agg β1 cs vs hl hr' ih =>
      intro he
      obtain ⟨g1, g2⟩ := frzs_get o ob (xs := cs)
      refine .agg _ _ vs (by rw [g1]; exact hl) fun j x hx => ?_
      rw [g2, Option.map_eq_some_iff] at hx
      obtain ⟨y, hy, rfl⟩ := hx
      exact ih j y hy he
    | tup β1 cs vs hl hr' ih =>
      intro he
      obtain ⟨g1, g2⟩ := frzs_get o ob (xs := cs)
      refine .tup _ _ vs (by rw [g1]; exact hl) fun j x hx => ?_
      rw [g2, Option.map_eq_some_iff] at hx
      obtain ⟨y, hy, rfl⟩ := hx
      exact ih j y hy he
    | unk => intro _; exact .unk _ _
  exact key β x val hv rfl

section
variable {X : Cx} {Q : Exit → List V → Store → Prop} {L : List V} {σ : Store}

theorem look_gh {w : World} {F F' : Nat → Prop} {β : Ids} {G : V → V → Prop} (h : ∀ x y val, G x y → VR w F β x val → VR w F' β y val) {act : Act} : ∀ {vs : List Nat} {L L' : List V}, L.length = L'.length → (∀ (j : Nat) x y, L[j]? = some x → L'[j]? = some y → G x y) →
    ∀ t, VR w F β (look vs L t) (act.tmps.getD t undef) → VR w F' β (look vs L' t) (act.tmps.getD t undef)
  | [], L, L', hl, hg, t, hv => by simp only [look]; exact .unk _ _
  | v :: vs, [], [], hl, hg, t, hv => by simp only [look]; exact .unk _ _
  | v :: vs, [], y :: ys, hl, hg, t, hv => by simp at hl
  | v :: vs, x :: xs, [], hl, hg, t, hv => by simp at hl
  | v :: vs, x :: xs, y :: ys, hl, hg, t, hv => by
    simp only [look] at hv ⊢
    split
    · rename_i e; rw [if_pos e] at hv; exact h x y _ (hg 0 x y rfl rfl) hv
    · rename_i e; rw [if_neg e] at hv
      exact look_gh h (by simpa using hl) (fun j x y hx hy => hg (j + 1) x y (by simpa using hx) (by simpa using hy)) t hv

theorem Gh.wk {vs : List Nat} {σ' : Store} {L' : List V} {G : V → V → Prop} (h : Gh σ σ' G) (hl : L.length = L'.length) (hg : ∀ (j : Nat) x y, L[j]? = some x → L'[j]? = some y → G x y) : Wk vs L σ L' σ' := by
  intro β F w act hr he
  obtain ⟨F', hA, hv⟩ := h β F w hr
  exact ⟨β, F', hA, fun t => look_gh hv hl hg t (he t)⟩

/-- the object o is written no more -/
theorem awp_freeze {ac : AC} {o : Nat} {ob : Ob} (ho : σ[o]? = some (.live ob)) (hcl : ob.closed) (h : AWP X ac Q (L.map (V.frz o ob)) (σ.set o .dead)) : AWP X ac Q L σ :=
  awp_ghost (Gh.wk (Gh.freeze ho hcl) (by simp) fun j x y hx hy => by rw [List.getElem?_map, hx] at hy; simpa using hy.symm) h

/-- one value is said in other words -/
theorem awp_say {ac : AC} (k : Nat) (y : V) (hk : ∀ x, L[k]? = some x → VLe x y) (h : AWP X ac Q (L.set k y) σ) : AWP X ac Q L σ :=
  awp_ghost (Gh.wk (Gh.le σ) (by simp) fun j x z hx hz => by
    rw [List.getElem?_set] at hz
    split at hz
    · rename_i e; subst e
      split at hz
      · cases hz; exact hk x hx
      · cases hz
    · rw [hx] at hz; cases hz; exact .refl x) h

/-- all values are said in other words -/
theorem awp_says {ac : AC} (L' : List V) (hl : L.length = L'.length) (hk : ∀ (j : Nat) x y, L[j]? = some x → L'[j]? = some y → VLe x y) (h : AWP X ac Q L' σ) : AWP X ac Q L σ :=
  awp_ghost (Gh.wk (Gh.le σ) hl hk) h
end

/-- a function's results -/
def compRes (P : Program) : List ResultVar → Option (List AO)
  | [] => some []
  | .tmp t :: rs => (compRes P rs).map fun os => .mov (.t t) :: os
  | .cell t ty :: rs => match sz P ty, P.underlying ty, compRes P rs with
    | some s, some d, some os => if aggD d = true ∨ s = 1 then some (.load s (aggD d) (.t t) :: os) else none
    | _, _, _ => none

def resVs : List AO → Env → Store → Option (List V)
  | [], _, _ => some []
  | o :: os, a, σ => match astep o a σ, resVs os a σ with
    | some (v, _), some vs => some (v :: vs)
    | _, _ => none

def packV : List V → V
  | [x] => x
  | xs => .tup xs

theorem resVs_len : ∀ {os : List AO} {a : Env} {σ : Store} {vs : List V}, resVs os a σ = some vs → vs.length = os.length
  | [], a, σ, vs, h => by simp [resVs] at h; subst h; rfl
  | o :: os, a, σ, vs, h => by
    simp only [resVs] at h
    split at h
    · rename_i v σ' vs' h1 h2
      cases h
      simp [resVs_len h2]
    · cases h

def resOne (tmps : Array Value) : ResultVar → Sem Value
  | .tmp t => pure (tmps.getD t undef)
  | .cell q t => do loadVar t (← asAddr (tmps.getD q undef))

theorem results_one (fn : Func) (tmps : Array Value) : results fn tmps = (do
    let vs ← fn.results.mapM (resOne tmps)
    pure (if h : vs.size = 1 then vs[0] else .tuple vs) : Sem Value) := by
  unfold results
  congr 2

theorem res_ok {P : Program} {σ : Store} {β : Ids} {F : Nat → Prop} {w : World} {a : Env} {act : Act} (hr : Rel σ β F w) (ha : EnvR w F β a act) : ∀ {rs : List ResultVar} {os : List AO} {vs : List V}, compRes P rs = some os → resVs os a σ = some vs →
    ∃ vals : List Value, (rs.mapM (resOne act.tmps)).run P w = .ok vals w ∧ VRs w F β vs vals
  | [], os, vs, hc, hv => by
    simp only [compRes, Option.some.injEq] at hc
    subst hc
    simp only [resVs, Option.some.injEq] at hv
    subst hv
    exact ⟨[], rfl, VRs.nil _ _ _⟩
  | .tmp t :: rs, os, vs, hc, hv => by
    simp only [compRes, Option.map_eq_some_iff] at hc
    obtain ⟨os', hc', rfl⟩ := hc
    simp only [resVs] at hv
    split at hv
    · rename_i v σ' vs' h1 h2
      cases hv
      obtain ⟨vals, hrun, hvs⟩ := res_ok hr ha hc' h2
      simp only [astep, Option.some.injEq, Prod.mk.injEq, Opd.ev] at h1
      refine ⟨act.tmps.getD t undef :: vals, ?_, ?_⟩
      · rw [List.mapM_cons]
        simp [Sem.run_bind, hrun, resOne]
      · refine ⟨by simp [hvs.1], fun j x hx => ?_⟩
        cases j with
        | zero => simp at hx; subst hx; rw [← h1.1]; simpa using ha t
        | succ j => simpa using hvs.2 j x (by simpa using hx)
    · cases hv
  | .cell t ty :: rs, os, vs, hc, hv => by
    simp only [compRes] at hc
    split at hc
    · rename_i s d os' hs hd hc'
      split at hc
      · rename_i hag
        cases hc
        simp only [resVs] at hv
        split at hv
        · rename_i v σ' vs' h1 h2
          cases hv
          obtain ⟨vals, hrun, hvs⟩ := res_ok hr ha hc' h2
          unfold sz at hs
          simp only [Option.map_eq_some_iff] at hs
          obtain ⟨i, hi, his⟩ := hs
          obtain ⟨_, val, hload, hval⟩ := load_ok (P := P) hr ha hd hi his hag (x := .tmp t) (v := v) (σ' := σ') h1
          have hload' : ((do loadVar ty (← asAddr (act.tmps.getD t undef))) : Sem Value).run P w = .ok val w := by
            unfold Instr.loadAt at hload
            simp only [Act.eval] at hload
            cases hx : act.tmps.getD t undef with
            | pointer p =>
              rw [hx] at hload
              cases p with
              | some p => simpa [Instr.sureAddr, asAddr] using hload
              | none => simp [Instr.sureAddr, Sem.run_bind, stuck] at hload
            | _ =>
              rw [hx] at hload
              simp [Instr.sureAddr, Sem.run_bind, stuck] at hload
          refine ⟨val :: vals, ?_, ?_⟩
          · rw [List.mapM_cons]
            have e : (resOne act.tmps (.cell t ty)).run P w = .ok val w := hload'
            rw [Sem.run_bind, e]
            simp [Sem.run_bind, hrun]
          · refine ⟨by simp [hvs.1], fun j x hx => ?_⟩
            cases j with
            | zero => simp at hx; subst hx; simpa using hval
            | succ j => simpa using hvs.2 j x (by simpa using hx)
        · cases hv
      · cases hc
    · cases hc

theorem results_ok {P : Program} {σ : Store} {β : Ids} {F : Nat → Prop} {w : World} {a : Env} {act : Act} (hr : Rel σ β F w) (ha : EnvR w F β a act) {fn : Func} {os : List AO} {vs : List V} (hc : compRes P fn.results.toList = some os) (hv : resVs os a σ = some vs) :
    ∃ val, (results fn act.tmps).run P w = .ok val w ∧ VR w F β (packV vs) val := by
  obtain ⟨vals, hrun, hvs⟩ := res_ok hr ha hc hv
  rw [results_one, Array.mapM_eq_mapM_toList]
  refine ⟨if h : vals.length = 1 then vals[0] else .tuple vals.toArray, ?_, ?_⟩
  · simp only [Sem.run_bind, map_eq_pure_bind, hrun, Result.andThen_ok]
    simp
  · match vs, vals, hvs with
    | [], [], h => exact tup_mk (by simpa using h)
    | [x], [y], h => simpa [packV] using h.2 0 x rfl
    | x :: y :: xs, u :: v :: vals, h =>
      simp only [packV]
      rw [dif_neg (by simp)]
      exact tup_mk h
    | [], _ :: _, h => exact absurd h.1 (by simp)
    | [x], [], h => exact absurd h.1 (by simp)
    | [x], _ :: _ :: _, h => exact absurd h.1 (by simp)
    | _ :: _ :: _, [], h => exact absurd h.1 (by simp)
    | _ :: _ :: _, [_], h => exact absurd h.1 (by simp)

mutual
theorem unren {w : World} {F : Nat → Prop} {β β' : Ids} (g : Nat → Nat) : ∀ (v : V) (val : Value), VR w F β (v.ren g) val → (∀ k ∈ v.ids, β' k = β (g k)) → VR w F β' v val
  | .int k n, val, h, _ => h.closed (by simp [V.ren, V.closed]) β'
  | .bool b, val, h, _ => h.closed (by simp [V.ren, V.closed]) β'
  | .str s, val, h, _ => h.closed (by simp [V.ren, V.closed]) β'
  | .nilp, val, h, _ => h.closed (by simp [V.ren, V.closed]) β'
  | .ptr o s e c, val, h, hk => by
    simp only [V.ren] at h
    cases h with
    | ptr _ _ _ _ _ b hb => exact .ptr _ o s e c b ((hk o (by simp [V.ids])).trans hb)
  | .fp cs, val, h, _ => h.closed (by simp [V.ren, V.closed]) β'
  | .nl, val, h, _ => h.closed (by simp [V.ren, V.closed]) β'
  | .fz s es, val, h, _ => h.closed (by simp [V.ren, V.closed]) β'
  | .sl o s off len, val, h, hk => by
    simp only [V.ren] at h
    cases h with
    | sl _ _ _ _ _ b a cap c elem fr hb h2 h3 h4 h5 => exact .sl _ o s off len b a cap c elem fr ((hk o (by simp [V.ids])).trans hb) h2 h3 h4 h5
  | .agg cs, val, h, hk => by
    simp only [V.ren] at h
    obtain ⟨vs, rfl, hvs⟩ := agg_inv h
    exact agg_mk (unrens g cs vs.toList hvs fun k hk' => hk k (by simpa [V.ids] using hk'))
  | .tup cs, val, h, hk => by
    simp only [V.ren] at h
    obtain ⟨vs, rfl, hvs⟩ := tup_inv h
    exact tup_mk (unrens g cs vs.toList hvs fun k hk' => hk k (by simpa [V.ids] using hk'))
  | .unk, val, h, _ => .unk _ _
theorem unrens {w : World} {F : Nat → Prop} {β β' : Ids} (g : Nat → Nat) : ∀ (vs : List V) (vals : List Value), VRs w F β (V.rens g vs) vals → (∀ k ∈ V.idsL vs, β' k = β (g k)) → VRs w F β' vs vals
  | [], vals, h, _ => ⟨by simpa [V.rens] using h.1, fun j y hy => by simp at hy⟩
  | x :: xs, [], h, _ => absurd h.1 (by simp [V.rens])
  | x :: xs, v :: vals, h, hk => by
    simp only [V.rens] at h
    have h1 := unren g x v (h.2 0 _ rfl) fun k hk' => hk k (by simp [V.idsL, hk'])
    have h2 := unrens g xs vals ⟨by simpa using h.1, fun j y hy => by simpa using h.2 (j + 1) y (by simpa using hy)⟩ fun k hk' => hk k (by simp [V.idsL, hk'])
    refine ⟨by simp [h2.1], fun j y hy => ?_⟩
    cases j with
    | zero => simp at hy; subst hy; simpa using h1
    | succ j => simpa using h2.2 j y (by simpa using hy)
end

mutual
theorem closed_ids : ∀ v : V, v.closed = true → v.ids = []
  | .int _ _, _ => rfl
  | .bool _, _ => rfl
  | .str _, _ => rfl
  | .nilp, _ => rfl
  | .ptr _ _ _ _, h => by simp [V.closed] at h
  | .fp _, _ => rfl
  | .nl, _ => rfl
  | .fz _ _, _ => rfl
  | .sl _ _ _ _, h => by simp [V.closed] at h
  | .agg cs, h => by simp only [V.ids]; exact closeds_ids cs (by simpa [V.closed] using h)
  | .tup cs, h => by simp only [V.ids]; exact closeds_ids cs (by simpa [V.closed] using h)
  | .unk, _ => rfl
theorem closeds_ids : ∀ vs : List V, V.closeds vs = true → V.idsL vs = []
  | [], _ => rfl
  | x :: xs, h => by
    simp only [V.closeds, Bool.and_eq_true] at h
    simp only [V.idsL, closed_ids x h.1, closeds_ids xs h.2, List.append_nil]
end

/-- what is known of the result turns, with the store -/
def GhR (σ : Store) (x : V) (σ' : Store) (x' : V) : Prop :=
  ∀ β F w, Rel σ β F w → ∃ F', After σ' β β F F' w w ∧ ∀ val, VR w F β x val → VR w F' β x' val

theorem GhR.refl (σ : Store) (x : V) : GhR σ x σ x := fun β F w hr => ⟨F, .refl hr, fun _ h => h⟩
theorem GhR.say {σ : Store} {x y : V} (h : VLe x y) : GhR σ x σ y := fun β F w hr => ⟨F, .refl hr, fun _ hv => h _ _ _ _ hv⟩
theorem GhR.trans {σ σ1 σ2 : Store} {x x1 x2 : V} (h : GhR σ x σ1 x1) (k : GhR σ1 x1 σ2 x2) : GhR σ x σ2 x2 := fun β F w hr => by
  obtain ⟨F1, hA, h1⟩ := h β F w hr
  obtain ⟨F2, hA2, h2⟩ := k β F1 w hA.rel
  exact ⟨F2, hA.trans hA2, fun val hv => h2 val (h1 val hv)⟩
theorem GhR.freeze {σ : Store} {x : V} {o : Nat} {ob : Ob} (ho : σ[o]? = some (.live ob)) (hcl : ob.closed) : GhR σ x (σ.set o .dead) (x.frz o ob) := fun β F w hr => by
  obtain ⟨F1, hA, h1⟩ := Gh.freeze ho hcl β F w hr
  exact ⟨F1, hA, fun val hv => h1 x _ val rfl hv⟩

/-- the end: the result x in σ is what v says of σo (those of σo stand in σ where sel says; the first nin of them are the function's own arguments) -/
structure FinOk (nin : Nat) (x : V) (σ : Store) (v : V) (σo : List Ob) (sel : List Nat) : Prop where
  len : sel.length = σo.length
  nd : sel.Nodup
  le : nin ≤ σo.length
  old : ∀ k, k < nin → sel[k]? = some k
  at_ : ∀ (k o : Nat) ob, sel[k]? = some o → σo[k]? = some ob → σ[o]? = some (.live ob)
  res : x = v.ren fun k => sel.getD k 0
  ids : ∀ k ∈ v.ids, k < sel.length
  cl : ∀ ob ∈ σo, ob.closed

/-- what is to be shown where a function ends -/
def Ends (vs : List Nat) (os : List AO) (nin : Nat) (v : V) (σo : List Ob) (e : Exit) (L : List V) (σ : Store) : Prop :=
  (e = .ret ∨ e = .normal) ∧ ∃ rs x' σ' sel, resVs os (look vs L) σ = some rs ∧ GhR σ (packV rs) σ' x' ∧ FinOk nin x' σ' v σo sel

theorem fin_after {β0 β : Ids} {F0 F F' : Nat → Prop} {w0 w : World} {σi : List Ob} {σ σ' : Store} {v : V} {σo : List Ob} {sel : List Nat} {x' : V} {val : Value} (h0 : Rel (lives σi) β0 F0 w0) (h1 : After σ β0 β F0 F w0 w) (h2 : After σ' β β F F' w w)
    (hv : VR w F' β x' val) (hf : FinOk σi.length x' σ' v σo sel) : ∃ β', After (lives σo) β0 β' F0 F' w0 w ∧ VR w F' β' v val := by
  have h := h1.trans h2
  refine ⟨fun k => (sel[k]?).bind β, ?_, ?_⟩
  · have live : ∀ (k : Nat) ob, (lives σo)[k]? = some (.live ob) → ∃ o, sel[k]? = some o ∧ σ'[o]? = some (.live ob) := by
      intro k ob hk
      simp only [lives, List.getElem?_map, Option.map_eq_some_iff] at hk
      obtain ⟨ob', hk', e⟩ := hk
      cases e
      have hlt : k < sel.length := by rw [hf.len]; exact (List.getElem?_eq_some_iff.1 hk').1
      exact ⟨sel[k], List.getElem?_eq_getElem hlt, hf.at_ k _ ob (List.getElem?_eq_getElem hlt) hk'⟩
    have le : β0.le fun k => (sel[k]?).bind β := by
      intro o b hb
      have ho : o < σi.length := by
        rcases Nat.lt_or_ge o σi.length with h3 | h3
        · exact h3
        · rw [h0.free o (.inr (by simp [lives, h3]))] at hb; cases hb
      simp [hf.old o ho, h.le o b hb]
    have mem : ∀ (k : Nat) ob, (lives σo)[k]? = some (.live ob) → ob ∈ σo := by
      intro k ob hk
      simp only [lives, List.getElem?_map, Option.map_eq_some_iff] at hk
      obtain ⟨ob', hk', e⟩ := hk
      cases e
      exact List.mem_of_getElem? hk'
    refine ⟨⟨?_, ?_, ?_, h.rel.bF⟩, le, h.sub, h.grow, h.frame, h.newF, ?_⟩
    · intro k ob hk
      obtain ⟨o, h3, h4⟩ := live k ob hk
      obtain ⟨b, c, elem, fr, hb, hh, hfr, hFb, hL⟩ := h.rel.live o ob h4
      exact ⟨b, c, elem, fr, by simp [h3, hb], hh, hfr, hFb, hL.closed (hf.cl ob (mem k ob hk)) (.inl fun _ h => h)⟩
    · intro k k' a a' hk hk' e
      obtain ⟨o, h3, h4⟩ := live k a hk
      obtain ⟨o', h3', h4'⟩ := live k' a' hk'
      simp [h3, h3'] at e
      have := h.rel.inj o o' a a' h4 h4' e
      subst this
      exact nodup_inj hf.nd h3 h3'
    · intro k hk
      rcases hk with hk | hk
      · simp only [lives, List.getElem?_map, Option.map_eq_some_iff] at hk
        obtain ⟨_, _, e⟩ := hk; cases e
      · have : sel.length ≤ k := by rw [hf.len]; simpa [lives] using hk
        simp [this]
    · intro k b hb
      simp only [Option.bind_eq_some_iff] at hb
      obtain ⟨o, h3, h4⟩ := hb
      exact h.newB o b h4
  · rw [hf.res] at hv
    refine unren _ v val hv fun k hk => ?_
    have := hf.ids k hk
    simp [this]

/-- THE FUNCTION. -/
theorem FS.of {X : Cx} {f : FuncId} {fn : Func} {c : Code} {ac : AC} {os : List AO} {σi σo : List Ob} {xs : List V} {v : V} (hf : X.P.funcs[f]? = some fn) (hb : fn.body = some c) (hnt : fn.ntmps = X.nt) (hc : compC X.P X.Γ X.D X.nt c = some ac)
    (hos : compRes X.P fn.results.toList = some os) (hk : xs.length ≤ X.nt)
    (h : AWP X ac (Ends X.vs os σi.length v σo) (X.vs.map fun t => xs.getD t (.tup [])) (lives σi)) : FS X.P f σi xs v σo := by
  intro β F w args hr hx
  refine calls_of_wp hf hb (wp_mono (h c hc β F w _ hr ?_ ?_) ?_)
  · intro t
    have key : ∀ vs : List Nat, look vs (vs.map fun t => xs.getD t (.tup [])) t = xs.getD t (.tup []) ∨ look vs (vs.map fun t => xs.getD t (.tup [])) t = .unk := by
      intro vs
      induction vs with
      | nil => exact .inr rfl
      | cons y vs ih =>
        simp only [List.map_cons, look]
        split
        · rename_i e; subst e; exact .inl rfl
        · exact ih
    rcases key X.vs with h1 | h1
    · rw [h1]
      rcases Nat.lt_or_ge t xs.length with h2 | h2
      · have h3 := hx.2 t xs[t] (List.getElem?_eq_getElem h2)
        have hsz : t < args.size := by have := hx.1; simp at this; omega
        simp only [List.getD_eq_getElem?_getD, h2, List.getElem?_eq_getElem, Option.getD_some]
        simp only [Array.getD_eq_getD_getElem?]
        rw [Array.getElem?_append_left hsz]
        simpa [List.getD_eq_getElem?_getD, hsz] using h3
      · have : xs.getD t (.tup []) = .tup [] := by simp [List.getD_eq_getElem?_getD, h2]
        rw [this]
        have hsz : args.size ≤ t := by have := hx.1; simp at this; omega
        have : (args ++ Array.replicate (fn.ntmps - args.size) undef).getD t undef = undef := by
          simp only [Array.getD_eq_getD_getElem?]
          rw [Array.getElem?_append_right hsz]
          simp [Array.getElem?_replicate]
          split <;> rfl
        show VR w F β _ ((args ++ Array.replicate (fn.ntmps - args.size) undef).getD t undef)
        rw [this]; exact undef_ok
    · rw [h1]; exact .unk _ _
  · have := hx.1
    simp at this
    simp [hnt]
    omega
  · rintro e act' w' ⟨L', σ', ⟨he, rs, x', σ2, sel, hrs, hgh, hfin⟩, hg⟩
    obtain ⟨β1, F1, hA, he1⟩ := hg.ex
    obtain ⟨val, hrun, hv⟩ := results_ok hA.rel he1 hos hrs
    obtain ⟨F2, hA2, hv2⟩ := hgh β1 F1 w' hA.rel
    obtain ⟨β', hA3, hv3⟩ := fin_after hr hA hA2 (hv2 val hv) hfin
    have hdef : act'.defers = [] := hg.defers
    rcases he with rfl | rfl
    · exact ⟨hdef, val, hrun, val, β', F2, rfl, hv3, hA3⟩
    · exact ⟨hdef, val, hrun, val, β', F2, rfl, hv3, hA3⟩

/-- the end of a function that hands nothing of its own over -/
theorem Ends.plain {vs : List Nat} {os : List AO} {v : V} {e : Exit} {L : List V} {σ : Store} (he : e = .ret ∨ e = .normal) {rs : List V} (hr : resVs os (look vs L) σ = some rs) (hle : VLe (packV rs) v) (hv : v.closed = true) : Ends vs os 0 v [] e L σ :=
  ⟨he, rs, v, σ, [], hr, .say hle, ⟨rfl, List.nodup_nil, Nat.le_refl _, fun k h => by omega, fun k o ob h => by simp at h, (ren_closed _ v hv).symm, fun k hk => by rw [closed_ids v hv] at hk; simp at hk, fun ob h => by simp at h⟩⟩

end Go.Proofs.Ytffigokicddekaa.Abs
