/- A call is right. No condition. -/
import Derived.Test.YtffigokicddekaaMA14
set_option linter.unusedVariables false
set_option linter.unusedSimpArgs false
namespace Go.Proofs.Ytffigokicddekaa.Abs
open Go

theorem Grow.weaken {F F' : Nat → Prop} {w w' : World} (h : Grow F' w w') (hF : ∀ b, F b → F' b) : Grow F w w' :=
  ⟨h.os, h.tape, h.output, h.size, h.cells, fun b hb => h.same b (hF b hb)⟩

theorem Lies.closed {w : World} {F F' : Nat → Prop} {β β' : Ids} {ob : Ob} {c : Array Value} (h : Lies w F β ob c) (hc : ob.closed) (hF : (∀ b, F b → F' b) ∨ ob.flat) : Lies w F' β' ob c := by
  intro e l he
  obtain ⟨h1, h2, h3⟩ := h e l he
  refine ⟨h1, h2, fun j x hx => ⟨?_, (h3 j x hx).2⟩⟩
  have hx1 := (h3 j x hx).1
  have hcl := hc l (List.mem_of_getElem? he) x (List.mem_of_getElem? hx)
  rcases hF with hF | hF
  · exact (hx1.mono (Grow.refl F w) hF β (Ids.le_refl _)).closed hcl β'
  · exact (hx1.flat (hF l (List.mem_of_getElem? he) x (List.mem_of_getElem? hx)) F').closed hcl β'

/-- an object's slice, seen as frozen rows -/
theorem sl_view {σ : Store} {β : Ids} {F F1 : Nat → Prop} {w : World} (hr : Rel σ β F w) {o s off len : Nat} {es : List (List V)} (h : rows σ s (.sl o s off len) = some es) (hcl : ∀ l ∈ es, ∀ x ∈ l, x.closed = true)
    (hF : ∀ b, F b → F1 b) (hF1 : ∀ b ob, σ[o]? = some (.live ob) → β o = some b → F1 b) {v : Value} (hv : VR w F β (.sl o s off len) v) (β' : Ids) : VR w F1 β' (.fz s es) v := by
  simp only [rows] at h
  split at h
  · rename_i ob ho
    split at h
    · rename_i hc
      obtain ⟨_, hs, hle⟩ := hc
      cases h
      obtain ⟨b, cc, elem, fr, hb, hh, hfr, hFb, hL⟩ := hr.live o ob ho
      cases hv with
      | sl _ _ _ _ _ b' ad cap c2 elem2 fr2 hb' hh' hfit hlc had =>
        rw [hb] at hb'; cases hb'
        rw [hh] at hh'; cases hh'
        have hlen : ((ob.es.drop off).take len).length = len := by simp; omega
        rcases Nat.eq_zero_or_pos len with h0 | h0
        · subst h0
          simp only [List.take_zero]
          exact .fz0 _ _ _ _
        · rcases had with h1 | rfl
          · omega
          · have get : ∀ (e : Nat) l, ((ob.es.drop off).take len)[e]? = some l → ob.es[off + e]? = some l := by
              intro e l he
              rw [List.getElem?_take] at he
              split at he
              · rwa [List.getElem?_drop] at he
              · cases he
            have hfz := VR.fz (w := w) (F := F1) β' s ((ob.es.drop off).take len) b (off * s) cap (fun e j => cc.getD ((off + e) * s + j) undef) (hF1 b ob ho hb) (by omega) ?_ ?_ ?_
            · rw [hlen] at hfz; exact hfz
            · intro l hl
              obtain ⟨e, he⟩ := List.mem_iff_getElem?.1 hl
              rw [(hL _ l (get e l he)).1, hs]
            · intro e l he j x hx
              obtain ⟨g1, g2, g3⟩ := hL _ l (get e l he)
              rw [hs] at g1 g2 g3
              have hj : j < s := by have := (List.getElem?_eq_some_iff.1 hx).1; omega
              refine ⟨?_, (g3 j x hx).2⟩
              rw [show off * s + e * s + j = (off + e) * s + j by rw [Nat.add_mul]]
              have hlt : (off + e) * s + j < cc.size := by omega
              simp [World.cell?, hh, hlt]
            · intro e l he j x hx
              obtain ⟨g1, g2, g3⟩ := hL _ l (get e l he)
              rw [hs] at g3
              exact ((g3 j x hx).1.mono (Grow.refl F w) hF β (Ids.le_refl _)).closed (hcl l (List.mem_of_getElem? he) x (List.mem_of_getElem? hx)) _
    · cases h
  · cases h

theorem view_ok {σ : Store} {β : Ids} {F F1 : Nat → Prop} {w : World} (hr : Rel σ β F w) {m : List Nat} {b : Bool} (hF : ∀ q, F q → F1 q) (hF1 : b = true → ∀ (o q : Nat) ob, o ∉ m → σ[o]? = some (.live ob) → β o = some q → F1 q)
    {x y : V} (h : View σ m b x y) : ∀ {v : Value}, VR w F β x v → VR w F1 (fun k => (m[k]?).bind β) y v := by
  induction h with
  | same b x y hc hle => exact fun hv => hle _ _ _ _ ((hv.mono (Grow.refl F w) hF β (Ids.le_refl _)).closed hc _)
  | ptr b o k s e c hm =>
    intro v hv
    cases hv with
    | ptr _ _ _ _ _ q hq => exact .ptr _ k s e c q (by simp [hm, hq])
  | sl b o k s off len hm =>
    intro v hv
    cases hv with
    | sl _ _ _ _ _ q ad cap c elem fr hq hh hfit hl had => exact .sl _ k s off len q ad cap c elem fr (by simp [hm, hq]) hh hfit hl had
  | rows o s off len es hm hes hcl => exact fun hv => sl_view hr hes hcl hF (fun q ob ho hq => hF1 rfl o q ob hm ho hq) hv _
  | agg b xs ys hl h ih =>
    intro v hv
    obtain ⟨vs, rfl, hvs⟩ := agg_inv hv
    refine agg_mk ⟨by rw [← hl]; exact hvs.1, fun j y hy => ?_⟩
    have hj : j < xs.length := by rw [hl]; exact (List.getElem?_eq_some_iff.1 hy).1
    exact ih j xs[j] y (List.getElem?_eq_getElem hj) hy hF1 (hvs.2 j xs[j] (List.getElem?_eq_getElem hj))

theorem nodup_inj {m : List Nat} (h : m.Nodup) {i j o : Nat} (hi : m[i]? = some o) (hj : m[j]? = some o) : i = j :=
  (List.getElem?_inj (List.getElem?_eq_some_iff.1 hi).1 h).1 (hi.trans hj.symm)

theorem foldl_set_get (g : Nat → Nat) : ∀ (l : List Ob) (k : Nat) (τ : Store) (o : Nat), (∀ i j, i < l.length → j < l.length → g (k + i) = g (k + j) → i = j) → (∀ i, i < l.length → g (k + i) < τ.length) →
    ((l.zipIdx k).foldl (fun τ (p : Ob × Nat) => τ.set (g p.2) (.live p.1)) τ).length = τ.length ∧
    (∀ i ob, l[i]? = some ob → ((l.zipIdx k).foldl (fun τ (p : Ob × Nat) => τ.set (g p.2) (.live p.1)) τ)[g (k + i)]? = some (.live ob)) ∧
    ((∀ i, i < l.length → g (k + i) ≠ o) → ((l.zipIdx k).foldl (fun τ (p : Ob × Nat) => τ.set (g p.2) (.live p.1)) τ)[o]? = τ[o]?)
  | [], k, τ, o, _, _ => ⟨rfl, fun i ob h => by simp at h, fun _ => rfl⟩
  | x :: l, k, τ, o, hinj, hlt => by
    have ih := fun o => foldl_set_get g l (k + 1) (τ.set (g k) (.live x)) o (fun i j hi hj h => by
      have := hinj (i + 1) (j + 1) (by simp; omega) (by simp; omega) (by rwa [show k + (i + 1) = k + 1 + i by omega, show k + (j + 1) = k + 1 + j by omega])
      omega) (fun i hi => by have := hlt (i + 1) (by simp; omega); rw [show k + (i + 1) = k + 1 + i by omega] at this; simpa using this)
    simp only [List.zipIdx_cons, List.foldl_cons]
    refine ⟨by rw [(ih o).1]; simp, ?_, ?_⟩
    · intro i ob hi
      cases i with
      | zero =>
        simp at hi; subst hi
        rw [show k + 0 = k from rfl, (ih (g k)).2.2 (fun i hi h => by
          have := hinj (i + 1) 0 (by simp; omega) (by simp) (by rw [Nat.add_zero, show k + (i + 1) = k + 1 + i by omega]; exact h)
          omega)]
        have := hlt 0 (by simp)
        simp at this
        simp [this]
      | succ i =>
        have := (ih o).2.1 i ob (by simpa using hi)
        rwa [show k + (i + 1) = k + 1 + i by omega]
    · intro hne
      rw [(ih o).2.2 (fun i hi => by have := hne (i + 1) (by simp; omega); rwa [show k + (i + 1) = k + 1 + i by omega] at this)]
      have := hne 0 (by simp)
      rw [get_set_ne (by simpa using this)]

section
variable {P : Program} {σ : Store} {β : Ids} {F : Nat → Prop} {w : World}

/-- what stands where behind a call -/
theorem putObs_get {f : FuncId} {id own : Nat} {xs : List V} {v' : V} {σ' : Store} {m : List Nat} {σi σo : List Ob} {vs : List V} {v : V} {b : Bool} (h : CallOk P f id own σ xs v' σ' m σi σo vs v b) :
    σ'.length = σ.length ∧ (∀ (i : Nat) ob, σo[i]? = some ob → σ'[renOf m id i]? = some (.live ob)) ∧ (∀ o, (∀ i, i < σo.length → renOf m id i ≠ o) → σ'[o]? = σ[o]?) ∧
    (∀ i j, i < σo.length → j < σo.length → renOf m id i = renOf m id j → i = j) := by
  have hm : ∀ i, i < m.length → ∃ ob, σ[m.getD i 0]? = some (.live ob) ∧ renOf m id i = m.getD i 0 := by
    intro i hi
    have hi' : i < σi.length := by rw [← h.len]; exact hi
    refine ⟨σi[i], ?_, ?_⟩
    · have := h.at_ i m[i] σi[i] (List.getElem?_eq_getElem hi) (List.getElem?_eq_getElem hi')
      simpa [List.getD_eq_getElem?_getD, hi] using this
    · simp [renOf, hi, List.getD_eq_getElem?_getD]
  have hn : ∀ i, m.length ≤ i → i < σo.length → σ[renOf m id i]? = some .free ∧ renOf m id i = id + (i - m.length) := by
    intro i hi hlt
    have e : renOf m id i = id + (i - m.length) := by simp [renOf, hi]
    have := h.new (i - m.length) (by have := h.olen; omega)
    exact ⟨by rw [e]; exact this, e⟩
  have inj : ∀ i j, i < σo.length → j < σo.length → renOf m id i = renOf m id j → i = j := by
    intro i j hi hj hij
    rcases Nat.lt_or_ge i m.length with h1 | h1
    · rcases Nat.lt_or_ge j m.length with h2 | h2
      · rw [(hm i h1).choose_spec.2, (hm j h2).choose_spec.2] at hij
        simp [List.getD_eq_getElem?_getD, h1, h2] at hij
        exact nodup_inj h.nd (List.getElem?_eq_getElem h1) (by rw [hij]; exact List.getElem?_eq_getElem h2)
      · obtain ⟨ob, h3, h4⟩ := hm i h1
        rw [← h4, hij, (hn j h2 hj).1] at h3; cases h3
    · rcases Nat.lt_or_ge j m.length with h2 | h2
      · obtain ⟨ob, h3, h4⟩ := hm j h2
        rw [← h4, ← hij, (hn i h1 hi).1] at h3; cases h3
      · rw [(hn i h1 hi).2, (hn j h2 hj).2] at hij; omega
  have lt : ∀ i, i < σo.length → renOf m id i < σ.length := by
    intro i hi
    rcases Nat.lt_or_ge i m.length with h1 | h1
    · obtain ⟨ob, h3, h4⟩ := hm i h1
      rw [h4]; exact (List.getElem?_eq_some_iff.1 h3).1
    · exact (List.getElem?_eq_some_iff.1 (hn i h1 hi).1).1
  have key := fun o => foldl_set_get (renOf m id) σo 0 σ o (by simpa using inj) (by simpa using lt)
  rw [h.st]
  unfold putObs
  refine ⟨(key 0).1, fun i ob hi => by simpa using (key 0).2.1 i ob hi, fun o ho => (key o).2.2 (by simpa using ho), inj⟩

theorem call_ok (hr : Rel σ β F w) {f : FuncId} {id own : Nat} {xs : List V} {args : Array Value} (hx : VRs w F β xs args.toList) {v' : V} {σ' : Store} {m : List Nat} {σi σo : List Ob} {vs : List V} {v : V} {b : Bool}
    (h : CallOk P f id own σ xs v' σ' m σi σo vs v b) :
    Calls P f args w fun e w' => ∃ val β' F', e = .returned val ∧ VR w' F' β' v' val ∧ After σ' β β' F F' w w' := by
  obtain ⟨pl, p1, p2, p3⟩ := putObs_get h
  obtain ⟨F1, hF1def⟩ : ∃ F1 : Nat → Prop, F1 = fun q => F q ∨ (b = true ∧ ∃ o ob, o ∉ m ∧ σ[o]? = some (.live ob) ∧ β o = some q) := ⟨_, rfl⟩
  have hFF1 : ∀ q, F q → F1 q := fun q hq => by rw [hF1def]; exact .inl hq
  obtain ⟨βc, hβc⟩ : ∃ βc : Ids, βc = fun k => (m[k]?).bind β := ⟨_, rfl⟩
  have hmi : ∀ (k : Nat) ob, σi[k]? = some ob → ∃ o, m[k]? = some o ∧ σ[o]? = some (.live ob) := by
    intro k ob hk
    have hlt : k < m.length := by rw [h.len]; exact (List.getElem?_eq_some_iff.1 hk).1
    exact ⟨m[k], List.getElem?_eq_getElem hlt, h.at_ k m[k] ob (List.getElem?_eq_getElem hlt) hk⟩
  have hblt : ∀ (o q : Nat) ob, σ[o]? = some (.live ob) → β o = some q → q < w.heap.size := by
    intro o q ob ho hq
    obtain ⟨b', c, elem, fr, hb, hh, _⟩ := hr.live o ob ho
    rw [hb] at hq; cases hq
    exact (Array.getElem?_eq_some_iff.1 hh).1
  have hrc : Rel (lives σi) βc F1 w := by
    refine ⟨?_, ?_, ?_, ?_⟩
    · intro k ob hk
      simp only [lives, List.getElem?_map, Option.map_eq_some_iff] at hk
      obtain ⟨ob', hk', he⟩ := hk
      cases he
      obtain ⟨o, hm, ho⟩ := hmi k ob hk'
      obtain ⟨b', c, elem, fr, hb, hh, hfr, hFb, hL⟩ := hr.live o ob ho
      refine ⟨b', c, elem, fr, by rw [hβc]; simp [hm, hb], hh, hfr, ?_, hL.closed (h.icl ob (List.mem_of_getElem? hk')) (.inl hFF1)⟩
      rw [hF1def]
      rintro (h1 | ⟨_, o', ob', ho', hl', hb'⟩)
      · exact hFb h1
      · have : o = o' := hr.inj o o' ob ob' ho hl' (hb.trans hb'.symm)
        subst this
        exact ho' (List.mem_of_getElem? hm)
    · intro k k' a a' hk hk' hkk
      simp only [lives, List.getElem?_map, Option.map_eq_some_iff] at hk hk'
      obtain ⟨x1, hk1, e1⟩ := hk; cases e1
      obtain ⟨x2, hk2, e2⟩ := hk'; cases e2
      obtain ⟨o, hm, ho⟩ := hmi k a hk1
      obtain ⟨o', hm', ho'⟩ := hmi k' a' hk2
      rw [hβc] at hkk
      simp [hm, hm'] at hkk
      have := hr.inj o o' a a' ho ho' hkk
      subst this
      exact nodup_inj h.nd hm hm'
    · intro k hk
      rcases hk with hk | hk
      · simp only [lives, List.getElem?_map, Option.map_eq_some_iff] at hk
        obtain ⟨_, _, e⟩ := hk; cases e
      · have hge : m.length ≤ k := by
          simp [lives] at hk; rw [h.len]; exact hk
        rw [hβc]; simp [hge]
    · intro q hq
      rw [hF1def] at hq
      rcases hq with h1 | ⟨_, o, ob, _, hl, hb⟩
      · exact hr.bF q h1
      · exact hblt o q ob hl hb
  have hvs : VRs w F1 βc vs args.toList := by
    refine ⟨by rw [← h.view.1]; exact hx.1, fun j y hy => ?_⟩
    have hj : j < xs.length := by rw [h.view.1]; exact (List.getElem?_eq_some_iff.1 hy).1
    rw [hβc]
    exact view_ok hr hFF1 (fun hb o q ob ho hl hq => by rw [hF1def]; exact .inr ⟨hb, o, ob, ho, hl, hq⟩) (h.view.2 j xs[j] y (List.getElem?_eq_getElem hj) hy) (hx.2 j xs[j] (List.getElem?_eq_getElem hj))
  refine (h.fs βc F1 w args hrc hvs).mono ?_
  rintro e w' ⟨val, βc', F1', rfl, hv, hA⟩
  obtain ⟨F2, hF2⟩ : ∃ F2 : Nat → Prop, F2 = fun q => F q ∨ (w.heap.size ≤ q ∧ F1' q) := ⟨_, rfl⟩
  obtain ⟨β2, hβ2⟩ : ∃ β2 : Ids, β2 = fun o => if id ≤ o ∧ o < id + own then βc' (m.length + (o - id)) else β o := ⟨_, rfl⟩
  have hnew0 : ∀ o, id ≤ o → o < id + own → σ[o]? = some .free := by
    intro o h1 h2
    have := h.new (o - id) (by omega)
    rwa [show id + (o - id) = o by omega] at this
  have hle : β.le β2 := by
    intro o q hq
    rw [hβ2]
    simp only
    split
    · rename_i hc
      rw [hr.free o (.inl (hnew0 o hc.1 hc.2))] at hq; cases hq
    · exact hq
  have hsub : ∀ q, F q → F2 q := fun q hq => by rw [hF2]; exact .inl hq
  have hbb : b = false → ∀ q, F1' q → F2 q := by
    intro hb q hq
    rw [hF2]
    rcases hA.newF q hq with h1 | h1 | ⟨k, h1⟩
    · rw [hF1def] at h1
      rcases h1 with h1 | ⟨h2, _⟩
      · exact .inl h1
      · rw [hb] at h2; cases h2
    · exact .inr ⟨h1, hq⟩
    · have hk : k < σo.length := by
        rcases Nat.lt_or_ge k m.length with h2 | h2
        · have := h.ole; omega
        · rw [hβc] at h1; simp [h2] at h1
      obtain ⟨b', c, elem, fr, hb', hh, hfr, hFb, hL⟩ := hA.rel.live k σo[k] (by simp [lives, hk])
      rw [hA.le k q h1] at hb'; cases hb'
      exact absurd hq hFb
  have hflat : (∀ q, F1' q → F2 q) ∨ (v.flat = true ∧ ∀ ob ∈ σo, ob.flat) := by
    cases hb : b with
    | false => exact .inl (hbb hb)
    | true => exact .inr (h.flat hb)
  have hren : ∀ k q, βc' k = some q → β2 (renOf m id k) = some q := by
    intro k q hq
    have hk : k < σo.length := by
      rcases Nat.lt_or_ge k σo.length with h1 | h1
      · exact h1
      · rw [hA.rel.free k (.inr (by simp [lives, h1]))] at hq; cases hq
    rcases Nat.lt_or_ge k m.length with h1 | h1
    · have hki : k < σi.length := by rw [← h.len]; exact h1
      obtain ⟨o, hm, ho⟩ := hmi k σi[k] (List.getElem?_eq_getElem hki)
      obtain ⟨b', c, elem, fr, hb, hh, _⟩ := hr.live o _ ho
      have e1 : βc k = some b' := by rw [hβc]; simp [hm, hb]
      have e2 := hA.le k b' e1
      rw [hq] at e2; cases e2
      have e3 : renOf m id k = o := by simp [renOf, hm]
      rw [e3]
      exact hle o q hb
    · have e3 : renOf m id k = id + (k - m.length) := by simp [renOf, h1]
      have := h.olen
      rw [e3, hβ2]
      simp only
      rw [if_pos ⟨by omega, by omega⟩, show m.length + (id + (k - m.length) - id) = k by omega]
      exact hq
  refine ⟨val, β2, F2, rfl, ?_, ?_⟩
  · rw [h.res]
    have h1 : VR w' F2 βc' v val := by
      rcases hflat with h2 | h2
      · exact hv.mono (Grow.refl F1' w') h2 βc' (Ids.le_refl _)
      · exact hv.flat h2.1 F2
    exact h1.ren β2 hren
  have hgrow : Grow F w w' := hA.grow.weaken hFF1
  have img : ∀ o, (∃ i, i < σo.length ∧ renOf m id i = o) ∨ (∀ i, i < σo.length → renOf m id i ≠ o) := by
    intro o
    by_cases hex : ∃ i, i < σo.length ∧ renOf m id i = o
    · exact .inl hex
    · exact .inr fun i hi e => hex ⟨i, hi, e⟩
  have notm : ∀ o, (∀ i, i < σo.length → renOf m id i ≠ o) → o ∉ m ∧ (id ≤ o → o < id + own → σo.length ≤ m.length + (o - id)) := by
    intro o ho
    constructor
    · intro hmem
      obtain ⟨k, hk, e⟩ := List.getElem_of_mem hmem
      have := h.ole
      exact ho k (by omega) (by simp [renOf, hk, e])
    · intro h1 h2
      rcases Nat.lt_or_ge (m.length + (o - id)) σo.length with h3 | h3
      · exfalso
        refine ho (m.length + (o - id)) h3 ?_
        simp [renOf]
        omega
      · exact h3
  have frameO : ∀ (o q : Nat) ob, (∀ i, i < σo.length → renOf m id i ≠ o) → σ[o]? = some (.live ob) → β o = some q → w'.heap[q]? = w.heap[q]? := by
    intro o q ob ho hl hq
    refine hA.frame q (hblt o q ob hl hq) fun k hk => ?_
    rw [hβc] at hk
    simp only [Option.bind_eq_some_iff] at hk
    obtain ⟨o', hm, hb'⟩ := hk
    have hi : k < σi.length := by rw [← h.len]; exact (List.getElem?_eq_some_iff.1 hm).1
    have := h.at_ k o' σi[k] hm (List.getElem?_eq_getElem hi)
    have e := hr.inj o o' ob _ hl this (hq.trans hb'.symm)
    subst e
    exact (notm o ho).1 (List.mem_of_getElem? hm)
  refine ⟨⟨?_, ?_, ?_, ?_⟩, hle, hsub, hgrow, ?_, ?_, ?_⟩
  · -- live
    intro o ob ho
    rcases img o with ⟨i, hi, rfl⟩ | hno
    · have e := p1 i σo[i] (List.getElem?_eq_getElem hi)
      rw [ho] at e; cases e
      obtain ⟨b', c, elem, fr, hb, hh, hfr, hFb, hL⟩ := hA.rel.live i σo[i] (by simp [lives, hi])
      refine ⟨b', c, elem, fr, hren i b' hb, hh, hfr, ?_, ?_⟩
      · rw [hF2]
        rintro (h1 | ⟨_, h1⟩)
        · exact hFb (hA.sub _ (hFF1 _ h1))
        · exact hFb h1
      · refine hL.closed (h.ocl _ (List.getElem_mem hi)) ?_
        rcases hflat with h2 | h2
        · exact .inl h2
        · exact .inr (h2.2 _ (List.getElem_mem hi))
    · rw [p2 o hno] at ho
      obtain ⟨b', c, elem, fr, hb, hh, hfr, hFb, hL⟩ := hr.live o ob ho
      refine ⟨b', c, elem, fr, hle o b' hb, by rw [frameO o b' ob hno ho hb]; exact hh, hfr, ?_, hL.mono hgrow hsub hle⟩
      rw [hF2]
      rintro (h1 | ⟨h1, _⟩)
      · exact hFb h1
      · have := hblt o b' ob ho hb; omega
  · -- inj
    have blk : ∀ i, i < σo.length → ∃ q, βc' i = some q ∧ β2 (renOf m id i) = some q := by
      intro i hi
      obtain ⟨b', c, elem, fr, hb, _⟩ := hA.rel.live i σo[i] (by simp [lives, hi])
      exact ⟨b', hb, hren i b' hb⟩
    have mixed : ∀ (i o : Nat) ob, i < σo.length → (∀ i, i < σo.length → renOf m id i ≠ o) → σ[o]? = some (.live ob) → β2 (renOf m id i) ≠ β2 o := by
      intro i o ob hi hno hl heq
      obtain ⟨q, hq1, hq2⟩ := blk i hi
      obtain ⟨b', c, elem, fr, hb, hh, _⟩ := hr.live o ob hl
      have e1 := hle o b' hb
      rw [hq2, e1] at heq
      cases heq
      have hlt := hblt o q ob hl hb
      rcases hA.newB i q hq1 with h1 | ⟨k', hk'⟩
      · omega
      · rw [hβc] at hk'
        simp only [Option.bind_eq_some_iff] at hk'
        obtain ⟨o', hm, hb'⟩ := hk'
        have hi' : k' < σi.length := by rw [← h.len]; exact (List.getElem?_eq_some_iff.1 hm).1
        have := h.at_ k' o' σi[k'] hm (List.getElem?_eq_getElem hi')
        have e := hr.inj o o' ob _ hl this (hb.trans hb'.symm)
        subst e
        exact (notm o hno).1 (List.mem_of_getElem? hm)
    intro o o' a a' ho ho' hoo
    rcases img o with ⟨i, hi, rfl⟩ | hno
    · rcases img o' with ⟨i', hi', rfl⟩ | hno'
      · obtain ⟨q, hq1, hq2⟩ := blk i hi
        obtain ⟨q', hq1', hq2'⟩ := blk i' hi'
        rw [hq2, hq2'] at hoo
        cases hoo
        have := hA.rel.inj i i' σo[i] σo[i'] (by simp [lives, hi]) (by simp [lives, hi']) (hq1.trans hq1'.symm)
        subst this; rfl
      · rw [p2 o' hno'] at ho'
        exact absurd hoo (mixed i o' a' hi hno' ho')
    · rw [p2 o hno] at ho
      rcases img o' with ⟨i', hi', rfl⟩ | hno'
      · exact absurd hoo.symm (mixed i' o a hi' hno ho)
      · rw [p2 o' hno'] at ho'
        obtain ⟨b1, _, _, _, hb1, _⟩ := hr.live o a ho
        obtain ⟨b2, _, _, _, hb2, _⟩ := hr.live o' a' ho'
        rw [hle o b1 hb1, hle o' b2 hb2] at hoo
        exact hr.inj o o' a a' ho ho' (by rw [hb1, hb2]; exact hoo)
  · -- free
    intro o ho
    rcases img o with ⟨i, hi, rfl⟩ | hno
    · have e := p1 i σo[i] (List.getElem?_eq_getElem hi)
      rw [e] at ho
      rcases ho with ho | ho <;> cases ho
    · rw [p2 o hno] at ho
      rw [hβ2]
      simp only
      split
      · rename_i hc
        exact hA.rel.free _ (.inr (by simp [lives, (notm o hno).2 hc.1 hc.2]))
      · exact hr.free o ho
  · -- bF
    intro q hq
    rw [hF2] at hq
    rcases hq with h1 | ⟨_, h1⟩
    · have := hr.bF q h1; have := hA.grow.size; omega
    · exact hA.rel.bF q h1
  · -- frame
    intro q hq hn
    refine hA.frame q hq fun k hk => ?_
    rw [hβc] at hk
    simp only [Option.bind_eq_some_iff] at hk
    obtain ⟨o', _, hb'⟩ := hk
    exact hn o' hb'
  · intro q hq
    rw [hF2] at hq
    rcases hq with h1 | ⟨h1, _⟩
    · exact .inl h1
    · exact .inr (.inl h1)
  · -- newB
    intro o q hq
    rw [hβ2] at hq
    simp only at hq
    split at hq
    · rcases hA.newB _ q hq with h1 | ⟨k', hk'⟩
      · exact .inl h1
      · rw [hβc] at hk'
        simp only [Option.bind_eq_some_iff] at hk'
        obtain ⟨o', _, hb'⟩ := hk'
        exact .inr ⟨o', hb'⟩
    · exact .inr ⟨o, hq⟩

end
end Go.Proofs.Ytffigokicddekaa.Abs
