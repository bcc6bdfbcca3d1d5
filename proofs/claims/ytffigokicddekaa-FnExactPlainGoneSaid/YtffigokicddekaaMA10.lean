/- Rows: slices made, appended to, turned from and to strings. No condition. -/
import Derived.Test.YtffigokicddekaaMA9
set_option linter.unusedVariables false
set_option linter.unusedSimpArgs false
namespace Go.Proofs.Ytffigokicddekaa.Abs
open Go

theorem flat_len {s : Nat} : ∀ {es : List (List V)}, (∀ l ∈ es, l.length = s) → es.flatten.length = es.length * s
  | [], _ => by simp
  | l :: es, h => by
    have h1 := h l (by simp)
    have h2 := flat_len (es := es) (fun x hx => h x (by simp [hx]))
    simp [h1] at h2 ⊢
    rw [h2, Nat.add_mul]; omega

theorem flat_get {s : Nat} : ∀ {es : List (List V)} {e : Nat} {l : List V}, (∀ l ∈ es, l.length = s) → es[e]? = some l → ∀ j, j < s → es.flatten[e * s + j]? = l[j]?
  | [], e, l, _, h => by simp at h
  | l0 :: es, 0, l, hs, h => by
    intro j hj
    have h1 := hs l0 (by simp)
    simp at h; subst h
    simp only [List.flatten_cons, Nat.zero_mul, Nat.zero_add]
    rw [List.getElem?_append_left (by omega)]
  | l0 :: es, e + 1, l, hs, h => by
    intro j hj
    have h1 := hs l0 (by simp)
    have h2 := flat_get (es := es) (e := e) (l := l) (fun x hx => hs x (by simp [hx])) (by simpa using h) j hj
    simp only [List.flatten_cons]
    rw [List.getElem?_append_right (by rw [h1, Nat.add_mul]; omega), h1]
    have : (e + 1) * s + j - s = e * s + j := by rw [Nat.add_mul]; omega
    rw [this]; exact h2

/-- cells that stand in a row, as an object -/
theorem lies_flat {w : World} {F : Nat → Prop} {β : Ids} {s : Nat} {es : List (List V)} {vs : List Value} {c : Array Value} (hs : ∀ l ∈ es, l.length = s) (hv : VRs w F β es.flatten vs) (h1 : ∀ u ∈ vs, u.oneCell' = true)
    (hc : ∀ k, k < vs.length → c.getD k undef = vs.getD k undef) (hl : vs.length ≤ c.size) : Lies w F β ⟨s, es⟩ c := by
  intro e l he
  dsimp only at he
  have hle := hs l (List.mem_of_getElem? he)
  have hlt := (List.getElem?_eq_some_iff.1 he).1
  have hfl := flat_len hs
  have hvl := hv.1
  have hb : e * s + s ≤ es.length * s := by
    have := Nat.mul_le_mul_right s (show e + 1 ≤ es.length by omega)
    rw [Nat.add_mul] at this; omega
  dsimp only
  refine ⟨hle, by omega, fun j x hx => ?_⟩
  have hj : j < s := by have := (List.getElem?_eq_some_iff.1 hx).1; omega
  have hg := flat_get hs he j hj
  rw [hx] at hg
  have hk : e * s + j < vs.length := by omega
  rw [hc _ hk]
  refine ⟨hv.2 _ x hg, h1 _ ?_⟩
  simp [List.getD_eq_getElem?_getD, hk]

/-- a slice's rows, in the world -/
theorem rows_ok {σ : Store} {β : Ids} {F : Nat → Prop} {w : World} (hr : Rel σ β F w) {s : Nat} {x : V} {v : Value} {es : List (List V)} (h : rows σ s x = some es) (hv : VR w F β x v) :
    ∃ ad cap, v = .slice ad es.length cap ∧ es.length ≤ cap ∧ (∀ l ∈ es, l.length = s) ∧
      ∃ vs : List Value, VRs w F β es.flatten vs ∧ (∀ u ∈ vs, u.oneCell' = true) ∧ (es = [] ∨ ∃ b off, ad = some ⟨b, off, none⟩ ∧ ∀ (k : Nat) u, vs[k]? = some u → w.cell? ⟨b, off + k, none⟩ = some u) := by
  have mk : ∀ (es : List (List V)) (b off : Nat) (f : Nat → Nat → Value), (∀ l ∈ es, l.length = s) → (∀ (e : Nat) l, es[e]? = some l → ∀ (j : Nat) z, l[j]? = some z → w.cell? ⟨b, off + e * s + j, none⟩ = some (f e j) ∧ (f e j).oneCell' = true) →
      (∀ (e : Nat) l, es[e]? = some l → ∀ (j : Nat) z, l[j]? = some z → VR w F β z (f e j)) →
      ∃ vs : List Value, VRs w F β es.flatten vs ∧ (∀ u ∈ vs, u.oneCell' = true) ∧ ∀ (k : Nat) u, vs[k]? = some u → w.cell? ⟨b, off + k, none⟩ = some u := by
    intro es b off f hs hc hR
    have hfl := flat_len hs
    have dm : ∀ k, k < es.length * s → k / s < es.length ∧ k % s < s ∧ (k / s) * s + k % s = k := by
      intro k hk
      have hs0 : 0 < s := by rcases Nat.eq_zero_or_pos s with h0 | h0; subst h0; omega; exact h0
      exact ⟨(Nat.div_lt_iff_lt_mul hs0).2 hk, Nat.mod_lt _ hs0, by rw [Nat.mul_comm]; exact Nat.div_add_mod k s⟩
    have el : ∀ e, e < es.length → ∀ j, j < s → ∃ l z, es[e]? = some l ∧ l[j]? = some z := by
      intro e he j hj
      have := hs es[e] (List.getElem_mem he)
      exact ⟨es[e], es[e][j], by simp [he], by simp [this, hj]⟩
    refine ⟨(List.range (es.length * s)).map (fun k => f (k / s) (k % s)), ⟨by simp [hfl], ?_⟩, ?_, ?_⟩
    · intro k z hz
      have hk : k < es.length * s := by have := (List.getElem?_eq_some_iff.1 hz).1; omega
      obtain ⟨d1, d2, d3⟩ := dm k hk
      obtain ⟨l, z', hl, hz'⟩ := el _ d1 _ d2
      have hg := flat_get hs hl (k % s) d2
      rw [d3, hz'] at hg
      rw [hz] at hg; cases hg
      rw [List.getD_eq_getElem?_getD]
      simp [hk]
      exact hR _ l hl _ z hz'
    · intro u hu
      simp only [List.mem_map, List.mem_range] at hu
      obtain ⟨k, hk, rfl⟩ := hu
      obtain ⟨d1, d2, d3⟩ := dm k hk
      obtain ⟨l, z', hl, hz'⟩ := el _ d1 _ d2
      exact (hc _ l hl _ z' hz').2
    · intro k u hu
      simp only [List.getElem?_map, Option.map_eq_some_iff, List.getElem?_range] at hu
      obtain ⟨k', hk', rfl⟩ := hu
      have hk : k < es.length * s := by
        rcases Nat.lt_or_ge k (es.length * s) with h' | h'
        · exact h'
        · rw [List.getElem?_eq_none (by simpa using h')] at hk'; cases hk'
      rw [List.getElem?_range hk] at hk'; cases hk'
      obtain ⟨d1, d2, d3⟩ := dm k hk
      obtain ⟨l, z', hl, hz'⟩ := el _ d1 _ d2
      have := (hc _ l hl _ z' hz').1
      rwa [show off + k / s * s + k % s = off + k by omega] at this
  unfold rows at h
  split at h
  · cases h
    cases hv
    exact ⟨none, 0, rfl, Nat.le_refl _, by simp, [], VRs.nil _ _ _, by simp, .inl rfl⟩
  · rename_i s' es'
    split at h
    · rename_i hs'
      subst hs'
      cases h
      cases hv with
      | fz0 _ _ ad cap => exact ⟨ad, cap, rfl, Nat.zero_le _, by simp, [], VRs.nil _ _ _, by simp, .inl rfl⟩
      | fz _ _ _ b off cap f hF hcap hlen hcell hR =>
        obtain ⟨vs, h1, h2, h3⟩ := mk es b off f hlen hcell (fun e l he j z hz => (hR e l he j z hz).mono (Grow.refl F w) (fun _ h => h) β (fun _ _ h => by simp [noIds] at h))
        exact ⟨_, cap, rfl, hcap, hlen, vs, h1, h2, .inr ⟨b, off, rfl, h3⟩⟩
    · cases h
  · rename_i o s' off len
    split at h
    · rename_i ob ho
      split at h
      · rename_i hc
        obtain ⟨rfl, hs', hle⟩ := hc
        cases h
        obtain ⟨b, cc, elem, fr, hb, hh, hfr, hF, hL⟩ := hr.live o ob ho
        cases hv with
        | sl _ _ _ _ _ b' ad cap c2 elem2 fr2 hb' hh' hfit hlc had =>
          rw [hb] at hb'; cases hb'
          rw [hh] at hh'; cases hh'
          have hlen : ((ob.es.drop off).take len).length = len := by simp; omega
          have hall : ∀ l ∈ (ob.es.drop off).take len, l.length = s' := by
            intro l hl
            obtain ⟨e, he⟩ := List.mem_iff_getElem?.1 (List.mem_of_mem_drop (List.mem_of_mem_take hl))
            rw [(hL e l he).1, hs']
          refine ⟨some ad, cap, by rw [hlen], by omega, hall, ?_⟩
          have get : ∀ (e : Nat) l, ((ob.es.drop off).take len)[e]? = some l → ob.es[off + e]? = some l := by
            intro e l he
            rw [List.getElem?_take] at he
            split at he
            · rwa [List.getElem?_drop] at he
            · cases he
          have hcell : ∀ (e : Nat) l, ((ob.es.drop off).take len)[e]? = some l → ∀ (j : Nat) z, l[j]? = some z → w.cell? ⟨b, off * s' + e * s' + j, none⟩ = some (cc.getD ((off + e) * s' + j) undef) ∧ (cc.getD ((off + e) * s' + j) undef).oneCell' = true := by
            intro e l he j z hz
            obtain ⟨g1, g2, g3⟩ := hL _ l (get e l he)
            rw [hs'] at g1 g2 g3
            have hj : j < s' := by have := (List.getElem?_eq_some_iff.1 hz).1; omega
            refine ⟨?_, (g3 j z hz).2⟩
            rw [show off * s' + e * s' + j = (off + e) * s' + j by rw [Nat.add_mul]]
            have hlt : (off + e) * s' + j < cc.size := by omega
            simp [World.cell?, hh, hlt]
          obtain ⟨vs, h1, h2, h3⟩ := mk _ b (off * s') (fun e j => cc.getD ((off + e) * s' + j) undef) hall hcell (fun e l he j z hz => by
            have := (hL _ l (get e l he)).2.2 j z hz
            rw [hs'] at this; exact this.1)
          refine ⟨vs, h1, h2, ?_⟩
          rcases had with h0 | rfl
          · left; apply List.eq_nil_of_length_eq_zero; omega
          · exact .inr ⟨b, _, rfl, h3⟩
      · cases h
    · cases h
  · cases h

section
variable {P : Program} {σ : Store} {β : Ids} {F : Nat → Prop} {w : World} {a : Env} {act : Act}

theorem flatten_set {s : Nat} : ∀ {es : List (List V)} {i : Nat} {cs : List V}, (∀ l ∈ es, l.length = s) → cs.length = s → i < es.length → (es.set i cs).flatten = splice es.flatten (i * s) cs
  | [], i, cs, _, _, h => by simp at h
  | l :: es, 0, cs, hs, hc, _ => by
    have h1 := hs l (by simp)
    simp only [List.set_cons_zero, List.flatten_cons, splice, Nat.zero_mul, List.take_zero, List.nil_append, Nat.zero_add]
    rw [hc, List.drop_append_of_le_length (by omega)]
    simp [← h1]
  | l :: es, i + 1, cs, hs, hc, h => by
    have h1 := hs l (by simp)
    have ih := flatten_set (es := es) (i := i) (cs := cs) (fun x hx => hs x (by simp [hx])) hc (by simpa using h)
    simp only [List.set_cons_succ, List.flatten_cons, ih, splice]
    have e : (i + 1) * s = s + i * s := by rw [Nat.add_mul]; omega
    rw [e, ← h1, List.take_length_add_append, Nat.add_assoc, List.drop_length_add_append]
    simp [List.append_assoc]

theorem fillR_fillV {s : Nat} : ∀ {qs : List (Nat × V)} {es es' : List (List V)}, (∀ l ∈ es, l.length = s) → fillR es s qs = some es' →
    fillV es.flatten (qs.map fun p => (p.1 * s, s, p.2)) = some es'.flatten ∧ (∀ l ∈ es', l.length = s) ∧ es'.length = es.length
  | [], es, es', hs, h => by simp [fillR] at h; subst h; exact ⟨by simp [fillV], hs, rfl⟩
  | (i, x) :: qs, es, es', hs, h => by
    simp only [fillR] at h
    split at h
    · rename_i cs hcs
      split at h
      · rename_i hc
        have hs' : ∀ l ∈ es.set i cs, l.length = s := by
          intro l hl
          rcases List.mem_or_eq_of_mem_set hl with h1 | h1
          · exact hs l h1
          · rw [h1]; exact hc.1
        obtain ⟨h1, h2, h3⟩ := fillR_fillV hs' h
        refine ⟨?_, h2, by simpa using h3⟩
        simp only [List.map_cons, fillV, hcs]
        have hfl := flat_len hs
        have hb : i * s + s ≤ es.length * s := by
          have := Nat.mul_le_mul_right s (show i + 1 ≤ es.length by omega)
          rw [Nat.add_mul] at this; omega
        rw [if_pos ⟨hc.1, by omega⟩, ← flatten_set hs hc.1 hc.2]
        exact h1
      · cases h
    · cases h

theorem made_ok {z : List V} {zv : Array Value} (hz : VRs w F β z zv.toList) (hpos : 0 < z.length) (n : Nat) : VRs w F β (List.replicate n z).flatten (madeCells zv (n * z.length)).toList := by
  have hzl : zv.size = z.length := by have := hz.1; simp at this; omega
  have hs : ∀ l ∈ List.replicate n z, l.length = z.length := fun l hl => by rw [(List.mem_replicate.1 hl).2]
  refine ⟨by rw [flat_len hs]; simp [size_madeCells], fun k x hk => ?_⟩
  have hlt : k < n * z.length := by have := (List.getElem?_eq_some_iff.1 hk).1; rw [flat_len hs] at this; simpa using this
  have d1 : k / z.length < n := (Nat.div_lt_iff_lt_mul hpos).2 hlt
  have d2 : k % z.length < z.length := Nat.mod_lt _ hpos
  have d3 : k / z.length * z.length + k % z.length = k := by rw [Nat.mul_comm]; exact Nat.div_add_mod k _
  have hg := flat_get hs (e := k / z.length) (l := z) (by simp [d1]) _ d2
  rw [d3, hk] at hg
  have := hz.2 _ x hg.symm
  rw [List.getD_eq_getElem?_getD] at this ⊢
  have e1 : (madeCells zv (n * z.length)).toList[k]? = zv.toList[k % z.length]? := by
    have h1 : k % zv.size < zv.size := by rw [hzl]; exact d2
    simp only [madeCells, Array.toList_map, Array.toList_range, List.getElem?_map]
    rw [List.getElem?_range hlt]
    simp [h1, ← hzl]
  rw [e1]; exact this

theorem made_one {zv : Array Value} (h1 : zv.all (·.oneCell') = true) (hpos : 0 < zv.size) (n : Nat) : ∀ u ∈ (madeCells zv n).toList, u.oneCell' = true := by
  intro u hu
  simp only [madeCells, Array.toList_map, List.mem_map] at hu
  obtain ⟨k, _, rfl⟩ := hu
  have hk : k % zv.size < zv.size := Nat.mod_lt _ hpos
  have := Array.all_eq_true.1 h1 _ hk
  simpa [hk] using this

theorem fill_one {pl : Nat → Option (Nat × Nat)} : ∀ {ps : List (Nat × Value)} {zv cv : Array Value}, (∀ u ∈ zv.toList, u.oneCell' = true) → (∀ p ∈ ps, ∀ u ∈ p.2.cells.toList, u.oneCell' = true) → Instr.fill pl zv ps = some cv → ∀ u ∈ cv.toList, u.oneCell' = true
  | [], zv, cv, hz, _, h => by simp [Instr.fill] at h; subst h; exact hz
  | (i, v) :: ps, zv, cv, hz, hp, h => by
    simp only [Instr.fill] at h
    split at h
    · cases h
    · split at h
      · cases h
      · refine fill_one ?_ (fun p hp' => hp p (by simp [hp'])) h
        have aux : ∀ (l : List (Value × Nat)) (acc : Array Value) (off : Nat), (∀ u ∈ acc.toList, u.oneCell' = true) → (∀ q ∈ l, q.1.oneCell' = true) → ∀ u ∈ (l.foldl (fun cs (p : Value × Nat) => cs.setIfInBounds (off + p.2) p.1) acc).toList, u.oneCell' = true := by
          intro l
          induction l with
          | nil => intro acc off h1 _; simpa using h1
          | cons y l ih =>
            intro acc off h1 h2
            simp only [List.foldl_cons]
            refine ih _ _ ?_ (fun q hq => h2 q (by simp [hq]))
            intro u hu
            rw [Array.toList_setIfInBounds] at hu
            rcases List.mem_or_eq_of_mem_set hu with h3 | h3
            · exact h1 u h3
            · rw [h3]; exact h2 y (by simp)
        rw [← Array.foldl_toList]
        refine aux _ _ _ hz ?_
        intro q hq
        have : q.1 ∈ v.cells.toList := by
          rw [Array.toList_zipIdx] at hq
          exact (List.mem_zipIdx hq).2.2 ▸ List.getElem_mem _
        exact hp (i, v) (by simp) q.1 this

theorem bslice_ok (hr : Rel σ β F w) (ha : EnvR w F β a act) {t e : TypeId} {s id n : Nat} {z : List V} (hu : P.underlying t = some (.slice e)) (hs : sz P e = some s) (hz : zeroOf P e = some z) (hl : z.length = s) (hpos : 0 < s) (hn : n * s ≤ 16777216)
    (h1 : ∀ i v, P.info? e = some i → i.zero = some v → v.cells.all (·.oneCell') = true)
    {ps : Array (Nat × Operand)} {v : V} {σ' : Store} (h : astep (.bslice id s n z (ps.toList.map fun p => (p.1, opdOf p.2))) a σ = some (v, σ')) :
    ∃ val w' β', (Instr.buildSlice t n (ps.map fun (i, x) => (i, act.eval x))).run P w = .ok val w' ∧ VR w' F β' v val ∧ After σ' β β' F F w w' := by
  simp only [astep] at h
  split at h
  · rename_i es hes
    split at h
    · rename_i hid
      cases h
      obtain ⟨it, zv, hit, hzz, hzr⟩ := zeroOf_ok hz w F β
      have hsz : it.size = s := by unfold sz at hs; simp [hit] at hs; exact hs
      have hzs : zv.cells.size = s := by have := hzr.1; simp at this; omega
      have hrep : ∀ l ∈ List.replicate n z, l.length = s := fun l hl' => by rw [(List.mem_replicate.1 hl').2, hl]
      obtain ⟨f1, f2, f3⟩ := fillR_fillV hrep hes
      have hmade := made_ok (w := w) (F := F) (β := β) hzr (by omega) n
      rw [hl] at hmade
      obtain ⟨cv, g1, g2⟩ := fillV_ok (w := w) (F := F) (β := β) (pl := fun i => some (i * s, s)) (ps := ps.toList.map fun p => (p.1, act.eval p.2)) (qs := (List.map (fun p => (p.1, p.2.ev a)) (ps.toList.map fun p => (p.1, opdOf p.2))).map fun p => (p.1 * s, s, p.2)) (zv := madeCells zv.cells (n * s)) hmade (by simp) (by
        intro j p hj
        simp only [List.getElem?_map, Option.map_eq_some_iff] at hj
        obtain ⟨⟨i, x⟩, hx, rfl⟩ := hj
        exact ⟨(i * s, s, (opdOf x).ev a), by simp [hx], rfl, opd_ok ha x⟩) f1
      have hcv : cv.size = n * s := by
        have := g2.1
        rw [flat_len f2, f3] at this
        simp at this; omega
      have hfull : (Instr.fill (fun i => some (i * it.size, it.size)) (if n * s = 0 then #[] else madeCells zv.cells (n * s)) (ps.toList.map fun p => (p.1, act.eval p.2))) = some cv := by
        rw [hsz]
        split
        · rename_i h0
          have : madeCells zv.cells (n * s) = #[] := by rw [h0]; simp [madeCells]
          rw [← this]; exact g1
        · exact g1
      have hpsone : ∀ p ∈ ps.toList.map (fun p => (p.1, act.eval p.2)), ∀ u ∈ p.2.cells.toList, u.oneCell' = true := by
        -- each part has cells of its own
        intro p hp u hu'
        simp only [List.mem_map] at hp
        obtain ⟨⟨i, x⟩, hx, rfl⟩ := hp
        have key : ∀ (qs : List (Nat × V)) (es es' : List (List V)), fillR es s qs = some es' → ∀ q ∈ qs, ∃ cs, q.2.cells = some cs := by
          intro qs
          induction qs with
          | nil => intro es es' _ q hq; simp at hq
          | cons q0 qs ih =>
            intro es es' hf q hq
            simp only [fillR] at hf
            split at hf
            · rename_i cs hcs
              split at hf
              · simp only [List.mem_cons] at hq
                rcases hq with rfl | hq
                · exact ⟨cs, hcs⟩
                · exact ih _ _ hf q hq
              · cases hf
            · cases hf
        obtain ⟨cs, hcs⟩ := key _ _ _ hes (i, (opdOf x).ev a) (by
          simp only [List.mem_map]
          exact ⟨(i, opdOf x), ⟨(i, x), hx, rfl⟩, rfl⟩)
        exact (cells_ok hcs (opd_ok ha x)).2 u hu'
      have hone : ∀ u ∈ cv.toList, u.oneCell' = true := fill_one (made_one (h1 it zv hit hzz) (by omega) _) hpsone g1
      have hlies : Lies w F β ⟨s, es⟩ cv := lies_flat f2 g2 hone (fun k hk => by simp [Array.getD_eq_getD_getElem?, List.getD_eq_getElem?_getD]) (by simp)
      have hA := After.new (w' := w.alloc (.cells cv e)) (elem := e) (fr := (0, 0)) hr hid rfl rfl rfl rfl (fun i _ h => by omega) hlies
      refine ⟨.slice (some ⟨w.heap.size, 0, none⟩) n n, w.alloc (.cells cv e), _, ?_, ?_, hA⟩
      · have hsm : ¬ n * it.size > 2 ^ 24 := by rw [hsz]; simp; omega
        have hsm' : ¬ 16777216 < n * it.size := by rw [hsz]; omega
        by_cases h0 : n * s = 0
        · simp only [h0, if_true] at hfull
          have h0' : n * it.size = 0 := by rw [hsz]; exact h0
          have hf : Instr.fill (fun i => some (i * it.size, it.size)) (#[] : Array Value) (ps.toList.map fun p => (p.1, act.eval p.2)) = some cv := hfull
          simp [Instr.buildSlice, run_underlying hu, sizeOf, typeInfo, hit, h0', newRow, hf, Array.range_zero']
        · simp only [h0, if_false] at hfull
          have h0' : ¬ n * it.size = 0 := by rw [hsz]; exact h0
          have := run_buildSlice (P := P) w t e n (ps.map fun (i, x) => (i, act.eval x)) cv it zv hu hit hzz hsm h0' (by
            rw [hsz]; simpa [madeCells, hsz] using hfull)
          exact this
      · refine .sl _ id s 0 n w.heap.size _ n cv e (0, 0) (by simp [Ids.put]) (heap_alloc_new w _) ?_ (Nat.le_refl _) (.inr (by simp))
        rw [hcv]; simp
    · cases h
  · cases h

end
end Go.Proofs.Ytffigokicddekaa.Abs
