/- append. No condition. -/
import Derived.Test.YtffigokicddekaaMA11
set_option linter.unusedVariables false
set_option linter.unusedSimpArgs false
namespace Go.Proofs.Ytffigokicddekaa.Abs
open Go

section
variable {P : Program} {σ : Store} {β : Ids} {F : Nat → Prop} {w : World} {a : Env} {act : Act}

theorem VRs.nil_of {xs : List V} {vs : List Value} (h : VRs w F β xs vs) (h0 : xs = []) : vs = [] := by
  have := h.1
  rw [h0] at this
  exact List.eq_nil_of_length_eq_zero this.symm

/-- a new row of cells: what was there, what is appended, zeros -/
theorem app_new (hr : Rel σ β F w) {id s : Nat} {es : List (List V)} {vs : List Value} {rest : Array Value} {e : TypeId} {w' : World} (hid : isFree σ id) (hs : ∀ l ∈ es, l.length = s) (hv : VRs w F β es.flatten vs) (h1 : ∀ u ∈ vs, u.oneCell' = true)
    (hos : w'.os = w.os) (htape : w'.tape = w.tape) (hout : w'.output = w.output) (hheap : w'.heap = w.heap.push (.cells (vs.toArray ++ rest) e)) :
    After (σ.set id (.live ⟨s, es⟩)) β (β.put id w.heap.size) F F w w' := by
  have hlies : Lies w F β ⟨s, es⟩ (vs.toArray ++ rest) := by
    refine lies_flat hs hv h1 (fun k hk => ?_) (by simp)
    simp only [Array.getD_eq_getD_getElem?, List.getD_eq_getElem?_getD]
    rw [Array.getElem?_append_left (by simpa using hk)]
    simp
  exact After.new (c := vs.toArray ++ rest) (elem := e) (fr := (0, 0)) hr hid hos htape hout hheap (fun i _ h => by omega) hlies

theorem app_ok (hr : Rel σ β F w) (ha : EnvR w F β a act) {t ty e : TypeId} {s id : Nat} {it : TypeInfo} {z : List V} (hu : P.underlying t = some (.slice e)) (hit : P.info? e = some it) (hs : it.size = s) (hz : zeroOf P e = some z) (hl : z.length = s) (hpos : 0 < s)
    {x y : Operand} {v : V} {σ' : Store} (h : astep (.app id s it.bytes (opdOf x) (opdOf y)) a σ = some (v, σ')) :
    ∃ val w' β', (Builtin.append_ #[t, t] ty #[act.eval x, act.eval y]).run P w = .ok val w' ∧ VR w' F β' v val ∧ After σ' β β' F F w w' := by
  have hx := opd_ok ha x
  have hy := opd_ok ha y
  obtain ⟨i', zv, hi', hzz, hzr⟩ := zeroOf_ok hz w F β
  rw [hit] at hi'; cases hi'
  simp only [astep] at h
  split at h
  · rename_i ys hop hys
    rw [hop] at hx
    generalize act.eval x = xv at hx
    cases hx
    obtain ⟨ad, cap, hv, hcap, hlen, vs, hvs, hone, hcell⟩ := rows_ok hr hys hy
    rw [hv]
    split at h
    · cases h
      refine ⟨.slice none 0 0, w, β, ?_, .nl _, .refl hr⟩
      have hf : (Builtin.firstCells it.size 0 (.slice ad ([] : List (List V)).length cap)).run P w = .ok #[] w := by
        cases ad with
        | none => simp [Builtin.firstCells]
        | some ad => simp [Builtin.firstCells, loadCells, loadCellsFrom]
      simp at hf
      simp [Builtin.append_, run_underlying hu, sizeOf, typeInfo, hit, Builtin.lenOf, hf]
    · rename_i y0 yr
      split at h
      · rename_i hc
        obtain ⟨hid, hb⟩ := hc
        cases h
        rcases hcell with h0 | ⟨b, off, hb', hcc⟩
        · cases h0
        rw [hb']
        have hfl := flat_len hlen
        have hvl : vs.length = (y0 :: yr).length * it.size := by rw [← hvs.1, hfl, hs]
        have hlb : (y0 :: yr).length ≤ 70368744177664 := Nat.le_trans (Nat.le_mul_of_pos_right _ (by omega)) hb
        have hbb : (y0 :: yr).length * it.bytes ≤ 70368744177664 := Nat.le_trans (Nat.mul_le_mul_left _ (by omega)) hb
        have hrun := run_append_nil (P := P) (w := w) t ty e it zv hu hit hzz ⟨b, off, none⟩ (y0 :: yr).length cap vs hvl (fun j u hj => by rw [addr_add]; exact hcc j u hj) (by simp) (by omega) (by omega)
        have hA := app_new (w' := w.drew.alloc (.cells (vs.toArray ++ Builtin.zeroCells zv.cells (grownCap w (y0 :: yr).length 0 e - (y0 :: yr).length)) e)) hr hid hlen hvs hone rfl rfl rfl rfl
        refine ⟨_, _, _, hrun, ?_, hA⟩
        refine .sl _ id s 0 _ w.heap.size _ _ _ e (0, 0) (by simp [Ids.put]) (heap_alloc_new w.drew _) ?_ (grownCap_ge w _ _ _) (.inr (by simp))
        have hge := grownCap_ge w (y0 :: yr).length 0 e
        have hzs : zv.cells.size = s := by have := hzr.1; simp at this; omega
        simp only [Array.size_append, List.size_toArray, size_zeroCells, hvl, hs, hzs]
        rw [← Nat.add_mul]
        apply Nat.mul_le_mul_right
        omega
      · cases h
  · rename_i o s' off len ys hop hys
    rw [hop] at hx
    split at h
    · rename_i ob ho
      split at h
      · rename_i hc
        obtain ⟨rfl, hobs, rfl, hle, hid, hb⟩ := hc
        cases h
        have hxr := hx
        have hrows : rows σ s' (.sl o s' 0 len) = some ((ob.es.drop 0).take len) := by simp [rows, ho, hobs, hle]
        generalize act.eval x = xv at hx hxr
        obtain ⟨ad0, cap0, hv0, hcap0, hlen0, vs0, hvs0, hone0, hcell0⟩ := rows_ok hr hrows hxr
        obtain ⟨ad, cap, hv, hcap, hlen, vs, hvs, hone, hcell⟩ := rows_ok hr hys hy
        rw [hv]
        obtain ⟨b, cc, elem, fr, hbb, hh, hfr, hF, hL⟩ := hr.live o ob ho
        rw [List.drop_zero] at hvs0 hlen0 hcell0 hcap0 hv0
        have htl : (ob.es.take len).length = len := by simp; omega
        rw [htl] at hcap0 hv0
        cases hx with
        | sl _ _ _ _ _ b2 ad2 cap2 c2 elem2 fr2 hb2 hh2 hfit hlc had =>
          rw [hbb] at hb2; cases hb2
          rw [hh] at hh2; cases hh2
          have hall : ∀ l ∈ ob.es.take len ++ ys, l.length = s' := by
            intro l hl'
            rcases List.mem_append.1 hl' with h1 | h1
            · exact hlen0 l h1
            · exact hlen l h1
          have hfl0 := flat_len hlen0
          have hfl := flat_len hlen
          rw [htl] at hfl0
          have hvl0 : vs0.length = len * s' := by rw [← hvs0.1, hfl0]
          have hvl : vs.length = ys.length * s' := by rw [← hvs.1, hfl]
          have hboth : VRs w F β (ob.es.take len ++ ys).flatten (vs0 ++ vs) := by
            rw [List.flatten_append]; exact hvs0.append hvs
          have hone2 : ∀ u ∈ vs0 ++ vs, u.oneCell' = true := by
            intro u hu'
            rcases List.mem_append.1 hu' with h1 | h1
            · exact hone0 u h1
            · exact hone u h1
          by_cases hroom : len + ys.length ≤ cap2
          · -- there is room
            have hst : (Builtin.append_ #[t, t] ty #[.slice (some ad2) len cap2, .slice ad ys.length cap]).run P w =
                .ok (.slice (some ad2) (len + ys.length) cap2) (w.setRow b (cc.toList.take (len * s') ++ vs ++ cc.toList.drop (len * s' + vs.length)).toArray) := by
              have hf : (Builtin.firstCells it.size ys.length (.slice ad ys.length cap)).run P w = .ok vs.toArray w := by
                rcases hcell with h0 | ⟨b', off', hb', hcc⟩
                · have hv0' : vs = [] := hvs.nil_of (by rw [h0]; rfl)
                  subst h0; subst hv0'
                  cases ad with
                  | none => simp [Builtin.firstCells]
                  | some ad => simp [Builtin.firstCells, loadCells, loadCellsFrom]
                · rw [hb']
                  exact run_firstCells_some (P := P) w it.size ys.length ⟨b', off', none⟩ ys.length cap vs (by rw [hs]; exact hvl) (fun j u hj => by rw [addr_add]; exact hcc j u hj)
              have hstore : (storeCells (ad2.add (len * it.size)) vs).run P w = .ok () (w.setRow b (cc.toList.take (len * s') ++ vs ++ cc.toList.drop (len * s' + vs.length)).toArray) := by
                rcases had with h0 | rfl
                · have : ys.length = 0 := by omega
                  have hv0' : vs = [] := List.eq_nil_of_length_eq_zero (by rw [hvl, this]; simp)
                  subst hv0'
                  simp only [storeCells, List.append_nil, List.length_nil, Nat.add_zero, List.take_append_drop, Array.toArray_toList]
                  rw [setRow_self w b cc elem fr hh]; rfl
                · rw [addr_add, hs]
                  have hfit' : len * s' + vs.length ≤ cc.size := by
                    have := Nat.mul_le_mul_right s' hroom
                    rw [Nat.add_mul] at this
                    simp only [Nat.zero_add] at hfit
                    omega
                  have := run_storeCells_any (P := P) b (0 * s' + len * s') elem fr vs 0 cc w hh (fun j hj => hfr _ (by omega)) (by omega) hone
                  simpa using this
              have hnl : ¬ len + ys.length > cap2 := by omega
              simp [Builtin.append_, run_underlying hu, sizeOf, typeInfo, hit, Builtin.lenOf, hroom, hf, hstore]
            have hfit' : len * s' + vs.length ≤ cc.size := by
              have := Nat.mul_le_mul_right s' hroom
              rw [Nat.add_mul] at this
              simp only [Nat.zero_add] at hfit
              omega
            have hlies : Lies w F β ⟨s', ob.es.take len ++ ys⟩ (cc.toList.take (len * s') ++ vs ++ cc.toList.drop (len * s' + vs.length)).toArray := by
              refine lies_flat hall hboth hone2 (fun k hk => ?_) (by simp; omega)
              rw [getD_mid]
              have htk : (cc.toList.take (len * s')).length = len * s' := by simp; omega
              rw [htk]
              simp only [List.length_append] at hk
              split
              · rename_i hk1
                rw [List.getD_eq_getElem?_getD, List.getElem?_take, if_pos hk1, List.getD_eq_getElem?_getD, List.getElem?_append_left (by omega)]
                -- the old cells
                rcases hcell0 with h0 | ⟨b0, off0, hb0, hcc0⟩
                · have : vs0 = [] := hvs0.nil_of (by rw [h0]; rfl)
                  rw [this] at hvl0; simp at hvl0; omega
                · have e1 : ad0 = some ad2 := by cases hv0; rfl
                  have hcap2 : cap2 ≠ 0 := by
                    rcases Nat.eq_zero_or_pos len with h0 | h0
                    · subst h0; simp at hk1
                    · omega
                  rcases had with h0 | had
                  · exact absurd h0 hcap2
                  rw [hb0] at e1
                  have e2 : (⟨b0, off0, none⟩ : Addr) = ⟨b, 0 * s', none⟩ := by rw [← had]; exact Option.some.inj e1
                  simp only [Addr.mk.injEq, and_true] at e2
                  obtain ⟨rfl, rfl⟩ := e2
                  have hlt : k < vs0.length := by omega
                  have := hcc0 k vs0[k] (List.getElem?_eq_getElem hlt)
                  have hkc : k < cc.size := by omega
                  simp [World.cell?, hh, hkc] at this
                  simp [hkc, hlt, this]
              · rename_i hk1
                rw [if_pos (by omega), List.getD_eq_getElem?_getD (l := vs0 ++ vs), List.getElem?_append_right (by omega), hvl0, List.getD_eq_getElem?_getD]
            have hT := (After.turn (w' := w.setRow b (cc.toList.take (len * s') ++ vs ++ cc.toList.drop (len * s' + vs.length)).toArray) (ob' := ⟨s', ob.es.take len ++ ys⟩)
              hr ho hbb hh hfr hF (c' := (cc.toList.take (len * s') ++ vs ++ cc.toList.drop (len * s' + vs.length)).toArray) (by simp; omega) rfl rfl rfl (by simp) (setRow_heap w b cc _ elem fr hh) (fun k hk => setRow_other w b k _ hk) hlies).2 id hid
            refine ⟨_, _, _, hst, ?_, hT⟩
            refine .sl _ id s' 0 _ b ad2 cap2 _ elem fr (by simp [Ids.put]) (setRow_heap w b cc _ elem fr hh) ?_ hroom had
            simp only [List.size_toArray, List.length_append, List.length_take, List.length_drop, Array.length_toList]
            simp only [Nat.zero_add] at hfit ⊢
            omega
          · -- a new row
            have hyn : ys.length ≠ 0 := by omega
            rcases hcell with h0 | ⟨b', off', hb', hcc⟩
            · rw [h0] at hyn; simp at hyn
            rw [hb']
            have hlb : len + ys.length ≤ 70368744177664 := Nat.le_trans (Nat.le_mul_of_pos_right _ (by omega)) hb
            have hbb2 : (len + ys.length) * it.bytes ≤ 70368744177664 := Nat.le_trans (Nat.mul_le_mul_left _ (by omega)) hb
            have hrun := run_append_grow (P := P) (w := w) t ty e it zv hu hit hzz ad2 len cap2 vs0 (by rw [hs]; exact hvl0) (fun j u hj => by
                rcases hcell0 with h0 | ⟨b0, off0, hb0, hcc0⟩
                · have : vs0 = [] := hvs0.nil_of (by rw [h0]; rfl)
                  rw [this] at hj; simp at hj
                · have e1 : ad0 = some ad2 := by cases hv0; rfl
                  rw [hb0] at e1
                  have e2 : (⟨b0, off0, none⟩ : Addr) = ad2 := Option.some.inj e1
                  rw [← e2, addr_add]; exact hcc0 j u hj) ⟨b', off', none⟩ ys.length cap vs (by rw [hs]; exact hvl) (fun j u hj => by rw [addr_add]; exact hcc j u hj) (by omega) (by omega) (growslice_fits (by omega) (by omega))
            have earr : vs0.toArray ++ vs.toArray = (vs0 ++ vs).toArray := by simp
            rw [earr] at hrun
            have hA := app_new (w' := w.drew.alloc (.cells ((vs0 ++ vs).toArray ++ Builtin.zeroCells zv.cells (grownCap w (len + ys.length) cap2 e - (len + ys.length))) e)) (vs := vs0 ++ vs) (rest := Builtin.zeroCells zv.cells (grownCap w (len + ys.length) cap2 e - (len + ys.length))) hr hid hall hboth hone2 rfl rfl rfl rfl
            have hA2 : After ((σ.set o .dead).set id (.live ⟨s', ob.es.take len ++ ys⟩)) β (β.put id w.heap.size) F F w (w.drew.alloc (.cells ((vs0 ++ vs).toArray ++ Builtin.zeroCells zv.cells (grownCap w (len + ys.length) cap2 e - (len + ys.length))) e)) := by
              have hne : o ≠ id := by intro e; subst e; unfold isFree at hid; rw [ho] at hid; cases hid
              have hsub : ∀ (q : Nat) ob', ((σ.set o .dead).set id (.live ⟨s', ob.es.take len ++ ys⟩))[q]? = some (.live ob') → (σ.set id (.live ⟨s', ob.es.take len ++ ys⟩))[q]? = some (.live ob') := by
                intro q ob' hq
                by_cases e1 : id = q
                · subst e1
                  have hq' : (σ.set o .dead)[id]? = some .free := by rw [get_set_ne hne]; exact hid
                  rw [get_set_same hq'] at hq
                  rw [get_set_same hid]; exact hq
                · rw [get_set_ne e1] at hq ⊢
                  by_cases e2 : o = q
                  · subst e2; rw [get_set_same ho] at hq; cases hq
                  · rwa [get_set_ne e2] at hq
              refine ⟨⟨fun q ob' hq => hA.rel.live q ob' (hsub q ob' hq), fun q q' a1 a2 h1 h2 => hA.rel.inj q q' a1 a2 (hsub q a1 h1) (hsub q' a2 h2), ?_, hA.rel.bF⟩, hA.le, hA.sub, hA.grow, hA.frame, hA.newF, hA.newB⟩
              intro q hq
              apply hA.rel.free q
              by_cases e1 : id = q
              · subst e1
                have hq' : (σ.set o .dead)[id]? = some .free := by rw [get_set_ne hne]; exact hid
                rw [get_set_same hq'] at hq
                rcases hq with hq | hq <;> cases hq
              · rw [get_set_ne e1] at hq ⊢
                by_cases e2 : o = q
                · subst e2; rw [get_set_same ho] at hq; rcases hq with hq | hq <;> cases hq
                · rwa [get_set_ne e2] at hq
            refine ⟨_, _, _, hrun, ?_, hA2⟩
            refine .sl _ id s' 0 _ w.heap.size _ _ _ e (0, 0) (by simp [Ids.put]) (heap_alloc_new w.drew _) ?_ (grownCap_ge w _ _ _) (.inr (by simp))
            have hge := grownCap_ge w (len + ys.length) cap2 e
            have hzs : zv.cells.size = s' := by have := hzr.1; simp at this; omega
            simp only [Array.size_append, List.size_toArray, List.length_append, size_zeroCells, hvl, hvl0, hzs]
            rw [← Nat.add_mul, ← Nat.add_mul, Nat.zero_add]
            apply Nat.mul_le_mul_right
            omega
      · cases h
    · cases h
  · cases h

end
end Go.Proofs.Ytffigokicddekaa.Abs
