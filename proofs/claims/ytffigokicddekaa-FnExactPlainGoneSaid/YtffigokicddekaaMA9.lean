/- The operations that make objects. No condition. -/
import Derived.Test.YtffigokicddekaaMA8
set_option linter.unusedVariables false
set_option linter.unusedSimpArgs false
namespace Go.Proofs.Ytffigokicddekaa.Abs
open Go

def partsOf (places : List (Nat × Nat)) : List (Nat × Operand) → Option (List (Nat × Nat × Opd))
  | [] => some []
  | (i, x) :: r => match places[i]?, partsOf places r with
    | some q, some l => some ((q.1, q.2, opdOf x) :: l)
    | _, _ => none

theorem partsOf_get {places : List (Nat × Nat)} : ∀ {ps : List (Nat × Operand)} {l : List (Nat × Nat × Opd)}, partsOf places ps = some l →
    ps.length = l.length ∧ ∀ (j : Nat) i x, ps[j]? = some (i, x) → ∃ q, places[i]? = some q ∧ l[j]? = some (q.1, q.2, opdOf x)
  | [], l, h => by simp [partsOf] at h; subst h; simp
  | (i, x) :: r, l, h => by
    simp only [partsOf] at h
    split at h
    · rename_i q l' hq hl'
      cases h
      obtain ⟨h1, h2⟩ := partsOf_get hl'
      refine ⟨by simp [h1], fun j i' x' hj => ?_⟩
      cases j with
      | zero => simp at hj; obtain ⟨rfl, rfl⟩ := hj; exact ⟨q, hq, rfl⟩
      | succ j => simpa using h2 j i' x' (by simpa using hj)
    · cases h

section
variable {P : Program} {σ : Store} {β : Ids} {F : Nat → Prop} {w : World} {a : Env} {act : Act}

theorem build_ok (ha : EnvR w F β a act) {t : TypeId} {fs : Array Field} {places : List (Nat × Nat)} {z : List V} (hu : P.underlying t = some (.struct fs))
    (hp : fs.toList.mapM (fun f => (P.info? f.type).map fun i => (f.offset, i.size)) = some places) (hz : zeroOf P t = some z)
    {ps : Array (Nat × Operand)} {l : List (Nat × Nat × Opd)} (hl : partsOf places ps.toList = some l) {v : V} {σ' : Store} (h : astep (.build z l) a σ = some (v, σ')) :
    σ' = σ ∧ ∃ val, (Instr.build t (ps.map fun (i, x) => (i, act.eval x))).run P w = .ok val w ∧ VR w F β v val := by
  simp only [astep, Option.map_eq_some_iff, Prod.mk.injEq] at h
  obtain ⟨cs, hcs, rfl, rfl⟩ := h
  refine ⟨rfl, ?_⟩
  obtain ⟨it, zv, hit, hzz, hzr⟩ := zeroOf_ok hz w F β
  obtain ⟨g1, g2⟩ := partsOf_get hl
  obtain ⟨cv, h1, h2⟩ := fillV_ok (w := w) (F := F) (β := β) (pl := fun i => places[i]?) (ps := (ps.toList.map fun p => (p.1, act.eval p.2))) (qs := l.map fun p => (p.1, p.2.1, p.2.2.ev a)) (zv := zv.cells) hzr (by simp [g1]) (by
    intro j p hj
    simp only [List.getElem?_map, Option.map_eq_some_iff] at hj
    obtain ⟨⟨i, x⟩, hx, rfl⟩ := hj
    obtain ⟨q, hq, hlj⟩ := g2 j i x hx
    exact ⟨(q.1, q.2, (opdOf x).ev a), by simp [hlj], by simpa using hq, opd_ok ha x⟩) hcs
  refine ⟨.agg cv, ?_, agg_mk h2⟩
  apply run_build
  unfold Program.built
  simp only [hit, hu, hzz, hp]
  simpa using h1

theorem alloc_ok (hr : Rel σ β F w) {t : TypeId} {s id : Nat} {z : List V} (hs : sz P t = some s) (hz : zeroOf P t = some z) (hl : z.length = s) (h1 : ∀ i v, P.info? t = some i → i.zero = some v → v.cells.all (·.oneCell') = true) {v : V} {σ' : Store} (h : astep (.alloc id s z) a σ = some (v, σ')) :
    ∃ val w' β', (Instr.alloc t true (.tuple #[])).run P w = .ok val w' ∧ VR w' F β' v val ∧ After σ' β β' F F w w' := by
  simp only [astep] at h
  split at h
  · rename_i hid
    cases h
    obtain ⟨it, zv, hit, hzz, hzr⟩ := zeroOf_ok hz w F β
    have hlies : Lies w F β ⟨s, [z]⟩ zv.cells := by
      intro e l he
      cases e with
      | zero =>
        simp at he; subst he
        refine ⟨hl, by have := hzr.1; simp at this; simp; omega, fun j x hx => ⟨?_, ?_⟩⟩
        · simpa [Array.getD_eq_getD_getElem?, List.getD_eq_getElem?_getD] using hzr.2 j x hx
        · have hj : j < zv.cells.size := by have := hzr.1; have := (List.getElem?_eq_some_iff.1 hx).1; simp at *; omega
          have := (Array.all_eq_true.1 (h1 it zv hit hzz)) j hj
          simpa [Array.getD_eq_getD_getElem?, hj] using this
      | succ e => simp at he
    have hA := After.new (w' := w.alloc (.cells zv.cells t)) (elem := t) (fr := (0, 0)) hr hid rfl rfl rfl rfl (fun i _ h => by omega) hlies
    refine ⟨.pointer (some ⟨w.heap.size, 0, none⟩), w.alloc (.cells zv.cells t), _, ?_, ?_, hA⟩
    · simp [Instr.alloc, zeroValue, typeInfo, hit, hzz, newVar, newRow]
    · simpa using VR.ptr (w := w.alloc (.cells zv.cells t)) (F := F) (β.put id w.heap.size) id s 0 0 w.heap.size (by simp [Ids.put])
  · cases h

theorem box_ok (hr : Rel σ β F w) (ha : EnvR w F β a act) {t : TypeId} {s id : Nat} {x : Operand} {v : V} {σ' : Store} (h : astep (.box id s (opdOf x)) a σ = some (v, σ')) :
    ∃ val w' β', (Instr.box t (act.eval x)).run P w = .ok val w' ∧ VR w' F β' v val ∧ After σ' β β' F F w w' := by
  have hx := opd_ok ha x
  simp only [astep] at h
  split at h
  · rename_i cs hcs
    split at h
    · rename_i hc
      obtain ⟨hid, hl⟩ := hc
      cases h
      obtain ⟨hv, h1⟩ := cells_ok hcs hx
      have hlies : Lies w F β ⟨s, [cs]⟩ (act.eval x).cells := by
        intro e l he
        cases e with
        | zero =>
          simp at he; subst he
          refine ⟨hl, by have := hv.1; simp at this; simp; omega, fun j y hy => ⟨?_, ?_⟩⟩
          · simpa [Array.getD_eq_getD_getElem?, List.getD_eq_getElem?_getD] using hv.2 j y hy
          · have hj : j < (act.eval x).cells.size := by have := hv.1; have := (List.getElem?_eq_some_iff.1 hy).1; simp at *; omega
            have := h1 ((act.eval x).cells[j]) (by simp)
            simpa [Array.getD_eq_getD_getElem?, hj] using this
        | succ e => simp at he
      have hA := After.new (w' := w.alloc (.cells (act.eval x).cells t)) (elem := t) (fr := (0, 0)) hr hid rfl rfl rfl rfl (fun i _ h => by omega) hlies
      refine ⟨.pointer (some ⟨w.heap.size, 0, none⟩), w.alloc (.cells (act.eval x).cells t), _, ?_, ?_, hA⟩
      · simp [Instr.box, newVar, newRow]
      · simpa using VR.ptr (w := w.alloc (.cells (act.eval x).cells t)) (F := F) (β.put id w.heap.size) id s 0 0 w.heap.size (by simp [Ids.put])
    · cases h
  · cases h

theorem run_storeCells_any (g o : Nat) (t : TypeId) (fr : Nat × Nat) : ∀ (vs : List Value) (i : Nat) (cur : Array Value) (w : World), w.heap[g]? = some (.cells cur t fr) → (∀ j, j < vs.length → ¬ (fr.1 ≤ o + i + j ∧ o + i + j < fr.2)) → o + i + vs.length ≤ cur.size → (∀ v ∈ vs, v.oneCell' = true) →
    (storeCells ⟨g, o, none⟩ vs i).run P w = .ok () (w.setRow g (cur.toList.take (o + i) ++ vs ++ cur.toList.drop (o + i + vs.length)).toArray)
  | [], i, cur, w, hg, _, _, _ => by
    simp only [storeCells, List.append_nil, List.length_nil, Nat.add_zero, List.take_append_drop, Array.toArray_toList]
    rw [setRow_self w g cur t fr hg]
    rfl
  | v :: rest, i, cur, w, hg, hfz, hl, h1 => by
    have hi : o + i < cur.size := by simp at hl; omega
    have hcell : w.cell? ⟨g, o + i, none⟩ = some cur[o + i] := by simp [World.cell?, hg, hi]
    have hfro : w.frozen? ⟨g, o + i, none⟩ = false := by
      have := hfz 0 (by simp)
      simp only [World.frozen?, hg, Bool.and_eq_false_iff, decide_eq_false_iff_not]
      simp only [Nat.add_zero] at this
      omega
    have hst : (store ((⟨g, o, none⟩ : Addr).add i) v).run P w = .ok () (w.setRow g (cur.setIfInBounds (o + i) v)) := by
      rw [addr_add, run_store P w _ v _ (h1 v (by simp)), hcell]
      simp [hfro, setCell_eq_setRow w g (o + i) cur t fr v hg]
    have ih := run_storeCells_any g o t fr rest (i + 1) (cur.setIfInBounds (o + i) v) (w.setRow g (cur.setIfInBounds (o + i) v)) (setRow_heap w g cur _ t _ hg)
      (fun j hj => by have := hfz (j + 1) (by simp; omega); rwa [show o + i + (j + 1) = o + (i + 1) + j by omega] at this) (by simp at hl ⊢; omega) (fun x hx => h1 x (by simp [hx]))
    simp only [storeCells, Sem.run_bind, hst, Result.andThen_ok, ih, setRow_setRow]
    congr 3
    have e := list_seg_step cur.toList (o + i) v rest (by simp at hl ⊢; omega)
    simpa [Array.toList_setIfInBounds, Nat.add_assoc] using e

theorem getD_mid {α : Type} (A M B : List α) (n : Nat) (d : α) : (A ++ M ++ B).toArray.getD n d = if n < A.length then A.getD n d else if n < A.length + M.length then M.getD (n - A.length) d else B.getD (n - A.length - M.length) d := by
  simp only [Array.getD_eq_getD_getElem?, List.getElem?_toArray, List.getD_eq_getElem?_getD]
  split
  · rename_i h; rw [List.append_assoc, List.getElem?_append_left h]
  · rename_i h
    rw [List.append_assoc, List.getElem?_append_right (by omega)]
    split
    · rename_i h2; rw [List.getElem?_append_left (by omega)]
    · rename_i h2; rw [List.getElem?_append_right (by omega)]

theorem store_ok (hr : Rel σ β F w) (ha : EnvR w F β a act) {t : TypeId} {s : Nat} {x y : Operand} {v : V} {σ' : Store} (hs : sz P t = some s) (h : astep (.store s (opdOf x) (opdOf y)) a σ = some (v, σ')) :
    v = .unk ∧ ∃ w' β', (Instr.storeAt t (act.eval x) (act.eval y)).run P w = .ok () w' ∧ After σ' β β' F F w w' := by
  have hx := opd_ok ha x
  have hy := opd_ok ha y
  simp only [astep] at h
  split at h
  · rename_i o s' e c cs hop hcs
    rw [hop] at hx
    split at h
    · rename_i ob ho
      split at h
      · rename_i l hl
        split at h
        · rename_i hc
          obtain ⟨rfl, hlen, hfit⟩ := hc
          cases h
          refine ⟨rfl, ?_⟩
          obtain ⟨b, cc, elem, fr, hb, hh, hfr, hF, hL⟩ := hr.live o ob ho
          obtain ⟨hll, hfit2, hval⟩ := hL e l hl
          obtain ⟨hv, h1⟩ := cells_ok hcs hy
          generalize hxe : act.eval x = xv at hx
          cases hx with
          | ptr _ _ _ _ _ b' hb' =>
            rw [hb] at hb'; cases hb'
            have hvl : (act.eval y).cells.toList.length = s := by rw [← hv.1]; exact hlen
            have hcc : e * ob.s + c + s ≤ cc.size := by omega
            have hrun := run_storeCells_any (P := P) b (e * ob.s + c) elem fr (act.eval y).cells.toList 0 cc w hh (fun j hj => hfr _ (by omega)) (by omega) h1
            generalize hvs : (act.eval y).cells.toList = vs at *
            have hg : ∃ i, P.info? t = some i ∧ i.size = s := by
              unfold sz at hs
              cases hi : P.info? t with
              | none => simp [hi] at hs
              | some i => simp [hi] at hs; exact ⟨i, rfl, hs⟩
            obtain ⟨i, hi, his⟩ := hg
            have hcsz : (act.eval y).cells.size = s := by rw [← hvs] at hvl; simpa using hvl
            have hT := (After.turn (w' := w.setRow b (cc.toList.take (e * ob.s + c) ++ vs ++ cc.toList.drop (e * ob.s + c + vs.length)).toArray) (ob' := ⟨ob.s, ob.es.set e (splice l c cs)⟩)
              hr ho hb hh hfr hF (c' := (cc.toList.take (e * ob.s + c) ++ vs ++ cc.toList.drop (e * ob.s + c + vs.length)).toArray) (by simp; omega) rfl rfl rfl (by simp) (setRow_heap w b cc _ elem fr hh) (fun k hk => setRow_other w b k _ hk) ?_).1
            · refine ⟨_, β, ?_, hT⟩
              simp only [Nat.add_zero] at hrun
              simp [Instr.storeAt, Instr.sureAddr, storeVar, sizeOf, typeInfo, hi, his, hcsz, hvs, hrun]
            · intro e' l' he'
              dsimp only at he' ⊢
              simp only [List.getElem?_set] at he'
              have htl : (cc.toList.take (e * ob.s + c)).length = e * ob.s + c := by simp; omega
              split at he'
              · rename_i hee
                subst hee
                have helt := (List.getElem?_eq_some_iff.1 hl).1
                simp [helt] at he'
                subst he'
                refine ⟨by unfold splice; simp; omega, by simp; omega, fun j z hz => ?_⟩
                rw [getD_mid, htl]
                have hv2 : ∀ (k : Nat), k < vs.length → (vs.getD k undef).oneCell' = true := fun k hk => h1 _ (by simp [List.getD_eq_getElem?_getD, hk])
                unfold splice at hz
                by_cases h1' : j < c
                · rw [List.append_assoc, List.getElem?_append_left (by simp; omega), List.getElem?_take, if_pos h1'] at hz
                  rw [if_pos (by omega)]
                  have := hval j z hz
                  rw [List.getD_eq_getElem?_getD, List.getElem?_take, if_pos (by omega)]
                  simpa [Array.getD_eq_getD_getElem?] using this
                · rw [List.append_assoc, List.getElem?_append_right (by simp; omega)] at hz
                  have hlt : (l.take c).length = c := by simp; omega
                  rw [hlt] at hz
                  rw [if_neg (by omega)]
                  by_cases h2' : j < c + s
                  · rw [List.getElem?_append_left (by omega)] at hz
                    rw [if_pos (by omega)]
                    have := hv.2 _ z hz
                    rw [show e * ob.s + j - (e * ob.s + c) = j - c by omega]
                    exact ⟨this, hv2 _ (by omega)⟩
                  · rw [List.getElem?_append_right (by omega), List.getElem?_drop] at hz
                    rw [if_neg (by omega)]
                    have e1 : c + cs.length + (j - c - cs.length) = j := by omega
                    rw [e1] at hz
                    have := hval j z hz
                    rw [List.getD_eq_getElem?_getD, List.getElem?_drop]
                    have e2 : e * ob.s + c + vs.length + (e * ob.s + j - (e * ob.s + c) - vs.length) = e * ob.s + j := by omega
                    rw [e2]
                    simpa [Array.getD_eq_getD_getElem?] using this
              · rename_i hee
                obtain ⟨h3, h4, h5⟩ := hL e' l' he'
                refine ⟨h3, by simp; omega, fun j z hz => ?_⟩
                have hj : j < ob.s := by have := (List.getElem?_eq_some_iff.1 hz).1; omega
                have := h5 j z hz
                rw [getD_mid, htl]
                rcases Nat.lt_or_ge e' e with hlt | hge
                · have : e' * ob.s + ob.s ≤ e * ob.s := by
                    have := Nat.mul_le_mul_right ob.s (show e' + 1 ≤ e by omega)
                    rw [Nat.add_mul] at this; omega
                  rw [if_pos (by omega), List.getD_eq_getElem?_getD, List.getElem?_take, if_pos (by omega)]
                  simpa [Array.getD_eq_getD_getElem?] using h5 j z hz
                · have : e * ob.s + ob.s ≤ e' * ob.s := by
                    have := Nat.mul_le_mul_right ob.s (show e + 1 ≤ e' by omega)
                    rw [Nat.add_mul] at this; omega
                  rw [if_neg (by omega), if_neg (by omega), List.getD_eq_getElem?_getD, List.getElem?_drop]
                  have e2 : e * ob.s + c + vs.length + (e' * ob.s + j - (e * ob.s + c) - vs.length) = e' * ob.s + j := by omega
                  rw [e2]
                  simpa [Array.getD_eq_getD_getElem?] using h5 j z hz
        · cases h
      · cases h
    · cases h
  · cases h

end
end Go.Proofs.Ytffigokicddekaa.Abs
