/- The operations that write nothing. No condition. -/
import Derived.Test.YtffigokicddekaaMA4
set_option linter.unusedVariables false
set_option linter.unusedSimpArgs false
namespace Go.Proofs.Ytffigokicddekaa.Abs
open Go

def sz (P : Program) (t : TypeId) : Option Nat := (P.info? t).map (·.size)
def aggD : TypeDesc → Bool
  | .struct _ | .array _ _ => true
  | _ => false
def zeroOf (P : Program) (t : TypeId) : Option (List V) := ((P.info? t).bind (·.zero)).map fun v => v.cells.toList.map ofVal

theorem zeroOf_ok {P : Program} {t : TypeId} {z : List V} (h : zeroOf P t = some z) (w : World) (F : Nat → Prop) (β : Ids) :
    ∃ i v, P.info? t = some i ∧ i.zero = some v ∧ VRs w F β z v.cells.toList := by
  unfold zeroOf at h
  cases hi : P.info? t with
  | none => simp [hi] at h
  | some i =>
    cases hz : i.zero with
    | none => simp [hi, hz] at h
    | some v =>
      simp [hi, hz] at h
      refine ⟨i, v, rfl, hz, ?_⟩
      subst h
      refine ⟨by simp, fun j x hx => ?_⟩
      simp only [List.getElem?_map] at hx
      cases hg : v.cells.toList[j]? with
      | none => rw [hg] at hx; cases hx
      | some u =>
        rw [hg] at hx; simp at hx; subst hx
        rw [List.getD_eq_getElem?_getD, hg]
        exact ofVal_ok w F β u

section
variable {P : Program} {σ : Store} {β : Ids} {F : Nat → Prop} {w : World} {a : Env} {act : Act}

theorem addr_add (b off n : Nat) : (⟨b, off, none⟩ : Addr).add n = ⟨b, off + n, none⟩ := by unfold Addr.add; split <;> simp_all

theorem list_getD_drop {α : Type} (l : List α) (n j : Nat) (d : α) : (l.drop n).getD j d = l.getD (n + j) d := by
  simp [List.getD_eq_getElem?_getD, List.getElem?_drop]

/-- cells that lie one behind another are loaded -/
theorem load_run {d : TypeDesc} {t : TypeId} {s : Nat} {i : TypeInfo} (hu : P.underlying t = some d) (hi : P.info? t = some i) (hs : i.size = s) (hag : aggD d = true ∨ s = 1)
    {b off : Nat} {xs : List V} {f : Nat → Value} (hl : xs.length = s) (hc : ∀ (j : Nat) x, xs[j]? = some x → w.cell? ⟨b, off + j, none⟩ = some (f j)) (hr : ∀ (j : Nat) x, xs[j]? = some x → VR w F β x (f j))
    {x : V} (ho : one (aggD d) xs = some x) : ∃ val, (Instr.loadAt t (.pointer (some ⟨b, off, none⟩))).run P w = .ok val w ∧ VR w F β x val := by
  have hvs : VRs w F β xs ((List.range s).map f) := by
    refine ⟨by simp [hl], fun j y hy => ?_⟩
    have hj : j < s := by rw [← hl]; exact (List.getElem?_eq_some_iff.1 hy).1
    rw [List.getD_eq_getElem?_getD]
    simp [hj]
    exact hr j y hy
  have hrun : (loadCells ⟨b, off, none⟩ s).run P w = .ok ((List.range s).map f).toArray w := by
    refine run_loadCells w _ s f fun j hj => ?_
    rw [addr_add]
    exact hc j xs[j] (List.getElem?_eq_getElem (by omega))
  rcases one_ok ho hvs with ⟨hg, hv⟩ | ⟨hg, v, he, hv⟩
  · refine ⟨_, ?_, hv⟩
    cases d <;> simp [aggD] at hg <;> simp [Instr.loadAt, Instr.sureAddr, loadVar, isAgg, run_underlying hu, sizeOf, typeInfo, hi, hs, hrun]
  · refine ⟨v, ?_, hv⟩
    have hs1 : s = 1 := by rcases hag with h | h; simp [hg] at h; exact h
    have hc0 : w.cell? ⟨b, off, none⟩ = some (f 0) := by
      have := hc 0 xs[0] (List.getElem?_eq_getElem (by omega))
      simpa using this
    have hv0 : f 0 = v := by
      rw [hs1] at he; simpa using he
    cases d <;> simp [aggD] at hg <;> simp [Instr.loadAt, Instr.sureAddr, loadVar, isAgg, run_underlying hu, hc0, hv0]

theorem load_ok (hr : Rel σ β F w) (ha : EnvR w F β a act) {t : TypeId} {d : TypeDesc} {s : Nat} {i : TypeInfo} (hu : P.underlying t = some d) (hi : P.info? t = some i) (hs : i.size = s) (hag : aggD d = true ∨ s = 1)
    {x : Operand} {v : V} {σ' : Store} (h : astep (.load s (aggD d) (opdOf x)) a σ = some (v, σ')) :
    σ' = σ ∧ ∃ val, (Instr.loadAt t (act.eval x)).run P w = .ok val w ∧ VR w F β v val := by
  have hx := opd_ok ha x
  simp only [astep] at h
  split at h
  · rename_i o s' e c hop
    rw [hop] at hx
    split at h
    · rename_i ob ho
      split at h
      · rename_i l hl
        split at h
        · rename_i hcond
          obtain ⟨hs', hle⟩ := hcond
          simp only [Option.map_eq_some_iff, Prod.mk.injEq] at h
          obtain ⟨y, hy, rfl, rfl⟩ := h
          refine ⟨rfl, ?_⟩
          obtain ⟨b, cc, elem, fr, hb, hh, _, _, hL⟩ := hr.live o ob ho
          obtain ⟨hlen, hfit, hval⟩ := hL e l hl
          generalize hval0 : act.eval x = av at hx
          cases hx with
          | ptr _ _ _ _ _ b' hb' =>
            rw [hb] at hb'; cases hb'
            refine load_run (f := fun j => cc.getD (e * ob.s + (c + j)) undef) hu hi hs hag (by simp; omega) ?_ ?_ hy
            · intro j z hz
              have hj : j < s := by
                have := (List.getElem?_eq_some_iff.1 hz).1
                simp at this; omega
              simp only [World.cell?, hh]
              have : e * s' + c + j = e * ob.s + (c + j) := by rw [hs']; omega
              rw [this]
              have hlt : e * ob.s + (c + j) < cc.size := by omega
              simp [hlt]
            · intro j z hz
              rw [List.getElem?_take] at hz
              split at hz
              · rw [List.getElem?_drop] at hz
                exact (hval (c + j) z hz).1
              · cases hz
        · cases h
      · cases h
    · cases h
  · rename_i cs hop
    rw [hop] at hx
    split at h
    · rename_i hle
      simp only [Option.map_eq_some_iff, Prod.mk.injEq] at h
      obtain ⟨y, hy, rfl, rfl⟩ := h
      refine ⟨rfl, ?_⟩
      generalize hval0 : act.eval x = av at hx
      cases hx with
      | fp _ _ b off f hF hc hv =>
        refine load_run (f := f) hu hi hs hag (by simp; omega) ?_ ?_ hy
        · intro j z hz
          rw [List.getElem?_take] at hz
          split at hz
          · exact (hc j z hz).1
          · cases hz
        · intro j z hz
          rw [List.getElem?_take] at hz
          split at hz
          · exact (hv j z hz).mono (Grow.refl F w) (fun _ h => h) β (fun _ _ h => by simp [noIds] at h)
          · cases hz
    · cases h
  · cases h

end
end Go.Proofs.Ytffigokicddekaa.Abs
