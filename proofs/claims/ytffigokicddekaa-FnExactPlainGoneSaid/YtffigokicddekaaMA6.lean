/- More operations that write nothing. No condition. -/
import Derived.Test.YtffigokicddekaaMA5
set_option linter.unusedVariables false
set_option linter.unusedSimpArgs false
namespace Go.Proofs.Ytffigokicddekaa.Abs
open Go

section
variable {P : Program} {σ : Store} {β : Ids} {F : Nat → Prop} {w : World} {a : Env} {act : Act}

theorem faddr_ok (ha : EnvR w F β a act) {t : TypeId} {fs : Array Field} {f : Nat} {fd : Field} {i : TypeInfo} (hu : P.underlying t = some (.struct fs)) (hf : fs[f]? = some fd) (hi : P.info? fd.type = some i) (hs : i.size ≠ 0)
    {x : Operand} {v : V} {σ' : Store} (h : astep (.faddr fd.offset (opdOf x)) a σ = some (v, σ')) :
    σ' = σ ∧ ∃ val, (Instr.fieldAt t (act.eval x) f).run P w = .ok val w ∧ VR w F β v val := by
  have hx := opd_ok ha x
  simp only [astep] at h
  split at h
  · rename_i o s e c hop
    rw [hop] at hx
    cases h
    refine ⟨rfl, ?_⟩
    generalize act.eval x = av at hx
    cases hx with
    | ptr _ _ _ _ _ b hb =>
      refine ⟨.pointer (some ⟨b, e * s + (c + fd.offset), none⟩), ?_, .ptr _ _ _ _ _ b hb⟩
      simp [Instr.fieldAt, run_underlying hu, hf, Instr.sureAddr, fieldPlace, sizeOf, typeInfo, hi, hs, addr_add, Nat.add_assoc]
  · rename_i cs hop
    rw [hop] at hx
    cases h
    refine ⟨rfl, ?_⟩
    generalize act.eval x = av at hx
    cases hx with
    | fp _ _ b off g hF hc hr =>
      refine ⟨.pointer (some ⟨b, off + fd.offset, none⟩), ?_, .fp _ _ b _ (fun j => g (fd.offset + j)) hF ?_ ?_⟩
      · simp [Instr.fieldAt, run_underlying hu, hf, Instr.sureAddr, fieldPlace, sizeOf, typeInfo, hi, hs, addr_add, Nat.add_assoc]
      · intro j z hz
        rw [List.getElem?_drop] at hz
        rw [Nat.add_assoc]
        exact hc _ z hz
      · intro j z hz
        rw [List.getElem?_drop] at hz
        exact hr _ z hz
  · cases h

theorem field_ok (ha : EnvR w F β a act) {t : TypeId} {fs : Array Field} {f : Nat} {fd : Field} {i : TypeInfo} {d : TypeDesc} {s : Nat} (hu : P.underlying t = some (.struct fs)) (hf : fs[f]? = some fd) (hi : P.info? fd.type = some i) (hs : i.size = s)
    (hd : P.underlying fd.type = some d) (hag : aggD d = true ∨ s = 1)
    {x : Operand} {v : V} {σ' : Store} (h : astep (.field fd.offset s (aggD d) (opdOf x)) a σ = some (v, σ')) :
    σ' = σ ∧ ∃ val, (Instr.field t (act.eval x) f).run P w = .ok val w ∧ VR w F β v val := by
  have hx := opd_ok ha x
  simp only [astep] at h
  split at h
  · rename_i cs hop
    rw [hop] at hx
    split at h
    · rename_i hle
      simp only [Option.map_eq_some_iff, Prod.mk.injEq] at h
      obtain ⟨y, hy, rfl, rfl⟩ := h
      refine ⟨rfl, ?_⟩
      obtain ⟨vs, hv, hvs⟩ := agg_inv hx
      rw [hv]
      have hsub := VRs.take s (VRs.drop fd.offset hvs)
      rcases one_ok hy hsub with ⟨hg, hr⟩ | ⟨hg, u, he, hr⟩
      · refine ⟨_, ?_, hr⟩
        have hex : vs.extract fd.offset (fd.offset + s) = (vs.toList.drop fd.offset |>.take s).toArray := by
          apply Array.ext'
          simp [List.drop_take]
        cases d <;> simp [aggD] at hg <;> simp [Instr.field, run_underlying hu, hf, asAgg, part, isAgg, run_underlying hd, sizeOf, typeInfo, hi, hs, hex]
      · refine ⟨u, ?_, hr⟩
        have hs1 : s = 1 := by rcases hag with h | h; simp [hg] at h; exact h
        have hget : vs[fd.offset]? = some u := by
          rw [hs1] at he
          have : ((vs.toList.drop fd.offset).take 1)[0]? = some u := by rw [he]; rfl
          simpa [List.getElem?_take, List.getElem?_drop] using this
        cases d <;> simp [aggD] at hg <;> simp [Instr.field, run_underlying hu, hf, asAgg, part, isAgg, run_underlying hd, hget]
    · cases h
  · cases h

theorem iaddr_ok (ha : EnvR w F β a act) {t e : TypeId} {i : TypeInfo} {s : Nat} (hu : P.underlying t = some (.slice e)) (hi : P.info? e = some i) (hs : i.size = s)
    {x y : Operand} {v : V} {σ' : Store} (h : astep (.iaddr s (opdOf x) (opdOf y)) a σ = some (v, σ')) :
    σ' = σ ∧ ∃ val, (Instr.indexAt t (act.eval x) (act.eval y)).run P w = .ok val w ∧ VR w F β v val := by
  have hx := opd_ok ha x
  have hy := opd_ok ha y
  simp only [astep] at h
  split at h
  · rename_i s' es k n hop1 hop2
    rw [hop1] at hx
    rw [hop2] at hy
    split at h
    · rename_i hc
      obtain ⟨rfl, hn⟩ := hc
      simp only [Option.map_eq_some_iff, Prod.mk.injEq] at h
      obtain ⟨l, hl, rfl, rfl⟩ := h
      refine ⟨rfl, ?_⟩
      have hlt := (List.getElem?_eq_some_iff.1 hl).1
      generalize act.eval x = av at hx
      generalize act.eval y = bv at hy
      cases hy
      cases hx with
      | fz0 => simp at hl
      | fz _ _ _ b off cap g hF hcap hlen hcell hr =>
        refine ⟨.pointer (some ⟨b, off + n.toNat * s', none⟩), ?_, .fp _ _ b _ (fun j => g n.toNat j) hF (fun j z hz => hcell _ l hl j z hz) (fun j z hz => hr _ l hl j z hz)⟩
        have hn' : n < (es.length : Int) := by omega
        simp [Instr.indexAt, asIntOf, run_underlying hu, hn, hn', sizeOf, typeInfo, hi, hs, addr_add]
    · cases h
  · rename_i o s' off len k n hop1 hop2
    rw [hop1] at hx
    rw [hop2] at hy
    split at h
    · rename_i hc
      obtain ⟨rfl, hn, hn'⟩ := hc
      cases h
      refine ⟨rfl, ?_⟩
      generalize act.eval x = av at hx
      generalize act.eval y = bv at hy
      cases hy
      cases hx with
      | sl _ _ _ _ _ b ad cap c elem fr hb hh hfit hlc had =>
        have hcap : cap ≠ 0 := by omega
        rcases had with h0 | rfl
        · exact absurd h0 hcap
        refine ⟨.pointer (some ⟨b, off * s' + n.toNat * s', none⟩), ?_, ?_⟩
        · simp [Instr.indexAt, asIntOf, run_underlying hu, hn, hn', sizeOf, typeInfo, hi, hs, addr_add]
        · have : off * s' + n.toNat * s' = (off + n.toNat) * s' + 0 := by rw [Nat.add_mul]; omega
          rw [this]
          exact .ptr _ _ _ _ _ b hb
    · cases h
  · cases h

theorem bytes_get (b : ByteArray) (n : Nat) : b[n]? = b.toList[n]? := by
  rw [ByteArray.toList_eq]
  obtain ⟨⟨l⟩⟩ := b
  show (if h : n < l.length then some (l[n]) else none) = l[n]?
  split
  · rename_i h; simp [h]
  · rename_i h; simp at h; simp [h]

theorem sindex_ok (ha : EnvR w F β a act) {t : TypeId} (hu : P.underlying t = some .string)
    {x y : Operand} {v : V} {σ' : Store} (h : astep (.sindex (opdOf x) (opdOf y)) a σ = some (v, σ')) :
    σ' = σ ∧ ∃ val, (Instr.index t (act.eval x) (act.eval y)).run P w = .ok val w ∧ VR w F β v val := by
  have hx := opd_ok ha x
  have hy := opd_ok ha y
  simp only [astep] at h
  split at h
  · rename_i b k n hop1 hop2
    rw [hop1] at hx
    rw [hop2] at hy
    split at h
    · rename_i hn
      simp only [Option.map_eq_some_iff, Prod.mk.injEq] at h
      obtain ⟨c, hc, rfl, rfl⟩ := h
      refine ⟨rfl, .int .u8 (c.toNat : Int), ?_, .int _ _ _⟩
      generalize act.eval x = av at hx
      generalize act.eval y = bv at hy
      cases hy
      cases hx
      rw [← bytes_get] at hc
      simp [Instr.index, asIntOf, run_underlying hu, hn, hc]
    · cases h
  · cases h

theorem bounds_run {n cap : Nat} (hcap : n ≤ cap) {lo hi : Option V} {vlo vhi : Option Value} {p : Nat × Nat} (h : bounds n lo hi = some p)
    (hlo : ∀ x, lo = some x → ∃ v, vlo = some v ∧ VR w F β x v) (hlo0 : lo = none → vlo = none) (hhi : ∀ x, hi = some x → ∃ v, vhi = some v ∧ VR w F β x v) (hhi0 : hi = none → vhi = none) (b : Bool) :
    (Instr.sliceBounds b n cap vlo vhi none).run P w = .ok (p.1, p.2, cap) w ∧ p.1 ≤ p.2 ∧ p.2 ≤ n := by
  have hint : ∀ (x : V) (v : Value) (m : Int), VR w F β x v → intOf? x = some m → ∃ k, v = .int k m := by
    intro x v m hv hm
    cases x <;> simp [intOf?] at hm
    subst hm
    cases hv
    exact ⟨_, rfl⟩
  unfold bounds at h
  cases hhi' : hi with
  | none =>
    rw [hhi'] at h
    simp only [Option.elim] at h
    rw [if_pos ⟨by omega, Int.le_refl _⟩] at h
    rw [hhi0 hhi']
    cases hlo' : lo with
    | none =>
      rw [hlo'] at h
      simp only [Option.elim] at h
      rw [if_pos ⟨Int.le_refl _, by omega⟩] at h
      cases h
      rw [hlo0 hlo']
      simp [Instr.sliceBounds]
    | some x =>
      rw [hlo'] at h
      simp only [Option.elim] at h
      obtain ⟨v, hv, hr⟩ := hlo x hlo'
      cases hm : intOf? x with
      | none => simp [hm] at h
      | some m =>
        rw [hm] at h
        simp only at h
        obtain ⟨k, rfl⟩ := hint x v m hr hm
        split at h
        · rename_i hc
          cases h
          rw [hv]
          have := run_sliceBound (P := P) w k m n .sliceB hc.1 hc.2
          refine ⟨by simp [Instr.sliceBounds, this], ?_, ?_⟩ <;> simp <;> omega
        · cases h
  | some x =>
    rw [hhi'] at h
    simp only [Option.elim] at h
    obtain ⟨v, hv, hr⟩ := hhi x hhi'
    cases hm : intOf? x with
    | none => simp [hm] at h
    | some m =>
      rw [hm] at h
      simp only at h
      obtain ⟨k, rfl⟩ := hint x v m hr hm
      split at h
      · rename_i hc
        have hb : ∀ code, (Instr.sliceBound (.int k m) cap code).run P w = .ok m.toNat w := fun code => run_sliceBound (P := P) w k m cap code hc.1 (by omega)
        cases hlo' : lo with
        | none =>
          rw [hlo'] at h
          simp only [Option.elim] at h
          rw [if_pos ⟨Int.le_refl _, hc.1⟩] at h
          cases h
          rw [hlo0 hlo', hv]
          refine ⟨?_, ?_, ?_⟩
          · cases b <;> simp [Instr.sliceBounds, hb]
          · simp
          · simp; omega
        | some y =>
          rw [hlo'] at h
          simp only [Option.elim] at h
          obtain ⟨v', hv', hr'⟩ := hlo y hlo'
          cases hm' : intOf? y with
          | none => simp [hm'] at h
          | some m' =>
            rw [hm'] at h
            simp only at h
            obtain ⟨k', rfl⟩ := hint y v' m' hr' hm'
            split at h
            · rename_i hc'
              cases h
              rw [hv, hv']
              have h2 : (Instr.sliceBound (.int k' m') m.toNat .sliceB).run P w = .ok m'.toNat w := run_sliceBound (P := P) w k' m' m.toNat .sliceB hc'.1 (by omega)
              refine ⟨?_, ?_, ?_⟩
              · cases b <;> simp [Instr.sliceBounds, hb, h2]
              · simp; omega
              · simp; omega
            · cases h
      · cases h

theorem opds_map (ha : EnvR w F β a act) (lo : Option Operand) :
    (∀ x, (lo.map opdOf).map (·.ev a) = some x → ∃ v, lo.map act.eval = some v ∧ VR w F β x v) ∧ ((lo.map opdOf).map (·.ev a) = none → lo.map act.eval = none) := by
  cases lo with
  | none => simp
  | some o => exact ⟨fun x hx => by simp at hx; subst hx; exact ⟨_, rfl, opd_ok ha o⟩, fun h => by simp at h⟩

theorem slice_ok (ha : EnvR w F β a act) {t e : TypeId} {i : TypeInfo} {s : Nat} (hu : P.underlying t = some (.slice e)) (hi : P.info? e = some i) (hs : i.size = s)
    {x : Operand} {lo hi' : Option Operand} {v : V} {σ' : Store} (h : astep (.slice s (opdOf x) (lo.map opdOf) (hi'.map opdOf)) a σ = some (v, σ')) :
    σ' = σ ∧ ∃ val, (Instr.sliceAt t (act.eval x) (lo.map act.eval) (hi'.map act.eval) none).run P w = .ok val w ∧ VR w F β v val := by
  have hx := opd_ok ha x
  obtain ⟨l1, l0⟩ := opds_map ha lo
  obtain ⟨h1, h0⟩ := opds_map ha hi'
  have key : ∀ (ad : Option Addr) (n cap : Nat) (p : Nat × Nat), n ≤ cap → bounds n ((lo.map opdOf).map (·.ev a)) ((hi'.map opdOf).map (·.ev a)) = some p →
      (Instr.sliceAt t (.slice ad n cap) (lo.map act.eval) (hi'.map act.eval) none).run P w = .ok (.slice (if cap = p.1 then ad else ad.map (·.add (p.1 * s))) (p.2 - p.1) (cap - p.1)) w ∧ p.1 ≤ p.2 ∧ p.2 ≤ n := by
    intro ad n cap p hn hb
    obtain ⟨hrun, h3, h4⟩ := bounds_run (P := P) (w := w) (F := F) (β := β) hn hb l1 l0 h1 h0 true
    refine ⟨?_, h3, h4⟩
    simp [Instr.sliceAt, Instr.slice, run_underlying hu, hrun, sizeOf, typeInfo, hi, hs]
  simp only [astep] at h
  split at h
  · rename_i hop
    rw [hop] at hx
    simp only [Option.map_eq_some_iff, Prod.mk.injEq] at h
    obtain ⟨p, hp, rfl, rfl⟩ := h
    refine ⟨rfl, ?_⟩
    generalize act.eval x = av at hx
    cases hx
    obtain ⟨hrun, h3, h4⟩ := key none 0 0 p (Nat.le_refl _) (by simpa using hp)
    have e1 : p.1 = 0 := by omega
    have e2 : p.2 = 0 := by omega
    rw [e1, e2] at hrun
    exact ⟨_, hrun, by simpa using VR.nl _⟩
  · rename_i s' es hop
    rw [hop] at hx
    split at h
    · rename_i hs'
      subst hs'
      simp only [Option.map_eq_some_iff, Prod.mk.injEq] at h
      obtain ⟨p, hp, rfl, rfl⟩ := h
      refine ⟨rfl, ?_⟩
      generalize act.eval x = av at hx
      cases hx with
      | fz0 _ _ ad cap =>
        obtain ⟨hrun, h3, h4⟩ := key ad 0 cap p (Nat.zero_le _) (by simpa using hp)
        have e1 : p.1 = 0 := by omega
        have e2 : p.2 = 0 := by omega
        rw [e1, e2] at hrun
        exact ⟨_, hrun, by simpa [e1, e2] using VR.fz0 _ _ _ _⟩
      | fz _ _ _ b off cap g hF hcap hlen hcell hr =>
        obtain ⟨hrun, h3, h4⟩ := key (some ⟨b, off, none⟩) es.length cap p hcap (by simpa using hp)
        refine ⟨_, hrun, ?_⟩
        have hlen' : ((es.take p.2).drop p.1).length = p.2 - p.1 := by simp; omega
        by_cases hc : cap = p.1
        · have : (es.take p.2).drop p.1 = [] := by
            apply List.eq_nil_of_length_eq_zero
            omega
          rw [this]
          have e0 : p.2 - p.1 = 0 := by omega
          rw [e0]
          exact .fz0 _ _ _ _
        · rw [if_neg hc]
          simp only [Option.map_some, addr_add]
          rw [← hlen']
          refine .fz _ _ _ b _ _ (fun e j => g (p.1 + e) j) hF (by omega) ?_ ?_ ?_
          · intro l hl
            exact hlen l (List.mem_of_mem_take (List.mem_of_mem_drop hl))
          · intro e l he j z hz
            rw [List.getElem?_drop, List.getElem?_take] at he
            split at he
            · have := hcell _ l he j z hz
              rw [show off + p.1 * s' + e * s' + j = off + (p.1 + e) * s' + j by rw [Nat.add_mul]; omega]
              exact this
            · cases he
          · intro e l he j z hz
            rw [List.getElem?_drop, List.getElem?_take] at he
            split at he
            · exact hr _ l he j z hz
            · cases he
    · cases h
  · rename_i o s' off len hop
    rw [hop] at hx
    split at h
    · rename_i hs'
      subst hs'
      simp only [Option.map_eq_some_iff, Prod.mk.injEq] at h
      obtain ⟨p, hp, rfl, rfl⟩ := h
      refine ⟨rfl, ?_⟩
      generalize act.eval x = av at hx
      cases hx with
      | sl _ _ _ _ _ b ad cap c elem fr hb hh hfit hlc had =>
        obtain ⟨hrun, h3, h4⟩ := key (some ad) len cap p hlc (by simpa using hp)
        by_cases hc : cap = p.1
        · refine ⟨.slice (some ad) (p.2 - p.1) (cap - p.1), by simpa [hc] using hrun, ?_⟩
          refine .sl _ _ _ _ _ b ad _ c elem fr hb hh ?_ (by omega) (.inl (by omega))
          have : off + p.1 + (cap - p.1) = off + cap := by omega
          rw [this]; exact hfit
        · refine ⟨.slice (some (ad.add (p.1 * s'))) (p.2 - p.1) (cap - p.1), by simpa [hc] using hrun, ?_⟩
          refine .sl _ _ _ _ _ b _ _ c elem fr hb hh ?_ (by omega) ?_
          · have : off + p.1 + (cap - p.1) = off + cap := by omega
            rw [this]; exact hfit
          · rcases had with h0 | rfl
            · left; omega
            · right; rw [addr_add, ← Nat.add_mul]
    · cases h
  · cases h

theorem sslice_ok (ha : EnvR w F β a act) {t : TypeId} (hu : P.underlying t = some .string)
    {x : Operand} {lo hi' : Option Operand} {v : V} {σ' : Store} (h : astep (.sslice (opdOf x) (lo.map opdOf) (hi'.map opdOf)) a σ = some (v, σ')) :
    σ' = σ ∧ ∃ val, (Instr.sliceAt t (act.eval x) (lo.map act.eval) (hi'.map act.eval) none).run P w = .ok val w ∧ VR w F β v val := by
  have hx := opd_ok ha x
  obtain ⟨l1, l0⟩ := opds_map ha lo
  obtain ⟨h1, h0⟩ := opds_map ha hi'
  simp only [astep] at h
  split at h
  · rename_i b hop
    rw [hop] at hx
    simp only [Option.map_eq_some_iff, Prod.mk.injEq] at h
    obtain ⟨p, hp, rfl, rfl⟩ := h
    refine ⟨rfl, .string (b.extract p.1 p.2), ?_, .str _ _⟩
    obtain ⟨hrun, h3, h4⟩ := bounds_run (P := P) (w := w) (F := F) (β := β) (Nat.le_refl b.size) hp l1 l0 h1 h0 false
    generalize act.eval x = av at hx
    cases hx
    simp [Instr.sliceAt, Instr.slice, run_underlying hu, hrun]
  · cases h

end
end Go.Proofs.Ytffigokicddekaa.Abs
