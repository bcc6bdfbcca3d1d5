/- The rest of the operations that write nothing. No condition. -/
import Derived.Test.YtffigokicddekaaMA7
set_option linter.unusedVariables false
set_option linter.unusedSimpArgs false
namespace Go.Proofs.Ytffigokicddekaa.Abs
open Go

section
variable {P : Program} {σ : Store} {β : Ids} {F : Nat → Prop} {w : World} {a : Env} {act : Act}

theorem eqs_ok (ha : EnvR w F β a act) {ks : List Nat} {neg : Bool} {t : TypeId} {d : Nat} {fs : Array Field} {i : TypeInfo} (hu : P.underlying t = some (.struct fs)) (hE : eqT P d t = some ks) (hd : d ≤ 10000) (hsz : sz P t = some ks.length)
    (hg : P.eqGuardType P.depth t = false)
    {x y : Operand} {v : V} {σ' : Store} (h : astep (.eqs ks neg (opdOf x) (opdOf y)) a σ = some (v, σ')) :
    σ' = σ ∧ ∃ val, (do eqGuard (if neg then .neq else .eql) t x y (act.eval x) (act.eval y); binOp (if neg then .neq else .eql) t (act.eval x) (act.eval y)).run P w = .ok val w ∧ VR w F β v val := by
  have hx := opd_ok ha x
  have hy := opd_ok ha y
  simp only [astep] at h
  split at h
  · rename_i xs ys hop1 hop2
    rw [hop1] at hx; rw [hop2] at hy
    simp only [Option.map_eq_some_iff, Prod.mk.injEq] at h
    obtain ⟨b, hb, rfl, rfl⟩ := h
    refine ⟨rfl, ?_⟩
    obtain ⟨vx, hvx, hx'⟩ := agg_inv hx
    obtain ⟨vy, hvy, hy'⟩ := agg_inv hy
    obtain ⟨l1, l2⟩ := cellsEq_len hb
    have ex : (vx.toList.drop 0).take ks.length = vx.toList := by rw [List.drop_zero, List.take_of_length_le]; rw [← hx'.1]; omega
    have ey : (vy.toList.drop 0).take ks.length = vy.toList := by rw [List.drop_zero, List.take_of_length_le]; rw [← hy'.1]; omega
    have hrun := equal_part (P := P) (w := w) (F := F) (β := β) d Op.maxDepth t ks (by unfold Op.maxDepth; exact hd) hE hsz xs ys vx vy 0 b (by rw [ex]; exact hx') (by rw [ey]; exact hy') hb
    have hi : ∃ i, P.info? t = some i ∧ i.size = ks.length := by
      unfold sz at hsz
      cases hi : P.info? t with
      | none => simp [hi] at hsz
      | some i => simp [hi] at hsz; exact ⟨i, rfl, hsz⟩
    obtain ⟨i, hi, his⟩ := hi
    have hp : ∀ (vv : Array Value), vv.size = ks.length → (part t vv 0).run P w = .ok (.agg vv) w := by
      intro vv hvv
      have : vv.extract 0 (0 + ks.length) = vv := by
        rw [Nat.zero_add, ← hvv, Array.extract_size]
      simp [part, isAgg, run_underlying hu, sizeOf, typeInfo, hi, his]
      simpa using this
    have sx : vx.size = ks.length := by have := hx'.1; simp at this; omega
    have sy : vy.size = ks.length := by have := hy'.1; simp at this; omega
    simp only [Sem.run_bind, hp vx sx, hp vy sy, Result.andThen_ok] at hrun
    rw [hvx, hvy]
    have hgd : ∀ op, (eqGuard op t x y (.agg vx) (.agg vy)).run P w = .ok () w := by
      intro op
      cases op <;> simp [eqGuard, hg]
    cases neg
    · refine ⟨.bool b, ?_, .bool _ _⟩
      simp only [Sem.run_bind, hgd, Result.andThen_ok, Bool.false_eq_true, if_false]
      simp [binOp, Op.equal, hrun]
    · refine ⟨.bool (!b), ?_, .bool _ _⟩
      simp only [Sem.run_bind, hgd, Result.andThen_ok, if_true]
      simp [binOp, Op.equal, hrun]
  · cases h

theorem len_ok (ha : EnvR w F β a act) {t ty e : TypeId} (hu : P.underlying t = some (.slice e))
    {x : Operand} {v : V} {σ' : Store} (h : astep (.len (opdOf x)) a σ = some (v, σ')) :
    σ' = σ ∧ ∃ val, (Builtin.len_ #[t] ty #[act.eval x]).run P w = .ok val w ∧ VR w F β v val := by
  have hx := opd_ok ha x
  simp only [astep, Option.map_eq_some_iff, Prod.mk.injEq] at h
  obtain ⟨n, hn, rfl, rfl⟩ := h
  refine ⟨rfl, .int .i64 n, ?_, .int _ _ _⟩
  generalize act.eval x = av at hx
  unfold lenV at hn
  split at hn
  · rename_i hop; rw [hop] at hx; cases hn; cases hx; simp [Builtin.len_, run_underlying hu, goInt]
  · rename_i hop; rw [hop] at hx; cases hn; cases hx <;> simp [Builtin.len_, run_underlying hu, goInt]
  · rename_i hop; rw [hop] at hx; cases hn; cases hx <;> simp [Builtin.len_, run_underlying hu, goInt]
  · cases hn

theorem slen_ok (ha : EnvR w F β a act) {t ty : TypeId} (hu : P.underlying t = some .string)
    {x : Operand} {v : V} {σ' : Store} (h : astep (.slen (opdOf x)) a σ = some (v, σ')) :
    σ' = σ ∧ ∃ val, (Builtin.len_ #[t] ty #[act.eval x]).run P w = .ok val w ∧ VR w F β v val := by
  have hx := opd_ok ha x
  simp only [astep] at h
  split at h
  · rename_i b hop
    rw [hop] at hx
    cases h
    refine ⟨rfl, .int .i64 b.size, ?_, .int _ _ _⟩
    generalize act.eval x = av at hx
    cases hx
    simp [Builtin.len_, run_underlying hu, goInt]
  · cases h

theorem pick_ok (ha : EnvR w F β a act) {c x y : Operand} {v : V} {σ' : Store} (h : astep (.pick (opdOf c) (opdOf x) (opdOf y)) a σ = some (v, σ')) :
    σ' = σ ∧ ∃ val, (do pure (Next.value (if ← asBool (act.eval c) then act.eval x else act.eval y)) : Sem Next).run P w = .ok (.value val) w ∧ VR w F β v val := by
  have hc := opd_ok ha c
  have hx := opd_ok ha x
  have hy := opd_ok ha y
  simp only [astep] at h
  split at h
  · rename_i b hop
    rw [hop] at hc
    cases h
    refine ⟨rfl, (if b then act.eval x else act.eval y), ?_, ?_⟩
    · generalize act.eval c = cv at hc
      cases hc
      simp [asBool]
    · cases b <;> simp [hx, hy]
  · cases h

theorem nilc_ok (ha : EnvR w F β a act) {x : Operand} {v : V} {σ' : Store} (h : astep (.nilc (opdOf x)) a σ = some (v, σ')) :
    σ' = σ ∧ VR w F β v (act.eval x) ∧ ∃ ad, act.eval x = .pointer (some ad) := by
  have hx := opd_ok ha x
  simp only [astep] at h
  split at h
  · rename_i o s e c hop
    rw [hop] at hx
    cases h
    refine ⟨rfl, hx, ?_⟩
    generalize act.eval x = av at hx
    cases hx
    exact ⟨_, rfl⟩
  · rename_i cs hop
    rw [hop] at hx
    cases h
    refine ⟨rfl, hx, ?_⟩
    generalize act.eval x = av at hx
    cases hx
    exact ⟨_, rfl⟩
  · cases h

theorem not_ok (ha : EnvR w F β a act) {x : Operand} {v : V} {σ' : Store} (h : astep (.not (opdOf x)) a σ = some (v, σ')) :
    σ' = σ ∧ ∃ val, (Op.unary .not (act.eval x)).run P w = .ok val w ∧ VR w F β v val := by
  have hx := opd_ok ha x
  simp only [astep] at h
  split at h
  · rename_i b hop
    rw [hop] at hx
    cases h
    refine ⟨rfl, .bool (!b), ?_, .bool _ _⟩
    generalize act.eval x = av at hx
    cases hx
    simp [Op.unary]
  · cases h

theorem neg_ok (ha : EnvR w F β a act) {x : Operand} {v : V} {σ' : Store} (h : astep (.neg (opdOf x)) a σ = some (v, σ')) :
    σ' = σ ∧ ∃ val, (Op.unary .neg (act.eval x)).run P w = .ok val w ∧ VR w F β v val := by
  have hx := opd_ok ha x
  simp only [astep] at h
  split at h
  · rename_i k n hop
    rw [hop] at hx
    cases h
    refine ⟨rfl, .int k (k.wrap (0 - n)), ?_, .int _ _ _⟩
    generalize act.eval x = av at hx
    cases hx
    simp [Op.unary, Op.intArith]
  · cases h

theorem cint_ok (ha : EnvR w F β a act) {t u : TypeId} {k k' : IntKind} (ht : P.underlying t = some (.int k')) (hu : P.underlying u = some (.int k)) {x : Operand} {v : V} {σ' : Store} (h : astep (.cint k (opdOf x)) a σ = some (v, σ')) :
    σ' = σ ∧ ∃ val, (convert t u (act.eval x)).run P w = .ok val w ∧ VR w F β v val := by
  have hx := opd_ok ha x
  simp only [astep] at h
  split at h
  · rename_i k0 n hop
    rw [hop] at hx
    cases h
    refine ⟨rfl, .int k (k.wrap n), ?_, .int _ _ _⟩
    generalize act.eval x = av at hx
    cases hx
    simp [convert, run_underlying ht, run_underlying hu, Conv.intToInt]
  · cases h

theorem ext_ok (ha : EnvR w F β a act) {x : Operand} {i : Nat} {v : V} {σ' : Store} (h : astep (.ext (opdOf x) i) a σ = some (v, σ')) :
    σ' = σ ∧ ∃ val, (Instr.extract (act.eval x) i).run P w = .ok val w ∧ VR w F β v val := by
  have hx := opd_ok ha x
  simp only [astep] at h
  split at h
  · rename_i vs hop
    rw [hop] at hx
    simp only [Option.map_eq_some_iff, Prod.mk.injEq] at h
    obtain ⟨y, hy, rfl, rfl⟩ := h
    refine ⟨rfl, ?_⟩
    obtain ⟨us, hus, hr⟩ := tup_inv hx
    have hlt := (List.getElem?_eq_some_iff.1 hy).1
    have hlt' : i < us.size := by have := hr.1; simp at this; omega
    refine ⟨us[i], ?_, ?_⟩
    · rw [hus]; simp [Instr.extract, hlt']
    · simpa [List.getD_eq_getElem?_getD, hlt'] using hr.2 i y hy
  · cases h

theorem max_ok (ha : EnvR w F β a act) {ts : Array TypeId} {t : TypeId} {x y : Operand} {v : V} {σ' : Store} (h : astep (.max [opdOf x, opdOf y]) a σ = some (v, σ')) :
    σ' = σ ∧ ∃ val, (Builtin.max_ ts t #[act.eval x, act.eval y]).run P w = .ok val w ∧ VR w F β v val := by
  have hx := opd_ok ha x
  have hy := opd_ok ha y
  simp only [astep, List.map_cons, List.map_nil] at h
  split at h
  · rename_i k m k' n hop
    simp only [List.cons.injEq, and_true] at hop
    rw [hop.1] at hx
    rw [hop.2] at hy
    split at h
    · cases h
      refine ⟨rfl, .int k (if n > m then n else m), ?_, .int _ _ _⟩
      generalize act.eval x = av at hx
      generalize act.eval y = bv at hy
      cases hx; cases hy
      exact run_max_int2 w ts t _ _ _ _
    · cases h
  · cases h

theorem min_ok (ha : EnvR w F β a act) {ts : Array TypeId} {t : TypeId} {x y : Operand} {v : V} {σ' : Store} (h : astep (.min [opdOf x, opdOf y]) a σ = some (v, σ')) :
    σ' = σ ∧ ∃ val, (Builtin.min_ ts t #[act.eval x, act.eval y]).run P w = .ok val w ∧ VR w F β v val := by
  have hx := opd_ok ha x
  have hy := opd_ok ha y
  simp only [astep, List.map_cons, List.map_nil] at h
  split at h
  · rename_i k m k' n hop
    simp only [List.cons.injEq, and_true] at hop
    rw [hop.1] at hx
    rw [hop.2] at hy
    split at h
    · cases h
      refine ⟨rfl, .int k (if n < m then n else m), ?_, .int _ _ _⟩
      generalize act.eval x = av at hx
      generalize act.eval y = bv at hy
      cases hx; cases hy
      exact run_min_int2 w ts t _ _ _ _
    · cases h
  · cases h

theorem fillV_ok {pl : Nat → Option (Nat × Nat)} : ∀ {ps : List (Nat × Value)} {qs : List (Nat × Nat × V)} {z : List V} {zv : Array Value} {cs : List V},
    VRs w F β z zv.toList → ps.length = qs.length → (∀ (j : Nat) p, ps[j]? = some p → ∃ q, qs[j]? = some q ∧ pl p.1 = some (q.1, q.2.1) ∧ VR w F β q.2.2 p.2) → fillV z qs = some cs →
    ∃ cv, Instr.fill pl zv ps = some cv ∧ VRs w F β cs cv.toList
  | [], [], z, zv, cs, hz, _, _, h => by simp [fillV] at h; subst h; exact ⟨zv, rfl, hz⟩
  | [], _ :: _, _, _, _, _, hl, _, _ => by simp at hl
  | _ :: _, [], _, _, _, _, hl, _, _ => by simp at hl
  | (i, v) :: ps, (off, size, x) :: qs, z, zv, cs, hz, hl, hp, h => by
    obtain ⟨q, hq, hpl, hv⟩ := hp 0 (i, v) rfl
    simp at hq; subst hq
    simp only [fillV] at h
    split at h
    · rename_i xs hxs
      split at h
      · rename_i hc
        obtain ⟨hv1, hv2⟩ := cells_ok hxs hv
        have hsz : v.cells.size = size := by have := hv1.1; simp at this; omega
        have hzl : zv.size = z.length := by have := hz.1; simp at this; omega
        have hnew : VRs w F β (splice z off xs) (zv.toList.take off ++ v.cells.toList ++ zv.toList.drop (off + v.cells.size)) := by
          unfold splice
          have : xs.length = v.cells.size := by have := hv1.1; simpa using this
          rw [this]
          exact ((hz.take off).append hv1).append (hz.drop _)
        have hfold : (v.cells.zipIdx.foldl (fun cs (p : Value × Nat) => cs.setIfInBounds (off + p.2) p.1) zv).toList = zv.toList.take off ++ v.cells.toList ++ zv.toList.drop (off + v.cells.size) := by
          have aux : ∀ (l : List Value) (k : Nat) (acc : Array Value), off + k + l.length ≤ acc.size →
              ((l.zipIdx k).foldl (fun cs (p : Value × Nat) => cs.setIfInBounds (off + p.2) p.1) acc).toList = acc.toList.take (off + k) ++ l ++ acc.toList.drop (off + k + l.length) := by
            intro l
            induction l with
            | nil => intro k acc h; simp
            | cons y l ih =>
              intro k acc h
              simp only [List.zipIdx_cons, List.foldl_cons]
              rw [ih (k + 1) _ (by simp at h ⊢; omega)]
              have e := list_seg_step acc.toList (off + k) y l (by simp at h ⊢; omega)
              simpa [Array.toList_setIfInBounds, Nat.add_assoc] using e
          have := aux v.cells.toList 0 zv (by simp; omega)
          rw [← Array.foldl_toList]
          simpa [Array.toList_zipIdx] using this
        have hcond : ¬ (v.cells.size ≠ size ∨ off + v.cells.size > zv.size) := by omega
        obtain ⟨cv, h1, h2⟩ := fillV_ok (ps := ps) (qs := qs) (zv := v.cells.zipIdx.foldl (fun cs (p : Value × Nat) => cs.setIfInBounds (off + p.2) p.1) zv) (by rw [hfold]; exact hnew) (by simpa using hl)
          (fun j p hj => by simpa using hp (j + 1) p (by simpa using hj)) h
        refine ⟨cv, ?_, h2⟩
        simp only [Instr.fill, hpl]
        rw [if_neg (by simpa using hcond)]
        exact h1
      · cases h
    · cases h

end
end Go.Proofs.Ytffigokicddekaa.Abs
