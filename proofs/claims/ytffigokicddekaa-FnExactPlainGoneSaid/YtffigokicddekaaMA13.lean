/- The program's operations as steps, and that each does what its step says. No condition. -/
import Derived.Test.YtffigokicddekaaMA12
set_option linter.unusedVariables false
set_option linter.unusedSimpArgs false
namespace Go.Proofs.Ytffigokicddekaa.Abs
open Go

def oneZ (P : Program) (t : TypeId) : Bool :=
  match (P.info? t).bind (·.zero) with
  | some v => v.cells.all (·.oneCell')
  | none => true

theorem oneZ_ok {P : Program} {t : TypeId} (h : oneZ P t = true) : ∀ i v, P.info? t = some i → i.zero = some v → v.cells.all (·.oneCell') = true := by
  intro i v hi hv
  unfold oneZ at h
  simpa [hi, hv] using h

def isStr (P : Program) (t : TypeId) : Bool := match P.underlying t with | some .string => true | _ => false
def isU8 (P : Program) (t : TypeId) : Bool := match P.underlying t with | some (.int .u8) => true | _ => false
def elemOf? (P : Program) (t : TypeId) : Option TypeId := match P.underlying t with | some (.slice e) => some e | _ => none
def kindOf? (P : Program) (t : TypeId) : Option IntKind := match P.underlying t with | some (.int k) => some k | _ => none
def fieldsOf? (P : Program) (t : TypeId) : Option (Array Field) := match P.underlying t with | some (.struct fs) => some fs | _ => none

theorem isStr_ok {P : Program} {t : TypeId} (h : isStr P t = true) : P.underlying t = some .string := by
  unfold isStr at h; split at h
  · assumption
  · cases h
theorem isU8_ok {P : Program} {t : TypeId} (h : isU8 P t = true) : P.underlying t = some (.int .u8) := by
  unfold isU8 at h; split at h
  · assumption
  · cases h
theorem elemOf?_ok {P : Program} {t e : TypeId} (h : elemOf? P t = some e) : P.underlying t = some (.slice e) := by
  unfold elemOf? at h; split at h
  · cases h; assumption
  · cases h
theorem kindOf?_ok {P : Program} {t : TypeId} {k : IntKind} (h : kindOf? P t = some k) : P.underlying t = some (.int k) := by
  unfold kindOf? at h; split at h
  · cases h; assumption
  · cases h
theorem fieldsOf?_ok {P : Program} {t : TypeId} {fs : Array Field} (h : fieldsOf? P t = some fs) : P.underlying t = some (.struct fs) := by
  unfold fieldsOf? at h; split at h
  · cases h; assumption
  · cases h

/-- which calls turn what they are handed; how many objects a call makes for its caller -/
structure Fns where
  wr : FuncId → Bool
  own : FuncId → Nat

def compOp (P : Program) (Γ : Fns) (id : Nat) : Op → Option AO
  | .move x => some (.mov (opdOf x))
  | .assign x => some (.mov (opdOf x))
  | .pick c x y => some (.pick (opdOf c) (opdOf x) (opdOf y))
  | .alloc t => match sz P t, zeroOf P t with
    | some s, some z => if z.length = s ∧ oneZ P t = true then some (.alloc id s z) else none
    | _, _ => none
  | .box t x => match sz P t with
    | some s => some (.box id s (opdOf x))
    | none => none
  | .build t ps => match fieldsOf? P t, zeroOf P t with
    | some fs, some z => match fs.toList.mapM (fun f => (P.info? f.type).map fun i => (f.offset, i.size)) with
      | some places => match partsOf places ps.toList with
        | some l => some (.build z l)
        | none => none
      | none => none
    | _, _ => none
  | .buildSlice t n ps => match elemOf? P t with
    | some e => match sz P e, zeroOf P e with
      | some s, some z => if z.length = s ∧ 0 < s ∧ n * s ≤ 16777216 ∧ oneZ P e = true then some (.bslice id s n z (ps.toList.map fun p => (p.1, opdOf p.2))) else none
      | _, _ => none
    | none => none
  | .load t x => match sz P t, P.underlying t with
    | some s, some d => if aggD d = true ∨ s = 1 then some (.load s (aggD d) (opdOf x)) else none
    | _, _ => none
  | .store t x y => match sz P t with
    | some s => some (.store s (opdOf x) (opdOf y))
    | none => none
  | .nilCheck x => some (.nilc (opdOf x))
  | .binOp op t x y _ => match P.underlying t with
    | some (.int _) => some (.bin op (opdOf x) (opdOf y))
    | some .string => some (.bin op (opdOf x) (opdOf y))
    | some .bool => match op with
      | .eql => some (.beq false (opdOf x) (opdOf y))
      | .neq => some (.beq true (opdOf x) (opdOf y))
      | _ => none
    | some (.struct _) => match eqT P 8 t with
      | some ks => if sz P t = some ks.length ∧ P.eqGuardType P.depth t = false then match op with
          | .eql => some (.eqs ks false (opdOf x) (opdOf y))
          | .neq => some (.eqs ks true (opdOf x) (opdOf y))
          | _ => none
        else none
      | none => none
    | _ => none
  | .unOp .not _ x => some (.not (opdOf x))
  | .unOp .neg _ x => some (.neg (opdOf x))
  | .convert t u x => match kindOf? P t, kindOf? P u with
    | some _, some k => some (.cint k (opdOf x))
    | _, _ => if isStr P t then match elemOf? P u with
        | some e => if isU8 P e then some (.s2b id (opdOf x)) else none
        | none => none
      else if isStr P u then match elemOf? P t with
        | some e => if isU8 P e then some (.b2s (opdOf x)) else none
        | none => none
      else none
  | .makeSlice t l c => match elemOf? P t with
    | some e => match P.info? e, zeroOf P e with
      | some i, some z => if z.length = i.size ∧ 0 < i.size ∧ oneZ P e = true then some (.mks id i.size i.bytes z (opdOf l) (opdOf c)) else none
      | _, _ => none
    | none => none
  | .slice t x lo hi none => match elemOf? P t with
    | some e => match sz P e with
      | some s => some (.slice s (opdOf x) (lo.map opdOf) (hi.map opdOf))
      | none => none
    | none => if isStr P t then some (.sslice (opdOf x) (lo.map opdOf) (hi.map opdOf)) else none
  | .fieldAddr t x f => match fieldsOf? P t with
    | some fs => match fs[f]? with
      | some fd => match sz P fd.type with
        | some s => if s ≠ 0 then some (.faddr fd.offset (opdOf x)) else none
        | none => none
      | none => none
    | none => none
  | .field t x f => match fieldsOf? P t with
    | some fs => match fs[f]? with
      | some fd => match sz P fd.type, P.underlying fd.type with
        | some s, some d => if aggD d = true ∨ s = 1 then some (.field fd.offset s (aggD d) (opdOf x)) else none
        | _, _ => none
      | none => none
    | none => none
  | .indexAddr t x i => match elemOf? P t with
    | some e => match sz P e with
      | some s => some (.iaddr s (opdOf x) (opdOf i))
      | none => none
    | none => none
  | .index t x i => if isStr P t then some (.sindex (opdOf x) (opdOf i)) else none
  | .extract x i => some (.ext (opdOf x) i)
  | .call c => match c.callee with
    | .builtin .len => match c.argTypes.toList, c.args.toList with
      | [t], [x] => match elemOf? P t with
        | some _ => some (.len (opdOf x))
        | none => if isStr P t then some (.slen (opdOf x)) else none
      | _, _ => none
    | .builtin .append => match c.argTypes.toList, c.args.toList with
      | [t, t'], [x, y] => if t = t' then match elemOf? P t with
          | some e => match P.info? e, zeroOf P e with
            | some i, some z => if z.length = i.size ∧ 0 < i.size then some (.app id i.size i.bytes (opdOf x) (opdOf y)) else none
            | _, _ => none
          | none => none
        else none
      | _, _ => none
    | .builtin .max => match c.args.toList with
      | [x, y] => some (.max [opdOf x, opdOf y])
      | _ => none
    | .builtin .min => match c.args.toList with
      | [x, y] => some (.min [opdOf x, opdOf y])
      | _ => none
    | .value (.func f) => match P.funcs[f]? with
      | some fn => if fn.body.isSome ∧ fn.name ≠ "runtime.NumGoroutine" then some (.call (Γ.wr f) id (Γ.own f) f (c.args.toList.map opdOf)) else none
      | none => none
    | _ => none
  | _ => none

theorem sz_ok {P : Program} {t : TypeId} {s : Nat} (h : sz P t = some s) : ∃ i, P.info? t = some i ∧ i.size = s := by
  unfold sz at h
  cases hi : P.info? t with
  | none => simp [hi] at h
  | some i => simp [hi] at h; exact ⟨i, rfl, h⟩

theorem array_two {α : Type} {x : Array α} {a b : α} (h : x.toList = [a, b]) : x = #[a, b] := by
  apply Array.ext'; simpa using h
theorem array_one {α : Type} {x : Array α} {a : α} (h : x.toList = [a]) : x = #[a] := by
  apply Array.ext'; simpa using h

section
variable {P : Program} {Γ : Fns} {σ : Store} {β : Ids} {F : Nat → Prop} {w : World} {a : Env} {act : Act}

/-- THE STEP IS RIGHT: what the operation does in the model is what its step says. -/
theorem astep_sound (hr : Rel σ β F w) (ha : EnvR w F β a act) {o : Oper} {id : Nat} {ao : AO} (hc : compOp P Γ id o.op = some ao) {v : V} {σ' : Store} (h : astep ao a σ = some (v, σ')) :
    StepOk ((execOp act.eval o).run P w) σ' β F w v := by
  have pureV : ∀ (m : Sem Value), (σ' = σ ∧ ∃ val, m.run P w = .ok val w ∧ VR w F β v val) → (execOp act.eval o = (do pure (.value (← m)))) → StepOk ((execOp act.eval o).run P w) σ' β F w v := by
    rintro m ⟨rfl, val, hm, hv⟩ he
    exact .pure hr (by rw [he]; simp [hm]) hv
  have newV : ∀ (m : Sem Value), (∃ val w' β', m.run P w = .ok val w' ∧ VR w' F β' v val ∧ After σ' β β' F F w w') → (execOp act.eval o = (do pure (.value (← m)))) → StepOk ((execOp act.eval o).run P w) σ' β F w v := by
    rintro m ⟨val, w', β', hm, hv, hA⟩ he
    exact ⟨val, w', β', .inl (by rw [he]; simp [hm]), hv, hA⟩
  obtain ⟨dst, op, type, pos, after, guard⟩ := o
  dsimp only at hc
  cases op <;> simp only [compOp, reduceCtorEq] at hc
  case move x =>
    cases hc; simp only [astep, Option.some.injEq, Prod.mk.injEq] at h
    obtain ⟨rfl, rfl⟩ := h
    exact .pure hr (by simp [execOp]) (opd_ok ha x)
  case assign x =>
    cases hc; simp only [astep, Option.some.injEq, Prod.mk.injEq] at h
    obtain ⟨rfl, rfl⟩ := h
    exact .pure hr (by simp [execOp]) (opd_ok ha x)
  case pick c x y =>
    cases hc
    obtain ⟨rfl, val, h1, h2⟩ := pick_ok (P := P) (w := w) ha h
    exact .pure hr h1 h2
  case alloc t =>
    split at hc
    · rename_i s z hs hz
      split at hc
      · rename_i hcond
        cases hc
        exact newV _ (alloc_ok hr hs hz hcond.1 (oneZ_ok hcond.2) h) rfl
      · cases hc
    · cases hc
  case box t x =>
    split at hc
    · cases hc; exact newV _ (box_ok hr ha h) rfl
    · cases hc
  case build t ps =>
    split at hc
    · rename_i fs z hfs hz
      split at hc
      · rename_i places hpl
        split at hc
        · rename_i l hl
          cases hc
          exact pureV _ (build_ok (P := P) ha (fieldsOf?_ok hfs) hpl hz hl h) rfl
        · cases hc
      · cases hc
    · cases hc
  case buildSlice t n ps =>
    split at hc
    · rename_i e he
      split at hc
      · rename_i s z hs hz
        split at hc
        · rename_i hcond
          cases hc
          exact newV _ (bslice_ok hr ha (elemOf?_ok he) hs hz hcond.1 hcond.2.1 hcond.2.2.1 (oneZ_ok hcond.2.2.2) h) rfl
        · cases hc
      · cases hc
    · cases hc
  case load t x =>
    split at hc
    · rename_i s d hs hd
      split at hc
      · rename_i hag
        cases hc
        obtain ⟨i, hi, his⟩ := sz_ok hs
        exact pureV _ (load_ok hr ha hd hi his hag h) rfl
      · cases hc
    · cases hc
  case store t x y =>
    split at hc
    · rename_i s hs
      cases hc
      obtain ⟨rfl, w', β', hrun, hA⟩ := store_ok (P := P) hr ha hs h
      exact ⟨undef, w', β', .inr ⟨by simp [execOp, hrun], rfl⟩, .unk _ _, hA⟩
    · cases hc
  case nilCheck x =>
    cases hc
    obtain ⟨rfl, hv, ad, had⟩ := nilc_ok ha h
    refine .pure hr ?_ hv
    simp [execOp, had]
  case binOp op t x y yt =>
    split at hc
    · cases hc; exact pureV _ (bin_ok (P := P) ha h) rfl
    · cases hc; exact pureV _ (bin_ok (P := P) ha h) rfl
    · rename_i hu
      split at hc
      · cases hc; exact pureV _ (by simpa using beq_ok (P := P) (t := t) ha hu h) rfl
      · cases hc; exact pureV _ (by simpa using beq_ok (P := P) (t := t) ha hu h) rfl
      · cases hc
    · rename_i fs hu
      split at hc
      · rename_i ks hks
        split at hc
        · rename_i hcond
          obtain ⟨i, hi, _⟩ := sz_ok hcond.1
          split at hc
          · cases hc; exact pureV _ (by simpa using eqs_ok (P := P) (t := t) (i := i) ha hu hks (by omega) hcond.1 hcond.2 h) rfl
          · cases hc; exact pureV _ (by simpa using eqs_ok (P := P) (t := t) (i := i) ha hu hks (by omega) hcond.1 hcond.2 h) rfl
          · cases hc
        · cases hc
      · cases hc
    · cases hc
  case unOp op t x =>
    cases op <;> simp only [compOp, reduceCtorEq, Option.some.injEq] at hc
    · subst hc; exact pureV _ (neg_ok (P := P) ha h) rfl
    · subst hc; exact pureV _ (not_ok (P := P) ha h) rfl
  case convert t u x =>
    split at hc
    · rename_i k k' h1 h2
      cases hc
      exact pureV _ (cint_ok (P := P) ha (kindOf?_ok h1) (kindOf?_ok h2) h) rfl
    · split at hc
      · rename_i hs
        split at hc
        · rename_i e he
          split at hc
          · rename_i h8
            cases hc
            exact newV _ (s2b_ok (P := P) hr ha (isStr_ok hs) (elemOf?_ok he) (isU8_ok h8) h) rfl
          · cases hc
        · cases hc
      · split at hc
        · rename_i hs
          split at hc
          · rename_i e he
            split at hc
            · rename_i h8
              cases hc
              exact pureV _ (b2s_ok (P := P) hr ha (elemOf?_ok he) (isStr_ok hs) (isU8_ok h8) h) rfl
            · cases hc
          · cases hc
        · cases hc
  case makeSlice t l c =>
    split at hc
    · rename_i e he
      split at hc
      · rename_i i z hi hz
        split at hc
        · rename_i hcond
          cases hc
          exact newV _ (mks_ok (P := P) hr ha (elemOf?_ok he) hi rfl hz hcond.1 hcond.2.1 (oneZ_ok hcond.2.2) h) rfl
        · cases hc
      · cases hc
    · cases hc
  case slice t x lo hi mx =>
    cases mx with
    | some m => simp only [compOp, reduceCtorEq] at hc
    | none =>
      simp only [compOp] at hc
      split at hc
      · rename_i e he
        split at hc
        · rename_i s hs
          cases hc
          obtain ⟨i, hi', his⟩ := sz_ok hs
          exact pureV _ (slice_ok (P := P) ha (elemOf?_ok he) hi' his h) rfl
        · cases hc
      · split at hc
        · rename_i hs
          cases hc
          exact pureV _ (sslice_ok (P := P) ha (isStr_ok hs) h) rfl
        · cases hc
  case fieldAddr t x f =>
    split at hc
    · rename_i fs hfs
      split at hc
      · rename_i fd hfd
        split at hc
        · rename_i s hs
          split at hc
          · rename_i hne
            cases hc
            obtain ⟨i, hi, his⟩ := sz_ok hs
            exact pureV _ (faddr_ok (P := P) ha (fieldsOf?_ok hfs) hfd hi (by rw [his]; exact hne) h) rfl
          · cases hc
        · cases hc
      · cases hc
    · cases hc
  case field t x f =>
    split at hc
    · rename_i fs hfs
      split at hc
      · rename_i fd hfd
        split at hc
        · rename_i s d hs hd
          split at hc
          · rename_i hag
            cases hc
            obtain ⟨i, hi, his⟩ := sz_ok hs
            exact pureV _ (field_ok (P := P) ha (fieldsOf?_ok hfs) hfd hi his hd hag h) rfl
          · cases hc
        · cases hc
      · cases hc
    · cases hc
  case indexAddr t x i =>
    split at hc
    · rename_i e he
      split at hc
      · rename_i s hs
        cases hc
        obtain ⟨i', hi, his⟩ := sz_ok hs
        exact pureV _ (iaddr_ok (P := P) ha (elemOf?_ok he) hi his h) rfl
      · cases hc
    · cases hc
  case index t x i =>
    split at hc
    · rename_i hs
      cases hc
      exact pureV _ (sindex_ok (P := P) ha (isStr_ok hs) h) rfl
    · cases hc
  case extract x i =>
    cases hc
    exact pureV _ (ext_ok (P := P) ha h) rfl
  case call c =>
    obtain ⟨callee, args, argTypes⟩ := c
    dsimp only at hc
    split at hc
    · -- len
      split at hc
      · rename_i t x ht hx
        have e1 := array_one ht
        have e2 := array_one hx
        subst e1; subst e2
        split at hc
        · rename_i e he
          cases hc
          exact pureV _ (len_ok (P := P) (ty := type) ha (elemOf?_ok he) h) (by simp [execOp, resolve, invoke, builtin])
        · split at hc
          · rename_i hs
            cases hc
            exact pureV _ (slen_ok (P := P) (ty := type) ha (isStr_ok hs) h) (by simp [execOp, resolve, invoke, builtin])
          · cases hc
      · cases hc
    · -- append
      split at hc
      · rename_i t t' x y ht hx
        have e1 := array_two ht
        have e2 := array_two hx
        subst e1; subst e2
        split at hc
        · rename_i htt
          subst htt
          split at hc
          · rename_i e he
            split at hc
            · rename_i i z hi hz
              split at hc
              · rename_i hcond
                cases hc
                exact newV _ (app_ok (P := P) (ty := type) hr ha (elemOf?_ok he) hi rfl hz hcond.1 hcond.2 h) (by simp [execOp, resolve, invoke, builtin])
              · cases hc
            · cases hc
          · cases hc
        · cases hc
      · cases hc
    · -- max
      split at hc
      · rename_i x y hx
        have e2 := array_two hx
        subst e2
        cases hc
        exact pureV _ (max_ok (P := P) (ts := argTypes) (t := type) ha h) (by simp [execOp, resolve, invoke, builtin])
      · cases hc
    · -- min
      split at hc
      · rename_i x y hx
        have e2 := array_two hx
        subst e2
        cases hc
        exact pureV _ (min_ok (P := P) (ts := argTypes) (t := type) ha h) (by simp [execOp, resolve, invoke, builtin])
      · cases hc
    · -- a call of a function is no step
      split at hc
      · split at hc
        · cases hc; simp [astep] at h
        · cases hc
      · cases hc
    · cases hc

end
end Go.Proofs.Ytffigokicddekaa.Abs
