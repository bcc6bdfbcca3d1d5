/- One operation of a region, its guard and its temporary; a region in the text's order. No condition. -/
import Derived.Test.YtffigokicddekaaMA15
set_option linter.unusedVariables false
set_option linter.unusedSimpArgs false
namespace Go.Proofs.Ytffigokicddekaa.Abs
open Go

structure AR where
  dst : Option Nat
  guard : Option (Nat × Bool)
  lab : Nat
  op : AO

/-- the names of new objects, b further on -/
def AO.sh (b : Nat) : AO → AO
  | .alloc id s z => .alloc (b + id) s z
  | .box id s x => .box (b + id) s x
  | .bslice id s n z ps => .bslice (b + id) s n z ps
  | .s2b id x => .s2b (b + id) x
  | .mks id s bytes z l c => .mks (b + id) s bytes z l c
  | .app id s bytes x y => .app (b + id) s bytes x y
  | .call wr id own f args => .call wr (b + id) own f args
  | o => o

def AO.slots : AO → Nat
  | .alloc .. | .box .. | .bslice .. | .s2b .. | .mks .. | .app .. => 1
  | .call _ _ own _ _ => own
  | _ => 0

def guardOk (g : Option (Nat × Bool)) (a : Env) : Option Bool :=
  match g with
  | none => some true
  | some (t, want) => match a t with
    | .bool b => some (b == want)
    | .unk => none
    | _ => some false

def putE (a : Env) (d : Option Nat) (v : V) : Env := match d with
  | some d => upd a d v
  | none => a

def CallR (P : Program) (f : FuncId) (id own : Nat) (σ : Store) (xs : List V) (v' : V) (σ' : Store) : Prop :=
  ∃ m σi σo vs v b, CallOk P f id own σ xs v' σ' m σi σo vs v b

def OpR (P : Program) (o : AO) (a : Env) (σ : Store) (v : V) (σ' : Store) : Prop :=
  match o with
  | .call wr id own f args => CallR P f id own σ (args.map fun x => x.ev a) v σ' ∧ (wr = false → own = 0 → σ' = σ)
  | o => astep o a σ = some (v, σ')

def StepR (P : Program) (r : AR) (a : Env) (σ : Store) (a' : Env) (σ' : Store) : Prop :=
  match guardOk r.guard a with
  | none => False
  | some false => a' = putE a r.dst (.tup []) ∧ σ' = σ
  | some true => ∃ v, OpR P r.op a σ v σ' ∧ a' = putE a r.dst v

def runL (P : Program) (b : Nat) : List AR → Env → Store → (Env → Store → Prop) → Prop
  | [], a, σ, Q => Q a σ
  | r :: rs, a, σ, Q => ∃ a' σ', StepR P { r with op := r.op.sh b } a σ a' σ' ∧ runL P b rs a' σ' Q

def compG (ops : Array Oper) (g : Option (Nat × Bool)) : Option (Option (Nat × Bool)) :=
  match g with
  | none => some none
  | some (j, want) => match (ops[j]?).bind (·.dst) with
    | some d => some (some (d, want))
    | none => none

def compAR (P : Program) (Γ : Fns) (nt : Nat) (ops : Array Oper) (id : Nat) (o : Oper) : Option AR :=
  match compOp P Γ id o.op, compG ops o.guard with
  | some op, some g => if o.dst.all (· < nt) then some { dst := o.dst, guard := g, lab := 0, op } else none
  | _, _ => none

def compOps (P : Program) (Γ : Fns) (nt : Nat) (ops : Array Oper) : List Oper → Nat → Option (List AR × Nat)
  | [], k => some ([], k)
  | o :: os, k => match compAR P Γ nt ops k o with
    | some r => match compOps P Γ nt ops os (k + r.op.slots) with
      | some (rs, n) => some (r :: rs, n)
      | none => none
    | none => none

section
variable {P : Program} {Γ : Fns} {σ : Store} {β : Ids} {F : Nat → Prop} {w : World} {a : Env} {act : Act}

theorem compOp_sh {id b : Nat} {o : Op} {ao : AO} (h : compOp P Γ id o = some ao) : compOp P Γ (b + id) o = some (ao.sh b) := by
  cases o <;> simp only [compOp, reduceCtorEq, Option.some.injEq] at h ⊢
  case move => subst h; rfl
  case assign => subst h; rfl
  case pick => subst h; rfl
  case nilCheck => subst h; rfl
  case extract => subst h; rfl
  case unOp op t x => cases op <;> simp only [compOp, reduceCtorEq, Option.some.injEq] at h ⊢ <;> (subst h; rfl)
  case slice t x lo hi mx =>
    cases mx with
    | some m => simp only [compOp, reduceCtorEq] at h
    | none =>
      simp only [compOp] at h ⊢
      repeat' (split at h)
      all_goals first
        | cases h; done
        | (cases h; simp_all [AO.sh])
  all_goals
    repeat' (split at h)
    all_goals first
      | (cases h; done)
      | (cases h; simp_all [AO.sh])

/-- the relation behind an operation, with the frame's own things -/
structure Goes (σ' : Store) (β : Ids) (F : Nat → Prop) (w : World) (a' : Env) (act act' : Act) (w' : World) : Prop where
  ex : ∃ β' F', After σ' β β' F F' w w' ∧ EnvR w' F' β' a' act'
  size : act'.tmps.size = act.tmps.size
  defers : act'.defers = act.defers

theorem envR_put {w' : World} {F' : Nat → Prop} {β' : Ids} {a : Env} {act : Act} {d : Option Nat} {v : V} {val : Value} (ha : EnvR w' F' β' a act) (hv : VR w' F' β' v val) (hd : d.all (· < act.tmps.size) = true) : EnvR w' F' β' (putE a d v) (act.put d val) := by
  cases d with
  | none => exact ha
  | some d =>
    intro t
    simp at hd
    by_cases e : t = d
    · subst e
      simp [putE, upd, Act.put, Array.getD_eq_getD_getElem?, hd]
      exact hv
    · simp only [putE, upd, if_neg e, Act.put, Array.getD_eq_getD_getElem?]
      rw [Array.getElem?_setIfInBounds_ne (Ne.symm e)]
      simpa [Array.getD_eq_getD_getElem?] using ha t

theorem envR_mono {w' : World} {F' : Nat → Prop} {β' : Ids} {σ' : Store} (ha : EnvR w F β a act) (h : After σ' β β' F F' w w') : EnvR w' F' β' a act := fun t => h.mono (ha t)

theorem put_size (act : Act) (d : Option Nat) (v : Value) : (act.put d v).tmps.size = act.tmps.size := by cases d <;> simp [Act.put]
theorem put_defers (act : Act) (d : Option Nat) (v : Value) : (act.put d v).defers = act.defers := by cases d <;> rfl

theorem undef_ok : VR w F β (.tup []) undef := tup_mk (VRs.nil _ _ _)

theorem wanted_of (ha : EnvR w F β a act) {ops : Array Oper} {o : Oper} {g : Option (Nat × Bool)} (hg : compG ops o.guard = some g) {b : Bool} (h : guardOk g a = some b) : Region.wanted o (yielded ops act.tmps) = b := by
  unfold compG at hg
  split at hg
  · rename_i hn
    cases hg
    simp [guardOk] at h
    subst h
    simp [Region.wanted, hn]
  · rename_i j want hj
    split at hg
    · rename_i d hd
      cases hg
      have hr := ha d
      simp only [Region.wanted, hj, yielded, hd, Option.bind_some]
      simp only [guardOk] at h
      have hget : ∀ x, act.tmps[d]? = some x → act.tmps.getD d undef = x := by intro x hx; simp [Array.getD_eq_getD_getElem?, hx]
      split at h
      · rename_i q hq
        rw [hq] at hr
        cases h
        cases hx : act.tmps[d]? with
        | none => simp [Array.getD_eq_getD_getElem?, hx, undef] at hr; cases hr
        | some x =>
          rw [hget x hx] at hr
          cases hr
          cases q <;> cases want <;> rfl
      · cases h
      · rename_i h1 h2
        cases h
        cases hx : act.tmps[d]? with
        | none => cases want <;> rfl
        | some x =>
          rw [hget x hx] at hr
          have : ∀ q, x ≠ .bool q := by
            rintro q rfl
            generalize hax : a d = y at *
            cases hr with
            | bool => exact h1 _ rfl
            | unk => exact h2 rfl
          cases x <;> first | (exact absurd rfl (this _)) | (cases want <;> rfl)
    · cases hg

/-- ONE OPERATION, AT ITS TURN. -/
theorem opr_wp (hr : Rel σ β F w) (ha : EnvR w F β a act) {nt : Nat} (hnt : act.tmps.size = nt) {ops : Array Oper} {i id : Nat} {o : Oper} (hi : ops[i]? = some o) {r : AR} (hc : compAR P Γ nt ops id o = some r) {b : Nat} {a' : Env} {σ' : Store}
    (hs : StepR P { r with op := r.op.sh b } a σ a' σ') {Q : Exit → Act → World → Prop} {K : Act → World → Prop} (hK : ∀ act' w', Goes σ' β F w a' act act' w' → K act' w') : wpOp P ops Q i K act w := by
  unfold compAR at hc
  split at hc
  · rename_i op g hop hg
    split at hc
    · rename_i hd
      cases hc
      have hd' : o.dst.all (· < act.tmps.size) = true := by rw [hnt]; exact hd
      unfold StepR at hs
      dsimp only at hs
      unfold wpOp
      rw [hi]
      dsimp only
      split at hs
      · exact hs.elim
      · rename_i hgo
        rw [wanted_of ha hg hgo, if_neg (by simp)]
        obtain ⟨rfl, rfl⟩ := hs
        exact hK _ _ ⟨⟨β, F, .refl hr, envR_put ha undef_ok hd'⟩, put_size _ _ _, put_defers _ _ _⟩
      · rename_i hgo
        rw [wanted_of ha hg hgo, if_pos rfl]
        left
        obtain ⟨v, hov, rfl⟩ := hs
        have hsh := compOp_sh (b := b) hop
        generalize op.sh b = op' at hsh hov
        have notcall : (∀ wr id own f args, op' ≠ .call wr id own f args) → o.wp P act w K Q := by
          intro hnc
          have hst : astep op' a σ = some (v, σ') := by
            unfold OpR at hov
            split at hov
            · exact absurd rfl (hnc _ _ _ _ _)
            · exact hov
          obtain ⟨val, w', β', hrun, hv, hA⟩ := astep_sound hr ha hsh hst
          have hgoes : Goes σ' β F w (putE a o.dst v) act (act.put o.dst val) w' :=
            ⟨⟨β', F, hA, envR_put (envR_mono ha hA) hv hd'⟩, put_size _ _ _, put_defers _ _ _⟩
          unfold Oper.wp
          rcases hrun with hrun | ⟨hrun, rfl⟩
          · rw [hrun]; exact hK _ _ hgoes
          · rw [hrun]; exact hK _ _ hgoes
        cases op' with
        | call wr id own f args =>
          simp only [OpR] at hov
          obtain ⟨⟨m, σi, σo, vs, v0, bb, hcall⟩, _⟩ := hov
          -- the operation is the call of f
          have hcop : ∃ c, o.op = .call c ∧ c.callee = .value (.func f) ∧ args = c.args.toList.map opdOf ∧ ∃ fn, P.funcs[f]? = some fn ∧ fn.body.isSome ∧ fn.name ≠ "runtime.NumGoroutine" := by
            generalize o.op = oo at hsh
            cases oo <;> simp only [compOp, reduceCtorEq, Option.some.injEq] at hsh
            case call c =>
              cases hce : c.callee with
              | value x =>
                cases x with
                | func q =>
                  simp only [hce] at hsh
                  split at hsh
                  · rename_i fn hfn
                    split at hsh
                    · rename_i hcond
                      cases hsh
                      exact ⟨c, rfl, hce, rfl, fn, hfn, hcond.1, hcond.2⟩
                    · cases hsh
                  · cases hsh
                | _ => simp only [hce, reduceCtorEq] at hsh
              | invoke _ _ => simp only [hce, reduceCtorEq] at hsh
              | builtin q =>
                cases q <;> simp only [hce, reduceCtorEq] at hsh
                all_goals
                  repeat' (split at hsh)
                  all_goals cases hsh
            case unOp op t x => cases op <;> simp only [compOp, reduceCtorEq, Option.some.injEq] at hsh
            case slice t x lo hi mx =>
              cases mx <;> simp only [compOp, reduceCtorEq] at hsh
              repeat' (split at hsh)
              all_goals cases hsh
            all_goals
              repeat' (split at hsh)
              all_goals (first | cases hsh | (cases hsh; done))
          obtain ⟨c, hoc, hce, hargs, fn, hfn, hb, hname⟩ := hcop
          have hxs : VRs w F β (args.map fun x => x.ev a) (c.args.map act.eval).toList := by
            rw [hargs]
            refine ⟨by simp, fun j x hx => ?_⟩
            simp only [List.getElem?_map, Option.map_eq_some_iff] at hx
            obtain ⟨y, ⟨z, hz, rfl⟩, rfl⟩ := hx
            rw [List.getD_eq_getElem?_getD]
            simp only [Array.toList_map, List.getElem?_map, hz, Option.map_some, Option.getD_some]
            exact opd_ok ha z
          have hcalls := call_ok hr hxs hcall
          have hbn : fn.body.isNone = false := by cases hbb : fn.body <;> simp_all
          have hrun : (execOp act.eval o).run P w = .ok (.enter f (c.args.map act.eval)) w := by
            unfold execOp
            rw [hoc]
            have hbn' : fn.body ≠ none := fun e => by rw [e] at hb; cases hb
            simp [resolve, hce, Act.eval, Deferred.ofValue, invoke, callFunc, hfn, hname, hbn']
          unfold Oper.wp
          rw [hrun]
          show Calls P f (c.args.map act.eval) w _
          refine hcalls.mono ?_
          rintro e w' ⟨val, β', F', rfl, hv, hA⟩
          exact hK _ _ ⟨⟨β', F', hA, envR_put (envR_mono ha hA) hv hd'⟩, put_size _ _ _, put_defers _ _ _⟩
        | _ => exact notcall (fun _ _ _ _ _ e => by cases e)
    · cases hc
  · cases hc

end
end Go.Proofs.Ytffigokicddekaa.Abs
