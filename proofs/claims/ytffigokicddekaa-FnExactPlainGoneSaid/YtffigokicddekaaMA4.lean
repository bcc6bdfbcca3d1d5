/- From the program's operations to steps over abstract values, and that each says what the operation does. No condition. -/
import Derived.Test.YtffigokicddekaaMA3
import Derived.Laws.StructEq
import Derived.Laws.BytesString
import Derived.Laws.Slices
import Derived.Laws.OwnMore
import Derived.Great.BuildSlice
set_option linter.unusedVariables false
set_option linter.unusedSimpArgs false
namespace Go.Proofs.Ytffigokicddekaa.Abs
open Go

def ofVal : Value → V
  | .int k n => .int k n
  | .bool b => .bool b
  | .string s => .str s
  | .pointer none => .nilp
  | .slice none 0 0 => .nl
  | _ => .unk

theorem ofVal_ok (w : World) (F : Nat → Prop) (β : Ids) (v : Value) : VR w F β (ofVal v) v := by
  unfold ofVal
  split <;> constructor

def opdOf : Operand → Opd
  | .tmp t => .t t
  | .const v => .k (ofVal v)
  | .global _ | .func _ => .k .unk

def EnvR (w : World) (F : Nat → Prop) (β : Ids) (a : Env) (act : Act) : Prop := ∀ t, VR w F β (a t) (act.tmps.getD t undef)

theorem opd_ok {w : World} {F : Nat → Prop} {β : Ids} {a : Env} {act : Act} (h : EnvR w F β a act) (x : Operand) : VR w F β ((opdOf x).ev a) (act.eval x) := by
  cases x with
  | tmp t => exact h t
  | const v => exact ofVal_ok w F β v
  | global g => exact .unk _ _
  | func f => exact .unk _ _

def VRs (w : World) (F : Nat → Prop) (β : Ids) (xs : List V) (vs : List Value) : Prop :=
  xs.length = vs.length ∧ ∀ (j : Nat) x, xs[j]? = some x → VR w F β x (vs.getD j undef)

theorem VRs.nil (w : World) (F : Nat → Prop) (β : Ids) : VRs w F β [] [] := ⟨rfl, fun j x h => by simp at h⟩
theorem VRs.cons {w : World} {F : Nat → Prop} {β : Ids} {x : V} {v : Value} {xs : List V} {vs : List Value} (h : VR w F β x v) (hs : VRs w F β xs vs) : VRs w F β (x :: xs) (v :: vs) := by
  refine ⟨by simp [hs.1], fun j y hy => ?_⟩
  cases j with
  | zero => simp at hy; subst hy; simpa using h
  | succ j => simp at hy; simpa using hs.2 j y hy
theorem VRs.head {w : World} {F : Nat → Prop} {β : Ids} {x : V} {v : Value} {xs : List V} {vs : List Value} (h : VRs w F β (x :: xs) (v :: vs)) : VR w F β x v := by
  simpa using h.2 0 x (by simp)
theorem VRs.tail {w : World} {F : Nat → Prop} {β : Ids} {x : V} {v : Value} {xs : List V} {vs : List Value} (h : VRs w F β (x :: xs) (v :: vs)) : VRs w F β xs vs :=
  ⟨by simpa using h.1, fun j y hy => by simpa using h.2 (j + 1) y (by simpa using hy)⟩
theorem VRs.append {w : World} {F : Nat → Prop} {β : Ids} : ∀ {xs : List V} {vs : List Value} {ys : List V} {us : List Value}, VRs w F β xs vs → VRs w F β ys us → VRs w F β (xs ++ ys) (vs ++ us)
  | [], [], _, _, _, h => h
  | x :: xs, v :: vs, _, _, h, h' => .cons h.head (VRs.append h.tail h')
  | [], _ :: _, _, _, h, _ => absurd h.1 (by simp)
  | _ :: _, [], _, _, h, _ => absurd h.1 (by simp)
theorem VRs.take {w : World} {F : Nat → Prop} {β : Ids} : ∀ (n : Nat) {xs : List V} {vs : List Value}, VRs w F β xs vs → VRs w F β (xs.take n) (vs.take n)
  | 0, _, _, _ => by simpa using VRs.nil w F β
  | n + 1, [], [], h => by simpa using h
  | n + 1, x :: xs, v :: vs, h => by simpa using VRs.cons h.head (VRs.take n h.tail)
  | _ + 1, [], _ :: _, h => absurd h.1 (by simp)
  | _ + 1, _ :: _, [], h => absurd h.1 (by simp)
theorem VRs.drop {w : World} {F : Nat → Prop} {β : Ids} : ∀ (n : Nat) {xs : List V} {vs : List Value}, VRs w F β xs vs → VRs w F β (xs.drop n) (vs.drop n)
  | 0, _, _, h => by simpa using h
  | n + 1, [], [], h => by simpa using h
  | n + 1, x :: xs, v :: vs, h => by simpa using VRs.drop n h.tail
  | _ + 1, [], _ :: _, h => absurd h.1 (by simp)
  | _ + 1, _ :: _, [], h => absurd h.1 (by simp)

theorem VRs.mono {w w' : World} {F F' : Nat → Prop} {β β' : Ids} (hg : Grow F w w') (hF : ∀ b, F b → F' b) (hb : β.le β') {xs : List V} {vs : List Value} (h : VRs w F β xs vs) : VRs w' F' β' xs vs :=
  ⟨h.1, fun j x hx => (h.2 j x hx).mono hg hF β' hb⟩

theorem agg_inv {w : World} {F : Nat → Prop} {β : Ids} {cs : List V} {v : Value} (h : VR w F β (.agg cs) v) : ∃ vs, v = .agg vs ∧ VRs w F β cs vs.toList := by
  cases h with
  | agg _ _ vs hl hr => exact ⟨vs, rfl, by simpa using hl, fun j x hx => by simpa [Array.getD_eq_getD_getElem?, List.getD_eq_getElem?_getD] using hr j x hx⟩
theorem agg_mk {w : World} {F : Nat → Prop} {β : Ids} {cs : List V} {vs : Array Value} (h : VRs w F β cs vs.toList) : VR w F β (.agg cs) (.agg vs) :=
  .agg β cs vs (by simpa using h.1) fun j x hx => by simpa [Array.getD_eq_getD_getElem?, List.getD_eq_getElem?_getD] using h.2 j x hx
theorem tup_inv {w : World} {F : Nat → Prop} {β : Ids} {cs : List V} {v : Value} (h : VR w F β (.tup cs) v) : ∃ vs, v = .tuple vs ∧ VRs w F β cs vs.toList := by
  cases h with
  | tup _ _ vs hl hr => exact ⟨vs, rfl, by simpa using hl, fun j x hx => by simpa [Array.getD_eq_getD_getElem?, List.getD_eq_getElem?_getD] using hr j x hx⟩
theorem tup_mk {w : World} {F : Nat → Prop} {β : Ids} {cs : List V} {vs : Array Value} (h : VRs w F β cs vs.toList) : VR w F β (.tup cs) (.tuple vs) :=
  .tup β cs vs (by simpa using h.1) fun j x hx => by simpa [Array.getD_eq_getD_getElem?, List.getD_eq_getElem?_getD] using h.2 j x hx

theorem cell_one {w : World} {F : Nat → Prop} {β : Ids} {x : V} {v : Value} (hc : x.cell = true) (h : VR w F β x v) : v.oneCell' = true ∧ v.cells = #[v] := by
  cases h <;> simp_all [V.cell, Value.oneCell', Value.cells]

theorem cells_ok {w : World} {F : Nat → Prop} {β : Ids} {x : V} {v : Value} {cs : List V} (hc : x.cells = some cs) (h : VR w F β x v) :
    VRs w F β cs v.cells.toList ∧ ∀ u ∈ v.cells.toList, u.oneCell' = true := by
  have scalar : x.cell = true → cs = [x] → VRs w F β cs v.cells.toList ∧ ∀ u ∈ v.cells.toList, u.oneCell' = true := by
    intro hx e
    obtain ⟨h1, h2⟩ := cell_one hx h
    subst e
    rw [h2]
    exact ⟨.cons h (.nil _ _ _), by simpa using h1⟩
  cases x <;> simp only [V.cells, Option.some.injEq, reduceCtorEq] at hc
  case agg ds =>
    split at hc
    · rename_i hall
      cases hc
      obtain ⟨vs, rfl, hv⟩ := agg_inv h
      refine ⟨hv, fun u hu => ?_⟩
      obtain ⟨j, hj, e⟩ := List.getElem_of_mem hu
      have hj' : j < cs.length := by rw [hv.1]; simpa [Value.cells] using hj
      have hcell : (cs[j]).cell = true := by
        have := List.all_eq_true.1 hall cs[j] (List.getElem_mem hj')
        exact this
      have hr := hv.2 j cs[j] (List.getElem?_eq_getElem hj')
      have hget : vs.toList.getD j undef = u := by
        simp only [Value.cells] at e hj
        rw [List.getD_eq_getElem?_getD, List.getElem?_eq_getElem hj]; simpa using e
      rw [hget] at hr
      exact (cell_one hcell hr).1
    · cases hc
  all_goals exact scalar rfl hc.symm

theorem one_ok {w : World} {F : Nat → Prop} {β : Ids} {ag : Bool} {cs : List V} {vs : List Value} {x : V} (ho : one ag cs = some x) (h : VRs w F β cs vs) :
    (ag = true ∧ VR w F β x (.agg vs.toArray)) ∨ (ag = false ∧ ∃ v, vs = [v] ∧ VR w F β x v) := by
  unfold one at ho
  cases ag with
  | true => simp at ho; subst ho; exact .inl ⟨rfl, agg_mk (by simpa using h)⟩
  | false =>
    simp only [Bool.false_eq_true, if_false] at ho
    split at ho
    · cases ho
      match vs, h with
      | [v], h => exact .inr ⟨rfl, v, rfl, h.head⟩
      | [], h => exact absurd h.1 (by simp)
      | _ :: _ :: _, h => exact absurd h.1 (by simp)
    · cases ho

/-- what an operation's run must come to -/
def StepOk (r : Result Next) (σ' : Store) (β : Ids) (F : Nat → Prop) (w : World) (v : V) : Prop :=
  ∃ val w' β', (r = .ok (.value val) w' ∨ (r = .ok .skip w' ∧ val = undef)) ∧ VR w' F β' v val ∧ After σ' β β' F F w w'

theorem StepOk.pure {r : Result Next} {σ : Store} {β : Ids} {F : Nat → Prop} {w : World} {v : V} {val : Value} (hr : Rel σ β F w) (h : r = .ok (.value val) w) (hv : VR w F β v val) : StepOk r σ β F w v :=
  ⟨val, w, β, .inl h, hv, .refl hr⟩

end Go.Proofs.Ytffigokicddekaa.Abs
