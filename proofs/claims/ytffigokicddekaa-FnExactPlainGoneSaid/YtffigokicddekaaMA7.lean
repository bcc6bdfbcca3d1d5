/- Operators, struct equality, conversions, len, min, max, tuples. No condition. -/
import Derived.Test.YtffigokicddekaaMA6
set_option linter.unusedVariables false
set_option linter.unusedSimpArgs false
namespace Go.Proofs.Ytffigokicddekaa.Abs
open Go

theorem list_beq_bytes (x y : ByteArray) : (x.toList == y.toList) = decide (x = y) := by
  have h : x.toList = y.toList ↔ x = y := by
    rw [ByteArray.toList_eq, ByteArray.toList_eq]
    obtain ⟨⟨x⟩⟩ := x
    obtain ⟨⟨y⟩⟩ := y
    simp
  by_cases e : x = y
  · subst e; simp
  · have : ¬ x.toList = y.toList := fun h' => e (h.1 h')
    simp [e, this]

/-- the model's value of a scalar -/
def valOf : V → Value
  | .int k n => .int k n
  | .bool b => .bool b
  | .str s => .string s
  | _ => undef
def scalar : V → Bool
  | .int _ _ | .bool _ | .str _ => true
  | _ => false
theorem valOf_ok {x : V} (h : scalar x = true) (w : World) (F : Nat → Prop) (β : Ids) : VR w F β x (valOf x) := by
  cases x <;> simp [scalar] at h <;> constructor

section
variable {P : Program} {σ : Store} {β : Ids} {F : Nat → Prop} {w : World} {a : Env} {act : Act}

theorem eqGuard_scalar (op : BinOp) (t : TypeId) (x y : Operand) {u v : Value} (hu : (∃ k n, u = .int k n) ∨ (∃ b, u = .bool b) ∨ (∃ s, u = .string s)) : (eqGuard op t x y u v).run P w = .ok () w := by
  rcases hu with ⟨k, n, rfl⟩ | ⟨b, rfl⟩ | ⟨s, rfl⟩ <;> cases op <;> cases v <;> simp [eqGuard]

theorem intBin_run (op : BinOp) (t : TypeId) (k : IntKind) (m n : Int) {v : V} (h1 : op ≠ .shl) (h2 : op ≠ .shr) (hv : intBin op k m n = some v) :
    scalar v = true ∧ (binOp op t (.int k m) (.int k n)).run P w = .ok (valOf v) w := by
  cases op <;> simp only [intBin, Option.some.injEq, reduceCtorEq, ne_eq, not_true_eq_false] at hv h1 h2
  case quo => split at hv; · cases hv
              · rename_i hn; cases hv; exact ⟨rfl, by simp [binOp, Op.intDiv, hn, valOf]⟩
  case rem => split at hv; · cases hv
              · rename_i hn; cases hv; exact ⟨rfl, by simp [binOp, Op.intDiv, hn, valOf]⟩
  all_goals
    subst hv
    refine ⟨rfl, ?_⟩
    simp [binOp, Op.intArith, Op.intBits, Op.intCmp, valOf]
  all_goals rfl

theorem strBin_run (op : BinOp) (t : TypeId) (s1 s2 : ByteArray) {v : V} (hv : strBin op s1 s2 = some v) :
    scalar v = true ∧ (binOp op t (.string s1) (.string s2)).run P w = .ok (valOf v) w := by
  cases op <;> simp only [strBin, Option.some.injEq, reduceCtorEq] at hv
  case add =>
    split at hv
    · rename_i hsz
      cases hv
      have : ¬ (9223372036854775807 : Int) < (s1.size : Int) + (s2.size : Int) := by omega
      exact ⟨rfl, by simp [binOp, Op.stringOp, this, valOf]⟩
    · cases hv
  all_goals
    subst hv
    refine ⟨rfl, ?_⟩
    simp [binOp, Op.stringOp, valOf, list_beq_bytes]

theorem bin_ok (ha : EnvR w F β a act) {op : BinOp} {t : TypeId}
    {x y : Operand} {v : V} {σ' : Store} (h : astep (.bin op (opdOf x) (opdOf y)) a σ = some (v, σ')) :
    σ' = σ ∧ ∃ val, (do eqGuard op t x y (act.eval x) (act.eval y); binOp op t (act.eval x) (act.eval y)).run P w = .ok val w ∧ VR w F β v val := by
  have hx := opd_ok ha x
  have hy := opd_ok ha y
  simp only [astep, Option.map_eq_some_iff, Prod.mk.injEq] at h
  obtain ⟨v', hv, rfl, rfl⟩ := h
  refine ⟨rfl, ?_⟩
  generalize hxe : act.eval x = av at hx
  generalize hye : act.eval y = bv at hy
  unfold binV at hv
  split at hv
  · rename_i k m k' n hop1 hop2
    rw [hop1] at hx; rw [hop2] at hy
    cases hx; cases hy
    have hg := fun op => eqGuard_scalar (P := P) (w := w) op t x y (u := .int k m) (v := .int k' n) (.inl ⟨_, _, rfl⟩)
    split at hv
    · split at hv
      · cases hv
      · rename_i hn
        cases hv
        exact ⟨_, by simp [hg, binOp, Op.shift, hn], .int _ _ _⟩
    · split at hv
      · cases hv
      · rename_i hn
        cases hv
        exact ⟨_, by simp [hg, binOp, Op.shift, hn], .int _ _ _⟩
    · rename_i n1 n2
      split at hv
      · rename_i hk
        subst hk
        obtain ⟨hs, hrun⟩ := intBin_run (P := P) (w := w) op t k m n (fun e => n1 e) (fun e => n2 e) hv
        exact ⟨_, by simp [hg, hrun], valOf_ok hs _ _ _⟩
      · cases hv
  · rename_i s1 s2 hop1 hop2
    rw [hop1] at hx; rw [hop2] at hy
    cases hx; cases hy
    have hg := fun op => eqGuard_scalar (P := P) (w := w) op t x y (u := .string s1) (v := .string s2) (.inr (.inr ⟨_, rfl⟩))
    obtain ⟨hs, hrun⟩ := strBin_run (P := P) (w := w) op t s1 s2 hv
    exact ⟨_, by simp [hg, hrun], valOf_ok hs _ _ _⟩
  · cases hv


theorem beq_ok (ha : EnvR w F β a act) {neg : Bool} {t : TypeId} (hu : P.underlying t = some .bool)
    {x y : Operand} {v : V} {σ' : Store} (h : astep (.beq neg (opdOf x) (opdOf y)) a σ = some (v, σ')) :
    σ' = σ ∧ ∃ val, (do eqGuard (if neg then .neq else .eql) t x y (act.eval x) (act.eval y); binOp (if neg then .neq else .eql) t (act.eval x) (act.eval y)).run P w = .ok val w ∧ VR w F β v val := by
  have hx := opd_ok ha x
  have hy := opd_ok ha y
  simp only [astep] at h
  split at h
  · rename_i p q hop1 hop2
    rw [hop1] at hx; rw [hop2] at hy
    cases h
    refine ⟨rfl, ?_⟩
    generalize hxe : act.eval x = av at hx
    generalize hye : act.eval y = bv at hy
    cases hx; cases hy
    have hg := fun op => eqGuard_scalar (P := P) (w := w) op t x y (u := .bool p) (v := .bool q) (.inr (.inl ⟨_, rfl⟩))
    refine ⟨_, ?_, .bool _ _⟩
    cases neg
    · simp only [Sem.run_bind, hg, Result.andThen_ok, Bool.false_eq_true, if_false]
      rw [run_eql_bool w t p q hu]; cases p <;> cases q <;> rfl
    · simp only [Sem.run_bind, hg, Result.andThen_ok, if_true]
      rw [run_neq_bool w t p q hu]; cases p <;> cases q <;> rfl
  · cases h

/-- the type's values can be held against each other cell by cell: the cells' kinds -/
def eqFs (P : Program) (ok : TypeId → Option (List Nat)) : List Field → Nat → Option (List Nat)
  | [], _ => some []
  | f :: fs, off =>
    if f.name ≠ "_" ∧ f.offset = off then
      match ok f.type with
      | some ks => if sz P f.type = some ks.length then (eqFs P ok fs (off + ks.length)).map (ks ++ ·) else none
      | none => none
    else none
def eqT (P : Program) : Nat → TypeId → Option (List Nat)
  | 0, _ => none
  | d + 1, t =>
    match P.underlying t with
    | some (.int _) => some [0]
    | some .bool => some [1]
    | some .string => some [2]
    | some (.struct fs) => if P.stoodInHeld t then none else eqFs P (eqT P d) fs.toList 0
    | _ => none

theorem cellsEq_len : ∀ {ks : List Nat} {xs ys : List V} {b : Bool}, cellsEq ks xs ys = some b → xs.length = ks.length ∧ ys.length = ks.length
  | [], [], [], _, _ => ⟨rfl, rfl⟩
  | k :: ks, x :: xs, y :: ys, b, h => by
    simp only [cellsEq] at h
    split at h
    · rename_i a c ha hc
      simp [cellsEq_len hc]
    · cases h
  | [], [], _ :: _, b, h => by simp [cellsEq] at h
  | [], _ :: _, _, b, h => by simp [cellsEq] at h
  | _ :: _, [], _, b, h => by simp [cellsEq] at h
  | _ :: _, _ :: _, [], b, h => by simp [cellsEq] at h

theorem cellsEq_split : ∀ {ks ks' : List Nat} {xs ys : List V} {b : Bool}, cellsEq (ks ++ ks') xs ys = some b →
    ∃ b1 b2, cellsEq ks (xs.take ks.length) (ys.take ks.length) = some b1 ∧ cellsEq ks' (xs.drop ks.length) (ys.drop ks.length) = some b2 ∧ b = (b1 && b2)
  | [], ks', xs, ys, b, h => ⟨true, b, by simp [cellsEq], by simpa using h, by simp⟩
  | k :: ks, ks', x :: xs, y :: ys, b, h => by
    simp only [List.cons_append, cellsEq] at h
    split at h
    · rename_i a c ha hc
      cases h
      obtain ⟨b1, b2, h1, h2, h3⟩ := cellsEq_split hc
      exact ⟨a && b1, b2, by simp [cellsEq, ha, h1], by simpa using h2, by rw [h3, Bool.and_assoc]⟩
    · cases h
  | _ :: _, _, [], _, b, h => by simp [cellsEq] at h
  | _ :: _, _, _ :: _, [], b, h => by simp [cellsEq] at h

/-- THE LAW OF EQUALITY: what the model answers at two values that stand in cells is what the cells say. -/
theorem equal_part (d : Nat) : ∀ (D : Nat) (t : TypeId) (ks : List Nat), d ≤ D → eqT P d t = some ks → sz P t = some ks.length → ∀ (xs ys : List V) (vx vy : Array Value) (off : Nat) (b : Bool),
    VRs w F β xs (vx.toList.drop off |>.take ks.length) → VRs w F β ys (vy.toList.drop off |>.take ks.length) → cellsEq ks xs ys = some b →
    (do let u ← part t vx off; let v ← part t vy off; Op.equalIn D t u v).run P w = .ok b w := by
  induction d with
  | zero => intro D t ks _ hE; simp [eqT] at hE
  | succ d ih =>
    intro D t ks hD hE hsz xs ys vx vy off b hx hy hb
    obtain ⟨D, rfl⟩ : ∃ D', D = D' + 1 := ⟨D - 1, by omega⟩
    have single : ∀ dd (kk : Nat), P.underlying t = some dd → aggD dd = false → ks = [kk] →
        ∃ x y u v, xs = [x] ∧ ys = [y] ∧ scalarEq kk x y = some b ∧ VR w F β x u ∧ VR w F β y v ∧ (do let u ← part t vx off; let v ← part t vy off; Op.equalIn (D + 1) t u v).run P w = (Op.equalIn (D + 1) t u v).run P w := by
      intro dd kk hd hag hks
      subst hks
      obtain ⟨l1, l2⟩ := cellsEq_len hb
      match xs, ys, l1, l2 with
      | [x], [y], _, _ =>
        have hlx : off < vx.size := by have := hx.1; simp at this; omega
        have hly : off < vy.size := by have := hy.1; simp at this; omega
        have h1 : VR w F β x vx[off] := by simpa [List.getD_eq_getElem?_getD, List.getElem?_take, List.getElem?_drop, hlx] using hx.2 0 x rfl
        have h2 : VR w F β y vy[off] := by simpa [List.getD_eq_getElem?_getD, List.getElem?_take, List.getElem?_drop, hly] using hy.2 0 y rfl
        refine ⟨x, y, _, _, rfl, rfl, ?_, h1, h2, ?_⟩
        · simp only [cellsEq] at hb
          split at hb
          · rename_i a c ha hc; cases hc; simpa [ha] using hb
          · cases hb
        · cases dd <;> simp [aggD] at hag <;> simp [part, isAgg, run_underlying hd, hlx, hly]
    simp only [eqT] at hE
    split at hE
    · rename_i k hu
      cases hE
      obtain ⟨x, y, u, v, rfl, rfl, hs, h1, h2, hrun⟩ := single _ 0 hu rfl rfl
      rw [hrun]
      unfold scalarEq at hs
      split at hs
      · split at hs
        · rename_i hk
          obtain ⟨_, rfl⟩ := hk
          cases hs; cases h1; cases h2
          rw [run_equalIn_int w D t _ _ _ _ hu]; rfl
        · cases hs
      · split at hs
        · rename_i hk; cases hk
        · cases hs
      · split at hs
        · rename_i hk; cases hk
        · cases hs
      · cases hs
    · rename_i hu
      cases hE
      obtain ⟨x, y, u, v, rfl, rfl, hs, h1, h2, hrun⟩ := single _ 1 hu rfl rfl
      rw [hrun]
      unfold scalarEq at hs
      split at hs
      · split at hs
        · rename_i hk; cases hk.1
        · cases hs
      · simp at hs
        subst hs
        rename_i p q
        cases h1; cases h2
        rw [run_equalIn_bool' w D t _ _ hu]; cases p <;> cases q <;> rfl
      · split at hs
        · rename_i hk; cases hk
        · cases hs
      · cases hs
    · rename_i hu
      cases hE
      obtain ⟨x, y, u, v, rfl, rfl, hs, h1, h2, hrun⟩ := single _ 2 hu rfl rfl
      rw [hrun]
      unfold scalarEq at hs
      split at hs
      · split at hs
        · rename_i hk; cases hk.1
        · cases hs
      · split at hs
        · rename_i hk; cases hk
        · cases hs
      · simp at hs
        subst hs
        cases h1; cases h2
        rw [run_equalIn_string w D t _ _ hu, list_beq_bytes]
      · cases hs
    · rename_i fs hu
      split at hE
      · cases hE
      · rename_i hst
        unfold sz at hsz
        cases hi : P.info? t with
        | none => simp [hi] at hsz
        | some i =>
          simp [hi] at hsz
          have hfs : P.fieldsOf t = fs := by simp [Program.fieldsOf, hu]
          have hp : ∀ (vv : Array Value), (part t vv off).run P w = .ok (.agg (vv.toList.drop off |>.take ks.length).toArray) w := by
            intro vv
            have hex : vv.extract off (off + ks.length) = (vv.toList.drop off |>.take ks.length).toArray := by
              apply Array.ext'
              simp [List.drop_take]
            simp [part, isAgg, run_underlying hu, sizeOf, typeInfo, hi, hsz, hex]
          have hst' : P.stoodInHeld t = false := by simpa using hst
          simp only [Sem.run_bind, hp, Result.andThen_ok]
          rw [run_equalIn_struct w D t _ _ (by rw [hfs]; exact hu) hst', hfs]
          generalize hvx : (vx.toList.drop off |>.take ks.length) = lx at hx
          generalize hvy : (vy.toList.drop off |>.take ks.length) = ly at hy
          have key : ∀ (fl : List Field) (k2 : List Nat) (o : Nat) (b : Bool), eqFs P (eqT P d) fl o = some k2 → ∀ (xs ys : List V), VRs w F β xs ((lx.drop o).take k2.length) → VRs w F β ys ((ly.drop o).take k2.length) →
              cellsEq k2 xs ys = some b → (Op.eqFields D lx.toArray ly.toArray fl).run P w = .ok b w := by
            intro fl
            induction fl with
            | nil =>
              intro k2 o b hk xs ys hx hy hc
              simp [eqFs] at hk
              subst hk
              obtain ⟨l1, l2⟩ := cellsEq_len hc
              match xs, ys, l1, l2 with
              | [], [], _, _ => simp [cellsEq] at hc; subst hc; simp [Op.eqFields]
            | cons f fl ihf =>
              intro k2 o b hk xs ys hx hy hc
              simp only [eqFs] at hk
              split at hk
              · rename_i hn
                split at hk
                · rename_i k1 hk1
                  split at hk
                  · rename_i hs1
                    simp only [Option.map_eq_some_iff] at hk
                    obtain ⟨k3, hk3, rfl⟩ := hk
                    obtain ⟨b1, b2, hb1, hb2, rfl⟩ := cellsEq_split hc
                    have e1 : ((lx.drop o).take (k1 ++ k3).length).take k1.length = (lx.drop o).take k1.length := by rw [List.take_take]; congr 1; simp
                    have e1' : ((ly.drop o).take (k1 ++ k3).length).take k1.length = (ly.drop o).take k1.length := by rw [List.take_take]; congr 1; simp
                    have e2 : ((lx.drop o).take (k1 ++ k3).length).drop k1.length = (lx.drop (o + k1.length)).take k3.length := by rw [List.drop_take, List.drop_drop]; congr 1; simp
                    have e2' : ((ly.drop o).take (k1 ++ k3).length).drop k1.length = (ly.drop (o + k1.length)).take k3.length := by rw [List.drop_take, List.drop_drop]; congr 1; simp
                    have hx1 := VRs.take k1.length hx
                    have hy1 := VRs.take k1.length hy
                    have hx2 := VRs.drop k1.length hx
                    have hy2 := VRs.drop k1.length hy
                    rw [e1] at hx1; rw [e1'] at hy1; rw [e2] at hx2; rw [e2'] at hy2
                    have hone := ih D f.type k1 (by omega) hk1 hs1 _ _ lx.toArray ly.toArray f.offset b1 (by rw [hn.2]; exact hx1) (by rw [hn.2]; exact hy1) hb1
                    have hrest := ihf k3 (o + k1.length) b2 hk3 _ _ hx2 hy2 hb2
                    simp only [Op.eqFields, hn.1, ne_eq, not_false_eq_true, if_true]
                    simp only [Sem.run_bind] at hone ⊢
                    generalize (part f.type lx.toArray f.offset).run P w = r1 at hone ⊢
                    cases r1 with
                    | ok u w1 =>
                      simp only [Result.andThen_ok] at hone ⊢
                      generalize (part f.type ly.toArray f.offset).run P w1 = r2 at hone ⊢
                      cases r2 with
                      | ok v w2 =>
                        simp only [Result.andThen_ok] at hone ⊢
                        rw [hone]
                        cases b1
                        · simp
                        · simpa using hrest
                      | halt h w2 => simp at hone
                    | halt h w1 => simp at hone
                  · cases hk
                · cases hk
              · cases hk
          refine key fs.toList ks 0 b hE xs ys ?_ ?_ hb
          · rw [List.drop_zero, ← hvx, List.take_take, Nat.min_self, hvx]; exact hx
          · rw [List.drop_zero, ← hvy, List.take_take, Nat.min_self, hvy]; exact hy
    · cases hE

end
end Go.Proofs.Ytffigokicddekaa.Abs
