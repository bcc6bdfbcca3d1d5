/- The laws' arguments, opened: what their types say of them. No condition. -/
import Derived.Test.YtffigokicddekaaMM0
set_option linter.unusedVariables false
set_option linter.unusedSimpArgs false
set_option maxRecDepth 10000
namespace Go.Proofs.Ytffigokicddekaa.Abs
open Go Go.Proofs
theorem reach_big : reachBytes ≤ big := of_decide_eq_true (by kernel_rfl)
theorem slice_of {α : Type} {c : α → List V} {ok : α → Prop} {P : Program} {t e : TypeId} {s : Nat} {ys : List V} (hu : P.underlying t = some (.slice e)) (one : ∀ l, HasT P e l → ∃ a, l = c a ∧ ok a) (hc : P.cellsOf e = s) (hb : Nat.ble 1 (P.bytesOf e) = true) (h : HasT P t ys) :
    ∃ xs, ys = [.fz s (rw_ c xs)] ∧ okS ok xs := by
  obtain ⟨es, rfl, h1, h2⟩ := h.slice_inv hu
  have key : ∀ es : List (List V), (∀ l ∈ es, HasT P e l) → ∃ xs, es = rw_ c xs ∧ ∀ a ∈ xs, ok a := by
    intro es
    induction es with
    | nil => exact fun _ => ⟨[], rfl, fun a h => by simp at h⟩
    | cons l es ih =>
      intro hh
      obtain ⟨a, rfl, ha⟩ := one l (hh l (by simp))
      obtain ⟨xs, rfl, hx⟩ := ih fun l hl => hh l (by simp [hl])
      exact ⟨a :: xs, rfl, by simpa using ⟨ha, hx⟩⟩
  obtain ⟨xs, rfl, hx⟩ := key es h1
  refine ⟨xs, by rw [hc], ?_, hx⟩
  have hb' := Nat.le_of_ble_eq_true hb
  have h3 : (rw_ c xs).length ≤ (rw_ c xs).length * P.bytesOf e := Nat.le_mul_of_pos_right _ hb'
  have h4 : (rw_ c xs).length = xs.length := by simp [rw_]
  have := reach_big
  omega
theorem Int_of {ys : List V} (h : HasT Try.prog 3 ys) : ∃ n, ys = intC n ∧ noOk n := by
  obtain ⟨n, h, _⟩ := h.int_inv Try.underlying3
  exact ⟨n, h, trivial⟩
theorem Entry_of {ys : List V} (h : HasT Try.prog 167 ys) : ∃ a : Entry, ys = a.c ∧ Entry.ok a := by
  have h0 := h.struct_inv Try.underlying167
  obtain ⟨y1, z1, e1, a1, h1⟩ := HasTs.cons_inv h0
  obtain ⟨y2, z2, e2, a2, h2⟩ := HasTs.cons_inv h1
  obtain ⟨y3, z3, e3, a3, h3⟩ := HasTs.cons_inv h2
  obtain ⟨y4, z4, e4, a4, h4⟩ := HasTs.cons_inv h3
  obtain ⟨y5, z5, e5, a5, h5⟩ := HasTs.cons_inv h4
  have e0 := HasTs.nil_inv h5
  obtain ⟨v1, w1, -⟩ := a1.int_inv Try.underlying3
  obtain ⟨v2, w2, -⟩ := a2.int_inv Try.underlying3
  obtain ⟨v3, w3, -⟩ := a3.int_inv Try.underlying3
  obtain ⟨v4, w4, -⟩ := a4.int_inv Try.underlying3
  obtain ⟨v5, w5, k5⟩ := a5.str_inv Try.underlying9
  subst w1 w2 w3 w4 w5
  subst e0 e5 e4 e3 e2 e1
  exact ⟨⟨v1, v2, v3, v4, v5⟩, rfl, (by unfold Entry.ok; exact Nat.le_trans k5 reach_big)⟩
theorem Item_of {ys : List V} (h : HasT Try.prog 169 ys) : ∃ a : Item, ys = a.c ∧ Item.ok a := by
  have h0 := h.struct_inv Try.underlying169
  obtain ⟨y1, z1, e1, a1, h1⟩ := HasTs.cons_inv h0
  obtain ⟨y2, z2, e2, a2, h2⟩ := HasTs.cons_inv h1
  have e0 := HasTs.nil_inv h2
  obtain ⟨v1, w1, -⟩ := a1.int_inv Try.underlying3
  obtain ⟨v2, w2, k2⟩ := Entry_of a2
  subst w1 w2
  subst e0 e2 e1
  exact ⟨⟨v1, v2⟩, rfl, k2⟩
theorem ItemS_of {ys : List V} (h : HasT Try.prog 47 ys) : ∃ xs, ys = [.fz 6 (rw_ Item.c xs)] ∧ okS Item.ok xs :=
  slice_of Try.underlying47 (fun l hl => Item_of hl) (by kernel_rfl) (by kernel_rfl) h
theorem Floor_of {ys : List V} (h : HasT Try.prog 172 ys) : ∃ a : Floor, ys = a.c ∧ noOk a := by
  have h0 := h.struct_inv Try.underlying172
  obtain ⟨y1, z1, e1, a1, h1⟩ := HasTs.cons_inv h0
  obtain ⟨y2, z2, e2, a2, h2⟩ := HasTs.cons_inv h1
  have e0 := HasTs.nil_inv h2
  obtain ⟨v1, w1, -⟩ := a1.int_inv Try.underlying3
  obtain ⟨v2, w2, -⟩ := a2.int_inv Try.underlying3
  subst w1 w2
  subst e0 e2 e1
  exact ⟨⟨v1, v2⟩, rfl, trivial⟩
theorem FloorS_of {ys : List V} (h : HasT Try.prog 48 ys) : ∃ xs, ys = [.fz 2 (rw_ Floor.c xs)] ∧ okS noOk xs :=
  slice_of Try.underlying48 (fun l hl => Floor_of hl) (by kernel_rfl) (by kernel_rfl) h
theorem State_of {ys : List V} (h : HasT Try.prog 50 ys) : ∃ a : State, ys = a.c ∧ State.ok a := by
  have h0 := h.struct_inv Try.underlying50
  obtain ⟨y1, z1, e1, a1, h1⟩ := HasTs.cons_inv h0
  obtain ⟨y2, z2, e2, a2, h2⟩ := HasTs.cons_inv h1
  have e0 := HasTs.nil_inv h2
  obtain ⟨v1, w1, k1⟩ := ItemS_of a1
  obtain ⟨v2, w2, k2⟩ := FloorS_of a2
  subst w1 w2
  subst e0 e2 e1
  exact ⟨⟨v1, v2⟩, rfl, ⟨k1, k2.1⟩⟩
theorem StateS_of {ys : List V} (h : HasT Try.prog 33 ys) : ∃ xs, ys = [.fz 2 (rw_ State.c xs)] ∧ okS State.ok xs :=
  slice_of Try.underlying33 (fun l hl => State_of hl) (by kernel_rfl) (by kernel_rfl) h
theorem IntS_of {ys : List V} (h : HasT Try.prog 22 ys) : ∃ xs, ys = [.fz 1 (rw_ intC xs)] ∧ okS noOk xs :=
  slice_of Try.underlying22 (fun l hl => Int_of hl) (by kernel_rfl) (by kernel_rfl) h
theorem Tree_of {ys : List V} (h : HasT Try.prog 46 ys) : ∃ a : Tree, ys = a.c ∧ Tree.ok a := by
  have h0 := h.struct_inv Try.underlying46
  obtain ⟨y1, z1, e1, a1, h1⟩ := HasTs.cons_inv h0
  obtain ⟨y2, z2, e2, a2, h2⟩ := HasTs.cons_inv h1
  have e0 := HasTs.nil_inv h2
  obtain ⟨v1, w1, k1⟩ := IntS_of a1
  obtain ⟨v2, w2, -⟩ := a2.int_inv Try.underlying3
  subst w1 w2
  subst e0 e2 e1
  exact ⟨⟨v1, v2⟩, rfl, k1.1⟩
theorem Mark_of {ys : List V} (h : HasT Try.prog 145 ys) : ∃ a : Mark, ys = a.c ∧ noOk a := by
  have h0 := h.struct_inv Try.underlying145
  obtain ⟨y1, z1, e1, a1, h1⟩ := HasTs.cons_inv h0
  obtain ⟨y2, z2, e2, a2, h2⟩ := HasTs.cons_inv h1
  have e0 := HasTs.nil_inv h2
  obtain ⟨v1, w1, -⟩ := a1.int_inv Try.underlying3
  obtain ⟨v2, w2, -⟩ := a2.int_inv Try.underlying3
  subst w1 w2
  subst e0 e2 e1
  exact ⟨⟨v1, v2⟩, rfl, trivial⟩
theorem MarkS_of {ys : List V} (h : HasT Try.prog 51 ys) : ∃ xs, ys = [.fz 2 (rw_ Mark.c xs)] ∧ okS noOk xs :=
  slice_of Try.underlying51 (fun l hl => Mark_of hl) (by kernel_rfl) (by kernel_rfl) h
theorem Msg_of {ys : List V} (h : HasT Try.prog 53 ys) : ∃ a : Msg, ys = a.c ∧ Msg.ok a := by
  have h0 := h.struct_inv Try.underlying53
  obtain ⟨y1, z1, e1, a1, h1⟩ := HasTs.cons_inv h0
  obtain ⟨y2, z2, e2, a2, h2⟩ := HasTs.cons_inv h1
  obtain ⟨y3, z3, e3, a3, h3⟩ := HasTs.cons_inv h2
  obtain ⟨y4, z4, e4, a4, h4⟩ := HasTs.cons_inv h3
  obtain ⟨y5, z5, e5, a5, h5⟩ := HasTs.cons_inv h4
  obtain ⟨y6, z6, e6, a6, h6⟩ := HasTs.cons_inv h5
  obtain ⟨y7, z7, e7, a7, h7⟩ := HasTs.cons_inv h6
  obtain ⟨y8, z8, e8, a8, h8⟩ := HasTs.cons_inv h7
  obtain ⟨y9, z9, e9, a9, h9⟩ := HasTs.cons_inv h8
  obtain ⟨y10, z10, e10, a10, h10⟩ := HasTs.cons_inv h9
  have e0 := HasTs.nil_inv h10
  obtain ⟨v1, w1, -⟩ := a1.int_inv Try.underlying3
  obtain ⟨v2, w2, -⟩ := a2.int_inv Try.underlying3
  obtain ⟨v3, w3, -⟩ := a3.int_inv Try.underlying3
  obtain ⟨v4, w4, -⟩ := a4.int_inv Try.underlying3
  obtain ⟨v5, w5, -⟩ := a5.int_inv Try.underlying3
  obtain ⟨v6, w6, k6⟩ := Tree_of a6
  obtain ⟨v7, w7, k7⟩ := IntS_of a7
  obtain ⟨v8, w8, k8⟩ := IntS_of a8
  obtain ⟨v9, w9, k9⟩ := State_of a9
  obtain ⟨v10, w10, k10⟩ := MarkS_of a10
  subst w1 w2 w3 w4 w5 w6 w7 w8 w9 w10
  subst e0 e10 e9 e8 e7 e6 e5 e4 e3 e2 e1
  exact ⟨⟨v1, v2, v3, v4, v5, v6, v7, v8, v9, v10⟩, rfl, ⟨k6, k7.1, k8.1, k9, k10.1⟩⟩
end Go.Proofs.Ytffigokicddekaa.Abs
