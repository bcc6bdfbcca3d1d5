/- A row's arguments, opened: what their types say of them, and how they stand in the world. No condition. -/
import Derived.Test.YtffigokicddekaaMA23
import Derived.ChangeArms
import Derived.SizedLaws
set_option linter.unusedVariables false
set_option linter.unusedSimpArgs false
namespace Go.Proofs.Ytffigokicddekaa.Abs
open Go

mutual
/-- the cells of a value of the type t -/
inductive HasT (P : Program) : TypeId → List V → Prop where
  | int (t : TypeId) (k : IntKind) (n : Int) : P.underlying t = some (.int k) → (Lit.int k n).wf = true → HasT P t [.int k n]
  | bool (t : TypeId) (b : Bool) : P.underlying t = some .bool → HasT P t [.bool b]
  | str (t : TypeId) (s : ByteArray) : P.underlying t = some .string → s.size ≤ reachBytes → HasT P t [.str s]
  | fz (t e : TypeId) (es : List (List V)) : P.underlying t = some (.slice e) → (∀ l ∈ es, HasT P e l) → es.length * P.bytesOf e ≤ reachBytes → HasT P t [.fz (P.cellsOf e) es]
  | struct (t : TypeId) (fs : Array Field) (xs : List V) : P.underlying t = some (.struct fs) → HasTs P (fs.toList.map (·.type)) xs → HasT P t xs
inductive HasTs (P : Program) : List TypeId → List V → Prop where
  | nil : HasTs P [] []
  | cons (t : TypeId) (ts : List TypeId) (xs ys : List V) : HasT P t xs → HasTs P ts ys → HasTs P (t :: ts) (xs ++ ys)
end

def tiles (P : Program) : List Field → Nat → Nat → Bool
  | [], o, m => o == m
  | f :: fs, o, m => f.offset == o && tiles P fs (o + P.cellsOf f.type) m

/-- a type made of whole numbers, bools, strings, slices and structs, laid out in a row -/
def okT (P : Program) : Nat → TypeId → Bool
  | 0, _ => false
  | n + 1, t => match P.underlying t with
    | some (.int _) | some .bool | some .string => P.cellsOf t == 1
    | some (.slice e) => P.cellsOf t == 1 && decide (0 < P.cellsOf e) && okT P n e
    | some (.struct fs) => tiles P fs.toList 0 (P.cellsOf t) && fs.toList.all fun f => okT P n f.type
    | _ => false

section
variable {H : Type} {enc : TypeId × Value → H} {P : Program} {w : World} {spare : Nat → Bool} {held : Bool} {F : Nat → Prop}

def Opened (P : Program) (w : World) (F : Nat → Prop) (t : TypeId) (cs : List Value) : Prop :=
  ∃ xs, HasT P t xs ∧ (∀ β, VRs w F β xs cs) ∧ (∀ u ∈ cs, u.oneCell' = true) ∧ cs.length = P.cellsOf t

theorem vrs_app {β : Ids} {xs ys : List V} {us vs : List Value} (h : VRs w F β xs us) (k : VRs w F β ys vs) : VRs w F β (xs ++ ys) (us ++ vs) := by
  refine ⟨by simp [h.1, k.1], fun j x hx => ?_⟩
  rcases Nat.lt_or_ge j xs.length with h1 | h1
  · rw [List.getElem?_append_left h1] at hx
    have := h.2 j x hx
    rw [List.getD_eq_getElem?_getD] at this ⊢
    rw [List.getElem?_append_left (by rw [← h.1]; exact h1)]
    exact this
  · rw [List.getElem?_append_right h1] at hx
    have := k.2 (j - xs.length) x hx
    rw [List.getD_eq_getElem?_getD] at this ⊢
    rw [List.getElem?_append_right (by rw [← h.1]; exact h1), ← h.1]
    exact this

theorem weightsAll_get {e : TypeId} : ∀ {ds : List (DataW H)} {i : Nat} {d : DataW H}, ds[i]? = some d → ∀ n ∈ d.weights P e, n ∈ DataW.weightsAll P e ds
  | [], i, d, h, n, hn => by simp at h
  | d0 :: ds, 0, d, h, n, hn => by simp at h; subst h; simp [DataW.weightsAll, hn]
  | d0 :: ds, i + 1, d, h, n, hn => by simp only [DataW.weightsAll, List.mem_append]; exact .inr (weightsAll_get (by simpa using h) n hn)

theorem open_cells (hF : ∀ b, b < w.heap.size → F b) : ∀ (m : Nat) (t : TypeId), okT P m t = true → ∀ (fuel : Nat) (cs : List Value) (d : DataW H) (ps : List MemPlace), DataW.trod enc P w 0 spare held fuel t cs = some (d, ps) → (∀ n ∈ d.weights P t, n ≤ reachBytes) → Opened P w F t cs
  | 0, t, h, _, _, _, _, _, _ => by simp [okT] at h
  | m + 1, t, h, fuel, cs, d, ps, ht, hw => by
    have ih := open_cells hF m
    simp only [okT] at h
    split at h
    · rename_i k hu
      obtain ⟨n, rfl, hx, hwf⟩ := DataW.trod_int hu ht
      exact ⟨[.int k n], .int t k n hu hwf, fun β => ⟨rfl, fun j x hx => by
        cases j with
        | zero => simp at hx; subst hx; exact .int β k n
        | succ j => simp at hx⟩, by simp [Value.oneCell'], by simpa using (beq_iff_eq.1 h).symm⟩
    · rename_i hu
      obtain ⟨b, rfl, hx⟩ := DataW.trod_bool hu ht
      exact ⟨[.bool b], .bool t b hu, fun β => ⟨rfl, fun j x hx => by
        cases j with
        | zero => simp at hx; subst hx; exact .bool β b
        | succ j => simp at hx⟩, by simp [Value.oneCell'], by simpa using (beq_iff_eq.1 h).symm⟩
    · rename_i hu
      obtain ⟨s, rfl, hx, _⟩ := DataW.trod_string hu ht
      simp only [Prod.mk.injEq] at hx
      obtain ⟨rfl, _⟩ := hx
      have hs : s.size ≤ reachBytes := by
        have := hw s.data.toList.length (by simp [DataW.weights])
        simpa using this
      exact ⟨[.str s], .str t s hu hs, fun β => ⟨rfl, fun j x hx => by
        cases j with
        | zero => simp at hx; subst hx; exact .str β s
        | succ j => simp at hx⟩, by simp [Value.oneCell'], by simpa using (beq_iff_eq.1 h).symm⟩
    · rename_i e hu
      simp only [Bool.and_eq_true, beq_iff_eq, decide_eq_true_eq] at h
      obtain ⟨⟨hc1, hpos⟩, hok⟩ := h
      rcases DataW.trod_slice hu ht with ⟨rfl, hx⟩ | ⟨a, len, cap, elems, rest, n, _, rfl, hx, _, hlc, _, hlen, hel, _, _⟩
      · exact ⟨[.fz (P.cellsOf e) []], .fz t e [] hu (fun l hl => by simp at hl) (by simp), fun β => ⟨rfl, fun j x hx => by
          cases j with
          | zero => simp at hx; subst hx; exact .fz0 β _ _ _
          | succ j => simp at hx⟩, by simp [Value.oneCell'], by simpa using hc1.symm⟩
      · simp only [Prod.mk.injEq] at hx
        obtain ⟨rfl, _⟩ := hx
        have hwl : ∀ n ∈ DataW.weights (H := H) P t (.slice (elems.map (·.1)) (rest.map (·.1))), n ≤ reachBytes := hw
        simp only [DataW.weights, hu] at hwl
        -- each element
        have each : ∀ i, i < len → ∃ csi, w.cells? 0 (a.add (i * P.cellsOf e)) (P.cellsOf e) = some csi ∧ Opened P w F e csi := by
          intro i hi
          have h1 := hel i hi
          have h2 : i < elems.length := by omega
          rw [List.getElem?_eq_getElem h2] at h1
          simp only [Option.bind_eq_some_iff] at h1
          obtain ⟨csi, h3, h4⟩ := h1
          refine ⟨csi, h3, ih e hok n csi elems[i].1 elems[i].2 h4 fun q hq => hwl q ?_⟩
          simp only [List.mem_cons, List.mem_append]
          exact .inr (.inl (weightsAll_get (i := i) (d := elems[i].1) (by simp [h2]) q hq))
        have hall : ∀ L, L ≤ len → ∃ es : List (List V), ∃ css : List (List Value), es.length = L ∧ css.length = L ∧ ∀ i, i < L → w.cells? 0 (a.add (i * P.cellsOf e)) (P.cellsOf e) = some (css.getD i []) ∧ HasT P e (es.getD i []) ∧ (∀ β, VRs w F β (es.getD i []) (css.getD i [])) ∧ (∀ u ∈ css.getD i [], u.oneCell' = true) ∧ (css.getD i []).length = P.cellsOf e := by
          intro L
          induction L with
          | zero => exact fun _ => ⟨[], [], rfl, rfl, fun i hi => by omega⟩
          | succ L ihl =>
            intro hL
            obtain ⟨es, css, l1, l2, hh⟩ := ihl (by omega)
            obtain ⟨csi, h3, xs, h4, h5, h6, h7⟩ := each L (by omega)
            refine ⟨es ++ [xs], css ++ [csi], by simp [l1], by simp [l2], fun i hi => ?_⟩
            rcases Nat.lt_or_ge i L with h8 | h8
            · have e1 : (es ++ [xs]).getD i [] = es.getD i [] := by rw [List.getD_eq_getElem?_getD, List.getElem?_append_left (by omega), ← List.getD_eq_getElem?_getD]
              have e2 : (css ++ [csi]).getD i [] = css.getD i [] := by rw [List.getD_eq_getElem?_getD, List.getElem?_append_left (by omega), ← List.getD_eq_getElem?_getD]
              rw [e1, e2]; exact hh i h8
            · have : i = L := by omega
              subst this
              have e1 : (es ++ [xs]).getD i [] = xs := by rw [List.getD_eq_getElem?_getD, List.getElem?_append_right (by omega)]; simp [l1]
              have e2 : (css ++ [csi]).getD i [] = csi := by rw [List.getD_eq_getElem?_getD, List.getElem?_append_right (by omega)]; simp [l2]
              rw [e1, e2]; exact ⟨h3, h4, h5, h6, h7⟩
        obtain ⟨es, css, l1, l2, hh⟩ := hall len (Nat.le_refl _)
        have hwe : es.length * P.bytesOf e ≤ reachBytes := by
          have := hwl ((elems.map (·.1)).length + (rest.map (·.1)).length |> (· * P.bytesOf e)) (by simp)
          simp only [List.length_map] at this
          refine Nat.le_trans (Nat.mul_le_mul_right _ ?_) this
          omega
        refine ⟨[.fz (P.cellsOf e) es], .fz t e es hu ?_ hwe, fun β => ⟨rfl, fun j x hx => ?_⟩, by simp [Value.oneCell'], by simpa using hc1.symm⟩
        · intro l hl
          obtain ⟨i, hi⟩ := List.mem_iff_getElem?.1 hl
          have hlt : i < len := by rw [← l1]; exact (List.getElem?_eq_some_iff.1 hi).1
          have := (hh i hlt).2.1
          simpa [List.getD_eq_getElem?_getD, hi] using this
        · cases j with
          | succ j => simp at hx
          | zero =>
            simp only [List.getElem?_cons_zero, Option.some.injEq] at hx
            subst hx
            show VR w F β (.fz (P.cellsOf e) es) (.slice (some a) len cap)
            rcases Nat.eq_zero_or_pos len with h0 | h0
            · subst h0
              have : es = [] := List.eq_nil_of_length_eq_zero l1
              subst this
              exact .fz0 _ _ _ _
            · have cell : ∀ i, i < len → ∀ j, j < P.cellsOf e → w.cell? ((a.add (i * P.cellsOf e)).add j) = some ((css.getD i []).getD j undef) := by
                intro i hi j hj
                have h1 := (hh i hi).1
                simp only [World.cells?] at h1
                split at h1
                · have := mapM_some_get h1 j j (by simp [hj])
                  rw [this]
                  have h3 := (hh i hi).2.2.2.2
                  rw [List.getD_eq_getElem?_getD (l := css.getD i []), List.getElem?_eq_getElem (by omega)]
                  rfl
                · cases h1
              have c0 := cell 0 h0 0 hpos
              have hspot : a.spot = none ∧ a.block < w.heap.size := by
                simp only [Nat.zero_mul, Addr.add, if_true] at c0
                unfold World.cell? at c0
                split at c0
                · rename_i c el fr hb
                  split at c0
                  · cases c0
                  · rename_i hs
                    exact ⟨by simpa using hs, (Array.getElem?_eq_some_iff.1 hb).1⟩
                · cases c0
              obtain ⟨ab, ao, asp⟩ := a
              obtain ⟨hs1, hs2⟩ := hspot
              simp only at hs1 hs2
              subst hs1
              have hfz := VR.fz (w := w) (F := F) β (P.cellsOf e) es ab ao cap (fun i j => (css.getD i []).getD j undef) (hF ab hs2) (by omega) ?_ ?_ ?_
              · rw [l1] at hfz; exact hfz
              · intro l hl
                obtain ⟨i, hi⟩ := List.mem_iff_getElem?.1 hl
                have hlt : i < len := by rw [← l1]; exact (List.getElem?_eq_some_iff.1 hi).1
                have h1 := (hh i hlt).2.2.1 β
                have h2 := (hh i hlt).2.2.2.2
                have h3 : es.getD i [] = l := by simp [List.getD_eq_getElem?_getD, hi]
                rw [h3] at h1
                rw [h1.1, h2]
              · intro i l hi j x hx
                have hlt : i < len := by rw [← l1]; exact (List.getElem?_eq_some_iff.1 hi).1
                have h3 : es.getD i [] = l := by simp [List.getD_eq_getElem?_getD, hi]
                have h1 := (hh i hlt).2.2.1 β
                rw [h3] at h1
                have hj : j < P.cellsOf e := by
                  have := (List.getElem?_eq_some_iff.1 hx).1
                  rw [h1.1, (hh i hlt).2.2.2.2] at this; exact this
                have h4 := cell i hlt j hj
                rw [addr_add, addr_add] at h4
                refine ⟨h4, ?_⟩
                have h5 := (hh i hlt).2.2.2.1 ((css.getD i []).getD j undef)
                apply h5
                rw [List.getD_eq_getElem?_getD (l := css.getD i []), List.getElem?_eq_getElem (by rw [(hh i hlt).2.2.2.2]; exact hj)]
                exact List.getElem_mem _
              · intro i l hi j x hx
                have hlt : i < len := by rw [← l1]; exact (List.getElem?_eq_some_iff.1 hi).1
                have h3 : es.getD i [] = l := by simp [List.getD_eq_getElem?_getD, hi]
                have h1 := (hh i hlt).2.2.1 noIds
                rw [h3] at h1
                exact h1.2 j x hx
    · rename_i fs hu
      simp only [Bool.and_eq_true, List.all_eq_true] at h
      obtain ⟨htile, hok⟩ := h
      obtain ⟨xs, n, _, hx, hcl, hxl, hf⟩ := DataW.trod_struct hu ht
      simp only [Prod.mk.injEq] at hx
      obtain ⟨rfl, _⟩ := hx
      simp only [DataW.weights, hu] at hw
      have key : ∀ (fl : List Field) (o : Nat) (ys : List (DataW H × List MemPlace)), tiles P fl o (P.cellsOf t) = true → (∀ f ∈ fl, okT P m f.type = true) → ys.length = fl.length →
          (∀ (i : Nat) f, fl[i]? = some f → DataW.trod enc P w 0 spare held n f.type ((cs.drop f.offset).take (P.cellsOf f.type)) = ys[i]?) →
          (∀ q ∈ DataW.weightsEach P (fl.map (·.type)) (ys.map (·.1)), q ≤ reachBytes) → ∃ vs, HasTs P (fl.map (·.type)) vs ∧ (∀ β, VRs w F β vs (cs.drop o)) ∧ (∀ u ∈ cs.drop o, u.oneCell' = true) := by
        intro fl
        induction fl with
        | nil =>
          intro o ys h1 _ _ _ _
          simp only [tiles, beq_iff_eq] at h1
          have : cs.drop o = [] := by apply List.drop_eq_nil_of_le; omega
          rw [this]
          exact ⟨[], .nil, fun β => VRs.nil _ _ _, fun u hu => by simp at hu⟩
        | cons f fl ihf =>
          intro o ys h1 h2 h3 h4 h5
          simp only [tiles, Bool.and_eq_true, beq_iff_eq] at h1
          cases ys with
          | nil => simp at h3
          | cons y ys =>
            have hy := h4 0 f rfl
            simp only [List.getElem?_cons_zero] at hy
            simp only [List.map_cons, DataW.weightsEach, List.mem_append] at h5
            obtain ⟨us, g1, g2, g3, g4⟩ := ih f.type (h2 f (by simp)) n _ y.1 y.2 hy fun q hq => h5 q (.inl hq)
            obtain ⟨vs, k1, k2, k3⟩ := ihf (o + P.cellsOf f.type) ys h1.2 (fun f' hf' => h2 f' (by simp [hf'])) (by simpa using h3) (fun i f' hf' => by simpa using h4 (i + 1) f' (by simpa using hf')) fun q hq => h5 q (.inr hq)
            have e1 : cs.drop o = (cs.drop o).take (P.cellsOf f.type) ++ cs.drop (o + P.cellsOf f.type) := by
              rw [← List.drop_drop, List.take_append_drop]
            rw [h1.1] at g2 g3
            refine ⟨us ++ vs, .cons _ _ _ _ g1 k1, fun β => ?_, fun u hu => ?_⟩
            · rw [e1]; exact vrs_app (g2 β) (k2 β)
            · rw [e1, List.mem_append] at hu
              exact hu.elim (g3 u) (k3 u)
      obtain ⟨vs, k1, k2, k3⟩ := key fs.toList 0 xs htile hok (by simpa using hxl) (fun i f hf' => hf i f (by simpa using hf')) hw
      exact ⟨vs, .struct t fs vs hu k1, by simpa using k2, by simpa using k3, hcl⟩
    · cases h
end
end Go.Proofs.Ytffigokicddekaa.Abs
