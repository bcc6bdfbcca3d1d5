/- make, append, strings from bytes and back. No condition. -/
import Derived.Test.YtffigokicddekaaMA10
set_option linter.unusedVariables false
set_option linter.unusedSimpArgs false
namespace Go.Proofs.Ytffigokicddekaa.Abs
open Go

section
variable {P : Program} {σ : Store} {β : Ids} {F : Nat → Prop} {w : World} {a : Env} {act : Act}

theorem mks_ok (hr : Rel σ β F w) (ha : EnvR w F β a act) {t e : TypeId} {s id : Nat} {it : TypeInfo} {z : List V} (hu : P.underlying t = some (.slice e)) (hit : P.info? e = some it) (hs : it.size = s) (hz : zeroOf P e = some z) (hl : z.length = s) (hpos : 0 < s)
    (h1 : ∀ i v, P.info? e = some i → i.zero = some v → v.cells.all (·.oneCell') = true)
    {x y : Operand} {v : V} {σ' : Store} (h : astep (.mks id s it.bytes z (opdOf x) (opdOf y)) a σ = some (v, σ')) :
    ∃ val w' β', (Instr.makeSlice t (act.eval x) (act.eval y)).run P w = .ok val w' ∧ VR w' F β' v val ∧ After σ' β β' F F w w' := by
  have hx := opd_ok ha x
  have hy := opd_ok ha y
  simp only [astep] at h
  split at h
  · rename_i n m hop1 hop2
    rw [hop1] at hx; rw [hop2] at hy
    split at h
    · rename_i hc
      obtain ⟨hid, h0, hnm, hby, hm⟩ := hc
      cases h
      obtain ⟨i', zv, hi', hzz, hzr⟩ := zeroOf_ok hz w F β
      rw [hit] at hi'; cases hi'
      have hzs : zv.cells.size = s := by have := hzr.1; simp at this; omega
      generalize act.eval x = xv at hx
      generalize act.eval y = yv at hy
      cases hx; cases hy
      have hrun := run_make (P := P) w t e it zv hu hit hzz .i64 .i64 n m h0 hnm (by rw [Int.mul_comm]; omega) (by omega)
      have hmade := made_ok (w := w) (F := F) (β := β) hzr (by omega) m.toNat
      rw [hl] at hmade
      have hone := made_one (h1 it zv hit hzz) (by omega) (m.toNat * s)
      rw [hs] at hrun
      have hrep : ∀ k, ∀ l ∈ List.replicate k z, l.length = s := fun k l hl' => by rw [(List.mem_replicate.1 hl').2, hl]
      have hfl : (List.replicate n.toNat z).flatten = (List.replicate m.toNat z).flatten.take (n.toNat * s) := by
        have e1 : List.replicate m.toNat z = List.replicate n.toNat z ++ List.replicate (m.toNat - n.toNat) z := by
          rw [List.replicate_append_replicate]; congr 1; omega
        have e2 := flat_len (hrep n.toNat)
        rw [List.length_replicate] at e2
        rw [e1, List.flatten_append, ← e2, List.take_left']
        rfl
      have hlies : Lies w F β ⟨s, List.replicate n.toNat z⟩ (madeCells zv.cells (m.toNat * s)) := by
        refine lies_flat (vs := (madeCells zv.cells (m.toNat * s)).toList.take (n.toNat * s)) (hrep _) ?_ (fun u hu' => hone u (List.mem_of_mem_take hu')) ?_ ?_
        · rw [hfl]; exact hmade.take _
        · intro k hk
          have hk' : k < n.toNat * s := by simp [List.length_take] at hk; omega
          rw [List.getD_eq_getElem?_getD, List.getElem?_take, if_pos hk']
          simp [Array.getD_eq_getD_getElem?]
        · simp; omega
      have hA := After.new (w' := w.alloc (.cells (madeCells zv.cells (m.toNat * s)) e)) (elem := e) (fr := (0, 0)) hr hid rfl rfl rfl rfl (fun i _ h => by omega) hlies
      refine ⟨_, _, _, hrun, ?_, hA⟩
      refine .sl _ id s 0 _ w.heap.size _ _ _ e (0, 0) (by simp [Ids.put]) (heap_alloc_new w _) ?_ (by omega) (.inr (by simp))
      simp [size_madeCells]
    · cases h
  · cases h

theorem ofBytes_flat (s : ByteArray) : (ofBytes s).flatten = s.toList.map fun b => V.int .u8 (b.toNat : Int) := by
  unfold ofBytes
  induction s.toList with
  | nil => rfl
  | cons b l ih => simp [ih]

theorem modify_push (h : Array Obj) (o : Obj) (f : Obj → Obj) : (h.push o).modify h.size f = h.push (f o) := by
  apply Array.ext
  · simp
  · intro i h1 h2
    rw [Array.getElem_modify, Array.getElem_push, Array.getElem_push]
    simp at h1
    by_cases e : h.size = i
    · subst e; simp
    · have : i < h.size := by omega
      simp [e, this]

theorem s2b_ok (hr : Rel σ β F w) (ha : EnvR w F β a act) {t u e : TypeId} {id : Nat} (ht : P.underlying t = some .string) (hu : P.underlying u = some (.slice e)) (he : P.underlying e = some (.int .u8))
    {x : Operand} {v : V} {σ' : Store} (h : astep (.s2b id (opdOf x)) a σ = some (v, σ')) :
    ∃ val w' β', (convert t u (act.eval x)).run P w = .ok val w' ∧ VR w' F β' v val ∧ After σ' β β' F F w w' := by
  have hx := opd_ok ha x
  simp only [astep] at h
  split at h
  · rename_i b hop
    rw [hop] at hx
    split at h
    · rename_i hid
      cases h
      generalize act.eval x = xv at hx
      cases hx
      have hcap : b.size ≤ grownCap w b.size 0 e := grownCap_ge w b.size 0 e
      let c : Array Value := b.data.map (fun x => Value.int .u8 (x.toNat : Int)) ++ Array.replicate (grownCap w b.size 0 e - b.size) (.int .u8 0)
      have hc : c.size = grownCap w b.size 0 e := by simp [c]; omega
      obtain ⟨w', hw'⟩ : ∃ w' : World, w' = { w.drew with heap := w.heap.push (.cells c e (c.size, c.size + 1)) } := ⟨_, rfl⟩
      have hfz : (w.drew.alloc (.cells c e)).freeze ⟨w.heap.size, c.size, none⟩ 1 = w' := by
        rw [hw']
        show ({ w.drew with heap := (w.heap.push (.cells c e)).modify w.heap.size _ } : World) = _
        rw [modify_push]
        simp
      have hone : ∀ u ∈ (b.toList.map fun x => Value.int .u8 (x.toNat : Int)), u.oneCell' = true := by
        intro u hu'
        simp only [List.mem_map] at hu'
        obtain ⟨_, _, rfl⟩ := hu'; rfl
      have hbl : b.toList.length = b.size := by rw [ByteArray.toList_eq]; simp
      have hlies : Lies w F β ⟨1, ofBytes b⟩ c := by
        refine lies_flat (vs := b.toList.map fun x => Value.int .u8 (x.toNat : Int)) ?_ ?_ hone ?_ ?_
        · intro l hl; unfold ofBytes at hl; simp only [List.mem_map] at hl; obtain ⟨_, _, rfl⟩ := hl; rfl
        · rw [ofBytes_flat]
          refine ⟨by simp, fun j y hy => ?_⟩
          simp only [List.getElem?_map, Option.map_eq_some_iff] at hy
          obtain ⟨q, hq, rfl⟩ := hy
          rw [List.getD_eq_getElem?_getD]
          simp [hq]
          exact .int _ _ _
        · intro k hk
          simp [hbl] at hk
          have : c.getD k undef = (b.data.map (fun x => Value.int .u8 (x.toNat : Int))).getD k undef := by
            simp only [c, Array.getD_eq_getD_getElem?]
            rw [Array.getElem?_append_left (by simpa using hk)]
          rw [this, List.getD_eq_getElem?_getD, ByteArray.toList_eq]
          simp [Array.getD_eq_getD_getElem?]
        · simp [hbl, hc, hcap]
      have hA := After.new (w' := w') (c := c) (elem := e) (fr := (c.size, c.size + 1)) hr hid (by rw [hw']; rfl) (by rw [hw']; rfl) (by rw [hw']; rfl) (by rw [hw']) (fun i hi h => by omega) hlies
      refine ⟨.slice (some ⟨w.heap.size, 0, none⟩) b.size (grownCap w b.size 0 e), w', _, ?_, ?_, hA⟩
      · have hsh : (w.drew.alloc (.cells c e)).shape? w.heap.size = some (e, c.size) := by
          unfold World.shape?
          rw [show w.heap.size = w.drew.heap.size from rfl, heap_alloc_new w.drew]
        have hch : (choose (.appendCap b.size 0 e)).run P w = .ok (grownCap w b.size 0 e) w.drew := by simp [Question.forced, grownCap]
        have hnew : (newRow e c).run P w.drew = .ok ⟨w.heap.size, 0, none⟩ (w.drew.alloc (.cells c e)) := by simp [newRow]
        have hmk : (markStringish ⟨w.heap.size, 0, none⟩).run P (w.drew.alloc (.cells c e)) = .ok () w' := by
          simp only [markStringish, Sem.run_bind, run_shape, Result.andThen_ok, hsh, run_freeze, hfz]
        simp only [convert, Sem.run_bind, run_underlying ht, run_underlying hu, run_underlying he, Result.andThen_ok, Conv.stringToBytes, hch]
        rw [show (b.data.map (fun x => Value.int .u8 (x.toNat : Int)) ++ Array.replicate (grownCap w b.size 0 e - b.size) (Value.int .u8 0)) = c from rfl]
        rw [hnew, Result.andThen_ok, hmk, Result.andThen_ok, Sem.run_pure]
      · refine .sl _ id 1 0 _ w.heap.size _ _ c e (c.size, c.size + 1) (by simp [Ids.put]) (by rw [hw']; simp) ?_ hcap (.inr (by simp))
        omega
    · cases h
  · cases h

theorem bytesV_len : ∀ {es : List (List V)} {l : List UInt8}, bytesV es = some l → es.length = l.length
  | [], l, h => by simp [bytesV] at h; subst h; rfl
  | x :: es, l, h => by
    unfold bytesV at h
    split at h
    · rename_i h0; cases h0
    · rename_i n r hx
      cases hx
      simp only [Option.map_eq_some_iff] at h
      obtain ⟨l', hl', rfl⟩ := h
      simp [bytesV_len hl']
    · cases h

theorem bytesV_vals : ∀ {es : List (List V)} {l : List UInt8} {vs : List Value}, bytesV es = some l → VRs w F β es.flatten vs → ∃ ns : List Int, vs = ns.map (Value.int .u8) ∧ l = ns.map fun n => UInt8.ofNat n.toNat
  | [], l, vs, h, hv => by
    simp [bytesV] at h; subst h
    have := hv.1; simp at this
    exact ⟨[], by simpa using List.eq_nil_of_length_eq_zero this.symm, rfl⟩
  | x :: es, l, vs, h, hv => by
    unfold bytesV at h
    split at h
    · rename_i h0; cases h0
    · rename_i n r hx
      cases hx
      simp only [Option.map_eq_some_iff] at h
      obtain ⟨l', hl', rfl⟩ := h
      simp only [List.flatten_cons, List.singleton_append] at hv
      match vs, hv with
      | v :: vs, hv =>
        obtain ⟨ns, h1, h2⟩ := bytesV_vals hl' hv.tail
        have := hv.head
        cases this
        exact ⟨n :: ns, by simp [h1], by simp [h2]⟩
      | [], hv => exact absurd hv.1 (by simp)
    · cases h

theorem foldl_push : ∀ (ns : List Int) (s : ByteArray), (ns.foldl (fun r n => r.push (UInt8.ofNat n.toNat)) s) = ⟨(s.data.toList ++ ns.map fun n => UInt8.ofNat n.toNat).toArray⟩
  | [], s => by simp
  | n :: ns, s => by
    simp only [List.foldl_cons]
    rw [foldl_push ns]
    congr 1
    simp [ByteArray.push]

theorem b2s_ok (hr : Rel σ β F w) (ha : EnvR w F β a act) {t u e : TypeId} (ht : P.underlying t = some (.slice e)) (hu : P.underlying u = some .string) (he : P.underlying e = some (.int .u8))
    {x : Operand} {v : V} {σ' : Store} (h : astep (.b2s (opdOf x)) a σ = some (v, σ')) :
    σ' = σ ∧ ∃ val, (convert t u (act.eval x)).run P w = .ok val w ∧ VR w F β v val := by
  have hx := opd_ok ha x
  simp only [astep] at h
  split at h
  · rename_i es hes
    simp only [Option.map_eq_some_iff, Prod.mk.injEq] at h
    obtain ⟨l, hl, rfl, rfl⟩ := h
    refine ⟨rfl, ?_⟩
    obtain ⟨ad, cap, hv, hcap, hlen, vs, hvs, hone, hcell⟩ := rows_ok hr hes hx
    rw [hv]
    obtain ⟨ns, h1, h2⟩ := bytesV_vals hl hvs
    refine ⟨.string ⟨l.toArray⟩, ?_, .str _ _⟩
    have hel := bytesV_len hl
    rw [run_convert_bytes_string w t u e ad es.length cap ht he hu]
    have hnl : ns.length = es.length := by rw [hel, h2]; simp
    rcases hcell with h0 | ⟨b, off, hb, hc⟩
    · subst h0
      have : l = [] := by simpa using hel.symm
      subst this
      cases ad with
      | none => simp [Conv.bytesToString]; rfl
      | some ad => simp [Conv.bytesToString, loadCells, loadCellsFrom]; rfl
    · rw [hb]
      have hload : (loadCells ⟨b, off, none⟩ es.length).run P w = .ok (ns.map (Value.int .u8)).toArray w := by
        rw [← hnl, ← List.length_map (f := Value.int .u8) (as := ns)]
        refine run_loadCells_list w _ _ fun j u hu' => ?_
        rw [addr_add]
        rw [h1] at hc
        exact hc j u hu'
      rw [run_bytesToString w _ _ _ ns hload, foldl_push, h2]
      simp
  · cases h

end
end Go.Proofs.Ytffigokicddekaa.Abs
