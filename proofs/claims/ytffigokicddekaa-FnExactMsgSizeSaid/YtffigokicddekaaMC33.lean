/- Rows of bytes joined; the check sum; walked in both texts. No condition. -/
import Derived.Test.YtffigokicddekaaMC32
set_option linter.unusedVariables false
set_option linter.unusedSimpArgs false
set_option maxRecDepth 10000
namespace Go.Proofs.Ytffigokicddekaa.Abs
open Go Go.Proofs
def R117_0 : List AR := [⟨(some 2), none, 0, (.mov (.k .nl))⟩]
def R117_1 : List AR := [⟨(some 6), none, 0, (.bslice 0 1 0 [(.int .u8 0)] [])⟩, ⟨(some 3), none, 0, (.mov (.t 6))⟩]
def R117_2 : List AR := [⟨(some 7), none, 0, (.mov (.t 0))⟩, ⟨(some 8), none, 0, (.len (.t 7))⟩, ⟨(some 9), none, 0, (.mov (.k (.int .i64 0)))⟩]
def R117_3 : List AR := [⟨(some 10), none, 0, (.bin .lss (.t 9) (.t 8))⟩]
def R117_4 : List AR := [⟨(some 11), none, 0, (.iaddr 1 (.t 7) (.t 9))⟩, ⟨(some 12), none, 0, (.load 1 false (.t 11))⟩, ⟨(some 5), none, 0, (.mov (.t 12))⟩]
def R117_5 : List AR := [⟨(some 13), none, 0, (.mov (.t 3))⟩, ⟨(some 14), none, 0, (.mov (.t 5))⟩, ⟨(some 15), none, 0, (.app 0 1 1 (.t 13) (.t 14))⟩, ⟨(some 3), none, 0, (.mov (.t 15))⟩]
def R117_6 : List AR := [⟨(some 16), none, 0, (.bin .add (.t 9) (.k (.int .i64 1)))⟩, ⟨(some 9), none, 0, (.mov (.t 16))⟩]
def A117_0 : AC := (.seq (.block 1 (.seq (.reg 0 R117_4) (.reg 1 R117_5))) (.reg 0 R117_6))
def A117_1 : AC := (.seq (.cond (.t 10) .skip (.exit 0)) A117_0)
def L117_0 : AC := (.seq (.reg 0 R117_3) A117_1)
def R117_7 : List AR := [⟨(some 17), none, 0, (.mov (.t 3))⟩, ⟨(some 2), none, 0, (.mov (.t 17))⟩]
def A117_2 : AC := (.seq (.reg 0 R117_7) .ret)
def A117_3 : AC := (.seq (.seq (.reg 0 R117_2) (.block 0 (.loop L117_0))) A117_2)
def A117_4 : AC := (.seq (.reg 1 R117_1) A117_3)
def A117 : AC := (.seq (.reg 0 R117_0) A117_4)
def O117 : List AO := [(.mov (.t 2))]
def G117 : Fns := ⟨fun f => false, fun f => 0, false⟩
noncomputable def X117 : Cx := ⟨Try.prog, G117, drawD, 18, [0, 2, 3, 5, 7, 8, 9, 10]⟩
theorem c117 : (Try.f117.body).bind (compC X117.P X117.Γ X117.D X117.nt) = some A117 := by kernel_rfl
theorem o117 : compRes X117.P Try.f117.results.toList = some O117 := by kernel_rfl
theorem v117 : X117.vs = [0, 2, 3, 5, 7, 8, 9, 10] := rfl
theorem p117 : X117.P = Try.prog := rfl
def R156_0 : List AR := [⟨(some 2), none, 0, (.mov (.k (.int .i64 0)))⟩]
def R156_1 : List AR := [⟨(some 3), none, 0, (.mov (.k (.int .i64 4294967295)))⟩]
def R156_2 : List AR := [⟨(some 4), none, 0, (.mov (.k (.int .i64 0)))⟩]
def R156_3 : List AR := [⟨(some 7), none, 0, (.mov (.t 4))⟩, ⟨(some 8), none, 0, (.mov (.t 0))⟩, ⟨(some 9), none, 0, (.len (.t 8))⟩, ⟨(some 10), none, 0, (.bin .lss (.t 7) (.t 9))⟩]
def R156_4 : List AR := [⟨(some 13), none, 0, (.mov (.t 3))⟩, ⟨(some 14), none, 0, (.mov (.t 0))⟩, ⟨(some 15), none, 0, (.mov (.t 4))⟩, ⟨(some 16), none, 0, (.iaddr 1 (.t 14) (.t 15))⟩, ⟨(some 17), none, 0, (.load 1 false (.t 16))⟩, ⟨(some 18), none, 0, (.cint .i64 (.t 17))⟩, ⟨(some 19), none, 0, (.bin .xor (.t 13) (.t 18))⟩, ⟨(some 3), none, 0, (.mov (.t 19))⟩]
def R156_5 : List AR := [⟨(some 5), none, 0, (.mov (.k (.int .i64 0)))⟩]
def R156_6 : List AR := [⟨(some 20), none, 0, (.mov (.t 5))⟩, ⟨(some 21), none, 0, (.bin .lss (.t 20) (.k (.int .i64 8)))⟩]
def R156_7 : List AR := [⟨(some 24), none, 0, (.mov (.t 3))⟩, ⟨(some 25), none, 0, (.bin .rem (.t 24) (.k (.int .i64 2)))⟩, ⟨(some 26), none, 0, (.bin .eql (.t 25) (.k (.int .i64 1)))⟩, ⟨(some 6), none, 0, (.mov (.t 26))⟩]
def R156_8 : List AR := [⟨(some 27), none, 0, (.mov (.t 3))⟩, ⟨(some 28), none, 0, (.bin .quo (.t 27) (.k (.int .i64 2)))⟩, ⟨(some 3), none, 0, (.mov (.t 28))⟩]
def R156_9 : List AR := [⟨(some 29), none, 0, (.mov (.t 6))⟩]
def R156_10 : List AR := [⟨(some 30), none, 0, (.mov (.t 3))⟩, ⟨(some 31), none, 0, (.bin .xor (.t 30) (.k (.int .i64 3988292384)))⟩, ⟨(some 3), none, 0, (.mov (.t 31))⟩]
def A156_0 : AC := (.seq (.reg 0 R156_9) (.cond (.t 29) (.reg 0 R156_10) .skip))
def A156_1 : AC := (.seq (.reg 0 R156_8) A156_0)
def R156_11 : List AR := [⟨(some 22), none, 0, (.mov (.t 5))⟩, ⟨(some 23), none, 0, (.bin .add (.t 22) (.k (.int .i64 1)))⟩, ⟨(some 5), none, 0, (.mov (.t 23))⟩]
def A156_2 : AC := (.seq (.block 3 (.seq (.reg 0 R156_7) A156_1)) (.reg 0 R156_11))
def L156_0 : AC := (.seq (.seq (.reg 0 R156_6) (.cond (.t 21) .skip (.exit 2))) A156_2)
def A156_3 : AC := (.seq (.reg 0 R156_5) (.block 2 (.loop L156_0)))
def R156_12 : List AR := [⟨(some 11), none, 0, (.mov (.t 4))⟩, ⟨(some 12), none, 0, (.bin .add (.t 11) (.k (.int .i64 1)))⟩, ⟨(some 4), none, 0, (.mov (.t 12))⟩]
def A156_4 : AC := (.seq (.block 1 (.seq (.reg 0 R156_4) A156_3)) (.reg 0 R156_12))
def L156_1 : AC := (.seq (.seq (.reg 0 R156_3) (.cond (.t 10) .skip (.exit 0))) A156_4)
def R156_13 : List AR := [⟨(some 32), none, 0, (.mov (.t 3))⟩, ⟨(some 33), none, 0, (.bin .xor (.t 32) (.k (.int .i64 4294967295)))⟩, ⟨(some 2), none, 0, (.mov (.t 33))⟩]
def A156_5 : AC := (.seq (.reg 0 R156_13) .ret)
def A156_6 : AC := (.seq (.seq (.reg 0 R156_2) (.block 0 (.loop L156_1))) A156_5)
def A156_7 : AC := (.seq (.reg 0 R156_1) A156_6)
def A156 : AC := (.seq (.reg 0 R156_0) A156_7)
def O156 : List AO := [(.mov (.t 2))]
def G156 : Fns := ⟨fun f => false, fun f => 0, false⟩
noncomputable def X156 : Cx := ⟨Try.prog, G156, drawD, 34, [0, 2, 3, 4, 5, 6, 10, 21, 29]⟩
theorem c156 : (Try.f156.body).bind (compC X156.P X156.Γ X156.D X156.nt) = some A156 := by kernel_rfl
theorem o156 : compRes X156.P Try.f156.results.toList = some O156 := by kernel_rfl
theorem v156 : X156.vs = [0, 2, 3, 4, 5, 6, 10, 21, 29] := rfl
theorem p156 : X156.P = Try.prog := rfl
def R159_0 : List AR := [⟨(some 2), none, 0, (.mov (.k (.int .i64 0)))⟩]
def R159_1 : List AR := [⟨(some 3), none, 0, (.mov (.k (.int .i64 4294967295)))⟩]
def R159_2 : List AR := [⟨(some 7), none, 0, (.mov (.t 0))⟩, ⟨(some 8), none, 0, (.len (.t 7))⟩, ⟨(some 9), none, 0, (.mov (.k (.int .i64 0)))⟩]
def R159_3 : List AR := [⟨(some 10), none, 0, (.bin .lss (.t 9) (.t 8))⟩]
def R159_4 : List AR := [⟨(some 11), none, 0, (.iaddr 1 (.t 7) (.t 9))⟩, ⟨(some 12), none, 0, (.load 1 false (.t 11))⟩, ⟨(some 5), none, 0, (.mov (.t 12))⟩]
def R159_5 : List AR := [⟨(some 13), none, 0, (.mov (.t 3))⟩, ⟨(some 14), none, 0, (.mov (.t 5))⟩, ⟨(some 15), none, 0, (.cint .i64 (.t 14))⟩, ⟨(some 16), none, 0, (.bin .xor (.t 13) (.t 15))⟩, ⟨(some 3), none, 0, (.mov (.t 16))⟩]
def R159_6 : List AR := [⟨(some 17), none, 0, (.mov (.k (.int .i64 0)))⟩]
def R159_7 : List AR := [⟨(some 18), none, 0, (.bin .lss (.t 17) (.k (.int .i64 8)))⟩]
def R159_8 : List AR := [⟨(some 19), none, 0, (.mov (.t 3))⟩, ⟨(some 20), none, 0, (.bin .rem (.t 19) (.k (.int .i64 2)))⟩, ⟨(some 21), none, 0, (.bin .eql (.t 20) (.k (.int .i64 1)))⟩, ⟨(some 6), none, 0, (.mov (.t 21))⟩]
def R159_9 : List AR := [⟨(some 22), none, 0, (.mov (.t 3))⟩, ⟨(some 23), none, 0, (.bin .quo (.t 22) (.k (.int .i64 2)))⟩, ⟨(some 3), none, 0, (.mov (.t 23))⟩]
def R159_10 : List AR := [⟨(some 24), none, 0, (.mov (.t 6))⟩]
def R159_11 : List AR := [⟨(some 25), none, 0, (.mov (.t 3))⟩, ⟨(some 26), none, 0, (.bin .xor (.t 25) (.k (.int .i64 3988292384)))⟩, ⟨(some 3), none, 0, (.mov (.t 26))⟩]
def A159_0 : AC := (.seq (.reg 0 R159_10) (.cond (.t 24) (.reg 0 R159_11) .skip))
def A159_1 : AC := (.seq (.reg 0 R159_9) A159_0)
def R159_12 : List AR := [⟨(some 27), none, 0, (.bin .add (.t 17) (.k (.int .i64 1)))⟩, ⟨(some 17), none, 0, (.mov (.t 27))⟩]
def A159_2 : AC := (.seq (.block 3 (.seq (.reg 0 R159_8) A159_1)) (.reg 0 R159_12))
def A159_3 : AC := (.seq (.cond (.t 18) .skip (.exit 2)) A159_2)
def L159_0 : AC := (.seq (.reg 0 R159_7) A159_3)
def A159_4 : AC := (.seq (.reg 0 R159_6) (.block 2 (.loop L159_0)))
def A159_5 : AC := (.seq (.reg 0 R159_5) A159_4)
def R159_13 : List AR := [⟨(some 28), none, 0, (.bin .add (.t 9) (.k (.int .i64 1)))⟩, ⟨(some 9), none, 0, (.mov (.t 28))⟩]
def A159_6 : AC := (.seq (.block 1 (.seq (.reg 0 R159_4) A159_5)) (.reg 0 R159_13))
def A159_7 : AC := (.seq (.cond (.t 10) .skip (.exit 0)) A159_6)
def L159_1 : AC := (.seq (.reg 0 R159_3) A159_7)
def R159_14 : List AR := [⟨(some 29), none, 0, (.mov (.t 3))⟩, ⟨(some 30), none, 0, (.bin .xor (.t 29) (.k (.int .i64 4294967295)))⟩, ⟨(some 2), none, 0, (.mov (.t 30))⟩]
def A159_8 : AC := (.seq (.reg 0 R159_14) .ret)
def A159_9 : AC := (.seq (.seq (.reg 0 R159_2) (.block 0 (.loop L159_1))) A159_8)
def A159_10 : AC := (.seq (.reg 0 R159_1) A159_9)
def A159 : AC := (.seq (.reg 0 R159_0) A159_10)
def O159 : List AO := [(.mov (.t 2))]
def G159 : Fns := ⟨fun f => false, fun f => 0, false⟩
noncomputable def X159 : Cx := ⟨Try.prog, G159, drawD, 31, [0, 2, 3, 5, 6, 7, 8, 9, 10, 17, 18, 24]⟩
theorem c159 : (Try.f159.body).bind (compC X159.P X159.Γ X159.D X159.nt) = some A159 := by kernel_rfl
theorem o159 : compRes X159.P Try.f159.results.toList = some O159 := by kernel_rfl
theorem v159 : X159.vs = [0, 2, 3, 5, 6, 7, 8, 9, 10, 17, 18, 24] := rfl
theorem p159 : X159.P = Try.prog := rfl
theorem fold_take1 {α β : Type} (f : β → α → β) (b : β) {xs : List α} {i : Nat} (h : i < xs.length) : (xs.take (i + 1)).foldl f b = f ((xs.take i).foldl f b) xs[i] := by
  rw [List.take_succ_eq_append_getElem h, List.foldl_append]; rfl
def rowB (bs : List UInt8) : List V := [.fz 1 (rw_ byteC bs)]
theorem fz_fold (bs : List UInt8) : [V.fz 1 (rw_ byteC bs)] = rowB bs := rfl
theorem flat_take {xs : List (List UInt8)} {i : Nat} (h : i < xs.length) : (xs.take (i + 1)).flatten = (xs.take i).flatten ++ xs[i] := by
  rw [List.take_succ_eq_append_getElem h, List.flatten_append]; simp
theorem flat_take_le (xs : List (List UInt8)) (i : Nat) : (xs.take i).flatten.length ≤ xs.flatten.length := by
  conv => rhs; rw [← List.take_append_drop i xs, List.flatten_append, List.length_append]
  omega
abbrev lim : Nat := 10000000000000
theorem joined_ok (xs : List (List UInt8)) (h : xs.flatten.length ≤ lim) (h0 : xs.length ≤ 1000000000) : FS Try.prog 117 [] [.fz 1 (rw_ rowB xs)] (.sl 0 1 0 xs.flatten.length) [⟨1, rw_ byteC xs.flatten⟩] := by
  refine FS.of (X := X117) (ac := A117) (os := O117) Try.func117 (by rfl) (by rfl) (by kernel_rfl) o117 (Nat.le_of_ble_eq_true rfl) ?_
  show AWP X117 A117 (Ends X117.vs O117 0 _ _) [.fz 1 (rw_ rowB xs), .tup [], .tup [], .tup [], .tup [], .tup [], .tup [], .tup []] []
  obtain ⟨Q, hQ⟩ : ∃ Q, Q = Ends X117.vs O117 0 (.sl 0 1 0 xs.flatten.length) [⟨1, rw_ byteC xs.flatten⟩] := ⟨_, rfl⟩
  rw [← hQ]
  have h : xs.flatten.length ≤ 10000000000000 := h
  refine awp_sr ?_
  simp only [go_sem, R117_0, v117, p117]
  refine awp_sr ?_
  simp only [go_sem, R117_1, v117, p117]
  refine awp_sr2 ?_
  simp only [go_sem, R117_2, v117, p117]
  obtain ⟨I, hI⟩ : ∃ I : Nat → List V → Store → Prop, I = fun mM L σ => ∃ i r q τ y0 y2 y5 y10, xs.length - i = mM ∧ (i ≤ xs.length ∧ q = (xs.take i).flatten.length ∧ Last τ r (.live ⟨1, rw_ byteC (xs.take i).flatten⟩)) ∧ L = [y0, y2, .sl r 1 0 q, y5, .fz 1 (rw_ rowB xs), .int .i64 (xs.length : Nat), .int .i64 (i : Nat), y10] ∧ σ = τ := ⟨_, rfl⟩
  first | refine awp_for I (xs.length) ?_ ?_ | refine awp_seq (awp_for I (xs.length) ?_ ?_)
  · rw [hI]
    refine ⟨0, _, _, _, _, _, _, _, rfl, ?_, rfl, rfl⟩
    exact ⟨Nat.zero_le _, rfl, Last.mk [] _⟩
  intro mM L σ hIn
  rw [hI] at hIn
  obtain ⟨i, r, q, τ, y0, y2, y5, y10, rfl, hP, rfl, rfl⟩ := hIn
  obtain ⟨hi, rfl, rest, rfl, rfl⟩ := hP
  refine awp_sr ?_
  simp only [go_sem, R117_3, v117, p117]
  refine awp_seq ?_
  refine awp_if rfl ?_ ?_
  · intro h1
    have h1 : i < xs.length := by omega
    have e1 := flat_take h1
    have e2 := flat_take_le xs (i + 1)
    have e3 := congrArg List.length e1
    rw [List.length_append] at e3
    refine awp_skip ?_
    simp only [go_sem]
    first | refine awp_block ?_ | refine awp_seq (awp_block ?_)
    refine awp_sr ?_
    simp only [go_sem, R117_4, v117, p117, rw_at _ h1, rowB]
    refine awp_reg ?_
    simp only [go_sem, R117_5, v117, p117]
    refine ⟨by omega, ?_⟩
    refine awp_reg ?_
    simp only [go_sem, R117_6, v117, p117, wrap_succ (i := i) (by omega)]
    refine ⟨xs.length - (i + 1), ?_, ?_⟩
    rotate_left
    rw [hI]
    refine ⟨i + 1, _, _, _, _, _, _, _, rfl, ?_, rfl, rfl⟩
    · rw [e1]; exact ⟨by omega, by simp, Last.mk1 _ _ _⟩
    · omega
  · intro h1
    refine awp_exit ?_
    simp only [go_sem]
    have : i = xs.length := by omega
    subst this
    rw [List.take_length]
    refine awp_sr ?_
    simp only [go_sem, R117_7, v117, p117]
    refine awp_ret ?_
    try simp only [go_sem]
    rw [hQ]
    exact Ends.ownLast (.inl rfl) rfl (Last.mk _ _) (by simp) (bytes_ok _)
theorem joined_fz (xs : List (List UInt8)) (h : xs.flatten.length ≤ lim) (h0 : xs.length ≤ 1000000000) : FS Try.prog 117 [] [.fz 1 (rw_ rowB xs)] (.fz 1 (rw_ byteC xs.flatten)) [] := (joined_ok xs h h0).frz (bytes_ok _) (rw_len _ _).symm
/-! the check sum -/
theorem xor_lt {a b : Nat} (ha : a < 4294967296) (hb : b < 4294967296) : a ^^^ b < 4294967296 := Nat.xor_lt_two_pow (n := 32) ha hb
theorem xor_nat {a b : Nat} (ha : a < 4294967296) (hb : b < 4294967296) : xorI .i64 (a : Int) (b : Int) = ((a ^^^ b : Nat) : Int) := by
  have e : (BitVec.ofInt (IntKind.bits .i64) (a : Int) ^^^ BitVec.ofInt (IntKind.bits .i64) (b : Int)).toNat = a ^^^ b := by
    rw [BitVec.toNat_xor, BitVec.ofInt_natCast, BitVec.ofInt_natCast, BitVec.toNat_ofNat, BitVec.toNat_ofNat]
    rw [Nat.mod_eq_of_lt, Nat.mod_eq_of_lt]
    · simp only [IntKind.bits]; omega
    · simp only [IntKind.bits]; omega
  unfold xorI
  rw [e]
  have := xor_lt ha hb
  exact wrap_i64 (by omega) (by omega)
def crcStep (x : Nat) : Nat := if x % 2 = 1 then x / 2 ^^^ 3988292384 else x / 2
def crcIter : Nat → Nat → Nat
  | 0, x => x
  | k + 1, x => crcStep (crcIter k x)
def crcByte (x : Nat) (b : UInt8) : Nat := crcIter 8 (x ^^^ b.toNat)
def crc (bs : List UInt8) : Nat := bs.foldl crcByte 4294967295 ^^^ 4294967295
theorem crcStep_lt {x : Nat} (h : x < 4294967296) : crcStep x < 4294967296 := by
  unfold crcStep
  split
  · exact xor_lt (by omega) (by omega)
  · omega
theorem crcIter_lt {x : Nat} (h : x < 4294967296) : ∀ k, crcIter k x < 4294967296
  | 0 => h
  | k + 1 => crcStep_lt (crcIter_lt h k)
theorem byte_lt (b : UInt8) : b.toNat < 4294967296 := by have := b.toNat_lt; omega
theorem crcByte_lt {x : Nat} (h : x < 4294967296) (b : UInt8) : crcByte x b < 4294967296 := crcIter_lt (xor_lt h (byte_lt b)) 8
theorem crcFold_lt : ∀ (bs : List UInt8) {x : Nat}, x < 4294967296 → bs.foldl crcByte x < 4294967296
  | [], x, h => h
  | b :: bs, x, h => crcFold_lt bs (crcByte_lt h b)
theorem crc_lt (bs : List UInt8) : crc bs < 4294967296 := xor_lt (crcFold_lt bs (by omega)) (by omega)
theorem specCrc_ok (bs : List UInt8) (h : bs.length ≤ lim) : FS Try.prog 156 [] [.fz 1 (rw_ byteC bs)] (.int .i64 (crc bs : Nat)) [] := by
  refine FS.of (X := X156) (ac := A156) (os := O156) Try.func156 (by rfl) (by rfl) (by kernel_rfl) o156 (Nat.le_of_ble_eq_true rfl) ?_
  show AWP X156 A156 (Ends X156.vs O156 0 _ _) [.fz 1 (rw_ byteC bs), .tup [], .tup [], .tup [], .tup [], .tup [], .tup [], .tup [], .tup []] []
  obtain ⟨Q, hQ⟩ : ∃ Q, Q = Ends X156.vs O156 0 (.int .i64 (crc bs : Nat)) [] := ⟨_, rfl⟩
  rw [← hQ]
  have h : bs.length ≤ 10000000000000 := h
  have fin : ∀ L σ v, resVs O156 (look X156.vs L) σ = some [v] → v = (.int .i64 (crc bs : Nat)) → Q .ret L σ := by
    intro L σ v h1 h2
    rw [hQ]
    exact Ends.is (.inl rfl) h1 (by simp only [packV, h2]) rfl
  refine awp_sr ?_
  simp only [go_sem, R156_0, v156, p156]
  refine awp_sr ?_
  simp only [go_sem, R156_1, v156, p156]
  refine awp_sr2 ?_
  simp only [go_sem, R156_2, v156, p156]
  obtain ⟨I, hI⟩ : ∃ I : Nat → List V → Store → Prop, I = fun mM L σ => ∃ i y2 y5 y6 y10 y21 y29, mM = bs.length - i ∧ i ≤ bs.length ∧ (True) ∧ L = [.fz 1 (rw_ byteC bs), y2, .int .i64 (((bs.take i).foldl crcByte 4294967295 : Nat) : Int), .int .i64 (i : Nat), y5, y6, y10, y21, y29] ∧ σ = [] := ⟨_, rfl⟩
  first | refine awp_for I bs.length ?_ ?_ | refine awp_seq (awp_for I bs.length ?_ ?_)
  · rw [hI]; refine ⟨0, _, _, _, _, _, _, rfl, Nat.zero_le _, ?_, rfl, rfl⟩
    trivial
  intro mM L σ hIn
  rw [hI] at hIn
  obtain ⟨i, y2, y5, y6, y10, y21, y29, rfl, hi, hP, rfl, rfl⟩ := hIn
  refine awp_sr2 ?_
  simp only [go_sem, R156_3, v156, p156]
  refine awp_if rfl ?_ ?_
  · intro h1
    have h1 : i < bs.length := by omega
    have hx := crcFold_lt (bs.take i) (x := 4294967295) (by omega)
    have e1 := fold_take1 crcByte 4294967295 h1
    generalize (bs.take i).foldl crcByte 4294967295 = x at hx e1
    refine awp_skip ?_
    simp only [go_sem]
    refine awp_seq (awp_block ?_)
    refine awp_sr ?_
    simp only [go_sem, R156_4, v156, p156, rw_at _ h1, byteC, wrap_i64 (n := (bs[i].toNat : Int)) (by omega) (by have := byte_lt bs[i]; omega), xor_nat hx (byte_lt bs[i])]
    refine awp_sr ?_
    simp only [go_sem, R156_5, v156, p156]
    obtain ⟨J, hJ⟩ : ∃ J : Nat → List V → Store → Prop, J = fun mM L σ => ∃ k y2 y6 y10 y21 y29, 8 - k = mM ∧ (k ≤ 8) ∧ L = [.fz 1 (rw_ byteC bs), y2, .int .i64 ((crcIter k (x ^^^ bs[i].toNat) : Nat) : Int), .int .i64 (i : Nat), .int .i64 (k : Nat), y6, y10, y21, y29] ∧ σ = [] := ⟨_, rfl⟩
    first | refine awp_for J (8) ?_ ?_ | refine awp_seq (awp_for J (8) ?_ ?_)
    · rw [hJ]
      refine ⟨0, _, _, _, _, _, rfl, ?_, rfl, rfl⟩
      omega
    intro mM L σ hIn
    rw [hJ] at hIn
    obtain ⟨k, y2, y6, y10, y21, y29, rfl, hP, rfl, rfl⟩ := hIn
    have hy := crcIter_lt (xor_lt hx (byte_lt bs[i])) k
    refine awp_sr2 ?_
    simp only [go_sem, R156_6, v156, p156]
    refine awp_if rfl ?_ ?_
    · intro h2
      generalize hy0 : crcIter k (x ^^^ bs[i].toNat) = y at hy
      refine awp_skip ?_
      simp only [go_sem]
      first | refine awp_block ?_ | refine awp_seq (awp_block ?_)
      refine awp_sr ?_
      simp only [go_sem, R156_7, v156, p156, show ((y : Int).tmod 2) = ((y % 2 : Nat) : Int) from tmod_nat y 2]
      refine awp_sr ?_
      simp only [go_sem, R156_8, v156, p156, show ((y : Int).tdiv 2) = ((y / 2 : Nat) : Int) from tdiv_nat y 2, wrap_i64 (n := ((y / 2 : Nat) : Int)) (by omega) (by omega)]
      refine awp_sr ?_
      simp only [go_sem, R156_9, v156, p156]
      obtain ⟨K1, hK1⟩ : ∃ K : List V → Store → Prop, K = fun L σ => ∃ y2 y6 y10 y21 y29, L = [.fz 1 (rw_ byteC bs), y2, .int .i64 ((crcStep y : Nat) : Int), .int .i64 (i : Nat), .int .i64 (k : Nat), y6, y10, y21, y29] ∧ σ = [] ∧ True := ⟨_, rfl⟩
      refine awp_K K1 ?_ ?_
      · refine awp_if rfl ?_ ?_
        · intro h3
          refine awp_reg ?_
          simp only [go_sem, R156_10, v156, p156, show xorI .i64 ((y / 2 : Nat) : Int) 3988292384 = ((y / 2 ^^^ 3988292384 : Nat) : Int) from xor_nat (a := y / 2) (b := 3988292384) (by omega) (by omega)]
          rw [show y / 2 ^^^ 3988292384 = crcStep y by unfold crcStep; rw [if_pos (by omega)]]
          rw [hK1]
          refine ⟨_, _, _, _, _, rfl, rfl, ?_⟩
          trivial
        · intro h3
          refine awp_skip ?_
          simp only [go_sem]
          rw [show y / 2 = crcStep y by unfold crcStep; rw [if_neg (by omega)]]
          rw [hK1]
          refine ⟨_, _, _, _, _, rfl, rfl, ?_⟩
          trivial
      · intro L σ hq
        rw [hK1] at hq
        obtain ⟨y2, y6, y10, y21, y29, rfl, rfl, hq⟩ := hq
        simp only [go_sem, v156, p156]
        refine awp_reg ?_
        simp only [go_sem, R156_11, v156, p156, wrap_succ (i := k) (by omega)]
        rw [show crcStep y = crcIter (k + 1) (x ^^^ bs[i].toNat) by rw [← hy0]; rfl]
        refine ⟨8 - (k + 1), ?_, ?_⟩
        rotate_left
        rw [hJ]
        refine ⟨k + 1, _, _, _, _, _, rfl, ?_, rfl, rfl⟩
        · omega
        · omega
    · intro h2
      have : k = 8 := by omega
      subst this
      refine awp_exit ?_
      simp only [go_sem]
      refine awp_reg ?_
      simp only [go_sem, R156_12, v156, p156, wrap_succ (i := i) (by omega)]
      rw [show crcIter 8 (x ^^^ bs[i].toNat) = (bs.take (i + 1)).foldl crcByte 4294967295 from e1.symm]
      refine ⟨bs.length - (i + 1), by omega, ?_⟩
      rw [hI]
      refine ⟨i + 1, _, _, _, _, _, _, rfl, by omega, ?_, rfl, rfl⟩
      trivial
  · intro h1
    refine awp_exit ?_
    simp only [go_sem]
    have : i = bs.length := by omega
    subst this
    have hx := crcFold_lt bs (x := 4294967295) (by omega)
    rw [List.take_length]
    refine awp_sr ?_
    simp only [go_sem, R156_13, v156, p156, show xorI .i64 ((bs.foldl crcByte 4294967295 : Nat) : Int) 4294967295 = ((crc bs : Nat) : Int) from xor_nat (b := 4294967295) hx (by omega)]
    refine awp_ret ?_
    try simp only [go_sem]
    exact fin _ _ _ rfl rfl
theorem implCrc_ok (bs : List UInt8) (h : bs.length ≤ lim) : FS Try.prog 159 [] [.fz 1 (rw_ byteC bs)] (.int .i64 (crc bs : Nat)) [] := by
  refine FS.of (X := X159) (ac := A159) (os := O159) Try.func159 (by rfl) (by rfl) (by kernel_rfl) o159 (Nat.le_of_ble_eq_true rfl) ?_
  show AWP X159 A159 (Ends X159.vs O159 0 _ _) [.fz 1 (rw_ byteC bs), .tup [], .tup [], .tup [], .tup [], .tup [], .tup [], .tup [], .tup [], .tup [], .tup [], .tup []] []
  obtain ⟨Q, hQ⟩ : ∃ Q, Q = Ends X159.vs O159 0 (.int .i64 (crc bs : Nat)) [] := ⟨_, rfl⟩
  rw [← hQ]
  have h : bs.length ≤ 10000000000000 := h
  have fin : ∀ L σ v, resVs O159 (look X159.vs L) σ = some [v] → v = (.int .i64 (crc bs : Nat)) → Q .ret L σ := by
    intro L σ v h1 h2
    rw [hQ]
    exact Ends.is (.inl rfl) h1 (by simp only [packV, h2]) rfl
  refine awp_sr ?_
  simp only [go_sem, R159_0, v159, p159]
  refine awp_sr ?_
  simp only [go_sem, R159_1, v159, p159]
  refine awp_sr2 ?_
  simp only [go_sem, R159_2, v159, p159]
  obtain ⟨I, hI⟩ : ∃ I : Nat → List V → Store → Prop, I = fun mM L σ => ∃ i y0 y2 y5 y6 y10 y17 y18 y24, mM = bs.length - i ∧ i ≤ bs.length ∧ (True) ∧ L = [y0, y2, .int .i64 (((bs.take i).foldl crcByte 4294967295 : Nat) : Int), y5, y6, .fz 1 (rw_ byteC bs), .int .i64 (bs.length : Nat), .int .i64 (i : Nat), y10, y17, y18, y24] ∧ σ = [] := ⟨_, rfl⟩
  first | refine awp_for I bs.length ?_ ?_ | refine awp_seq (awp_for I bs.length ?_ ?_)
  · rw [hI]; refine ⟨0, _, _, _, _, _, _, _, _, rfl, Nat.zero_le _, ?_, rfl, rfl⟩
    trivial
  intro mM L σ hIn
  rw [hI] at hIn
  obtain ⟨i, y0, y2, y5, y6, y10, y17, y18, y24, rfl, hi, hP, rfl, rfl⟩ := hIn
  refine awp_sr ?_
  simp only [go_sem, R159_3, v159, p159]
  refine awp_seq ?_
  refine awp_if rfl ?_ ?_
  · intro h1
    have h1 : i < bs.length := by omega
    have hx := crcFold_lt (bs.take i) (x := 4294967295) (by omega)
    have e1 := fold_take1 crcByte 4294967295 h1
    generalize (bs.take i).foldl crcByte 4294967295 = x at hx e1
    refine awp_skip ?_
    simp only [go_sem]
    refine awp_seq (awp_block ?_)
    refine awp_sr ?_
    simp only [go_sem, R159_4, v159, p159, rw_at _ h1, byteC]
    refine awp_sr ?_
    simp only [go_sem, R159_5, v159, p159, wrap_i64 (n := (bs[i].toNat : Int)) (by omega) (by have := byte_lt bs[i]; omega), xor_nat hx (byte_lt bs[i])]
    refine awp_sr ?_
    simp only [go_sem, R159_6, v159, p159]
    obtain ⟨J, hJ⟩ : ∃ J : Nat → List V → Store → Prop, J = fun mM L σ => ∃ k y0 y2 y5 y6 y10 y18 y24, 8 - k = mM ∧ (k ≤ 8) ∧ L = [y0, y2, .int .i64 ((crcIter k (x ^^^ bs[i].toNat) : Nat) : Int), y5, y6, .fz 1 (rw_ byteC bs), .int .i64 (bs.length : Nat), .int .i64 (i : Nat), y10, .int .i64 (k : Nat), y18, y24] ∧ σ = [] := ⟨_, rfl⟩
    first | refine awp_for J (8) ?_ ?_ | refine awp_seq (awp_for J (8) ?_ ?_)
    · rw [hJ]
      refine ⟨0, _, _, _, _, _, _, _, rfl, ?_, rfl, rfl⟩
      omega
    intro mM L σ hIn
    rw [hJ] at hIn
    obtain ⟨k, y0, y2, y5, y6, y10, y18, y24, rfl, hP, rfl, rfl⟩ := hIn
    have hy := crcIter_lt (xor_lt hx (byte_lt bs[i])) k
    refine awp_sr ?_
    simp only [go_sem, R159_7, v159, p159]
    refine awp_seq ?_
    refine awp_if rfl ?_ ?_
    · intro h2
      generalize hy0 : crcIter k (x ^^^ bs[i].toNat) = y at hy
      refine awp_skip ?_
      simp only [go_sem]
      first | refine awp_block ?_ | refine awp_seq (awp_block ?_)
      refine awp_sr ?_
      simp only [go_sem, R159_8, v159, p159, show ((y : Int).tmod 2) = ((y % 2 : Nat) : Int) from tmod_nat y 2]
      refine awp_sr ?_
      simp only [go_sem, R159_9, v159, p159, show ((y : Int).tdiv 2) = ((y / 2 : Nat) : Int) from tdiv_nat y 2, wrap_i64 (n := ((y / 2 : Nat) : Int)) (by omega) (by omega)]
      refine awp_sr ?_
      simp only [go_sem, R159_10, v159, p159]
      obtain ⟨K2, hK2⟩ : ∃ K : List V → Store → Prop, K = fun L σ => ∃ y0 y2 y5 y6 y10 y18 y24, L = [y0, y2, .int .i64 ((crcStep y : Nat) : Int), y5, y6, .fz 1 (rw_ byteC bs), .int .i64 (bs.length : Nat), .int .i64 (i : Nat), y10, .int .i64 (k : Nat), y18, y24] ∧ σ = [] ∧ True := ⟨_, rfl⟩
      refine awp_K K2 ?_ ?_
      · refine awp_if rfl ?_ ?_
        · intro h3
          refine awp_reg ?_
          simp only [go_sem, R159_11, v159, p159, show xorI .i64 ((y / 2 : Nat) : Int) 3988292384 = ((y / 2 ^^^ 3988292384 : Nat) : Int) from xor_nat (a := y / 2) (b := 3988292384) (by omega) (by omega)]
          rw [show y / 2 ^^^ 3988292384 = crcStep y by unfold crcStep; rw [if_pos (by omega)]]
          rw [hK2]
          refine ⟨_, _, _, _, _, _, _, rfl, rfl, ?_⟩
          trivial
        · intro h3
          refine awp_skip ?_
          simp only [go_sem]
          rw [show y / 2 = crcStep y by unfold crcStep; rw [if_neg (by omega)]]
          rw [hK2]
          refine ⟨_, _, _, _, _, _, _, rfl, rfl, ?_⟩
          trivial
      · intro L σ hq
        rw [hK2] at hq
        obtain ⟨y0, y2, y5, y6, y10, y18, y24, rfl, rfl, hq⟩ := hq
        simp only [go_sem, v159, p159]
        refine awp_reg ?_
        simp only [go_sem, R159_12, v159, p159, wrap_succ (i := k) (by omega)]
        rw [show crcStep y = crcIter (k + 1) (x ^^^ bs[i].toNat) by rw [← hy0]; rfl]
        refine ⟨8 - (k + 1), ?_, ?_⟩
        rotate_left
        rw [hJ]
        refine ⟨k + 1, _, _, _, _, _, _, _, rfl, ?_, rfl, rfl⟩
        · omega
        · omega
    · intro h2
      have : k = 8 := by omega
      subst this
      refine awp_exit ?_
      simp only [go_sem]
      refine awp_reg ?_
      simp only [go_sem, R159_13, v159, p159, wrap_succ (i := i) (by omega)]
      rw [show crcIter 8 (x ^^^ bs[i].toNat) = (bs.take (i + 1)).foldl crcByte 4294967295 from e1.symm]
      refine ⟨bs.length - (i + 1), by omega, ?_⟩
      rw [hI]
      refine ⟨i + 1, _, _, _, _, _, _, _, _, rfl, by omega, ?_, rfl, rfl⟩
      trivial
  · intro h1
    refine awp_exit ?_
    simp only [go_sem]
    have : i = bs.length := by omega
    subst this
    have hx := crcFold_lt bs (x := 4294967295) (by omega)
    rw [List.take_length]
    refine awp_sr ?_
    simp only [go_sem, R159_14, v159, p159, show xorI .i64 ((bs.foldl crcByte 4294967295 : Nat) : Int) 4294967295 = ((crc bs : Nat) : Int) from xor_nat (b := 4294967295) hx (by omega)]
    refine awp_ret ?_
    try simp only [go_sem]
    exact fin _ _ _ rfl rfl
end Go.Proofs.Ytffigokicddekaa.Abs
/- Texts and check sums as bytes, walked in both texts. No condition. -/
set_option linter.unusedVariables false
set_option linter.unusedSimpArgs false
set_option maxRecDepth 10000
namespace Go.Proofs.Ytffigokicddekaa.Abs
open Go Go.Proofs
def R163_0 : List AR := [⟨(some 2), none, 0, (.mov (.k .nl))⟩]
def R163_1 : List AR := [⟨(some 3), none, 0, (.mov (.t 0))⟩, ⟨(some 4), none, 0, (.slen (.t 3))⟩, ⟨(some 5), none, 0, (.call false 0 1 154 [(.t 4)])⟩, ⟨(some 6), none, 0, (.mov (.t 0))⟩, ⟨(some 7), none, 0, (.s2b 1 (.t 6))⟩, ⟨(some 8), none, 0, (.app 2 1 1 (.t 5) (.t 7))⟩, ⟨(some 2), none, 0, (.mov (.t 8))⟩]
def A163_0 : AC := (.seq (.reg 3 R163_1) .ret)
def A163 : AC := (.seq (.reg 0 R163_0) A163_0)
def O163 : List AO := [(.mov (.t 2))]
def G163 : Fns := ⟨fun f => false, fun f => if f = 154 then 1 else 0, false⟩
noncomputable def X163 : Cx := ⟨Try.prog, G163, drawD, 9, [0, 2]⟩
theorem c163 : (Try.f163.body).bind (compC X163.P X163.Γ X163.D X163.nt) = some A163 := by kernel_rfl
theorem o163 : compRes X163.P Try.f163.results.toList = some O163 := by kernel_rfl
theorem v163 : X163.vs = [0, 2] := rfl
theorem p163 : X163.P = Try.prog := rfl
def R139_0 : List AR := [⟨(some 2), none, 0, (.mov (.k .nl))⟩]
def R139_1 : List AR := [⟨(some 3), none, 0, (.mov (.t 0))⟩, ⟨(some 4), none, 0, (.slen (.t 3))⟩, ⟨(some 5), none, 0, (.call false 0 1 118 [(.t 4)])⟩, ⟨(some 6), none, 0, (.mov (.t 0))⟩, ⟨(some 7), none, 0, (.s2f (.t 6))⟩, ⟨(some 8), none, 0, (.bslice 1 1 2 [.nl] [(0, (.t 5)), (1, (.t 7))])⟩, ⟨(some 9), none, 0, (.call false 2 1 117 [(.t 8)])⟩, ⟨(some 2), none, 0, (.mov (.t 9))⟩]
def A139_0 : AC := (.seq (.reg 3 R139_1) .ret)
def A139 : AC := (.seq (.reg 0 R139_0) A139_0)
def O139 : List AO := [(.mov (.t 2))]
def G139 : Fns := ⟨fun f => false, fun f => if f = 118 then 1 else if f = 117 then 1 else 0, true⟩
noncomputable def X139 : Cx := ⟨Try.prog, G139, drawD, 10, [0, 2]⟩
theorem c139 : (Try.f139.body).bind (compC X139.P X139.Γ X139.D X139.nt) = some A139 := by kernel_rfl
theorem o139 : compRes X139.P Try.f139.results.toList = some O139 := by kernel_rfl
theorem v139 : X139.vs = [0, 2] := rfl
theorem p139 : X139.P = Try.prog := rfl
def R114_0 : List AR := [⟨(some 2), none, 0, (.mov (.k .nl))⟩]
def R114_1 : List AR := [⟨(some 4), none, 0, (.mov (.t 0))⟩, ⟨(some 5), none, 0, (.call false 0 0 156 [(.t 4)])⟩, ⟨(some 3), none, 0, (.mov (.t 5))⟩]
def R114_2 : List AR := [⟨(some 6), none, 0, (.mov (.t 3))⟩, ⟨(some 7), none, 0, (.bin .quo (.t 6) (.k (.int .i64 16777216)))⟩, ⟨(some 8), none, 0, (.cint .u8 (.t 7))⟩, ⟨(some 9), none, 0, (.mov (.t 3))⟩, ⟨(some 10), none, 0, (.bin .quo (.t 9) (.k (.int .i64 65536)))⟩, ⟨(some 11), none, 0, (.bin .rem (.t 10) (.k (.int .i64 256)))⟩, ⟨(some 12), none, 0, (.cint .u8 (.t 11))⟩, ⟨(some 13), none, 0, (.mov (.t 3))⟩, ⟨(some 14), none, 0, (.bin .quo (.t 13) (.k (.int .i64 256)))⟩, ⟨(some 15), none, 0, (.bin .rem (.t 14) (.k (.int .i64 256)))⟩, ⟨(some 16), none, 0, (.cint .u8 (.t 15))⟩, ⟨(some 17), none, 0, (.mov (.t 3))⟩, ⟨(some 18), none, 0, (.bin .rem (.t 17) (.k (.int .i64 256)))⟩, ⟨(some 19), none, 0, (.cint .u8 (.t 18))⟩, ⟨(some 20), none, 0, (.bslice 0 1 4 [(.int .u8 0)] [(0, (.t 8)), (1, (.t 12)), (2, (.t 16)), (3, (.t 19))])⟩, ⟨(some 2), none, 0, (.mov (.t 20))⟩]
def A114_0 : AC := (.seq (.reg 1 R114_2) .ret)
def A114_1 : AC := (.seq (.reg 0 R114_1) A114_0)
def A114 : AC := (.seq (.reg 0 R114_0) A114_1)
def O114 : List AO := [(.mov (.t 2))]
def G114 : Fns := ⟨fun f => false, fun f => 0, false⟩
noncomputable def X114 : Cx := ⟨Try.prog, G114, drawD, 21, [0, 2, 3]⟩
theorem c114 : (Try.f114.body).bind (compC X114.P X114.Γ X114.D X114.nt) = some A114 := by kernel_rfl
theorem o114 : compRes X114.P Try.f114.results.toList = some O114 := by kernel_rfl
theorem v114 : X114.vs = [0, 2, 3] := rfl
theorem p114 : X114.P = Try.prog := rfl
def R120_0 : List AR := [⟨(some 2), none, 0, (.mov (.k .nl))⟩]
def R120_1 : List AR := [⟨(some 4), none, 0, (.mov (.t 0))⟩, ⟨(some 5), none, 0, (.call false 0 0 159 [(.t 4)])⟩, ⟨(some 3), none, 0, (.mov (.t 5))⟩]
def R120_2 : List AR := [⟨(some 6), none, 0, (.mov (.t 3))⟩, ⟨(some 7), none, 0, (.bin .shr (.t 6) (.k (.int .u64 24)))⟩, ⟨(some 8), none, 0, (.bin .and (.t 7) (.k (.int .i64 255)))⟩, ⟨(some 9), none, 0, (.cint .u8 (.t 8))⟩, ⟨(some 10), none, 0, (.mov (.t 3))⟩, ⟨(some 11), none, 0, (.bin .shr (.t 10) (.k (.int .u64 16)))⟩, ⟨(some 12), none, 0, (.bin .and (.t 11) (.k (.int .i64 255)))⟩, ⟨(some 13), none, 0, (.cint .u8 (.t 12))⟩, ⟨(some 14), none, 0, (.mov (.t 3))⟩, ⟨(some 15), none, 0, (.bin .shr (.t 14) (.k (.int .u64 8)))⟩, ⟨(some 16), none, 0, (.bin .and (.t 15) (.k (.int .i64 255)))⟩, ⟨(some 17), none, 0, (.cint .u8 (.t 16))⟩, ⟨(some 18), none, 0, (.mov (.t 3))⟩, ⟨(some 19), none, 0, (.bin .and (.t 18) (.k (.int .i64 255)))⟩, ⟨(some 20), none, 0, (.cint .u8 (.t 19))⟩, ⟨(some 21), none, 0, (.bslice 0 1 4 [(.int .u8 0)] [(0, (.t 9)), (1, (.t 13)), (2, (.t 17)), (3, (.t 20))])⟩, ⟨(some 2), none, 0, (.mov (.t 21))⟩]
def A120_0 : AC := (.seq (.reg 1 R120_2) .ret)
def A120_1 : AC := (.seq (.reg 0 R120_1) A120_0)
def A120 : AC := (.seq (.reg 0 R120_0) A120_1)
def O120 : List AO := [(.mov (.t 2))]
def G120 : Fns := ⟨fun f => false, fun f => 0, false⟩
noncomputable def X120 : Cx := ⟨Try.prog, G120, drawD, 22, [0, 2, 3]⟩
theorem c120 : (Try.f120.body).bind (compC X120.P X120.Γ X120.D X120.nt) = some A120 := by kernel_rfl
theorem o120 : compRes X120.P Try.f120.results.toList = some O120 := by kernel_rfl
theorem v120 : X120.vs = [0, 2, 3] := rfl
theorem p120 : X120.P = Try.prog := rfl
def putText (s : ByteArray) : List UInt8 := putNum s.size ++ s.toList
theorem bytes_flat {s : Nat} (xs : List UInt8) : (⟨s, rw_ byteC xs⟩ : Ob).flat := by
  intro l hl x hx
  simp only [rw_, List.mem_map] at hl
  obtain ⟨a, _, rfl⟩ := hl
  exact byteC_flat a x hx
theorem ofBytes_rw (s : ByteArray) : ofBytes s = rw_ byteC s.toList := rfl
theorem toList_size (s : ByteArray) : s.toList.length = s.size := by rw [ByteArray.toList_eq]; simp
theorem rowB_closed (a : List UInt8) : ∀ x ∈ rowB a, x.closed = true := by simp [rowB, V.closed]
theorem brows_ok {s : Nat} (xs : List (List UInt8)) : (⟨s, rw_ rowB xs⟩ : Ob).closed := rw_closed rowB_closed xs
theorem toList_take (s : ByteArray) : s.toList.take s.size = s.toList := by rw [← toList_size s]; exact List.take_length
theorem specPutText_ok (s : ByteArray) (h : s.size ≤ 2147483647) : FS Try.prog 163 [] [.str s] (.sl 0 1 0 (putText s).length) [⟨1, rw_ byteC (putText s)⟩] := by
  refine FS.of (X := X163) (ac := A163) (os := O163) Try.func163 (by rfl) (by rfl) (by kernel_rfl) o163 (Nat.le_of_ble_eq_true rfl) ?_
  show AWP X163 A163 (Ends X163.vs O163 0 _ _) [.str s, .tup []] []
  obtain ⟨Q, hQ⟩ : ∃ Q, Q = Ends X163.vs O163 0 (.sl 0 1 0 (putText s).length) [⟨1, rw_ byteC (putText s)⟩] := ⟨_, rfl⟩
  rw [← hQ]
  refine awp_sr ?_
  simp only [go_sem, R163_0, v163, p163]
  refine awp_sr ?_
  simp only [go_sem, R163_1, v163, p163]
  refine run_new (specPutNum_ok s.size h) false (Views.refl rfl) (by first | rfl | (simp only [Nat.add_zero, app_get, app_getk, sapp_get, sapp_getk, Nat.add_assoc, Nat.reduceAdd, List.getElem?_cons_zero, List.getElem?_cons_succ]; done) | simp) (bytes_ok _) (by simp [V.ids]) (fun h => by cases h) ?_
  have h5 := putNum_5 h
  have hsz := toList_size s
  simp only [go_sem, v163, p163, ofBytes_rw, toList_size, toList_take]
  refine ⟨by omega, ?_⟩
  refine awp_ret ?_
  try simp only [go_sem]
  rw [hQ]
  exact Ends.ownLast (.inl rfl) rfl (Last.mk2 [] _ _ _) (by simp [putText, hsz]) (bytes_ok _)
theorem implPutText_ok (s : ByteArray) (h : s.size ≤ 2147483647) : FS Try.prog 139 [] [.str s] (.sl 0 1 0 (putText s).length) [⟨1, rw_ byteC (putText s)⟩] := by
  refine FS.of (X := X139) (ac := A139) (os := O139) Try.func139 (by rfl) (by rfl) (by kernel_rfl) o139 (Nat.le_of_ble_eq_true rfl) ?_
  show AWP X139 A139 (Ends X139.vs O139 0 _ _) [.str s, .tup []] []
  obtain ⟨Q, hQ⟩ : ∃ Q, Q = Ends X139.vs O139 0 (.sl 0 1 0 (putText s).length) [⟨1, rw_ byteC (putText s)⟩] := ⟨_, rfl⟩
  rw [← hQ]
  refine awp_sr ?_
  simp only [go_sem, R139_0, v139, p139]
  refine awp_sr ?_
  simp only [go_sem, R139_1, v139, p139]
  refine run_see (implPutNum_fz s.size h) false (Views.refl rfl) rfl (fun j hj => by first | omega | ((have hj0 : j = 0 := by omega); subst hj0; first | rfl | (simp only [Nat.add_zero, app_get, app_getk, sapp_get, sapp_getk, Nat.add_assoc, Nat.reduceAdd, List.getElem?_cons_zero, List.getElem?_cons_succ]; done) | simp)) (fun h => by cases h) ?_
  simp only [go_sem, v139, p139, ofBytes_rw, fz_fold, show ∀ a b : List UInt8, [rowB a, rowB b] = rw_ rowB [a, b] from fun _ _ => rfl]
  have := putNum_5 h
  have := toList_size s
  have hlen : [putNum s.size, s.toList].flatten.length ≤ lim := by simp [lim]; omega
  refine run_new (joined_ok [putNum s.size, s.toList] hlen (by simp)) true (.cons (View.row (by simp) rfl rfl (brows_ok _)) (.nil)) (by first | rfl | (simp only [Nat.add_zero, app_get, app_getk, sapp_get, sapp_getk, Nat.add_assoc, Nat.reduceAdd, List.getElem?_cons_zero, List.getElem?_cons_succ]; done) | simp) (bytes_ok _) (by simp [V.ids]) (fun _ => ⟨rfl, bytes_flat _⟩) ?_
  simp only [go_sem, v139, p139]
  refine awp_ret ?_
  try simp only [go_sem]
  rw [hQ]
  rw [show putText s = [putNum s.size, s.toList].flatten by simp [putText]]
  exact Ends.ownLast (.inl rfl) rfl (Last.mk2 [] _ _ _) rfl (bytes_ok _)
theorem specPutText_fz (s : ByteArray) (h : s.size ≤ 2147483647) : FS Try.prog 163 [] [.str s] (.fz 1 (rw_ byteC (putText s))) [] := (specPutText_ok s h).frz (bytes_ok _) (rw_len _ _).symm
theorem implPutText_fz (s : ByteArray) (h : s.size ≤ 2147483647) : FS Try.prog 139 [] [.str s] (.fz 1 (rw_ byteC (putText s))) [] := (implPutText_ok s h).frz (bytes_ok _) (rw_len _ _).symm
theorem putText_len {s : ByteArray} (h : s.size ≤ 2147483647) : (putText s).length ≤ s.size + 5 := by
  unfold putText
  have := putNum_5 h
  rw [List.length_append, toList_size]
  omega
def sumBytes (x : Nat) : List UInt8 := [u8 ((x / 16777216 : Nat) : Int), u8 ((x / 65536 % 256 : Nat) : Int), u8 ((x / 256 % 256 : Nat) : Int), u8 ((x % 256 : Nat) : Int)]
theorem u8_mod (n : Nat) : u8 ((n % 256 : Nat) : Int) = u8 (n : Int) := by
  unfold u8
  congr 1
  omega
theorem and_255 {a : Nat} (ha : a < 4294967296) : andI .i64 (a : Int) 255 = ((a % 256 : Nat) : Int) := by
  have e : (BitVec.ofInt (IntKind.bits .i64) (a : Int) &&& BitVec.ofInt (IntKind.bits .i64) (255 : Int)).toNat = a % 256 := by
    rw [BitVec.toNat_and, BitVec.ofInt_natCast, show (255 : Int) = ((255 : Nat) : Int) from rfl, BitVec.ofInt_natCast, BitVec.toNat_ofNat, BitVec.toNat_ofNat]
    rw [Nat.mod_eq_of_lt, Nat.mod_eq_of_lt]
    · exact Nat.and_two_pow_sub_one_eq_mod a 8
    · simp only [IntKind.bits]; omega
    · simp only [IntKind.bits]; omega
  unfold andI
  rw [e]
  exact wrap_i64 (by omega) (by omega)
theorem fdiv_nat (n k : Nat) : (n : Int).fdiv (k : Int) = ((n / k : Nat) : Int) := by
  rw [Int.fdiv_eq_ediv_of_nonneg _ (by omega)]; rfl
theorem specL10Sum_ok (bs : List UInt8) (h : bs.length ≤ lim) : FS Try.prog 114 [] [.fz 1 (rw_ byteC bs)] (.sl 0 1 0 4) [⟨1, rw_ byteC (sumBytes (crc bs))⟩] := by
  refine FS.of (X := X114) (ac := A114) (os := O114) Try.func114 (by rfl) (by rfl) (by kernel_rfl) o114 (Nat.le_of_ble_eq_true rfl) ?_
  show AWP X114 A114 (Ends X114.vs O114 0 _ _) [.fz 1 (rw_ byteC bs), .tup [], .tup []] []
  obtain ⟨Q, hQ⟩ : ∃ Q, Q = Ends X114.vs O114 0 (.sl 0 1 0 4) [⟨1, rw_ byteC (sumBytes (crc bs))⟩] := ⟨_, rfl⟩
  rw [← hQ]
  have hx := crc_lt bs
  refine awp_sr ?_
  simp only [go_sem, R114_0, v114, p114]
  refine awp_sr ?_
  simp only [go_sem, R114_1, v114, p114]
  refine run_see (specCrc_ok bs h) false (Views.refl rfl) rfl (fun j hj => by first | omega | ((have hj0 : j = 0 := by omega); subst hj0; first | rfl | (simp only [Nat.add_zero, app_get, app_getk, sapp_get, sapp_getk, Nat.add_assoc, Nat.reduceAdd, List.getElem?_cons_zero, List.getElem?_cons_succ]; done) | simp)) (fun h => by cases h) ?_
  simp only [go_sem, v114, p114]
  generalize crc bs = x at hx hQ
  refine awp_sr ?_
  simp only [go_sem, R114_2, v114, p114, wrap_u8, show ((x : Int).tdiv 16777216) = ((x / 16777216 : Nat) : Int) from tdiv_nat x 16777216, show ((x : Int).tdiv 65536) = ((x / 65536 : Nat) : Int) from tdiv_nat x 65536, show ((x : Int).tdiv 256) = ((x / 256 : Nat) : Int) from tdiv_nat x 256, show ((x : Int).tmod 256) = ((x % 256 : Nat) : Int) from tmod_nat x 256, wrap_i64 (n := ((x / 16777216 : Nat) : Int)) (by omega) (by omega), wrap_i64 (n := ((x / 65536 : Nat) : Int)) (by omega) (by omega), wrap_i64 (n := ((x / 256 : Nat) : Int)) (by omega) (by omega), show (((x / 65536 : Nat) : Int).tmod 256) = ((x / 65536 % 256 : Nat) : Int) from tmod_nat _ 256, show (((x / 256 : Nat) : Int).tmod 256) = ((x / 256 % 256 : Nat) : Int) from tmod_nat _ 256]
  refine awp_ret ?_
  try simp only [go_sem]
  rw [hQ]
  exact Ends.ownLast (.inl rfl) rfl (Last.mk [] _) rfl (bytes_ok (sumBytes x))
theorem implCrcBytes_ok (bs : List UInt8) (h : bs.length ≤ lim) : FS Try.prog 120 [] [.fz 1 (rw_ byteC bs)] (.sl 0 1 0 4) [⟨1, rw_ byteC (sumBytes (crc bs))⟩] := by
  refine FS.of (X := X120) (ac := A120) (os := O120) Try.func120 (by rfl) (by rfl) (by kernel_rfl) o120 (Nat.le_of_ble_eq_true rfl) ?_
  show AWP X120 A120 (Ends X120.vs O120 0 _ _) [.fz 1 (rw_ byteC bs), .tup [], .tup []] []
  obtain ⟨Q, hQ⟩ : ∃ Q, Q = Ends X120.vs O120 0 (.sl 0 1 0 4) [⟨1, rw_ byteC (sumBytes (crc bs))⟩] := ⟨_, rfl⟩
  rw [← hQ]
  have hx := crc_lt bs
  refine awp_sr ?_
  simp only [go_sem, R120_0, v120, p120]
  refine awp_sr ?_
  simp only [go_sem, R120_1, v120, p120]
  refine run_see (implCrc_ok bs h) false (Views.refl rfl) rfl (fun j hj => by first | omega | ((have hj0 : j = 0 := by omega); subst hj0; first | rfl | (simp only [Nat.add_zero, app_get, app_getk, sapp_get, sapp_getk, Nat.add_assoc, Nat.reduceAdd, List.getElem?_cons_zero, List.getElem?_cons_succ]; done) | simp)) (fun h => by cases h) ?_
  simp only [go_sem, v120, p120]
  generalize crc bs = x at hx hQ
  refine awp_sr ?_
  simp only [go_sem, R120_2, v120, p120, wrap_u8]
  have f1 : (x : Int).fdiv (2 ^ min (Int.toNat 24) 64) = ((x / 16777216 : Nat) : Int) := fdiv_nat x 16777216
  have f2 : (x : Int).fdiv (2 ^ min (Int.toNat 16) 64) = ((x / 65536 : Nat) : Int) := fdiv_nat x 65536
  have f3 : (x : Int).fdiv (2 ^ min (Int.toNat 8) 64) = ((x / 256 : Nat) : Int) := fdiv_nat x 256
  rw [f1, f2, f3, and_255 (by omega), and_255 (by omega), and_255 (by omega), and_255 (by omega), u8_mod]
  refine awp_ret ?_
  try simp only [go_sem]
  rw [hQ]
  exact Ends.ownLast (.inl rfl) rfl (Last.mk [] _) rfl (bytes_ok (sumBytes x))
theorem specL10Sum_fz (bs : List UInt8) (h : bs.length ≤ lim) : FS Try.prog 114 [] [.fz 1 (rw_ byteC bs)] (.fz 1 (rw_ byteC (sumBytes (crc bs)))) [] := (specL10Sum_ok bs h).frz (bytes_ok _) rfl
theorem implCrcBytes_fz (bs : List UInt8) (h : bs.length ≤ lim) : FS Try.prog 120 [] [.fz 1 (rw_ byteC bs)] (.fz 1 (rw_ byteC (sumBytes (crc bs)))) [] := (implCrcBytes_ok bs h).frz (bytes_ok _) rfl
end Go.Proofs.Ytffigokicddekaa.Abs
/- An entry and a floor looked up, walked in both texts. No condition. -/
set_option linter.unusedVariables false
set_option linter.unusedSimpArgs false
set_option maxRecDepth 10000
namespace Go.Proofs.Ytffigokicddekaa.Abs
open Go Go.Proofs
def R100_0 : List AR := [⟨(some 2), none, 0, (.box 0 2 (.t 0))⟩, ⟨(some 4), none, 0, (.mov (.k (.int .i64 0)))⟩]
def R100_1 : List AR := [⟨(some 5), none, 0, (.mov (.k (.int .i64 0)))⟩]
def R100_2 : List AR := [⟨(some 6), none, 0, (.mov (.t 5))⟩, ⟨(some 7), none, 0, (.faddr 1 (.t 2))⟩, ⟨(some 8), none, 0, (.load 1 false (.t 7))⟩, ⟨(some 9), none, 0, (.len (.t 8))⟩, ⟨(some 10), none, 0, (.bin .lss (.t 6) (.t 9))⟩]
def R100_3 : List AR := [⟨(some 13), none, 0, (.faddr 1 (.t 2))⟩, ⟨(some 14), none, 0, (.load 1 false (.t 13))⟩, ⟨(some 15), none, 0, (.mov (.t 5))⟩, ⟨(some 16), none, 0, (.iaddr 2 (.t 14) (.t 15))⟩, ⟨(some 17), none, 0, (.faddr 0 (.t 16))⟩, ⟨(some 18), none, 0, (.load 1 false (.t 17))⟩, ⟨(some 19), none, 0, (.mov (.t 1))⟩, ⟨(some 20), none, 0, (.bin .eql (.t 18) (.t 19))⟩]
def R100_4 : List AR := [⟨(some 21), none, 0, (.faddr 1 (.t 2))⟩, ⟨(some 22), none, 0, (.load 1 false (.t 21))⟩, ⟨(some 23), none, 0, (.mov (.t 5))⟩, ⟨(some 24), none, 0, (.iaddr 2 (.t 22) (.t 23))⟩, ⟨(some 25), none, 0, (.faddr 1 (.t 24))⟩, ⟨(some 26), none, 0, (.load 1 false (.t 25))⟩, ⟨(some 4), none, 0, (.mov (.t 26))⟩]
def R100_5 : List AR := [⟨(some 11), none, 0, (.mov (.t 5))⟩, ⟨(some 12), none, 0, (.bin .add (.t 11) (.k (.int .i64 1)))⟩, ⟨(some 5), none, 0, (.mov (.t 12))⟩]
def A100_0 : AC := (.seq (.block 1 (.seq (.reg 0 R100_3) (.cond (.t 20) (.seq (.reg 0 R100_4) .ret) .skip))) (.reg 0 R100_5))
def L100_0 : AC := (.seq (.seq (.reg 0 R100_2) (.cond (.t 10) .skip (.exit 0))) A100_0)
def R100_6 : List AR := [⟨(some 4), none, 0, (.mov (.k (.int .i64 0)))⟩]
def A100_1 : AC := (.seq (.reg 0 R100_6) .ret)
def A100_2 : AC := (.seq (.seq (.reg 0 R100_1) (.block 0 (.loop L100_0))) A100_1)
def A100 : AC := (.seq (.reg 1 R100_0) A100_2)
def O100 : List AO := [(.mov (.t 4))]
def G100 : Fns := ⟨fun f => false, fun f => 0, false⟩
noncomputable def X100 : Cx := ⟨Try.prog, G100, drawD, 27, [0, 1, 2, 4, 5, 10, 20]⟩
theorem c100 : (Try.f100.body).bind (compC X100.P X100.Γ X100.D X100.nt) = some A100 := by kernel_rfl
theorem o100 : compRes X100.P Try.f100.results.toList = some O100 := by kernel_rfl
theorem v100 : X100.vs = [0, 1, 2, 4, 5, 10, 20] := rfl
theorem p100 : X100.P = Try.prog := rfl
def R107_0 : List AR := [⟨(some 2), none, 0, (.box 0 2 (.t 0))⟩, ⟨(some 4), none, 0, (.mov (.k (.int .i64 0)))⟩]
def R107_1 : List AR := [⟨(some 7), none, 0, (.faddr 1 (.t 2))⟩, ⟨(some 8), none, 0, (.load 1 false (.t 7))⟩, ⟨(some 9), none, 0, (.len (.t 8))⟩, ⟨(some 10), none, 0, (.mov (.k (.int .i64 0)))⟩]
def R107_2 : List AR := [⟨(some 11), none, 0, (.bin .lss (.t 10) (.t 9))⟩]
def R107_3 : List AR := [⟨(some 12), none, 0, (.iaddr 2 (.t 8) (.t 10))⟩, ⟨(some 13), none, 0, (.load 2 true (.t 12))⟩, ⟨(some 6), none, 0, (.alloc 0 2 [(.int .i64 0), (.int .i64 0)])⟩, ⟨none, none, 0, (.store 2 (.t 6) (.t 13))⟩]
def R107_4 : List AR := [⟨(some 14), none, 0, (.faddr 0 (.t 6))⟩, ⟨(some 15), none, 0, (.load 1 false (.t 14))⟩, ⟨(some 16), none, 0, (.mov (.t 1))⟩, ⟨(some 17), none, 0, (.bin .eql (.t 15) (.t 16))⟩]
def R107_5 : List AR := [⟨(some 18), none, 0, (.faddr 1 (.t 6))⟩, ⟨(some 19), none, 0, (.load 1 false (.t 18))⟩, ⟨(some 4), none, 0, (.mov (.t 19))⟩]
def A107_0 : AC := (.seq (.reg 0 R107_4) (.cond (.t 17) (.seq (.reg 0 R107_5) .ret) .skip))
def R107_6 : List AR := [⟨(some 20), none, 0, (.bin .add (.t 10) (.k (.int .i64 1)))⟩, ⟨(some 10), none, 0, (.mov (.t 20))⟩]
def A107_1 : AC := (.seq (.block 1 (.seq (.reg 1 R107_3) A107_0)) (.reg 0 R107_6))
def A107_2 : AC := (.seq (.cond (.t 11) .skip (.exit 0)) A107_1)
def L107_0 : AC := (.seq (.reg 0 R107_2) A107_2)
def R107_7 : List AR := [⟨(some 4), none, 0, (.mov (.k (.int .i64 0)))⟩]
def A107_3 : AC := (.seq (.reg 0 R107_7) .ret)
def A107_4 : AC := (.seq (.seq (.reg 0 R107_1) (.block 0 (.loop L107_0))) A107_3)
def A107 : AC := (.seq (.reg 1 R107_0) A107_4)
def O107 : List AO := [(.mov (.t 4))]
def G107 : Fns := ⟨fun f => false, fun f => 0, false⟩
noncomputable def X107 : Cx := ⟨Try.prog, G107, drawD, 21, [0, 1, 2, 4, 6, 8, 9, 10, 11, 17]⟩
theorem c107 : (Try.f107.body).bind (compC X107.P X107.Γ X107.D X107.nt) = some A107 := by kernel_rfl
theorem o107 : compRes X107.P Try.f107.results.toList = some O107 := by kernel_rfl
theorem v107 : X107.vs = [0, 1, 2, 4, 6, 8, 9, 10, 11, 17] := rfl
theorem p107 : X107.P = Try.prog := rfl
def floorL : List Floor → Int → Int
  | [], _ => 0
  | f :: fs, id => if f.id = id then f.inc else floorL fs id
def floorOf (s : State) (id : Int) : Int := floorL s.floors id
theorem floorL_at {xs : List Floor} {i : Nat} (h : i < xs.length) (id : Int) : floorL (xs.drop i) id = if xs[i].id = id then xs[i].inc else floorL (xs.drop (i + 1)) id := by
  rw [List.drop_eq_getElem_cons h]; rfl
theorem specFloorOf_ok (a : State) (id : Int) (h : a.floors.length ≤ 1000000000) : FS Try.prog 100 [] [.agg a.c, .int .i64 id] (.int .i64 (floorOf a id)) [] := by
  refine FS.of (X := X100) (ac := A100) (os := O100) Try.func100 (by rfl) (by rfl) (by kernel_rfl) o100 (Nat.le_of_ble_eq_true rfl) ?_
  show AWP X100 A100 (Ends X100.vs O100 0 _ _) [.agg a.c, .int .i64 id, .tup [], .tup [], .tup [], .tup [], .tup []] []
  obtain ⟨Q, hQ⟩ : ∃ Q, Q = Ends X100.vs O100 0 (.int .i64 (floorOf a id)) [] := ⟨_, rfl⟩
  rw [← hQ]
  have fin : ∀ L σ n, look X100.vs L 4 = .int .i64 n → n = floorOf a id → Q .ret L σ := by
    intro L σ n h1 h2
    rw [hQ]
    refine Ends.is (.inl rfl) (rs := [.int .i64 n]) (by simp only [go_sem, O100, h1]) ?_ rfl
    simp [packV, h2]
  refine awp_sr ?_
  simp only [go_sem, R100_0, v100, p100, State.c]
  refine awp_sr2 ?_
  simp only [go_sem, R100_1, v100, p100]
  refine awp_for (fun m L σ => ∃ i x10 x20, m = a.floors.length - i ∧ i ≤ a.floors.length ∧ floorOf a id = floorL (a.floors.drop i) id ∧ L = [.agg a.c, .int .i64 id, .ptr 0 2 0 0, .int .i64 0, .int .i64 (i : Nat), x10, x20] ∧ σ = [.live ⟨2, [a.c]⟩]) a.floors.length
    ⟨0, _, _, rfl, Nat.zero_le _, rfl, rfl, rfl⟩ ?_
  rintro n L σ ⟨i, x10, x20, rfl, hi, he, rfl, rfl⟩
  refine awp_sr2 ?_
  simp only [go_sem, R100_2, v100, p100, State.c]
  refine awp_if rfl ?_ ?_
  · intro h1
    have h1 : i < a.floors.length := by omega
    have e1 := floorL_at h1 id
    refine awp_skip ?_
    simp only [go_sem]
    refine awp_seq (awp_block ?_)
    refine awp_sr ?_
    simp only [go_sem, R100_3, v100, p100, rw_at _ h1, Floor.c]
    refine awp_if rfl ?_ ?_
    · intro h2
      refine awp_sr ?_
      simp only [go_sem, R100_4, v100, p100, rw_at _ h1, Floor.c]
      refine awp_ret ?_
      try simp only [go_sem]
      exact fin _ _ _ rfl (by rw [he, e1, if_pos h2])
    · intro h2
      refine awp_skip ?_
      simp only [go_sem]
      refine awp_reg ?_
      simp only [go_sem, R100_5, v100, p100, wrap_succ (i := i) (by omega)]
      exact ⟨a.floors.length - (i + 1), by omega, i + 1, _, _, rfl, by omega, by rw [he, e1, if_neg h2], rfl⟩
  · intro h1
    refine awp_exit ?_
    simp only [go_sem]
    refine awp_sr ?_
    simp only [go_sem, R100_6, v100, p100]
    refine awp_ret ?_
    try simp only [go_sem]
    exact fin _ _ _ rfl (by rw [he, List.drop_eq_nil_of_le (by omega)]; rfl)
theorem implFloorOf_ok (a : State) (id : Int) (h : a.floors.length ≤ 1000000000) : FS Try.prog 107 [] [.agg a.c, .int .i64 id] (.int .i64 (floorOf a id)) [] := by
  refine FS.of (X := X107) (ac := A107) (os := O107) Try.func107 (by rfl) (by rfl) (by kernel_rfl) o107 (Nat.le_of_ble_eq_true rfl) ?_
  show AWP X107 A107 (Ends X107.vs O107 0 _ _) [.agg a.c, .int .i64 id, .tup [], .tup [], .tup [], .tup [], .tup [], .tup [], .tup [], .tup []] []
  obtain ⟨Q, hQ⟩ : ∃ Q, Q = Ends X107.vs O107 0 (.int .i64 (floorOf a id)) [] := ⟨_, rfl⟩
  rw [← hQ]
  have fin : ∀ L σ n, look X107.vs L 4 = .int .i64 n → n = floorOf a id → Q .ret L σ := by
    intro L σ n h1 h2
    rw [hQ]
    refine Ends.is (.inl rfl) (rs := [.int .i64 n]) (by simp only [go_sem, O107, h1]) ?_ rfl
    simp [packV, h2]
  refine awp_sr ?_
  simp only [go_sem, R107_0, v107, p107, State.c]
  refine awp_sr2 ?_
  simp only [go_sem, R107_1, v107, p107]
  refine awp_for (fun m L σ => ∃ i x6 x11 x17, m = a.floors.length - i ∧ i ≤ a.floors.length ∧ floorOf a id = floorL (a.floors.drop i) id ∧ L = [.agg a.c, .int .i64 id, .ptr 0 2 0 0, .int .i64 0, x6, .fz 2 (rw_ Floor.c a.floors), .int .i64 a.floors.length, .int .i64 (i : Nat), x11, x17]) a.floors.length
    ⟨0, _, _, _, rfl, Nat.zero_le _, rfl, rfl⟩ ?_
  rintro n L σ ⟨i, x6, x11, x17, rfl, hi, he, rfl⟩
  refine awp_sr ?_
  simp only [go_sem, R107_2, v107, p107]
  refine awp_seq ?_
  refine awp_if rfl ?_ ?_
  · intro h1
    have h1 : i < a.floors.length := by omega
    have e1 := floorL_at h1 id
    refine awp_skip ?_
    simp only [go_sem]
    refine awp_seq (awp_block ?_)
    refine awp_sr ?_
    simp only [go_sem, R107_3, v107, p107, rw_at _ h1, Floor.c]
    refine awp_sr ?_
    simp only [go_sem, R107_4, v107, p107]
    refine awp_if rfl ?_ ?_
    · intro h2
      refine awp_sr ?_
      simp only [go_sem, R107_5, v107, p107]
      refine awp_ret ?_
      try simp only [go_sem]
      exact fin _ _ _ rfl (by rw [he, e1, if_pos h2])
    · intro h2
      refine awp_skip ?_
      simp only [go_sem]
      refine awp_reg ?_
      simp only [go_sem, R107_6, v107, p107, wrap_succ (i := i) (by omega)]
      exact ⟨a.floors.length - (i + 1), by omega, i + 1, _, _, _, rfl, by omega, by rw [he, e1, if_neg h2], rfl⟩
  · intro h1
    refine awp_exit ?_
    simp only [go_sem]
    refine awp_sr ?_
    simp only [go_sem, R107_7, v107, p107]
    refine awp_ret ?_
    try simp only [go_sem]
    exact fin _ _ _ rfl (by rw [he, List.drop_eq_nil_of_le (by omega)]; rfl)
end Go.Proofs.Ytffigokicddekaa.Abs
/- An entry looked up, walked in both texts. No condition. -/
set_option linter.unusedVariables false
set_option linter.unusedSimpArgs false
set_option maxRecDepth 10000
namespace Go.Proofs.Ytffigokicddekaa.Abs
open Go Go.Proofs
def R54_0 : List AR := [⟨(some 2), none, 0, (.box 0 2 (.t 0))⟩, ⟨(some 4), none, 0, (.alloc 1 5 [(.int .i64 0), (.int .i64 0), (.int .i64 0), (.int .i64 0), (.str ⟨⟨[]⟩⟩)])⟩, ⟨(some 5), none, 0, (.mov (.k (.bool false)))⟩]
def R54_1 : List AR := [⟨(some 6), none, 0, (.mov (.k (.int .i64 0)))⟩]
def R54_2 : List AR := [⟨(some 7), none, 0, (.mov (.t 6))⟩, ⟨(some 8), none, 0, (.faddr 0 (.t 2))⟩, ⟨(some 9), none, 0, (.load 1 false (.t 8))⟩, ⟨(some 10), none, 0, (.len (.t 9))⟩, ⟨(some 11), none, 0, (.bin .lss (.t 7) (.t 10))⟩]
def R54_3 : List AR := [⟨(some 14), none, 0, (.faddr 0 (.t 2))⟩, ⟨(some 15), none, 0, (.load 1 false (.t 14))⟩, ⟨(some 16), none, 0, (.mov (.t 6))⟩, ⟨(some 17), none, 0, (.iaddr 6 (.t 15) (.t 16))⟩, ⟨(some 18), none, 0, (.faddr 0 (.t 17))⟩, ⟨(some 19), none, 0, (.load 1 false (.t 18))⟩, ⟨(some 20), none, 0, (.mov (.t 1))⟩, ⟨(some 21), none, 0, (.bin .eql (.t 19) (.t 20))⟩]
def R54_4 : List AR := [⟨(some 22), none, 0, (.faddr 0 (.t 2))⟩, ⟨(some 23), none, 0, (.load 1 false (.t 22))⟩, ⟨(some 24), none, 0, (.mov (.t 6))⟩, ⟨(some 25), none, 0, (.iaddr 6 (.t 23) (.t 24))⟩, ⟨(some 26), none, 0, (.faddr 1 (.t 25))⟩, ⟨(some 27), none, 0, (.load 5 true (.t 26))⟩, ⟨none, none, 0, (.store 5 (.t 4) (.t 27))⟩, ⟨(some 5), none, 0, (.mov (.k (.bool true)))⟩]
def R54_5 : List AR := [⟨(some 12), none, 0, (.mov (.t 6))⟩, ⟨(some 13), none, 0, (.bin .add (.t 12) (.k (.int .i64 1)))⟩, ⟨(some 6), none, 0, (.mov (.t 13))⟩]
def A54_0 : AC := (.seq (.block 1 (.seq (.reg 0 R54_3) (.cond (.t 21) (.seq (.reg 0 R54_4) .ret) .skip))) (.reg 0 R54_5))
def L54_0 : AC := (.seq (.seq (.reg 0 R54_2) (.cond (.t 11) .skip (.exit 0))) A54_0)
def R54_6 : List AR := [⟨(some 28), none, 0, (.build [(.int .i64 0), (.int .i64 0), (.int .i64 0), (.int .i64 0), (.str ⟨⟨[]⟩⟩)] [])⟩, ⟨none, none, 0, (.store 5 (.t 4) (.t 28))⟩, ⟨(some 5), none, 0, (.mov (.k (.bool false)))⟩]
def A54_1 : AC := (.seq (.reg 0 R54_6) .ret)
def A54_2 : AC := (.seq (.seq (.reg 0 R54_1) (.block 0 (.loop L54_0))) A54_1)
def A54 : AC := (.seq (.reg 2 R54_0) A54_2)
def O54 : List AO := [(.load 5 true (.t 4)), (.mov (.t 5))]
def G54 : Fns := ⟨fun f => false, fun f => 0, false⟩
noncomputable def X54 : Cx := ⟨Try.prog, G54, drawD, 29, [0, 1, 2, 4, 5, 6, 11, 21]⟩
theorem c54 : (Try.f54.body).bind (compC X54.P X54.Γ X54.D X54.nt) = some A54 := by kernel_rfl
theorem o54 : compRes X54.P Try.f54.results.toList = some O54 := by kernel_rfl
theorem v54 : X54.vs = [0, 1, 2, 4, 5, 6, 11, 21] := rfl
theorem p54 : X54.P = Try.prog := rfl
def R58_0 : List AR := [⟨(some 2), none, 0, (.box 0 2 (.t 0))⟩, ⟨(some 4), none, 0, (.alloc 1 5 [(.int .i64 0), (.int .i64 0), (.int .i64 0), (.int .i64 0), (.str ⟨⟨[]⟩⟩)])⟩, ⟨(some 5), none, 0, (.mov (.k (.bool false)))⟩]
def R58_1 : List AR := [⟨(some 8), none, 0, (.faddr 0 (.t 2))⟩, ⟨(some 9), none, 0, (.load 1 false (.t 8))⟩, ⟨(some 10), none, 0, (.len (.t 9))⟩, ⟨(some 11), none, 0, (.mov (.k (.int .i64 0)))⟩]
def R58_2 : List AR := [⟨(some 12), none, 0, (.bin .lss (.t 11) (.t 10))⟩]
def R58_3 : List AR := [⟨(some 13), none, 0, (.iaddr 6 (.t 9) (.t 11))⟩, ⟨(some 14), none, 0, (.load 6 true (.t 13))⟩, ⟨(some 7), none, 0, (.alloc 0 6 [(.int .i64 0), (.int .i64 0), (.int .i64 0), (.int .i64 0), (.int .i64 0), (.str ⟨⟨[]⟩⟩)])⟩, ⟨none, none, 0, (.store 6 (.t 7) (.t 14))⟩]
def R58_4 : List AR := [⟨(some 15), none, 0, (.faddr 0 (.t 7))⟩, ⟨(some 16), none, 0, (.load 1 false (.t 15))⟩, ⟨(some 17), none, 0, (.mov (.t 1))⟩, ⟨(some 18), none, 0, (.bin .eql (.t 16) (.t 17))⟩]
def R58_5 : List AR := [⟨(some 19), none, 0, (.faddr 1 (.t 7))⟩, ⟨(some 20), none, 0, (.load 5 true (.t 19))⟩, ⟨none, none, 0, (.store 5 (.t 4) (.t 20))⟩, ⟨(some 5), none, 0, (.mov (.k (.bool true)))⟩]
def A58_0 : AC := (.seq (.reg 0 R58_4) (.cond (.t 18) (.seq (.reg 0 R58_5) .ret) .skip))
def R58_6 : List AR := [⟨(some 21), none, 0, (.bin .add (.t 11) (.k (.int .i64 1)))⟩, ⟨(some 11), none, 0, (.mov (.t 21))⟩]
def A58_1 : AC := (.seq (.block 1 (.seq (.reg 1 R58_3) A58_0)) (.reg 0 R58_6))
def A58_2 : AC := (.seq (.cond (.t 12) .skip (.exit 0)) A58_1)
def L58_0 : AC := (.seq (.reg 0 R58_2) A58_2)
def R58_7 : List AR := [⟨(some 22), none, 0, (.build [(.int .i64 0), (.int .i64 0), (.int .i64 0), (.int .i64 0), (.str ⟨⟨[]⟩⟩)] [])⟩, ⟨none, none, 0, (.store 5 (.t 4) (.t 22))⟩, ⟨(some 5), none, 0, (.mov (.k (.bool false)))⟩]
def A58_3 : AC := (.seq (.reg 0 R58_7) .ret)
def A58_4 : AC := (.seq (.seq (.reg 0 R58_1) (.block 0 (.loop L58_0))) A58_3)
def A58 : AC := (.seq (.reg 2 R58_0) A58_4)
def O58 : List AO := [(.load 5 true (.t 4)), (.mov (.t 5))]
def G58 : Fns := ⟨fun f => false, fun f => 0, false⟩
noncomputable def X58 : Cx := ⟨Try.prog, G58, drawD, 23, [0, 1, 2, 4, 5, 7, 9, 10, 11, 12, 18]⟩
theorem c58 : (Try.f58.body).bind (compC X58.P X58.Γ X58.D X58.nt) = some A58 := by kernel_rfl
theorem o58 : compRes X58.P Try.f58.results.toList = some O58 := by kernel_rfl
theorem v58 : X58.vs = [0, 1, 2, 4, 5, 7, 9, 10, 11, 12, 18] := rfl
theorem p58 : X58.P = Try.prog := rfl
def entryL : List Item → Int → Entry × Bool
  | [], _ => (Entry.zero, false)
  | x :: xs, id => if x.id = id then (x.entry, true) else entryL xs id
def entryOf (s : State) (id : Int) : Entry × Bool := entryL s.items id
theorem entryL_at {xs : List Item} {i : Nat} (h : i < xs.length) (id : Int) : entryL (xs.drop i) id = if xs[i].id = id then (xs[i].entry, true) else entryL (xs.drop (i + 1)) id := by
  rw [List.drop_eq_getElem_cons h]; rfl
def entryV (p : Entry × Bool) : V := .tup [.agg p.1.c, .bool p.2]
theorem specEntryOf_ok (a : State) (id : Int) (h : a.items.length ≤ 1000000000) : FS Try.prog 54 [] [.agg a.c, .int .i64 id] (entryV (entryOf a id)) [] := by
  refine FS.of (X := X54) (ac := A54) (os := O54) Try.func54 (by rfl) (by rfl) (by kernel_rfl) o54 (Nat.le_of_ble_eq_true rfl) ?_
  show AWP X54 A54 (Ends X54.vs O54 0 _ _) [.agg a.c, .int .i64 id, .tup [], .tup [], .tup [], .tup [], .tup [], .tup []] []
  obtain ⟨Q, hQ⟩ : ∃ Q, Q = Ends X54.vs O54 0 (entryV (entryOf a id)) [] := ⟨_, rfl⟩
  rw [← hQ]
  have fin : ∀ L σ p, resVs O54 (look X54.vs L) σ = some [.agg p.1.c, .bool p.2] → p = entryOf a id → Q .ret L σ := by
    intro L σ p h1 h2
    rw [hQ]
    exact Ends.is (.inl rfl) h1 (by rw [← h2]; rfl) rfl
  refine awp_sr ?_
  simp only [go_sem, R54_0, v54, p54, State.c]
  refine awp_sr2 ?_
  simp only [go_sem, R54_1, v54, p54]
  refine awp_for (fun m L σ => ∃ i x11 x21, m = a.items.length - i ∧ i ≤ a.items.length ∧ entryOf a id = entryL (a.items.drop i) id ∧ L = [.agg a.c, .int .i64 id, .ptr 0 2 0 0, .ptr 1 5 0 0, .bool false, .int .i64 (i : Nat), x11, x21] ∧ σ = [.live ⟨2, [a.c]⟩, .live ⟨5, [Entry.zero.c]⟩]) a.items.length
    ⟨0, _, _, rfl, Nat.zero_le _, rfl, rfl, rfl⟩ ?_
  rintro n L σ ⟨i, x11, x21, rfl, hi, he, rfl, rfl⟩
  refine awp_sr2 ?_
  simp only [go_sem, R54_2, v54, p54, State.c]
  refine awp_if rfl ?_ ?_
  · intro h1
    have h1 : i < a.items.length := by omega
    have e1 := entryL_at h1 id
    refine awp_skip ?_
    simp only [go_sem]
    refine awp_seq (awp_block ?_)
    refine awp_sr ?_
    simp only [go_sem, R54_3, v54, p54, rw_at _ h1, Item.c]
    refine awp_if rfl ?_ ?_
    · intro h2
      refine awp_sr ?_
      simp only [go_sem, R54_4, v54, p54, rw_at _ h1, Item.c, Entry.c, Entry.zero]
      refine awp_ret ?_
      try simp only [go_sem]
      exact fin _ _ (a.items[i].entry, true) rfl (by rw [he, e1, if_pos h2])
    · intro h2
      refine awp_skip ?_
      simp only [go_sem]
      refine awp_reg ?_
      simp only [go_sem, R54_5, v54, p54, wrap_succ (i := i) (by omega)]
      exact ⟨a.items.length - (i + 1), by omega, i + 1, _, _, rfl, by omega, by rw [he, e1, if_neg h2], rfl⟩
  · intro h1
    refine awp_exit ?_
    simp only [go_sem]
    refine awp_sr ?_
    simp only [go_sem, R54_6, v54, p54, Entry.c, Entry.zero]
    refine awp_ret ?_
    try simp only [go_sem]
    exact fin _ _ (Entry.zero, false) rfl (by rw [he, List.drop_eq_nil_of_le (by omega)]; rfl)
theorem implEntryOf_ok (a : State) (id : Int) (h : a.items.length ≤ 1000000000) : FS Try.prog 58 [] [.agg a.c, .int .i64 id] (entryV (entryOf a id)) [] := by
  refine FS.of (X := X58) (ac := A58) (os := O58) Try.func58 (by rfl) (by rfl) (by kernel_rfl) o58 (Nat.le_of_ble_eq_true rfl) ?_
  show AWP X58 A58 (Ends X58.vs O58 0 _ _) [.agg a.c, .int .i64 id, .tup [], .tup [], .tup [], .tup [], .tup [], .tup [], .tup [], .tup [], .tup []] []
  obtain ⟨Q, hQ⟩ : ∃ Q, Q = Ends X58.vs O58 0 (entryV (entryOf a id)) [] := ⟨_, rfl⟩
  rw [← hQ]
  have fin : ∀ L σ p, resVs O58 (look X58.vs L) σ = some [.agg p.1.c, .bool p.2] → p = entryOf a id → Q .ret L σ := by
    intro L σ p h1 h2
    rw [hQ]
    exact Ends.is (.inl rfl) h1 (by rw [← h2]; rfl) rfl
  refine awp_sr ?_
  simp only [go_sem, R58_0, v58, p58, State.c]
  refine awp_sr2 ?_
  simp only [go_sem, R58_1, v58, p58]
  refine awp_for (fun m L σ => ∃ i x7 x12 x18 rest, m = a.items.length - i ∧ i ≤ a.items.length ∧ entryOf a id = entryL (a.items.drop i) id ∧ L = [.agg a.c, .int .i64 id, .ptr 0 2 0 0, .ptr 1 5 0 0, .bool false, x7, .fz 6 (rw_ Item.c a.items), .int .i64 a.items.length, .int .i64 (i : Nat), x12, x18] ∧ σ = .live ⟨2, [a.c]⟩ :: .live ⟨5, [Entry.zero.c]⟩ :: rest) a.items.length
    ⟨0, _, _, _, _, rfl, Nat.zero_le _, rfl, rfl, rfl⟩ ?_
  rintro n L σ ⟨i, x7, x12, x18, rest, rfl, hi, he, rfl, rfl⟩
  refine awp_sr ?_
  simp only [go_sem, R58_2, v58, p58]
  refine awp_seq ?_
  refine awp_if rfl ?_ ?_
  · intro h1
    have h1 : i < a.items.length := by omega
    have e1 := entryL_at h1 id
    refine awp_skip ?_
    simp only [go_sem]
    refine awp_seq (awp_block ?_)
    refine awp_sr ?_
    simp only [go_sem, R58_3, v58, p58, rw_at _ h1, Item.c]
    refine awp_sr ?_
    simp only [go_sem, R58_4, v58, p58]
    refine awp_if rfl ?_ ?_
    · intro h2
      refine awp_sr ?_
      simp only [go_sem, R58_5, v58, p58, Entry.c, Entry.zero]
      refine awp_ret ?_
      try simp only [go_sem]
      exact fin _ _ (a.items[i].entry, true) rfl (by rw [he, e1, if_pos h2])
    · intro h2
      refine awp_skip ?_
      simp only [go_sem]
      refine awp_reg ?_
      simp only [go_sem, R58_6, v58, p58, wrap_succ (i := i) (by omega)]
      exact ⟨a.items.length - (i + 1), by omega, i + 1, _, _, _, _, rfl, by omega, by rw [he, e1, if_neg h2], rfl, rfl⟩
  · intro h1
    refine awp_exit ?_
    simp only [go_sem]
    refine awp_sr ?_
    simp only [go_sem, R58_7, v58, p58, Entry.c, Entry.zero]
    refine awp_ret ?_
    try simp only [go_sem]
    exact fin _ _ (Entry.zero, false) rfl (by rw [he, List.drop_eq_nil_of_le (by omega)]; rfl)
end Go.Proofs.Ytffigokicddekaa.Abs
/- What a right state is, walked in both texts. No condition. -/
set_option linter.unusedVariables false
set_option linter.unusedSimpArgs false
set_option maxRecDepth 10000
namespace Go.Proofs.Ytffigokicddekaa.Abs
open Go Go.Proofs
def R55_0 : List AR := [⟨(some 1), none, 0, (.box 0 2 (.t 0))⟩, ⟨(some 2), none, 0, (.mov (.k (.bool false)))⟩]
def R55_1 : List AR := [⟨(some 3), none, 0, (.mov (.k (.int .i64 0)))⟩]
def R55_2 : List AR := [⟨(some 7), none, 0, (.mov (.t 3))⟩, ⟨(some 8), none, 0, (.faddr 0 (.t 1))⟩, ⟨(some 9), none, 0, (.load 1 false (.t 8))⟩, ⟨(some 10), none, 0, (.len (.t 9))⟩, ⟨(some 11), none, 0, (.bin .lss (.t 7) (.t 10))⟩]
def R55_3 : List AR := [⟨(some 14), none, 0, (.faddr 0 (.t 1))⟩, ⟨(some 15), none, 0, (.load 1 false (.t 14))⟩, ⟨(some 16), none, 0, (.mov (.t 3))⟩, ⟨(some 17), none, 0, (.iaddr 6 (.t 15) (.t 16))⟩, ⟨(some 18), none, 0, (.load 6 true (.t 17))⟩, ⟨(some 4), none, 0, (.alloc 0 6 [(.int .i64 0), (.int .i64 0), (.int .i64 0), (.int .i64 0), (.int .i64 0), (.str ⟨⟨[]⟩⟩)])⟩, ⟨none, none, 0, (.store 6 (.t 4) (.t 18))⟩]
def R55_4 : List AR := [⟨(some 19), none, 0, (.faddr 0 (.t 4))⟩, ⟨(some 20), none, 0, (.load 1 false (.t 19))⟩, ⟨(some 21), none, 0, (.call false 0 0 98 [(.t 20)])⟩, ⟨(some 22), none, 0, (.not (.t 21))⟩, ⟨(some 23), none, 0, (.mov (.t 22))⟩, ⟨(some 24), (some (23, false)), 0, (.mov (.t 3))⟩, ⟨(some 25), (some (23, false)), 0, (.bin .gtr (.t 24) (.k (.int .i64 0)))⟩, ⟨(some 26), (some (23, false)), 0, (.mov (.t 25))⟩, ⟨(some 27), (some (26, true)), 0, (.faddr 0 (.t 4))⟩, ⟨(some 28), (some (26, true)), 0, (.load 1 false (.t 27))⟩, ⟨(some 29), (some (26, true)), 0, (.faddr 0 (.t 1))⟩, ⟨(some 30), (some (26, true)), 0, (.load 1 false (.t 29))⟩, ⟨(some 31), (some (26, true)), 0, (.mov (.t 3))⟩, ⟨(some 32), (some (26, true)), 0, (.bin .sub (.t 31) (.k (.int .i64 1)))⟩, ⟨(some 33), (some (26, true)), 0, (.iaddr 6 (.t 30) (.t 32))⟩, ⟨(some 34), (some (26, true)), 0, (.faddr 0 (.t 33))⟩, ⟨(some 35), (some (26, true)), 0, (.load 1 false (.t 34))⟩, ⟨(some 36), (some (26, true)), 0, (.bin .leq (.t 28) (.t 35))⟩, ⟨(some 37), (some (23, false)), 0, (.pick (.t 26) (.t 36) (.k (.bool false)))⟩, ⟨(some 38), none, 0, (.pick (.t 23) (.k (.bool true)) (.t 37))⟩, ⟨(some 39), none, 0, (.mov (.t 38))⟩, ⟨(some 40), (some (39, false)), 0, (.faddr 1 (.t 4))⟩, ⟨(some 41), (some (39, false)), 0, (.load 5 true (.t 40))⟩, ⟨(some 42), (some (39, false)), 0, (.call false 0 0 99 [(.t 41)])⟩, ⟨(some 43), (some (39, false)), 0, (.not (.t 42))⟩, ⟨(some 44), none, 0, (.pick (.t 39) (.k (.bool true)) (.t 43))⟩, ⟨(some 45), none, 0, (.mov (.t 44))⟩, ⟨(some 46), (some (45, false)), 0, (.faddr 1 (.t 4))⟩, ⟨(some 47), (some (45, false)), 0, (.faddr 0 (.t 46))⟩, ⟨(some 48), (some (45, false)), 0, (.load 1 false (.t 47))⟩, ⟨(some 49), (some (45, false)), 0, (.load 2 true (.t 1))⟩, ⟨(some 50), (some (45, false)), 0, (.faddr 0 (.t 4))⟩, ⟨(some 51), (some (45, false)), 0, (.load 1 false (.t 50))⟩, ⟨(some 52), (some (45, false)), 0, (.call false 0 0 100 [(.t 49), (.t 51)])⟩, ⟨(some 53), (some (45, false)), 0, (.bin .leq (.t 48) (.t 52))⟩, ⟨(some 54), none, 0, (.pick (.t 45) (.k (.bool true)) (.t 53))⟩]
def R55_5 : List AR := [⟨(some 2), none, 0, (.mov (.k (.bool false)))⟩]
def A55_0 : AC := (.seq (.draw 0 R55_4) (.cond (.t 54) (.seq (.reg 0 R55_5) .ret) .skip))
def R55_6 : List AR := [⟨(some 12), none, 0, (.mov (.t 3))⟩, ⟨(some 13), none, 0, (.bin .add (.t 12) (.k (.int .i64 1)))⟩, ⟨(some 3), none, 0, (.mov (.t 13))⟩]
def A55_1 : AC := (.seq (.block 1 (.seq (.reg 1 R55_3) A55_0)) (.reg 0 R55_6))
def L55_0 : AC := (.seq (.seq (.reg 0 R55_2) (.cond (.t 11) .skip (.exit 0))) A55_1)
def R55_7 : List AR := [⟨(some 5), none, 0, (.mov (.k (.int .i64 0)))⟩]
def R55_8 : List AR := [⟨(some 55), none, 0, (.mov (.t 5))⟩, ⟨(some 56), none, 0, (.faddr 1 (.t 1))⟩, ⟨(some 57), none, 0, (.load 1 false (.t 56))⟩, ⟨(some 58), none, 0, (.len (.t 57))⟩, ⟨(some 59), none, 0, (.bin .lss (.t 55) (.t 58))⟩]
def R55_9 : List AR := [⟨(some 62), none, 0, (.faddr 1 (.t 1))⟩, ⟨(some 63), none, 0, (.load 1 false (.t 62))⟩, ⟨(some 64), none, 0, (.mov (.t 5))⟩, ⟨(some 65), none, 0, (.iaddr 2 (.t 63) (.t 64))⟩, ⟨(some 66), none, 0, (.load 2 true (.t 65))⟩, ⟨(some 6), none, 0, (.alloc 0 2 [(.int .i64 0), (.int .i64 0)])⟩, ⟨none, none, 0, (.store 2 (.t 6) (.t 66))⟩]
def R55_10 : List AR := [⟨(some 67), none, 0, (.faddr 0 (.t 6))⟩, ⟨(some 68), none, 0, (.load 1 false (.t 67))⟩, ⟨(some 69), none, 0, (.call false 0 0 98 [(.t 68)])⟩, ⟨(some 70), none, 0, (.not (.t 69))⟩, ⟨(some 71), none, 0, (.mov (.t 70))⟩, ⟨(some 72), (some (71, false)), 0, (.mov (.t 5))⟩, ⟨(some 73), (some (71, false)), 0, (.bin .gtr (.t 72) (.k (.int .i64 0)))⟩, ⟨(some 74), (some (71, false)), 0, (.mov (.t 73))⟩, ⟨(some 75), (some (74, true)), 0, (.faddr 0 (.t 6))⟩, ⟨(some 76), (some (74, true)), 0, (.load 1 false (.t 75))⟩, ⟨(some 77), (some (74, true)), 0, (.faddr 1 (.t 1))⟩, ⟨(some 78), (some (74, true)), 0, (.load 1 false (.t 77))⟩, ⟨(some 79), (some (74, true)), 0, (.mov (.t 5))⟩, ⟨(some 80), (some (74, true)), 0, (.bin .sub (.t 79) (.k (.int .i64 1)))⟩, ⟨(some 81), (some (74, true)), 0, (.iaddr 2 (.t 78) (.t 80))⟩, ⟨(some 82), (some (74, true)), 0, (.faddr 0 (.t 81))⟩, ⟨(some 83), (some (74, true)), 0, (.load 1 false (.t 82))⟩, ⟨(some 84), (some (74, true)), 0, (.bin .leq (.t 76) (.t 83))⟩, ⟨(some 85), (some (71, false)), 0, (.pick (.t 74) (.t 84) (.k (.bool false)))⟩, ⟨(some 86), none, 0, (.pick (.t 71) (.k (.bool true)) (.t 85))⟩, ⟨(some 87), none, 0, (.mov (.t 86))⟩, ⟨(some 88), (some (87, false)), 0, (.faddr 1 (.t 6))⟩, ⟨(some 89), (some (87, false)), 0, (.load 1 false (.t 88))⟩, ⟨(some 90), (some (87, false)), 0, (.call false 0 0 101 [(.t 89), (.k (.int .i64 1)), (.k (.int .i64 1000))])⟩, ⟨(some 91), (some (87, false)), 0, (.not (.t 90))⟩, ⟨(some 92), none, 0, (.pick (.t 87) (.k (.bool true)) (.t 91))⟩]
def R55_11 : List AR := [⟨(some 2), none, 0, (.mov (.k (.bool false)))⟩]
def A55_2 : AC := (.seq (.draw 0 R55_10) (.cond (.t 92) (.seq (.reg 0 R55_11) .ret) .skip))
def R55_12 : List AR := [⟨(some 60), none, 0, (.mov (.t 5))⟩, ⟨(some 61), none, 0, (.bin .add (.t 60) (.k (.int .i64 1)))⟩, ⟨(some 5), none, 0, (.mov (.t 61))⟩]
def A55_3 : AC := (.seq (.block 3 (.seq (.reg 1 R55_9) A55_2)) (.reg 0 R55_12))
def L55_1 : AC := (.seq (.seq (.reg 0 R55_8) (.cond (.t 59) .skip (.exit 2))) A55_3)
def R55_13 : List AR := [⟨(some 2), none, 0, (.mov (.k (.bool true)))⟩]
def A55_4 : AC := (.seq (.reg 0 R55_13) .ret)
def A55_5 : AC := (.seq (.seq (.reg 0 R55_7) (.block 2 (.loop L55_1))) A55_4)
def A55_6 : AC := (.seq (.seq (.reg 0 R55_1) (.block 0 (.loop L55_0))) A55_5)
def A55 : AC := (.seq (.reg 1 R55_0) A55_6)
def O55 : List AO := [(.mov (.t 2))]
def G55 : Fns := ⟨fun f => false, fun f => 0, false⟩
noncomputable def X55 : Cx := ⟨Try.prog, G55, drawD, 93, [0, 1, 2, 3, 4, 5, 6, 11, 54, 59, 92]⟩
theorem c55 : (Try.f55.body).bind (compC X55.P X55.Γ X55.D X55.nt) = some A55 := by kernel_rfl
theorem o55 : compRes X55.P Try.f55.results.toList = some O55 := by kernel_rfl
theorem v55 : X55.vs = [0, 1, 2, 3, 4, 5, 6, 11, 54, 59, 92] := rfl
theorem p55 : X55.P = Try.prog := rfl
def R59_0 : List AR := [⟨(some 1), none, 0, (.box 0 2 (.t 0))⟩, ⟨(some 2), none, 0, (.mov (.k (.bool false)))⟩]
def R59_1 : List AR := [⟨(some 7), none, 0, (.faddr 1 (.t 1))⟩, ⟨(some 8), none, 0, (.load 1 false (.t 7))⟩, ⟨(some 9), none, 0, (.len (.t 8))⟩, ⟨(some 10), none, 0, (.mov (.k (.int .i64 0)))⟩]
def R59_2 : List AR := [⟨(some 11), none, 0, (.bin .lss (.t 10) (.t 9))⟩]
def R59_3 : List AR := [⟨(some 12), none, 0, (.mov (.t 10))⟩, ⟨(some 13), none, 0, (.iaddr 2 (.t 8) (.t 10))⟩, ⟨(some 14), none, 0, (.load 2 true (.t 13))⟩, ⟨(some 4), none, 0, (.alloc 0 2 [(.int .i64 0), (.int .i64 0)])⟩, ⟨(some 3), none, 0, (.mov (.t 12))⟩, ⟨none, none, 0, (.store 2 (.t 4) (.t 14))⟩]
def R59_4 : List AR := [⟨(some 15), none, 0, (.faddr 0 (.t 4))⟩, ⟨(some 16), none, 0, (.load 1 false (.t 15))⟩, ⟨(some 17), none, 0, (.call false 0 0 104 [(.t 16)])⟩, ⟨(some 18), none, 0, (.not (.t 17))⟩, ⟨(some 19), none, 0, (.mov (.t 18))⟩, ⟨(some 20), (some (19, false)), 0, (.faddr 1 (.t 4))⟩, ⟨(some 21), (some (19, false)), 0, (.load 1 false (.t 20))⟩, ⟨(some 22), (some (19, false)), 0, (.call false 0 0 105 [(.t 21), (.k (.int .i64 1)), (.k (.int .i64 1000))])⟩, ⟨(some 23), (some (19, false)), 0, (.not (.t 22))⟩, ⟨(some 24), none, 0, (.pick (.t 19) (.k (.bool true)) (.t 23))⟩, ⟨(some 25), none, 0, (.mov (.t 24))⟩, ⟨(some 26), (some (25, false)), 0, (.mov (.t 3))⟩, ⟨(some 27), (some (25, false)), 0, (.bin .gtr (.t 26) (.k (.int .i64 0)))⟩, ⟨(some 28), (some (25, false)), 0, (.mov (.t 27))⟩, ⟨(some 29), (some (28, true)), 0, (.faddr 1 (.t 1))⟩, ⟨(some 30), (some (28, true)), 0, (.load 1 false (.t 29))⟩, ⟨(some 31), (some (28, true)), 0, (.mov (.t 3))⟩, ⟨(some 32), (some (28, true)), 0, (.bin .sub (.t 31) (.k (.int .i64 1)))⟩, ⟨(some 33), (some (28, true)), 0, (.iaddr 2 (.t 30) (.t 32))⟩, ⟨(some 34), (some (28, true)), 0, (.faddr 0 (.t 33))⟩, ⟨(some 35), (some (28, true)), 0, (.load 1 false (.t 34))⟩, ⟨(some 36), (some (28, true)), 0, (.faddr 0 (.t 4))⟩, ⟨(some 37), (some (28, true)), 0, (.load 1 false (.t 36))⟩, ⟨(some 38), (some (28, true)), 0, (.bin .geq (.t 35) (.t 37))⟩, ⟨(some 39), (some (25, false)), 0, (.pick (.t 28) (.t 38) (.k (.bool false)))⟩, ⟨(some 40), none, 0, (.pick (.t 25) (.k (.bool true)) (.t 39))⟩]
def R59_5 : List AR := [⟨(some 2), none, 0, (.mov (.k (.bool false)))⟩]
def A59_0 : AC := (.seq (.draw 0 R59_4) (.cond (.t 40) (.seq (.reg 0 R59_5) .ret) .skip))
def R59_6 : List AR := [⟨(some 41), none, 0, (.bin .add (.t 10) (.k (.int .i64 1)))⟩, ⟨(some 10), none, 0, (.mov (.t 41))⟩]
def A59_1 : AC := (.seq (.block 1 (.seq (.reg 1 R59_3) A59_0)) (.reg 0 R59_6))
def A59_2 : AC := (.seq (.cond (.t 11) .skip (.exit 0)) A59_1)
def L59_0 : AC := (.seq (.reg 0 R59_2) A59_2)
def R59_7 : List AR := [⟨(some 42), none, 0, (.faddr 0 (.t 1))⟩, ⟨(some 43), none, 0, (.load 1 false (.t 42))⟩, ⟨(some 44), none, 0, (.len (.t 43))⟩, ⟨(some 45), none, 0, (.mov (.k (.int .i64 0)))⟩]
def R59_8 : List AR := [⟨(some 46), none, 0, (.bin .lss (.t 45) (.t 44))⟩]
def R59_9 : List AR := [⟨(some 47), none, 0, (.mov (.t 45))⟩, ⟨(some 48), none, 0, (.iaddr 6 (.t 43) (.t 45))⟩, ⟨(some 49), none, 0, (.load 6 true (.t 48))⟩, ⟨(some 6), none, 0, (.alloc 0 6 [(.int .i64 0), (.int .i64 0), (.int .i64 0), (.int .i64 0), (.int .i64 0), (.str ⟨⟨[]⟩⟩)])⟩, ⟨(some 5), none, 0, (.mov (.t 47))⟩, ⟨none, none, 0, (.store 6 (.t 6) (.t 49))⟩]
def R59_10 : List AR := [⟨(some 50), none, 0, (.faddr 0 (.t 6))⟩, ⟨(some 51), none, 0, (.load 1 false (.t 50))⟩, ⟨(some 52), none, 0, (.call false 0 0 104 [(.t 51)])⟩, ⟨(some 53), none, 0, (.not (.t 52))⟩, ⟨(some 54), none, 0, (.mov (.t 53))⟩, ⟨(some 55), (some (54, false)), 0, (.faddr 1 (.t 6))⟩, ⟨(some 56), (some (54, false)), 0, (.load 5 true (.t 55))⟩, ⟨(some 57), (some (54, false)), 0, (.call false 0 0 106 [(.t 56)])⟩, ⟨(some 58), (some (54, false)), 0, (.not (.t 57))⟩, ⟨(some 59), none, 0, (.pick (.t 54) (.k (.bool true)) (.t 58))⟩, ⟨(some 60), none, 0, (.mov (.t 59))⟩, ⟨(some 61), (some (60, false)), 0, (.faddr 1 (.t 6))⟩, ⟨(some 62), (some (60, false)), 0, (.faddr 0 (.t 61))⟩, ⟨(some 63), (some (60, false)), 0, (.load 1 false (.t 62))⟩, ⟨(some 64), (some (60, false)), 0, (.load 2 true (.t 1))⟩, ⟨(some 65), (some (60, false)), 0, (.faddr 0 (.t 6))⟩, ⟨(some 66), (some (60, false)), 0, (.load 1 false (.t 65))⟩, ⟨(some 67), (some (60, false)), 0, (.call false 0 0 107 [(.t 64), (.t 66)])⟩, ⟨(some 68), (some (60, false)), 0, (.bin .leq (.t 63) (.t 67))⟩, ⟨(some 69), none, 0, (.pick (.t 60) (.k (.bool true)) (.t 68))⟩, ⟨(some 70), none, 0, (.mov (.t 69))⟩, ⟨(some 71), (some (70, false)), 0, (.mov (.t 5))⟩, ⟨(some 72), (some (70, false)), 0, (.bin .gtr (.t 71) (.k (.int .i64 0)))⟩, ⟨(some 73), (some (70, false)), 0, (.mov (.t 72))⟩, ⟨(some 74), (some (73, true)), 0, (.faddr 0 (.t 1))⟩, ⟨(some 75), (some (73, true)), 0, (.load 1 false (.t 74))⟩, ⟨(some 76), (some (73, true)), 0, (.mov (.t 5))⟩, ⟨(some 77), (some (73, true)), 0, (.bin .sub (.t 76) (.k (.int .i64 1)))⟩, ⟨(some 78), (some (73, true)), 0, (.iaddr 6 (.t 75) (.t 77))⟩, ⟨(some 79), (some (73, true)), 0, (.faddr 0 (.t 78))⟩, ⟨(some 80), (some (73, true)), 0, (.load 1 false (.t 79))⟩, ⟨(some 81), (some (73, true)), 0, (.faddr 0 (.t 6))⟩, ⟨(some 82), (some (73, true)), 0, (.load 1 false (.t 81))⟩, ⟨(some 83), (some (73, true)), 0, (.bin .geq (.t 80) (.t 82))⟩, ⟨(some 84), (some (70, false)), 0, (.pick (.t 73) (.t 83) (.k (.bool false)))⟩, ⟨(some 85), none, 0, (.pick (.t 70) (.k (.bool true)) (.t 84))⟩]
def R59_11 : List AR := [⟨(some 2), none, 0, (.mov (.k (.bool false)))⟩]
def A59_3 : AC := (.seq (.draw 0 R59_10) (.cond (.t 85) (.seq (.reg 0 R59_11) .ret) .skip))
def R59_12 : List AR := [⟨(some 86), none, 0, (.bin .add (.t 45) (.k (.int .i64 1)))⟩, ⟨(some 45), none, 0, (.mov (.t 86))⟩]
def A59_4 : AC := (.seq (.block 3 (.seq (.reg 1 R59_9) A59_3)) (.reg 0 R59_12))
def A59_5 : AC := (.seq (.cond (.t 46) .skip (.exit 2)) A59_4)
def L59_1 : AC := (.seq (.reg 0 R59_8) A59_5)
def R59_13 : List AR := [⟨(some 2), none, 0, (.mov (.k (.bool true)))⟩]
def A59_6 : AC := (.seq (.reg 0 R59_13) .ret)
def A59_7 : AC := (.seq (.seq (.reg 0 R59_7) (.block 2 (.loop L59_1))) A59_6)
def A59_8 : AC := (.seq (.seq (.reg 0 R59_1) (.block 0 (.loop L59_0))) A59_7)
def A59 : AC := (.seq (.reg 1 R59_0) A59_8)
def O59 : List AO := [(.mov (.t 2))]
def G59 : Fns := ⟨fun f => false, fun f => 0, false⟩
noncomputable def X59 : Cx := ⟨Try.prog, G59, drawD, 87, [0, 1, 2, 3, 4, 5, 6, 8, 9, 10, 11, 40, 43, 44, 45, 46, 85]⟩
theorem c59 : (Try.f59.body).bind (compC X59.P X59.Γ X59.D X59.nt) = some A59 := by kernel_rfl
theorem o59 : compRes X59.P Try.f59.results.toList = some O59 := by kernel_rfl
theorem v59 : X59.vs = [0, 1, 2, 3, 4, 5, 6, 8, 9, 10, 11, 40, 43, 44, 45, 46, 85] := rfl
theorem p59 : X59.P = Try.prog := rfl
/-- the item at the place i is right -/
def itemR (s : State) (i : Nat) (x : Item) : Prop := (0 ≤ x.id ∧ x.id ≤ 4) ∧ (∀ y, 0 < i → s.items[i - 1]? = some y → y.id < x.id) ∧ x.entry.Right ∧ floorOf s x.id < x.entry.inc
def floorR (s : State) (i : Nat) (x : Floor) : Prop := (0 ≤ x.id ∧ x.id ≤ 4) ∧ (∀ y, 0 < i → s.floors[i - 1]? = some y → y.id < x.id) ∧ (1 ≤ x.inc ∧ x.inc ≤ 1000)
def State.Right (s : State) : Prop := (∀ i x, s.items[i]? = some x → itemR s i x) ∧ (∀ i x, s.floors[i]? = some x → floorR s i x)
noncomputable instance (s : State) : Decidable s.Right := Classical.propDecidable _
noncomputable instance (s : State) (i : Nat) (x : Item) : Decidable (itemR s i x) := Classical.propDecidable _
noncomputable instance (s : State) (i : Nat) (x : Floor) : Decidable (floorR s i x) := Classical.propDecidable _
/-- what holds of the first i holds of one more -/
theorem upto_succ {α : Type} {xs : List α} {p : Nat → α → Prop} {i : Nat} (hP : ∀ j x, j < i → xs[j]? = some x → p j x) (h1 : i < xs.length) (hy : p i xs[i]) : ∀ j x, j < i + 1 → xs[j]? = some x → p j x := by
  intro j x hj hx
  rcases Nat.lt_or_ge j i with h2 | h2
  · exact hP j x h2 hx
  · have : j = i := by omega
    subst this
    rw [List.getElem?_eq_getElem h1] at hx
    cases hx
    exact hy
theorem upto_all {α : Type} {xs : List α} {p : Nat → α → Prop} {i : Nat} (hP : ∀ j x, j < i → xs[j]? = some x → p j x) (h1 : ¬ i < xs.length) : ∀ j x, xs[j]? = some x → p j x := by
  intro j x hx
  have := (List.getElem?_eq_some_iff.1 hx).1
  exact hP j x (by omega) hx
theorem prev_lt {α : Type} {xs : List α} {i : Nat} {f : α → Int} {k : Int} (h1 : i < xs.length) (h : 0 < i → f xs[i - 1] < k) : ∀ y, 0 < i → xs[i - 1]? = some y → f y < k := by
  intro y h0 hy
  rw [List.getElem?_eq_getElem (by omega)] at hy
  cases hy
  exact h h0
theorem itemR_iff (a : State) {i : Nat} (h1 : i < a.items.length) (h3 : i - 1 < a.items.length) : itemR a i a.items[i] ↔ (0 ≤ a.items[i].id ∧ a.items[i].id ≤ 4) ∧ (0 < i → a.items[i - 1].id < a.items[i].id) ∧ a.items[i].entry.Right ∧ floorOf a a.items[i].id < a.items[i].entry.inc := by
  unfold itemR
  simp only [List.getElem?_eq_getElem h3, Option.some.injEq]
  grind
theorem floorR_iff (a : State) {i : Nat} (h1 : i < a.floors.length) (h3 : i - 1 < a.floors.length) : floorR a i a.floors[i] ↔ (0 ≤ a.floors[i].id ∧ a.floors[i].id ≤ 4) ∧ (0 < i → a.floors[i - 1].id < a.floors[i].id) ∧ (1 ≤ a.floors[i].inc ∧ a.floors[i].inc ≤ 1000) := by
  unfold floorR
  simp only [List.getElem?_eq_getElem h3, Option.some.injEq]
  grind
set_option maxHeartbeats 4000000 in
theorem specStateOk_ok (a : State) (h : a.sz ≤ 1048576) : FS Try.prog 55 [] [.agg a.c] (.bool (decide a.Right)) [] := by
  refine FS.of (X := X55) (ac := A55) (os := O55) Try.func55 (by rfl) (by rfl) (by kernel_rfl) o55 (Nat.le_of_ble_eq_true rfl) ?_
  show AWP X55 A55 (Ends X55.vs O55 0 _ _) [.agg a.c, .tup [], .tup [], .tup [], .tup [], .tup [], .tup [], .tup [], .tup [], .tup [], .tup []] []
  obtain ⟨Q, hQ⟩ : ∃ Q, Q = Ends X55.vs O55 0 (.bool (decide a.Right)) [] := ⟨_, rfl⟩
  rw [← hQ]
  have hl : a.items.length + sumBy Item.sz a.items + a.floors.length ≤ 1048576 := h
  have fin : ∀ L σ v, resVs O55 (look X55.vs L) σ = some [v] → v = (.bool (decide a.Right)) → Q .ret L σ := by
    intro L σ v h1 h2
    rw [hQ]
    exact Ends.is (.inl rfl) h1 (by simp only [packV, h2]) rfl
  refine awp_sr ?_
  simp only [go_sem, R55_0, v55, p55, State.c]
  refine awp_sr2 ?_
  simp only [go_sem, R55_1, v55, p55]
  obtain ⟨I, hI⟩ : ∃ I : Nat → List V → Store → Prop, I = fun mM L σ => ∃ i rest y2 y4 y5 y6 y11 y54 y59 y92, mM = a.items.length - i ∧ i ≤ a.items.length ∧ (∀ j x, j < i → a.items[j]? = some x → itemR a j x) ∧ L = [.agg a.c, .ptr 0 2 0 0, y2, .int .i64 (i : Nat), y4, y5, y6, y11, y54, y59, y92] ∧ σ = .live ⟨2, [a.c]⟩ :: rest := ⟨_, rfl⟩
  first | refine awp_for I a.items.length ?_ ?_ | refine awp_seq (awp_for I a.items.length ?_ ?_)
  · rw [hI]; refine ⟨0, _, _, _, _, _, _, _, _, _, rfl, Nat.zero_le _, ?_, rfl, rfl⟩
    intro j x h; omega
  intro mM L σ hIn
  rw [hI] at hIn
  obtain ⟨i, rest, y2, y4, y5, y6, y11, y54, y59, y92, rfl, hi, hP, rfl, rfl⟩ := hIn
  refine awp_sr2 ?_
  simp only [go_sem, R55_2, v55, p55, State.c]
  refine awp_if rfl ?_ ?_
  · intro h1
    have h1 : i < a.items.length := by omega
    have h3 : i - 1 < a.items.length := by omega
    refine awp_skip ?_
    simp only [go_sem]
    refine awp_seq (awp_block ?_)
    refine awp_sr ?_
    simp only [go_sem, R55_3, v55, p55, rw_at _ h1, Item.c]
    obtain ⟨K1, hK1⟩ : ∃ K : List V → Store → Prop, K = fun L σ => ∃ q rest y2 y4 y5 y6 y11 y59 y92, L = [.agg a.c, .ptr 0 2 0 0, y2, .int .i64 (i : Nat), y4, y5, y6, y11, .bool q, y59, y92] ∧ σ = .live ⟨2, [a.c]⟩ :: rest ∧ q = !decide (itemR a i a.items[i]) := ⟨_, rfl⟩
    refine awp_sdK (K1) mixed rfl (by rfl) ?_ ?_
    · simp only [go_sem, R55_4, v55, p55]
      repeat' first
        | (refine selP_if rfl (fun hG => ?_) (fun hG => ?_) <;> first | simp only [go_sem, v55, p55, eq_false hG, State.c, Item.c, rw_at _ h3, wrap_pred, show i < 9223372036854775807 by omega] | simp only [go_sem, v55, p55, eq_true hG, State.c, Item.c, rw_at _ h3, wrap_pred, show i < 9223372036854775807 by omega])
        | (refine selP_ifn rfl (fun hG => ?_) (fun hG => ?_) <;> first | simp only [go_sem, v55, p55, eq_false hG, State.c, Item.c, rw_at _ h3, wrap_pred, show i < 9223372036854775807 by omega] | simp only [go_sem, v55, p55, eq_true hG, State.c, Item.c, rw_at _ h3, wrap_pred, show i < 9223372036854775807 by omega])
        | (refine selN_if rfl (fun hG => ?_) (fun hG => ?_) <;> first | simp only [go_sem, v55, p55, eq_false hG, State.c, Item.c, rw_at _ h3, wrap_pred, show i < 9223372036854775807 by omega] | simp only [go_sem, v55, p55, eq_true hG, State.c, Item.c, rw_at _ h3, wrap_pred, show i < 9223372036854775807 by omega])
        | (refine selN_ifn rfl (fun hG => ?_) (fun hG => ?_) <;> first | simp only [go_sem, v55, p55, eq_false hG, State.c, Item.c, rw_at _ h3, wrap_pred, show i < 9223372036854775807 by omega] | simp only [go_sem, v55, p55, eq_true hG, State.c, Item.c, rw_at _ h3, wrap_pred, show i < 9223372036854775807 by omega])
        | (refine selB_if rfl (fun hG => ?_) (fun hG => ?_) <;> simp only [go_sem, v55, p55, hG, State.c, Item.c, rw_at _ h3, wrap_pred, show i < 9223372036854775807 by omega])
        | (refine selB_ifn rfl (fun hG => ?_) (fun hG => ?_) <;> simp only [go_sem, v55, p55, hG, State.c, Item.c, rw_at _ h3, wrap_pred, show i < 9223372036854775807 by omega])
        | (refine run_see (l3Node_ok _) false (Views.refl rfl) rfl (fun j hj => by omega) (fun h => by cases h) ?_; simp only [go_sem, v55, p55, State.c, Item.c, rw_at _ h3, wrap_pred, show i < 9223372036854775807 by omega])
        | (refine run_see (specEntryOk_ok a.items[i].entry) false (Views.refl rfl) rfl (fun j hj => by omega) (fun h => by cases h) ?_; simp only [go_sem, v55, p55, State.c, Item.c, rw_at _ h3, wrap_pred, show i < 9223372036854775807 by omega])
        | (refine run_see (specFloorOf_ok a _ (by omega)) false (Views.refl rfl) rfl (fun j hj => by omega) (fun h => by cases h) ?_; simp only [go_sem, v55, p55, State.c, Item.c, rw_at _ h3, wrap_pred, show i < 9223372036854775807 by omega])
      all_goals rw [hK1]
      all_goals refine ⟨_, _, _, _, _, _, _, _, _, rfl, rfl, ?_⟩
      all_goals have key := itemR_iff a h1 h3
      all_goals grind
    intro L σ hq
    rw [hK1] at hq
    obtain ⟨q, rest, y2, y4, y5, y6, y11, y59, y92, rfl, rfl, hq⟩ := hq
    subst hq
    refine awp_if' rfl ?_ ?_
    · intro h2
      refine awp_sr ?_
      simp only [go_sem, R55_5, v55, p55]
      refine awp_ret ?_
      try simp only [go_sem]
      exact fin _ _ (.bool false) rfl (congrArg V.bool (decide_eq_false fun e => h2 (e.1 i _ (List.getElem?_eq_getElem h1))).symm)
    · intro h2
      refine awp_skip ?_
      simp only [go_sem]
      refine awp_reg ?_
      simp only [go_sem, R55_6, v55, p55, wrap_succ (i := i) (by omega)]
      refine ⟨a.items.length - (i + 1), by omega, ?_⟩
      rw [hI]
      refine ⟨i + 1, _, _, _, _, _, _, _, _, _, rfl, by omega, ?_, rfl, rfl⟩
      exact upto_succ hP h1 h2
  · intro h1
    refine awp_exit ?_
    simp only [go_sem]
    have ha := upto_all hP (by omega)
    clear hP hi hI
    refine awp_sr2 ?_
    simp only [go_sem, R55_7, v55, p55, State.c]
    obtain ⟨J, hJ⟩ : ∃ J : Nat → List V → Store → Prop, J = fun mM L σ => ∃ i rest y2 y3 y4 y6 y11 y54 y59 y92, mM = a.floors.length - i ∧ i ≤ a.floors.length ∧ (∀ j x, j < i → a.floors[j]? = some x → floorR a j x) ∧ L = [.agg a.c, .ptr 0 2 0 0, y2, y3, y4, .int .i64 (i : Nat), y6, y11, y54, y59, y92] ∧ σ = .live ⟨2, [a.c]⟩ :: rest := ⟨_, rfl⟩
    first | refine awp_for J a.floors.length ?_ ?_ | refine awp_seq (awp_for J a.floors.length ?_ ?_)
    · rw [hJ]; refine ⟨0, _, _, _, _, _, _, _, _, _, rfl, Nat.zero_le _, ?_, rfl, rfl⟩
      intro j x h; omega
    intro mM L σ hIn
    rw [hJ] at hIn
    obtain ⟨i, rest, y2, y3, y4, y6, y11, y54, y59, y92, rfl, hi, hP, rfl, rfl⟩ := hIn
    refine awp_sr2 ?_
    simp only [go_sem, R55_8, v55, p55, State.c]
    refine awp_if rfl ?_ ?_
    · intro h1
      have h1 : i < a.floors.length := by omega
      have h3 : i - 1 < a.floors.length := by omega
      refine awp_skip ?_
      simp only [go_sem]
      refine awp_seq (awp_block ?_)
      refine awp_sr ?_
      simp only [go_sem, R55_9, v55, p55, rw_at _ h1, Floor.c, State.c]
      obtain ⟨K2, hK2⟩ : ∃ K : List V → Store → Prop, K = fun L σ => ∃ q rest y2 y3 y4 y6 y11 y54 y59, L = [.agg a.c, .ptr 0 2 0 0, y2, y3, y4, .int .i64 (i : Nat), y6, y11, y54, y59, .bool q] ∧ σ = .live ⟨2, [a.c]⟩ :: rest ∧ q = !decide (floorR a i a.floors[i]) := ⟨_, rfl⟩
      refine awp_sdK (K2) mixed rfl (by rfl) ?_ ?_
      · simp only [go_sem, R55_10, v55, p55]
        repeat' first
          | (refine selP_if rfl (fun hG => ?_) (fun hG => ?_) <;> first | simp only [go_sem, v55, p55, eq_false hG, State.c, Floor.c, rw_at _ h3, wrap_pred, show i < 9223372036854775807 by omega] | simp only [go_sem, v55, p55, eq_true hG, State.c, Floor.c, rw_at _ h3, wrap_pred, show i < 9223372036854775807 by omega])
          | (refine selP_ifn rfl (fun hG => ?_) (fun hG => ?_) <;> first | simp only [go_sem, v55, p55, eq_false hG, State.c, Floor.c, rw_at _ h3, wrap_pred, show i < 9223372036854775807 by omega] | simp only [go_sem, v55, p55, eq_true hG, State.c, Floor.c, rw_at _ h3, wrap_pred, show i < 9223372036854775807 by omega])
          | (refine selN_if rfl (fun hG => ?_) (fun hG => ?_) <;> first | simp only [go_sem, v55, p55, eq_false hG, State.c, Floor.c, rw_at _ h3, wrap_pred, show i < 9223372036854775807 by omega] | simp only [go_sem, v55, p55, eq_true hG, State.c, Floor.c, rw_at _ h3, wrap_pred, show i < 9223372036854775807 by omega])
          | (refine selN_ifn rfl (fun hG => ?_) (fun hG => ?_) <;> first | simp only [go_sem, v55, p55, eq_false hG, State.c, Floor.c, rw_at _ h3, wrap_pred, show i < 9223372036854775807 by omega] | simp only [go_sem, v55, p55, eq_true hG, State.c, Floor.c, rw_at _ h3, wrap_pred, show i < 9223372036854775807 by omega])
          | (refine selB_if rfl (fun hG => ?_) (fun hG => ?_) <;> simp only [go_sem, v55, p55, hG, State.c, Floor.c, rw_at _ h3, wrap_pred, show i < 9223372036854775807 by omega])
          | (refine selB_ifn rfl (fun hG => ?_) (fun hG => ?_) <;> simp only [go_sem, v55, p55, hG, State.c, Floor.c, rw_at _ h3, wrap_pred, show i < 9223372036854775807 by omega])
          | (refine run_see (l3Node_ok _) false (Views.refl rfl) rfl (fun j hj => by omega) (fun h => by cases h) ?_; simp only [go_sem, v55, p55, State.c, Floor.c, rw_at _ h3, wrap_pred, show i < 9223372036854775807 by omega])
          | (refine run_see (l1In_ok _ _ _) false (Views.refl rfl) rfl (fun j hj => by omega) (fun h => by cases h) ?_; simp only [go_sem, v55, p55, State.c, Floor.c, rw_at _ h3, wrap_pred, show i < 9223372036854775807 by omega])
        all_goals rw [hK2]
        all_goals refine ⟨_, _, _, _, _, _, _, _, _, rfl, rfl, ?_⟩
        all_goals have key := floorR_iff a h1 h3
        all_goals grind
      intro L σ hq
      rw [hK2] at hq
      obtain ⟨q, rest, y2, y3, y4, y6, y11, y54, y59, rfl, rfl, hq⟩ := hq
      subst hq
      refine awp_if' rfl ?_ ?_
      · intro h2
        refine awp_sr ?_
        simp only [go_sem, R55_11, v55, p55]
        refine awp_ret ?_
        try simp only [go_sem]
        exact fin _ _ (.bool false) rfl (congrArg V.bool (decide_eq_false fun e => h2 (e.2 i _ (List.getElem?_eq_getElem h1))).symm)
      · intro h2
        refine awp_skip ?_
        simp only [go_sem]
        refine awp_reg ?_
        simp only [go_sem, R55_12, v55, p55, wrap_succ (i := i) (by omega)]
        refine ⟨a.floors.length - (i + 1), by omega, ?_⟩
        rw [hJ]
        refine ⟨i + 1, _, _, _, _, _, _, _, _, _, rfl, by omega, ?_, rfl, rfl⟩
        exact upto_succ hP h1 h2
    · intro h1
      refine awp_exit ?_
      simp only [go_sem]
      have hb := upto_all hP (by omega)
      refine awp_sr ?_
      simp only [go_sem, R55_13, v55, p55]
      refine awp_ret ?_
      try simp only [go_sem]
      exact fin _ _ (.bool true) rfl (congrArg V.bool (decide_eq_true (show a.Right from ⟨ha, hb⟩)).symm)
set_option maxHeartbeats 4000000 in
theorem implStateOk_ok (a : State) (h : a.sz ≤ 1048576) : FS Try.prog 59 [] [.agg a.c] (.bool (decide a.Right)) [] := by
  refine FS.of (X := X59) (ac := A59) (os := O59) Try.func59 (by rfl) (by rfl) (by kernel_rfl) o59 (Nat.le_of_ble_eq_true rfl) ?_
  show AWP X59 A59 (Ends X59.vs O59 0 _ _) [.agg a.c, .tup [], .tup [], .tup [], .tup [], .tup [], .tup [], .tup [], .tup [], .tup [], .tup [], .tup [], .tup [], .tup [], .tup [], .tup [], .tup []] []
  obtain ⟨Q, hQ⟩ : ∃ Q, Q = Ends X59.vs O59 0 (.bool (decide a.Right)) [] := ⟨_, rfl⟩
  rw [← hQ]
  have hl : a.items.length + sumBy Item.sz a.items + a.floors.length ≤ 1048576 := h
  have fin : ∀ L σ v, resVs O59 (look X59.vs L) σ = some [v] → v = (.bool (decide a.Right)) → Q .ret L σ := by
    intro L σ v h1 h2
    rw [hQ]
    exact Ends.is (.inl rfl) h1 (by simp only [packV, h2]) rfl
  refine awp_sr ?_
  simp only [go_sem, R59_0, v59, p59, State.c]
  refine awp_sr2 ?_
  simp only [go_sem, R59_1, v59, p59, State.c]
  obtain ⟨I, hI⟩ : ∃ I : Nat → List V → Store → Prop, I = fun mM L σ => ∃ i rest y2 y3 y4 y5 y6 y11 y40 y43 y44 y45 y46 y85, mM = a.floors.length - i ∧ i ≤ a.floors.length ∧ (∀ j x, j < i → a.floors[j]? = some x → floorR a j x) ∧ L = [.agg a.c, .ptr 0 2 0 0, y2, y3, y4, y5, y6, .fz 2 (rw_ Floor.c a.floors), .int .i64 (a.floors.length : Nat), .int .i64 (i : Nat), y11, y40, y43, y44, y45, y46, y85] ∧ σ = .live ⟨2, [a.c]⟩ :: rest := ⟨_, rfl⟩
  first | refine awp_for I a.floors.length ?_ ?_ | refine awp_seq (awp_for I a.floors.length ?_ ?_)
  · rw [hI]; refine ⟨0, _, _, _, _, _, _, _, _, _, _, _, _, _, rfl, Nat.zero_le _, ?_, rfl, rfl⟩
    intro j x h; omega
  intro mM L σ hIn
  rw [hI] at hIn
  obtain ⟨i, rest, y2, y3, y4, y5, y6, y11, y40, y43, y44, y45, y46, y85, rfl, hi, hP, rfl, rfl⟩ := hIn
  refine awp_sr ?_
  simp only [go_sem, R59_2, v59, p59, State.c]
  refine awp_seq ?_
  refine awp_if rfl ?_ ?_
  · intro h1
    have h1 : i < a.floors.length := by omega
    have h3 : i - 1 < a.floors.length := by omega
    refine awp_skip ?_
    simp only [go_sem]
    refine awp_seq (awp_block ?_)
    refine awp_sr ?_
    simp only [go_sem, R59_3, v59, p59, rw_at _ h1, Floor.c]
    obtain ⟨K3, hK3⟩ : ∃ K : List V → Store → Prop, K = fun L σ => ∃ q rest y2 y3 y4 y5 y6 y11 y43 y44 y45 y46 y85, L = [.agg a.c, .ptr 0 2 0 0, y2, y3, y4, y5, y6, .fz 2 (rw_ Floor.c a.floors), .int .i64 (a.floors.length : Nat), .int .i64 (i : Nat), y11, .bool q, y43, y44, y45, y46, y85] ∧ σ = .live ⟨2, [a.c]⟩ :: rest ∧ q = !decide (floorR a i a.floors[i]) := ⟨_, rfl⟩
    refine awp_sdK (K3) mixed rfl (by rfl) ?_ ?_
    · simp only [go_sem, R59_4, v59, p59]
      repeat' first
        | (refine selP_if rfl (fun hG => ?_) (fun hG => ?_) <;> first | simp only [go_sem, v59, p59, eq_false hG, State.c, Floor.c, rw_at _ h3, wrap_pred, show i < 9223372036854775807 by omega] | simp only [go_sem, v59, p59, eq_true hG, State.c, Floor.c, rw_at _ h3, wrap_pred, show i < 9223372036854775807 by omega])
        | (refine selP_ifn rfl (fun hG => ?_) (fun hG => ?_) <;> first | simp only [go_sem, v59, p59, eq_false hG, State.c, Floor.c, rw_at _ h3, wrap_pred, show i < 9223372036854775807 by omega] | simp only [go_sem, v59, p59, eq_true hG, State.c, Floor.c, rw_at _ h3, wrap_pred, show i < 9223372036854775807 by omega])
        | (refine selN_if rfl (fun hG => ?_) (fun hG => ?_) <;> first | simp only [go_sem, v59, p59, eq_false hG, State.c, Floor.c, rw_at _ h3, wrap_pred, show i < 9223372036854775807 by omega] | simp only [go_sem, v59, p59, eq_true hG, State.c, Floor.c, rw_at _ h3, wrap_pred, show i < 9223372036854775807 by omega])
        | (refine selN_ifn rfl (fun hG => ?_) (fun hG => ?_) <;> first | simp only [go_sem, v59, p59, eq_false hG, State.c, Floor.c, rw_at _ h3, wrap_pred, show i < 9223372036854775807 by omega] | simp only [go_sem, v59, p59, eq_true hG, State.c, Floor.c, rw_at _ h3, wrap_pred, show i < 9223372036854775807 by omega])
        | (refine selB_if rfl (fun hG => ?_) (fun hG => ?_) <;> simp only [go_sem, v59, p59, hG, State.c, Floor.c, rw_at _ h3, wrap_pred, show i < 9223372036854775807 by omega])
        | (refine selB_ifn rfl (fun hG => ?_) (fun hG => ?_) <;> simp only [go_sem, v59, p59, hG, State.c, Floor.c, rw_at _ h3, wrap_pred, show i < 9223372036854775807 by omega])
        | (refine run_see (isNode_ok _) false (Views.refl rfl) rfl (fun j hj => by omega) (fun h => by cases h) ?_; simp only [go_sem, v59, p59, State.c, Floor.c, rw_at _ h3, wrap_pred, show i < 9223372036854775807 by omega])
        | (refine run_see (within_ok _ _ _) false (Views.refl rfl) rfl (fun j hj => by omega) (fun h => by cases h) ?_; simp only [go_sem, v59, p59, State.c, Floor.c, rw_at _ h3, wrap_pred, show i < 9223372036854775807 by omega])
      all_goals rw [hK3]
      all_goals refine ⟨_, _, _, _, _, _, _, _, _, _, _, _, _, rfl, rfl, ?_⟩
      all_goals have key := floorR_iff a h1 h3
      all_goals grind
    intro L σ hq
    rw [hK3] at hq
    obtain ⟨q, rest, y2, y3, y4, y5, y6, y11, y43, y44, y45, y46, y85, rfl, rfl, hq⟩ := hq
    subst hq
    refine awp_if' rfl ?_ ?_
    · intro h2
      refine awp_sr ?_
      simp only [go_sem, R59_5, v59, p59]
      refine awp_ret ?_
      try simp only [go_sem]
      exact fin _ _ (.bool false) rfl (congrArg V.bool (decide_eq_false fun e => h2 (e.2 i _ (List.getElem?_eq_getElem h1))).symm)
    · intro h2
      refine awp_skip ?_
      simp only [go_sem]
      refine awp_reg ?_
      simp only [go_sem, R59_6, v59, p59, wrap_succ (i := i) (by omega)]
      refine ⟨a.floors.length - (i + 1), by omega, ?_⟩
      rw [hI]
      refine ⟨i + 1, _, _, _, _, _, _, _, _, _, _, _, _, _, rfl, by omega, ?_, rfl, rfl⟩
      exact upto_succ hP h1 h2
  · intro h1
    refine awp_exit ?_
    simp only [go_sem]
    have hb := upto_all hP (by omega)
    clear hP hi hI
    refine awp_sr2 ?_
    simp only [go_sem, R59_7, v59, p59, State.c]
    obtain ⟨J, hJ⟩ : ∃ J : Nat → List V → Store → Prop, J = fun mM L σ => ∃ i rest y2 y3 y4 y5 y6 y8 y9 y10 y11 y40 y46 y85, mM = a.items.length - i ∧ i ≤ a.items.length ∧ (∀ j x, j < i → a.items[j]? = some x → itemR a j x) ∧ L = [.agg a.c, .ptr 0 2 0 0, y2, y3, y4, y5, y6, y8, y9, y10, y11, y40, .fz 6 (rw_ Item.c a.items), .int .i64 (a.items.length : Nat), .int .i64 (i : Nat), y46, y85] ∧ σ = .live ⟨2, [a.c]⟩ :: rest := ⟨_, rfl⟩
    first | refine awp_for J a.items.length ?_ ?_ | refine awp_seq (awp_for J a.items.length ?_ ?_)
    · rw [hJ]; refine ⟨0, _, _, _, _, _, _, _, _, _, _, _, _, _, rfl, Nat.zero_le _, ?_, rfl, rfl⟩
      intro j x h; omega
    intro mM L σ hIn
    rw [hJ] at hIn
    obtain ⟨i, rest, y2, y3, y4, y5, y6, y8, y9, y10, y11, y40, y46, y85, rfl, hi, hP, rfl, rfl⟩ := hIn
    refine awp_sr ?_
    simp only [go_sem, R59_8, v59, p59, State.c]
    refine awp_seq ?_
    refine awp_if rfl ?_ ?_
    · intro h1
      have h1 : i < a.items.length := by omega
      have h3 : i - 1 < a.items.length := by omega
      refine awp_skip ?_
      simp only [go_sem]
      refine awp_seq (awp_block ?_)
      refine awp_sr ?_
      simp only [go_sem, R59_9, v59, p59, rw_at _ h1, Item.c]
      obtain ⟨K4, hK4⟩ : ∃ K : List V → Store → Prop, K = fun L σ => ∃ q rest y2 y3 y4 y5 y6 y8 y9 y10 y11 y40 y46, L = [.agg a.c, .ptr 0 2 0 0, y2, y3, y4, y5, y6, y8, y9, y10, y11, y40, .fz 6 (rw_ Item.c a.items), .int .i64 (a.items.length : Nat), .int .i64 (i : Nat), y46, .bool q] ∧ σ = .live ⟨2, [a.c]⟩ :: rest ∧ q = !decide (itemR a i a.items[i]) := ⟨_, rfl⟩
      refine awp_sdK (K4) mixed rfl (by rfl) ?_ ?_
      · simp only [go_sem, R59_10, v59, p59]
        repeat' first
          | (refine selP_if rfl (fun hG => ?_) (fun hG => ?_) <;> first | simp only [go_sem, v59, p59, eq_false hG, State.c, Item.c, rw_at _ h3, wrap_pred, show i < 9223372036854775807 by omega] | simp only [go_sem, v59, p59, eq_true hG, State.c, Item.c, rw_at _ h3, wrap_pred, show i < 9223372036854775807 by omega])
          | (refine selP_ifn rfl (fun hG => ?_) (fun hG => ?_) <;> first | simp only [go_sem, v59, p59, eq_false hG, State.c, Item.c, rw_at _ h3, wrap_pred, show i < 9223372036854775807 by omega] | simp only [go_sem, v59, p59, eq_true hG, State.c, Item.c, rw_at _ h3, wrap_pred, show i < 9223372036854775807 by omega])
          | (refine selN_if rfl (fun hG => ?_) (fun hG => ?_) <;> first | simp only [go_sem, v59, p59, eq_false hG, State.c, Item.c, rw_at _ h3, wrap_pred, show i < 9223372036854775807 by omega] | simp only [go_sem, v59, p59, eq_true hG, State.c, Item.c, rw_at _ h3, wrap_pred, show i < 9223372036854775807 by omega])
          | (refine selN_ifn rfl (fun hG => ?_) (fun hG => ?_) <;> first | simp only [go_sem, v59, p59, eq_false hG, State.c, Item.c, rw_at _ h3, wrap_pred, show i < 9223372036854775807 by omega] | simp only [go_sem, v59, p59, eq_true hG, State.c, Item.c, rw_at _ h3, wrap_pred, show i < 9223372036854775807 by omega])
          | (refine selB_if rfl (fun hG => ?_) (fun hG => ?_) <;> simp only [go_sem, v59, p59, hG, State.c, Item.c, rw_at _ h3, wrap_pred, show i < 9223372036854775807 by omega])
          | (refine selB_ifn rfl (fun hG => ?_) (fun hG => ?_) <;> simp only [go_sem, v59, p59, hG, State.c, Item.c, rw_at _ h3, wrap_pred, show i < 9223372036854775807 by omega])
          | (refine run_see (isNode_ok _) false (Views.refl rfl) rfl (fun j hj => by omega) (fun h => by cases h) ?_; simp only [go_sem, v59, p59, State.c, Item.c, rw_at _ h3, wrap_pred, show i < 9223372036854775807 by omega])
          | (refine run_see (implEntryOk_ok a.items[i].entry) false (Views.refl rfl) rfl (fun j hj => by omega) (fun h => by cases h) ?_; simp only [go_sem, v59, p59, State.c, Item.c, rw_at _ h3, wrap_pred, show i < 9223372036854775807 by omega])
          | (refine run_see (implFloorOf_ok a _ (by omega)) false (Views.refl rfl) rfl (fun j hj => by omega) (fun h => by cases h) ?_; simp only [go_sem, v59, p59, State.c, Item.c, rw_at _ h3, wrap_pred, show i < 9223372036854775807 by omega])
        all_goals rw [hK4]
        all_goals refine ⟨_, _, _, _, _, _, _, _, _, _, _, _, _, rfl, rfl, ?_⟩
        all_goals have key := itemR_iff a h1 h3
        all_goals grind
      intro L σ hq
      rw [hK4] at hq
      obtain ⟨q, rest, y2, y3, y4, y5, y6, y8, y9, y10, y11, y40, y46, rfl, rfl, hq⟩ := hq
      subst hq
      refine awp_if' rfl ?_ ?_
      · intro h2
        refine awp_sr ?_
        simp only [go_sem, R59_11, v59, p59]
        refine awp_ret ?_
        try simp only [go_sem]
        exact fin _ _ (.bool false) rfl (congrArg V.bool (decide_eq_false fun e => h2 (e.1 i _ (List.getElem?_eq_getElem h1))).symm)
      · intro h2
        refine awp_skip ?_
        simp only [go_sem]
        refine awp_reg ?_
        simp only [go_sem, R59_12, v59, p59, wrap_succ (i := i) (by omega)]
        refine ⟨a.items.length - (i + 1), by omega, ?_⟩
        rw [hJ]
        refine ⟨i + 1, _, _, _, _, _, _, _, _, _, _, _, _, _, rfl, by omega, ?_, rfl, rfl⟩
        exact upto_succ hP h1 h2
    · intro h1
      refine awp_exit ?_
      simp only [go_sem]
      have ha := upto_all hP (by omega)
      refine awp_sr ?_
      simp only [go_sem, R59_13, v59, p59]
      refine awp_ret ?_
      try simp only [go_sem]
      exact fin _ _ (.bool true) rfl (congrArg V.bool (decide_eq_true (show a.Right from ⟨ha, hb⟩)).symm)
end Go.Proofs.Ytffigokicddekaa.Abs
/- What has gone, walked in both texts, and the law. No condition. -/
set_option linter.unusedVariables false
set_option linter.unusedSimpArgs false
set_option maxRecDepth 10000
namespace Go.Proofs.Ytffigokicddekaa.Abs
open Go Go.Proofs
def R24_0 : List AR := [⟨(some 4), none, 0, (.mov (.k (.int .i64 0)))⟩]
def R24_1 : List AR := [⟨(some 5), none, 0, (.mov (.k (.int .i64 0)))⟩]
def R24_2 : List AR := [⟨(some 6), none, 0, (.mov (.k (.int .i64 0)))⟩]
def R24_3 : List AR := [⟨(some 9), none, 0, (.mov (.t 6))⟩, ⟨(some 10), none, 0, (.mov (.t 0))⟩, ⟨(some 11), none, 0, (.len (.t 10))⟩, ⟨(some 12), none, 0, (.bin .lss (.t 9) (.t 11))⟩]
def R24_4 : List AR := [⟨(some 16), none, 0, (.mov (.t 0))⟩, ⟨(some 17), none, 0, (.mov (.t 6))⟩, ⟨(some 18), none, 0, (.iaddr 2 (.t 16) (.t 17))⟩, ⟨(some 19), none, 0, (.load 2 true (.t 18))⟩, ⟨(some 20), none, 0, (.mov (.t 1))⟩, ⟨(some 21), none, 0, (.call false 0 0 54 [(.t 19), (.t 20)])⟩, ⟨(some 15), none, 0, (.mov (.t 21))⟩, ⟨(some 22), none, 0, (.ext (.t 15) 0)⟩, ⟨(some 23), none, 0, (.ext (.t 15) 1)⟩, ⟨(some 7), none, 0, (.alloc 0 5 [(.int .i64 0), (.int .i64 0), (.int .i64 0), (.int .i64 0), (.str ⟨⟨[]⟩⟩)])⟩, ⟨none, none, 0, (.store 5 (.t 7) (.t 22))⟩, ⟨(some 8), none, 0, (.mov (.t 23))⟩]
def R24_5 : List AR := [⟨(some 24), none, 0, (.mov (.t 8))⟩, ⟨(some 25), none, 0, (.mov (.t 24))⟩, ⟨(some 26), (some (25, true)), 0, (.mov (.t 0))⟩, ⟨(some 27), (some (25, true)), 0, (.mov (.t 6))⟩, ⟨(some 28), (some (25, true)), 0, (.iaddr 2 (.t 26) (.t 27))⟩, ⟨(some 29), (some (25, true)), 0, (.load 2 true (.t 28))⟩, ⟨(some 30), (some (25, true)), 0, (.call false 0 0 55 [(.t 29)])⟩, ⟨(some 31), none, 0, (.pick (.t 25) (.t 30) (.k (.bool false)))⟩, ⟨(some 32), none, 0, (.mov (.t 31))⟩, ⟨(some 33), (some (32, true)), 0, (.faddr 1 (.t 7))⟩, ⟨(some 34), (some (32, true)), 0, (.load 1 false (.t 33))⟩, ⟨(some 35), (some (32, true)), 0, (.bin .eql (.t 34) (.k (.int .i64 1)))⟩, ⟨(some 36), none, 0, (.pick (.t 32) (.t 35) (.k (.bool false)))⟩]
def R24_6 : List AR := [⟨(some 37), none, 0, (.mov (.t 5))⟩, ⟨(some 38), none, 0, (.faddr 0 (.t 7))⟩, ⟨(some 39), none, 0, (.load 1 false (.t 38))⟩, ⟨(some 40), none, 0, (.call false 0 0 56 [(.t 37), (.t 39)])⟩, ⟨(some 5), none, 0, (.mov (.t 40))⟩]
def A24_0 : AC := (.seq (.reg 0 R24_5) (.cond (.t 36) (.reg 0 R24_6) .skip))
def R24_7 : List AR := [⟨(some 13), none, 0, (.mov (.t 6))⟩, ⟨(some 14), none, 0, (.bin .add (.t 13) (.k (.int .i64 1)))⟩, ⟨(some 6), none, 0, (.mov (.t 14))⟩]
def A24_1 : AC := (.seq (.block 1 (.seq (.reg 1 R24_4) A24_0)) (.reg 0 R24_7))
def L24_0 : AC := (.seq (.seq (.reg 0 R24_3) (.cond (.t 12) .skip (.exit 0))) A24_1)
def R24_8 : List AR := [⟨(some 41), none, 0, (.mov (.t 5))⟩, ⟨(some 4), none, 0, (.mov (.t 41))⟩]
def A24_2 : AC := (.seq (.reg 0 R24_8) .ret)
def A24_3 : AC := (.seq (.seq (.reg 0 R24_2) (.block 0 (.loop L24_0))) A24_2)
def A24_4 : AC := (.seq (.reg 0 R24_1) A24_3)
def A24 : AC := (.seq (.reg 0 R24_0) A24_4)
def O24 : List AO := [(.mov (.t 4))]
def G24 : Fns := ⟨fun f => false, fun f => 0, false⟩
noncomputable def X24 : Cx := ⟨Try.prog, G24, drawD, 42, [0, 1, 4, 5, 6, 7, 8, 12, 36]⟩
theorem c24 : (Try.f24.body).bind (compC X24.P X24.Γ X24.D X24.nt) = some A24 := by kernel_rfl
theorem o24 : compRes X24.P Try.f24.results.toList = some O24 := by kernel_rfl
theorem v24 : X24.vs = [0, 1, 4, 5, 6, 7, 8, 12, 36] := rfl
theorem p24 : X24.P = Try.prog := rfl
def R26_0 : List AR := [⟨(some 4), none, 0, (.mov (.k (.int .i64 0)))⟩]
def R26_1 : List AR := [⟨(some 5), none, 0, (.mov (.k (.int .i64 0)))⟩]
def R26_2 : List AR := [⟨(some 10), none, 0, (.mov (.t 0))⟩, ⟨(some 11), none, 0, (.len (.t 10))⟩, ⟨(some 12), none, 0, (.mov (.k (.int .i64 0)))⟩]
def R26_3 : List AR := [⟨(some 13), none, 0, (.bin .lss (.t 12) (.t 11))⟩]
def R26_4 : List AR := [⟨(some 14), none, 0, (.iaddr 2 (.t 10) (.t 12))⟩, ⟨(some 15), none, 0, (.load 2 true (.t 14))⟩, ⟨(some 7), none, 0, (.alloc 0 2 [.nl, .nl])⟩, ⟨none, none, 0, (.store 2 (.t 7) (.t 15))⟩]
def R26_5 : List AR := [⟨(some 17), none, 0, (.load 2 true (.t 7))⟩, ⟨(some 18), none, 0, (.mov (.t 1))⟩, ⟨(some 19), none, 0, (.call false 0 0 58 [(.t 17), (.t 18)])⟩, ⟨(some 16), none, 0, (.mov (.t 19))⟩, ⟨(some 20), none, 0, (.ext (.t 16) 0)⟩, ⟨(some 21), none, 0, (.ext (.t 16) 1)⟩, ⟨(some 8), none, 0, (.alloc 0 5 [(.int .i64 0), (.int .i64 0), (.int .i64 0), (.int .i64 0), (.str ⟨⟨[]⟩⟩)])⟩, ⟨none, none, 0, (.store 5 (.t 8) (.t 20))⟩, ⟨(some 9), none, 0, (.mov (.t 21))⟩]
def R26_6 : List AR := [⟨(some 22), none, 0, (.mov (.t 9))⟩, ⟨(some 23), none, 0, (.mov (.t 22))⟩, ⟨(some 24), (some (23, true)), 0, (.load 2 true (.t 7))⟩, ⟨(some 25), (some (23, true)), 0, (.call false 0 0 59 [(.t 24)])⟩, ⟨(some 26), none, 0, (.pick (.t 23) (.t 25) (.k (.bool false)))⟩, ⟨(some 27), none, 0, (.mov (.t 26))⟩, ⟨(some 28), (some (27, true)), 0, (.faddr 1 (.t 8))⟩, ⟨(some 29), (some (27, true)), 0, (.load 1 false (.t 28))⟩, ⟨(some 30), (some (27, true)), 0, (.bin .eql (.t 29) (.k (.int .i64 1)))⟩, ⟨(some 31), none, 0, (.pick (.t 27) (.t 30) (.k (.bool false)))⟩]
def R26_7 : List AR := [⟨(some 32), none, 0, (.mov (.t 5))⟩, ⟨(some 33), none, 0, (.faddr 0 (.t 8))⟩, ⟨(some 34), none, 0, (.load 1 false (.t 33))⟩, ⟨(some 35), none, 0, (.max [(.t 32), (.t 34)])⟩, ⟨(some 5), none, 0, (.mov (.t 35))⟩]
def A26_0 : AC := (.seq (.reg 0 R26_6) (.cond (.t 31) (.reg 0 R26_7) .skip))
def A26_1 : AC := (.seq (.reg 1 R26_5) A26_0)
def R26_8 : List AR := [⟨(some 36), none, 0, (.bin .add (.t 12) (.k (.int .i64 1)))⟩, ⟨(some 12), none, 0, (.mov (.t 36))⟩]
def A26_2 : AC := (.seq (.block 1 (.seq (.reg 1 R26_4) A26_1)) (.reg 0 R26_8))
def A26_3 : AC := (.seq (.cond (.t 13) .skip (.exit 0)) A26_2)
def L26_0 : AC := (.seq (.reg 0 R26_3) A26_3)
def R26_9 : List AR := [⟨(some 37), none, 0, (.mov (.t 5))⟩, ⟨(some 4), none, 0, (.mov (.t 37))⟩]
def A26_4 : AC := (.seq (.reg 0 R26_9) .ret)
def A26_5 : AC := (.seq (.seq (.reg 0 R26_2) (.block 0 (.loop L26_0))) A26_4)
def A26_6 : AC := (.seq (.reg 0 R26_1) A26_5)
def A26 : AC := (.seq (.reg 0 R26_0) A26_6)
def O26 : List AO := [(.mov (.t 4))]
def G26 : Fns := ⟨fun f => false, fun f => 0, false⟩
noncomputable def X26 : Cx := ⟨Try.prog, G26, drawD, 38, [0, 1, 4, 5, 7, 8, 9, 10, 11, 12, 13, 31]⟩
theorem c26 : (Try.f26.body).bind (compC X26.P X26.Γ X26.D X26.nt) = some A26 := by kernel_rfl
theorem o26 : compRes X26.P Try.f26.results.toList = some O26 := by kernel_rfl
theorem v26 : X26.vs = [0, 1, 4, 5, 7, 8, 9, 10, 11, 12, 13, 31] := rfl
theorem p26 : X26.P = Try.prog := rfl
def goneP (id : Int) (s : State) : Prop := (entryOf s id).2 = true ∧ s.Right ∧ (entryOf s id).1.rank = 1
noncomputable instance (id : Int) (s : State) : Decidable (goneP id s) := Classical.propDecidable _
noncomputable def goneF (id : Int) (n : Int) (s : State) : Int := if goneP id s then (if (entryOf s id).1.inc > n then (entryOf s id).1.inc else n) else n
theorem goneF_if {id : Int} {s : State} (h : goneP id s) (n : Int) : goneF id n s = if (entryOf s id).1.inc > n then (entryOf s id).1.inc else n := by unfold goneF; rw [if_pos h]
theorem goneF_no {id : Int} {s : State} (h : ¬ goneP id s) (n : Int) : goneF id n s = n := by unfold goneF; rw [if_neg h]
noncomputable def plainGone (parts : List State) (id : Int) : Int := parts.foldl (goneF id) 0
theorem fold_take {α β : Type} (f : β → α → β) (b : β) {xs : List α} {i : Nat} (h : i < xs.length) : (xs.take (i + 1)).foldl f b = f ((xs.take i).foldl f b) xs[i] := by
  rw [List.take_succ_eq_append_getElem h, List.foldl_append]; rfl
theorem size_of {a : State} {xs : List State} {n : Nat} (h : szS State.sz xs ≤ n) {i : Nat} (h1 : i < xs.length) : a.sz ≤ n → xs[i].sz ≤ n := by
  have := sumBy_get State.sz h1
  unfold szS at h
  omega
theorem State.items_le (a : State) : a.items.length ≤ a.sz := by unfold State.sz szS; omega
theorem State.floors_le (a : State) : a.floors.length ≤ a.sz := by unfold State.sz szS; omega
theorem specPlainGone_ok (xs : List State) (id : Int) (h : szS State.sz xs ≤ 1048576) : FS Try.prog 24 [] [.fz 2 (rw_ State.c xs), .int .i64 id] (.int .i64 (plainGone xs id)) [] := by
  refine FS.of (X := X24) (ac := A24) (os := O24) Try.func24 (by rfl) (by rfl) (by kernel_rfl) o24 (Nat.le_of_ble_eq_true rfl) ?_
  show AWP X24 A24 (Ends X24.vs O24 0 _ _) [.fz 2 (rw_ State.c xs), .int .i64 id, .tup [], .tup [], .tup [], .tup [], .tup [], .tup [], .tup []] []
  obtain ⟨Q, hQ⟩ : ∃ Q, Q = Ends X24.vs O24 0 (.int .i64 (plainGone xs id)) [] := ⟨_, rfl⟩
  rw [← hQ]
  have hx : xs.length ≤ 1048576 := by unfold szS at h; omega
  have fin : ∀ L σ v, resVs O24 (look X24.vs L) σ = some [v] → v = (.int .i64 (plainGone xs id)) → Q .ret L σ := by
    intro L σ v h1 h2
    rw [hQ]
    exact Ends.is (.inl rfl) h1 (by simp only [packV, h2]) rfl
  refine awp_sr ?_
  simp only [go_sem, R24_0, v24, p24]
  refine awp_sr ?_
  simp only [go_sem, R24_1, v24, p24]
  refine awp_sr2 ?_
  simp only [go_sem, R24_2, v24, p24]
  obtain ⟨I, hI⟩ : ∃ I : Nat → List V → Store → Prop, I = fun mM L σ => ∃ i rest y4 y7 y8 y12 y36, mM = xs.length - i ∧ i ≤ xs.length ∧ (True) ∧ L = [.fz 2 (rw_ State.c xs), .int .i64 id, y4, .int .i64 ((xs.take i).foldl (goneF id) 0), .int .i64 (i : Nat), y7, y8, y12, y36] ∧ σ = rest := ⟨_, rfl⟩
  first | refine awp_for I xs.length ?_ ?_ | refine awp_seq (awp_for I xs.length ?_ ?_)
  · rw [hI]; refine ⟨0, _, _, _, _, _, _, rfl, Nat.zero_le _, ?_, rfl, rfl⟩
    trivial
  intro mM L σ hIn
  rw [hI] at hIn
  obtain ⟨i, rest, y4, y7, y8, y12, y36, rfl, hi, hP, rfl, rfl⟩ := hIn
  refine awp_sr2 ?_
  simp only [go_sem, R24_3, v24, p24]
  refine awp_if rfl ?_ ?_
  · intro h1
    have h1 : i < xs.length := by omega
    have hs : xs[i].sz ≤ 1048576 := size_of (a := xs[i]) h h1 (by have := sumBy_get State.sz h1; unfold szS at h; omega)
    have hs2 := State.items_le xs[i]
    refine awp_skip ?_
    simp only [go_sem]
    refine awp_seq (awp_block ?_)
    refine awp_sr ?_
    simp only [go_sem, R24_4, v24, p24, rw_at _ h1, State.c]
    refine run_see (specEntryOf_ok xs[i] id (by omega)) false (Views.refl rfl) rfl (fun j hj => by first | omega | ((have hj0 : j = 0 := by omega); subst hj0; first | rfl | (simp only [Nat.add_zero, app_get, app_getk, sapp_get, sapp_getk, Nat.add_assoc, Nat.reduceAdd, List.getElem?_cons_zero, List.getElem?_cons_succ]; done) | simp)) (fun h => by cases h) ?_
    simp only [go_sem, v24, p24, entryV, Entry.c]
    obtain ⟨K1, hK1⟩ : ∃ K : List V → Store → Prop, K = fun L σ => ∃ q rest y4 y8 y12, L = [.fz 2 (rw_ State.c xs), .int .i64 id, y4, .int .i64 ((xs.take i).foldl (goneF id) 0), .int .i64 (i : Nat), .ptr rest.length 5 0 0, y8, y12, .bool q] ∧ σ = rest ++ [.live ⟨5, [(entryOf xs[i] id).1.c]⟩] ∧ q = decide (goneP id xs[i]) := ⟨_, rfl⟩
    refine awp_srK (K1) ?_ ?_
    · simp only [go_sem, R24_5, v24, p24]
      repeat' first
        | (refine selP_if rfl (fun hG => ?_) (fun hG => ?_) <;> first | simp only [go_sem, v24, p24, eq_false hG, rw_at _ h1, State.c] | simp only [go_sem, v24, p24, eq_true hG, rw_at _ h1, State.c])
        | (refine selP_ifn rfl (fun hG => ?_) (fun hG => ?_) <;> first | simp only [go_sem, v24, p24, eq_false hG, rw_at _ h1, State.c] | simp only [go_sem, v24, p24, eq_true hG, rw_at _ h1, State.c])
        | (refine selN_if rfl (fun hG => ?_) (fun hG => ?_) <;> first | simp only [go_sem, v24, p24, eq_false hG, rw_at _ h1, State.c] | simp only [go_sem, v24, p24, eq_true hG, rw_at _ h1, State.c])
        | (refine selN_ifn rfl (fun hG => ?_) (fun hG => ?_) <;> first | simp only [go_sem, v24, p24, eq_false hG, rw_at _ h1, State.c] | simp only [go_sem, v24, p24, eq_true hG, rw_at _ h1, State.c])
        | (refine selB_if rfl (fun hG => ?_) (fun hG => ?_) <;> simp only [go_sem, v24, p24, hG, rw_at _ h1, State.c])
        | (refine selB_ifn rfl (fun hG => ?_) (fun hG => ?_) <;> simp only [go_sem, v24, p24, hG, rw_at _ h1, State.c])
        | (refine run_see (specStateOk_ok xs[i] hs) false (Views.refl rfl) rfl (fun j hj => by omega) (fun h => by cases h) ?_; simp only [go_sem, v24, p24, rw_at _ h1, State.c])
      all_goals rw [hK1]
      all_goals refine ⟨_, _, _, _, _, rfl, rfl, ?_⟩
      all_goals grind [goneP]
    intro L σ hq
    rw [hK1] at hq
    obtain ⟨q, rest, y4, y8, y12, rfl, rfl, hq⟩ := hq
    subst hq
    have e1 := fold_take (goneF id) 0 h1
    obtain ⟨K2, hK2⟩ : ∃ K : List V → Store → Prop, K = fun L σ => ∃ rest y4 y7 y8 y12 y36, L = [.fz 2 (rw_ State.c xs), .int .i64 id, y4, .int .i64 ((xs.take (i + 1)).foldl (goneF id) 0), .int .i64 (i : Nat), y7, y8, y12, y36] ∧ σ = rest ∧ True := ⟨_, rfl⟩
    refine awp_K K2 ?_ ?_
    · refine awp_if rfl ?_ ?_
      · intro h2
        refine awp_reg ?_
        simp only [go_sem, R24_6, v24, p24, Entry.c]
        refine run_see (l1Max_ok _ _) false (Views.refl rfl) rfl (fun j hj => by first | omega | ((have hj0 : j = 0 := by omega); subst hj0; first | rfl | (simp only [Nat.add_zero, app_get, app_getk, sapp_get, sapp_getk, Nat.add_assoc, Nat.reduceAdd, List.getElem?_cons_zero, List.getElem?_cons_succ]; done) | simp)) (fun h => by cases h) ?_
        simp only [go_sem, v24, p24]
        rw [← goneF_if h2, ← e1]
        rw [hK2]
        refine ⟨_, _, _, _, _, _, rfl, rfl, ?_⟩
        trivial
      · intro h2
        refine awp_skip ?_
        simp only [go_sem]
        rw [goneF_no h2] at e1
        rw [← e1]
        rw [hK2]
        refine ⟨_, _, _, _, _, _, rfl, rfl, ?_⟩
        trivial
    · intro L σ hq
      rw [hK2] at hq
      obtain ⟨rest, y4, y7, y8, y12, y36, rfl, rfl, hq⟩ := hq
      simp only [go_sem, v24, p24]
      refine awp_reg ?_
      simp only [go_sem, R24_7, v24, p24, wrap_succ (i := i) (by omega)]
      refine ⟨xs.length - (i + 1), by omega, ?_⟩
      rw [hI]
      refine ⟨i + 1, _, _, _, _, _, _, rfl, by omega, ?_, rfl, rfl⟩
      trivial
  · intro h1
    refine awp_exit ?_
    simp only [go_sem]
    refine awp_sr ?_
    simp only [go_sem, R24_8, v24, p24]
    refine awp_ret ?_
    try simp only [go_sem]
    have : i = xs.length := by omega
    subst this
    rw [List.take_length]
    exact fin _ _ _ rfl rfl
theorem implPlainGone_ok (xs : List State) (id : Int) (h : szS State.sz xs ≤ 1048576) : FS Try.prog 26 [] [.fz 2 (rw_ State.c xs), .int .i64 id] (.int .i64 (plainGone xs id)) [] := by
  refine FS.of (X := X26) (ac := A26) (os := O26) Try.func26 (by rfl) (by rfl) (by kernel_rfl) o26 (Nat.le_of_ble_eq_true rfl) ?_
  show AWP X26 A26 (Ends X26.vs O26 0 _ _) [.fz 2 (rw_ State.c xs), .int .i64 id, .tup [], .tup [], .tup [], .tup [], .tup [], .tup [], .tup [], .tup [], .tup [], .tup []] []
  obtain ⟨Q, hQ⟩ : ∃ Q, Q = Ends X26.vs O26 0 (.int .i64 (plainGone xs id)) [] := ⟨_, rfl⟩
  rw [← hQ]
  have hx : xs.length ≤ 1048576 := by unfold szS at h; omega
  have fin : ∀ L σ v, resVs O26 (look X26.vs L) σ = some [v] → v = (.int .i64 (plainGone xs id)) → Q .ret L σ := by
    intro L σ v h1 h2
    rw [hQ]
    exact Ends.is (.inl rfl) h1 (by simp only [packV, h2]) rfl
  refine awp_sr ?_
  simp only [go_sem, R26_0, v26, p26]
  refine awp_sr ?_
  simp only [go_sem, R26_1, v26, p26]
  refine awp_sr2 ?_
  simp only [go_sem, R26_2, v26, p26]
  obtain ⟨I, hI⟩ : ∃ I : Nat → List V → Store → Prop, I = fun mM L σ => ∃ i rest y4 y7 y8 y9 y13 y31, mM = xs.length - i ∧ i ≤ xs.length ∧ (True) ∧ L = [.fz 2 (rw_ State.c xs), .int .i64 id, y4, .int .i64 ((xs.take i).foldl (goneF id) 0), y7, y8, y9, .fz 2 (rw_ State.c xs), .int .i64 (xs.length : Nat), .int .i64 (i : Nat), y13, y31] ∧ σ = rest := ⟨_, rfl⟩
  first | refine awp_for I xs.length ?_ ?_ | refine awp_seq (awp_for I xs.length ?_ ?_)
  · rw [hI]; refine ⟨0, _, _, _, _, _, _, _, rfl, Nat.zero_le _, ?_, rfl, rfl⟩
    trivial
  intro mM L σ hIn
  rw [hI] at hIn
  obtain ⟨i, rest, y4, y7, y8, y9, y13, y31, rfl, hi, hP, rfl, rfl⟩ := hIn
  refine awp_sr ?_
  simp only [go_sem, R26_3, v26, p26]
  refine awp_seq ?_
  refine awp_if rfl ?_ ?_
  · intro h1
    have h1 : i < xs.length := by omega
    have hs : xs[i].sz ≤ 1048576 := size_of (a := xs[i]) h h1 (by have := sumBy_get State.sz h1; unfold szS at h; omega)
    have hs2 := State.items_le xs[i]
    refine awp_skip ?_
    simp only [go_sem]
    refine awp_seq (awp_block ?_)
    refine awp_sr ?_
    simp only [go_sem, R26_4, v26, p26, rw_at _ h1, State.c]
    refine awp_sr ?_
    simp only [go_sem, R26_5, v26, p26, State.c]
    refine run_see (implEntryOf_ok xs[i] id (by omega)) false (Views.refl rfl) rfl (fun j hj => by first | omega | ((have hj0 : j = 0 := by omega); subst hj0; first | rfl | (simp only [Nat.add_zero, app_get, app_getk, sapp_get, sapp_getk, Nat.add_assoc, Nat.reduceAdd, List.getElem?_cons_zero, List.getElem?_cons_succ]; done) | simp)) (fun h => by cases h) ?_
    simp only [go_sem, v26, p26, entryV, Entry.c]
    obtain ⟨K3, hK3⟩ : ∃ K : List V → Store → Prop, K = fun L σ => ∃ q rest y4 y7 y9 y13, L = [.fz 2 (rw_ State.c xs), .int .i64 id, y4, .int .i64 ((xs.take i).foldl (goneF id) 0), y7, .ptr (rest.length + 1) 5 0 0, y9, .fz 2 (rw_ State.c xs), .int .i64 (xs.length : Nat), .int .i64 (i : Nat), y13, .bool q] ∧ σ = rest ++ [.live ⟨2, [xs[i].c]⟩, .live ⟨5, [(entryOf xs[i] id).1.c]⟩] ∧ q = decide (goneP id xs[i]) := ⟨_, rfl⟩
    refine awp_srK (K3) ?_ ?_
    · simp only [go_sem, R26_6, v26, p26]
      repeat' first
        | (refine selP_if rfl (fun hG => ?_) (fun hG => ?_) <;> first | simp only [go_sem, v26, p26, eq_false hG, rw_at _ h1, State.c] | simp only [go_sem, v26, p26, eq_true hG, rw_at _ h1, State.c])
        | (refine selP_ifn rfl (fun hG => ?_) (fun hG => ?_) <;> first | simp only [go_sem, v26, p26, eq_false hG, rw_at _ h1, State.c] | simp only [go_sem, v26, p26, eq_true hG, rw_at _ h1, State.c])
        | (refine selN_if rfl (fun hG => ?_) (fun hG => ?_) <;> first | simp only [go_sem, v26, p26, eq_false hG, rw_at _ h1, State.c] | simp only [go_sem, v26, p26, eq_true hG, rw_at _ h1, State.c])
        | (refine selN_ifn rfl (fun hG => ?_) (fun hG => ?_) <;> first | simp only [go_sem, v26, p26, eq_false hG, rw_at _ h1, State.c] | simp only [go_sem, v26, p26, eq_true hG, rw_at _ h1, State.c])
        | (refine selB_if rfl (fun hG => ?_) (fun hG => ?_) <;> simp only [go_sem, v26, p26, hG, rw_at _ h1, State.c])
        | (refine selB_ifn rfl (fun hG => ?_) (fun hG => ?_) <;> simp only [go_sem, v26, p26, hG, rw_at _ h1, State.c])
        | (refine run_see (implStateOk_ok xs[i] hs) false (Views.refl rfl) rfl (fun j hj => by omega) (fun h => by cases h) ?_; simp only [go_sem, v26, p26, rw_at _ h1, State.c])
      all_goals rw [hK3]
      all_goals refine ⟨_, _, _, _, _, _, rfl, rfl, ?_⟩
      all_goals grind [goneP]
    intro L σ hq
    rw [hK3] at hq
    obtain ⟨q, rest, y4, y7, y9, y13, rfl, rfl, hq⟩ := hq
    subst hq
    have e1 := fold_take (goneF id) 0 h1
    obtain ⟨K4, hK4⟩ : ∃ K : List V → Store → Prop, K = fun L σ => ∃ rest y4 y7 y8 y9 y13 y31, L = [.fz 2 (rw_ State.c xs), .int .i64 id, y4, .int .i64 ((xs.take (i + 1)).foldl (goneF id) 0), y7, y8, y9, .fz 2 (rw_ State.c xs), .int .i64 (xs.length : Nat), .int .i64 (i : Nat), y13, y31] ∧ σ = rest ∧ True := ⟨_, rfl⟩
    refine awp_K K4 ?_ ?_
    · refine awp_if rfl ?_ ?_
      · intro h2
        refine awp_reg ?_
        simp only [go_sem, R26_7, v26, p26, Entry.c]
        rw [← goneF_if h2, ← e1]
        rw [hK4]
        refine ⟨_, _, _, _, _, _, _, rfl, rfl, ?_⟩
        trivial
      · intro h2
        refine awp_skip ?_
        simp only [go_sem]
        rw [goneF_no h2] at e1
        rw [← e1]
        rw [hK4]
        refine ⟨_, _, _, _, _, _, _, rfl, rfl, ?_⟩
        trivial
    · intro L σ hq
      rw [hK4] at hq
      obtain ⟨rest, y4, y7, y8, y9, y13, y31, rfl, rfl, hq⟩ := hq
      simp only [go_sem, v26, p26]
      refine awp_reg ?_
      simp only [go_sem, R26_8, v26, p26, wrap_succ (i := i) (by omega)]
      refine ⟨xs.length - (i + 1), by omega, ?_⟩
      rw [hI]
      refine ⟨i + 1, _, _, _, _, _, _, _, rfl, by omega, ?_, rfl, rfl⟩
      trivial
  · intro h1
    refine awp_exit ?_
    simp only [go_sem]
    refine awp_sr ?_
    simp only [go_sem, R26_9, v26, p26]
    refine awp_ret ?_
    try simp only [go_sem]
    have : i = xs.length := by omega
    subst this
    rw [List.take_length]
    exact fin _ _ _ rfl rfl
def R5_0 : List AR := [⟨(some 4), none, 0, (.mov (.k (.bool false)))⟩]
def R5_1 : List AR := [⟨(some 5), none, 0, (.mov (.k (.int .i64 1048576)))⟩]
def R5_2 : List AR := [⟨(some 9), none, 0, (.mov (.t 0))⟩, ⟨(some 10), none, 0, (.mov (.t 5))⟩, ⟨(some 11), none, 0, (.call false 0 0 23 [(.t 9), (.t 10)])⟩, ⟨(some 5), none, 0, (.mov (.t 11))⟩]
def R5_3 : List AR := [⟨(some 12), none, 0, (.mov (.t 5))⟩, ⟨(some 13), none, 0, (.bin .lss (.t 12) (.k (.int .i64 0)))⟩]
def R5_4 : List AR := [⟨(some 4), none, 0, (.mov (.k (.bool true)))⟩]
def R5_5 : List AR := [⟨(some 14), none, 0, (.mov (.t 0))⟩, ⟨(some 15), none, 0, (.call false 0 0 25 [(.t 14)])⟩, ⟨(some 16), none, 0, (.mov (.t 1))⟩, ⟨(some 17), none, 0, (.call false 0 0 24 [(.t 15), (.t 16)])⟩, ⟨(some 6), none, 0, (.mov (.t 17))⟩]
def R5_6 : List AR := [⟨(some 18), none, 0, (.mov (.t 0))⟩, ⟨(some 19), none, 0, (.call false 0 0 25 [(.t 18)])⟩, ⟨(some 7), none, 0, (.mov (.t 19))⟩]
def R5_7 : List AR := [⟨(some 20), none, 0, (.mov (.t 7))⟩, ⟨(some 21), none, 0, (.mov (.t 1))⟩, ⟨(some 22), none, 0, (.call false 0 0 26 [(.t 20), (.t 21)])⟩, ⟨(some 8), none, 0, (.mov (.t 22))⟩]
def R5_8 : List AR := [⟨(some 23), none, 0, (.mov (.t 8))⟩, ⟨(some 24), none, 0, (.mov (.t 6))⟩, ⟨(some 25), none, 0, (.bin .neq (.t 23) (.t 24))⟩]
def R5_9 : List AR := [⟨(some 4), none, 0, (.mov (.k (.bool false)))⟩]
def R5_10 : List AR := [⟨(some 26), none, 0, (.mov (.t 7))⟩, ⟨(some 27), none, 0, (.mov (.t 0))⟩, ⟨(some 28), none, 0, (.call false 0 0 25 [(.t 27)])⟩, ⟨(some 29), none, 0, (.call false 0 0 27 [(.t 26), (.t 28)])⟩, ⟨(some 30), none, 0, (.not (.t 29))⟩]
def R5_11 : List AR := [⟨(some 4), none, 0, (.mov (.k (.bool false)))⟩]
def R5_12 : List AR := [⟨(some 4), none, 0, (.mov (.k (.bool true)))⟩]
def A5_0 : AC := (.seq (.reg 0 R5_12) .ret)
def A5_1 : AC := (.seq (.seq (.reg 0 R5_10) (.cond (.t 30) (.seq (.reg 0 R5_11) .ret) .skip)) A5_0)
def A5_2 : AC := (.seq (.seq (.reg 0 R5_8) (.cond (.t 25) (.seq (.reg 0 R5_9) .ret) .skip)) A5_1)
def A5_3 : AC := (.seq (.reg 0 R5_7) A5_2)
def A5_4 : AC := (.seq (.reg 0 R5_6) A5_3)
def A5_5 : AC := (.seq (.reg 0 R5_5) A5_4)
def A5_6 : AC := (.seq (.seq (.reg 0 R5_3) (.cond (.t 13) (.seq (.reg 0 R5_4) .ret) .skip)) A5_5)
def A5_7 : AC := (.seq (.reg 0 R5_2) A5_6)
def A5_8 : AC := (.seq (.reg 0 R5_1) A5_7)
def A5 : AC := (.seq (.reg 0 R5_0) A5_8)
def O5 : List AO := [(.mov (.t 4))]
def G5 : Fns := ⟨fun f => false, fun f => 0, false⟩
noncomputable def X5 : Cx := ⟨Try.prog, G5, drawD, 31, [0, 1, 4, 5, 6, 7, 8, 13, 25, 30]⟩
theorem c5 : (Try.f5.body).bind (compC X5.P X5.Γ X5.D X5.nt) = some A5 := by kernel_rfl
theorem o5 : compRes X5.P Try.f5.results.toList = some O5 := by kernel_rfl
theorem v5 : X5.vs = [0, 1, 4, 5, 6, 7, 8, 13, 25, 30] := rfl
theorem p5 : X5.P = Try.prog := rfl
theorem exactPlainGone_ok (xs : List State) (id : Int) (ha : okS State.ok xs) : FS Try.prog 5 [] [.fz 2 (rw_ State.c xs), .int .i64 id] (.bool true) [] := by
  refine FS.of (X := X5) (ac := A5) (os := O5) Try.func5 (by rfl) (by rfl) (by kernel_rfl) o5 (Nat.le_of_ble_eq_true rfl) ?_
  show AWP X5 A5 (Ends X5.vs O5 0 _ _) [.fz 2 (rw_ State.c xs), .int .i64 id, .tup [], .tup [], .tup [], .tup [], .tup [], .tup [], .tup [], .tup []] []
  obtain ⟨Q, hQ⟩ : ∃ Q, Q = Ends X5.vs O5 0 (.bool true) [] := ⟨_, rfl⟩
  rw [← hQ]
  have fin : ∀ L σ v, resVs O5 (look X5.vs L) σ = some [v] → v = (.bool true) → Q .ret L σ := by
    intro L σ v h1 h2
    rw [hQ]
    exact Ends.is (.inl rfl) h1 (by simp only [packV, h2]) rfl
  refine awp_sr ?_
  simp only [go_sem, R5_0, v5, p5]
  refine awp_sr ?_
  simp only [go_sem, R5_1, v5, p5]
  refine awp_sr ?_
  simp only [go_sem, R5_2, v5, p5]
  refine run_see (szStateS_ok xs 1048576 (Nat.le_refl _) ha) false (Views.refl rfl) rfl (fun j hj => by omega) (fun h => by cases h) ?_
  simp only [go_sem, v5, p5]
  refine awp_sr2 ?_
  simp only [go_sem, R5_3, v5, p5]
  refine awp_if rfl ?_ ?_
  · intro h1
    refine awp_sr ?_
    simp only [go_sem, R5_4, v5, p5]
    refine awp_ret ?_
    try simp only [go_sem]
    exact fin _ _ _ rfl rfl
  intro h1
  obtain ⟨-, h2⟩ := left_pos h1
  have hl : xs.length ≤ 1048576 := by unfold szS at h2; omega
  refine awp_skip ?_
  simp only [go_sem]
  refine awp_sr ?_
  simp only [go_sem, R5_5, v5, p5]
  refine run_see (toStateS_ok xs h2) false (Views.refl rfl) rfl (fun j hj => by first | omega | ((have hj0 : j = 0 := by omega); subst hj0; first | rfl | (simp only [Nat.add_zero, app_get, app_getk, sapp_get, sapp_getk, Nat.add_assoc, Nat.reduceAdd, List.getElem?_cons_zero, List.getElem?_cons_succ]; done) | simp)) (fun h => by cases h) ?_
  simp only [go_sem, v5, p5]
  refine run_see (specPlainGone_ok xs id h2) false (Views.refl rfl) rfl (fun j hj => by first | omega | ((have hj0 : j = 0 := by omega); subst hj0; first | rfl | (simp only [Nat.add_zero, app_get, app_getk, sapp_get, sapp_getk, Nat.add_assoc, Nat.reduceAdd, List.getElem?_cons_zero, List.getElem?_cons_succ]; done) | simp)) (fun h => by cases h) ?_
  simp only [go_sem, v5, p5]
  refine awp_sr ?_
  simp only [go_sem, R5_6, v5, p5]
  refine run_see (toStateS_ok xs h2) false (Views.refl rfl) rfl (fun j hj => by first | omega | ((have hj0 : j = 0 := by omega); subst hj0; first | rfl | (simp only [Nat.add_zero, app_get, app_getk, sapp_get, sapp_getk, Nat.add_assoc, Nat.reduceAdd, List.getElem?_cons_zero, List.getElem?_cons_succ]; done) | simp)) (fun h => by cases h) ?_
  simp only [go_sem, v5, p5]
  refine awp_sr ?_
  simp only [go_sem, R5_7, v5, p5]
  refine run_see (implPlainGone_ok xs id h2) false (Views.refl rfl) rfl (fun j hj => by first | omega | ((have hj0 : j = 0 := by omega); subst hj0; first | rfl | (simp only [Nat.add_zero, app_get, app_getk, sapp_get, sapp_getk, Nat.add_assoc, Nat.reduceAdd, List.getElem?_cons_zero, List.getElem?_cons_succ]; done) | simp)) (fun h => by cases h) ?_
  simp only [go_sem, v5, p5]
  refine awp_sr2 ?_
  simp only [go_sem, R5_8, v5, p5]
  refine awp_if rfl ?_ ?_
  · intro h3; exact absurd rfl h3
  intro h3
  refine awp_skip ?_
  simp only [go_sem]
  refine awp_sr2 ?_
  simp only [go_sem, R5_10, v5, p5]
  refine run_see (toStateS_ok xs h2) false (Views.refl rfl) rfl (fun j hj => by first | omega | ((have hj0 : j = 0 := by omega); subst hj0; first | rfl | (simp only [Nat.add_zero, app_get, app_getk, sapp_get, sapp_getk, Nat.add_assoc, Nat.reduceAdd, List.getElem?_cons_zero, List.getElem?_cons_succ]; done) | simp)) (fun h => by cases h) ?_
  simp only [go_sem, v5, p5]
  refine run_see (eqStateS_ok xs xs (by omega) h2) false (Views.refl rfl) rfl (fun j hj => by first | omega | ((have hj0 : j = 0 := by omega); subst hj0; first | rfl | (simp only [Nat.add_zero, app_get, app_getk, sapp_get, sapp_getk, Nat.add_assoc, Nat.reduceAdd, List.getElem?_cons_zero, List.getElem?_cons_succ]; done) | simp)) (fun h => by cases h) ?_
  simp only [go_sem, v5, p5]
  refine awp_no rfl ?_
  refine awp_skip ?_
  simp only [go_sem]
  refine awp_sr ?_
  simp only [go_sem, R5_12, v5, p5]
  refine awp_ret ?_
  try simp only [go_sem]
  exact fin _ _ _ rfl rfl
end Go.Proofs.Ytffigokicddekaa.Abs
/- Lists and states as bytes, walked in both texts. No condition. -/
set_option linter.unusedVariables false
set_option linter.unusedSimpArgs false
set_option maxRecDepth 10000
namespace Go.Proofs.Ytffigokicddekaa.Abs
open Go Go.Proofs
def R155_0 : List AR := [⟨(some 2), none, 0, (.mov (.k .nl))⟩]
def R155_1 : List AR := [⟨(some 5), none, 0, (.mov (.t 0))⟩, ⟨(some 6), none, 0, (.len (.t 5))⟩, ⟨(some 7), none, 0, (.call false 0 1 154 [(.t 6)])⟩, ⟨(some 3), none, 0, (.mov (.t 7))⟩]
def R155_2 : List AR := [⟨(some 4), none, 0, (.mov (.k (.int .i64 0)))⟩]
def R155_3 : List AR := [⟨(some 8), none, 0, (.mov (.t 4))⟩, ⟨(some 9), none, 0, (.mov (.t 0))⟩, ⟨(some 10), none, 0, (.len (.t 9))⟩, ⟨(some 11), none, 0, (.bin .lss (.t 8) (.t 10))⟩]
def R155_4 : List AR := [⟨(some 14), none, 0, (.mov (.t 3))⟩, ⟨(some 15), none, 0, (.mov (.t 0))⟩, ⟨(some 16), none, 0, (.mov (.t 4))⟩, ⟨(some 17), none, 0, (.iaddr 1 (.t 15) (.t 16))⟩, ⟨(some 18), none, 0, (.load 1 false (.t 17))⟩, ⟨(some 19), none, 0, (.call false 0 1 154 [(.t 18)])⟩, ⟨(some 20), none, 0, (.app 1 1 1 (.t 14) (.t 19))⟩, ⟨(some 3), none, 0, (.mov (.t 20))⟩]
def R155_5 : List AR := [⟨(some 12), none, 0, (.mov (.t 4))⟩, ⟨(some 13), none, 0, (.bin .add (.t 12) (.k (.int .i64 1)))⟩, ⟨(some 4), none, 0, (.mov (.t 13))⟩]
def A155_0 : AC := (.seq (.block 1 (.reg 2 R155_4)) (.reg 0 R155_5))
def L155_0 : AC := (.seq (.seq (.reg 0 R155_3) (.cond (.t 11) .skip (.exit 0))) A155_0)
def R155_6 : List AR := [⟨(some 21), none, 0, (.mov (.t 3))⟩, ⟨(some 2), none, 0, (.mov (.t 21))⟩]
def A155_1 : AC := (.seq (.reg 0 R155_6) .ret)
def A155_2 : AC := (.seq (.seq (.reg 0 R155_2) (.block 0 (.loop L155_0))) A155_1)
def A155_3 : AC := (.seq (.reg 1 R155_1) A155_2)
def A155 : AC := (.seq (.reg 0 R155_0) A155_3)
def O155 : List AO := [(.mov (.t 2))]
def G155 : Fns := ⟨fun f => false, fun f => if f = 154 then 1 else 0, false⟩
noncomputable def X155 : Cx := ⟨Try.prog, G155, drawD, 22, [0, 2, 3, 4, 11]⟩
theorem c155 : (Try.f155.body).bind (compC X155.P X155.Γ X155.D X155.nt) = some A155 := by kernel_rfl
theorem o155 : compRes X155.P Try.f155.results.toList = some O155 := by kernel_rfl
theorem v155 : X155.vs = [0, 2, 3, 4, 11] := rfl
theorem p155 : X155.P = Try.prog := rfl
def R119_0 : List AR := [⟨(some 2), none, 0, (.mov (.k .nl))⟩]
def R119_1 : List AR := [⟨(some 6), none, 0, (.mov (.t 0))⟩, ⟨(some 7), none, 0, (.len (.t 6))⟩, ⟨(some 8), none, 0, (.call false 0 1 118 [(.t 7)])⟩, ⟨(some 3), none, 0, (.mov (.t 8))⟩]
def R119_2 : List AR := [⟨(some 9), none, 0, (.mov (.t 0))⟩, ⟨(some 10), none, 0, (.len (.t 9))⟩, ⟨(some 11), none, 0, (.mov (.k (.int .i64 0)))⟩]
def R119_3 : List AR := [⟨(some 12), none, 0, (.bin .lss (.t 11) (.t 10))⟩]
def R119_4 : List AR := [⟨(some 13), none, 0, (.iaddr 1 (.t 9) (.t 11))⟩, ⟨(some 14), none, 0, (.load 1 false (.t 13))⟩, ⟨(some 5), none, 0, (.mov (.t 14))⟩]
def R119_5 : List AR := [⟨(some 15), none, 0, (.mov (.t 3))⟩, ⟨(some 16), none, 0, (.mov (.t 5))⟩, ⟨(some 17), none, 0, (.call false 0 1 118 [(.t 16)])⟩, ⟨(some 18), none, 0, (.bslice 1 1 2 [.nl] [(0, (.t 15)), (1, (.t 17))])⟩, ⟨(some 19), none, 0, (.call false 2 1 117 [(.t 18)])⟩, ⟨(some 3), none, 0, (.mov (.t 19))⟩]
def R119_6 : List AR := [⟨(some 20), none, 0, (.bin .add (.t 11) (.k (.int .i64 1)))⟩, ⟨(some 11), none, 0, (.mov (.t 20))⟩]
def A119_0 : AC := (.seq (.block 1 (.seq (.reg 0 R119_4) (.reg 3 R119_5))) (.reg 0 R119_6))
def A119_1 : AC := (.seq (.cond (.t 12) .skip (.exit 0)) A119_0)
def L119_0 : AC := (.seq (.reg 0 R119_3) A119_1)
def R119_7 : List AR := [⟨(some 21), none, 0, (.mov (.t 3))⟩, ⟨(some 2), none, 0, (.mov (.t 21))⟩]
def A119_2 : AC := (.seq (.reg 0 R119_7) .ret)
def A119_3 : AC := (.seq (.seq (.reg 0 R119_2) (.block 0 (.loop L119_0))) A119_2)
def A119_4 : AC := (.seq (.reg 1 R119_1) A119_3)
def A119 : AC := (.seq (.reg 0 R119_0) A119_4)
def O119 : List AO := [(.mov (.t 2))]
def G119 : Fns := ⟨fun f => false, fun f => if f = 118 then 1 else if f = 117 then 1 else 0, false⟩
noncomputable def X119 : Cx := ⟨Try.prog, G119, drawD, 22, [0, 2, 3, 5, 9, 10, 11, 12]⟩
theorem c119 : (Try.f119.body).bind (compC X119.P X119.Γ X119.D X119.nt) = some A119 := by kernel_rfl
theorem o119 : compRes X119.P Try.f119.results.toList = some O119 := by kernel_rfl
theorem v119 : X119.vs = [0, 2, 3, 5, 9, 10, 11, 12] := rfl
theorem p119 : X119.P = Try.prog := rfl
def fit (n : Int) : Prop := 0 ≤ n ∧ n ≤ 2147483647
def putI (n : Int) : List UInt8 := putNum n.toNat
theorem specPutI_fz {n : Int} (h : fit n) : FS Try.prog 154 [] [.int .i64 n] (.fz 1 (rw_ byteC (putI n))) [] := by
  have := specPutNum_fz n.toNat (by have := h.1; have := h.2; omega)
  rw [show ((n.toNat : Nat) : Int) = n by have := h.1; omega] at this
  exact this
theorem implPutI_fz {n : Int} (h : fit n) : FS Try.prog 118 [] [.int .i64 n] (.fz 1 (rw_ byteC (putI n))) [] := by
  have := implPutNum_fz n.toNat (by have := h.1; have := h.2; omega)
  rw [show ((n.toNat : Nat) : Int) = n by have := h.1; omega] at this
  exact this
theorem putI_5 {n : Int} (h : fit n) : (putI n).length ≤ 5 := putNum_5 (by have := h.2; omega)
def numsB (xs : List Int) : List UInt8 := (xs.map putI).flatten
def listB (xs : List Int) : List UInt8 := putNum xs.length ++ numsB xs
/-- parts laid one behind the other -/
def cat {α : Type} (f : α → List UInt8) (xs : List α) : List UInt8 := (xs.map f).flatten
theorem cat_take {α : Type} (f : α → List UInt8) {xs : List α} {i : Nat} (h : i < xs.length) : cat f (xs.take (i + 1)) = cat f (xs.take i) ++ f xs[i] := by
  unfold cat
  rw [List.take_succ_eq_append_getElem h, List.map_append, List.flatten_append]; simp
theorem cat_le {α : Type} (f : α → List UInt8) (xs : List α) (i : Nat) : (cat f (xs.take i)).length ≤ (cat f xs).length := by
  unfold cat
  conv => rhs; rw [← List.take_append_drop i xs, List.map_append, List.flatten_append, List.length_append]
  omega
theorem cat_len {α : Type} (f : α → List UInt8) {k : Nat} : ∀ {xs : List α}, (∀ a ∈ xs, (f a).length ≤ k) → (cat f xs).length ≤ xs.length * k
  | [], _ => by simp [cat]
  | x :: xs, h => by
    have h1 := h x (by simp)
    have h2 := cat_len f (xs := xs) fun a ha => h a (by simp [ha])
    unfold cat at *
    simp only [List.map_cons, List.flatten_cons, List.length_append, List.length_cons, Nat.add_mul]
    omega
theorem numsB_len {xs : List Int} (h : ∀ x ∈ xs, fit x) : (cat putI xs).length ≤ xs.length * 5 := cat_len putI fun a ha => putI_5 (h a ha)
theorem pair_fold (a b : List UInt8) : [rowB a, rowB b] = rw_ rowB [a, b] := rfl
theorem specL10List_ok (xs : List Int) (h : ∀ x ∈ xs, fit x) (h0 : xs.length ≤ 1048576) : FS Try.prog 155 [] [.fz 1 (rw_ intC xs)] (.sl 0 1 0 (listB xs).length) [⟨1, rw_ byteC (listB xs)⟩] := by
  refine FS.of (X := X155) (ac := A155) (os := O155) Try.func155 (by rfl) (by rfl) (by kernel_rfl) o155 (Nat.le_of_ble_eq_true rfl) ?_
  show AWP X155 A155 (Ends X155.vs O155 0 _ _) [.fz 1 (rw_ intC xs), .tup [], .tup [], .tup [], .tup []] []
  obtain ⟨Q, hQ⟩ : ∃ Q, Q = Ends X155.vs O155 0 (.sl 0 1 0 (listB xs).length) [⟨1, rw_ byteC (listB xs)⟩] := ⟨_, rfl⟩
  rw [← hQ]
  have h5 := putNum_5 (n := xs.length) (by omega)
  have hb := numsB_len h
  refine awp_sr ?_
  simp only [go_sem, R155_0, v155, p155]
  refine awp_sr ?_
  simp only [go_sem, R155_1, v155, p155]
  refine run_new (specPutNum_ok xs.length (by omega)) false (Views.refl rfl) (by first | rfl | (simp only [Nat.add_zero, app_get, app_getk, sapp_get, sapp_getk, Nat.add_assoc, Nat.reduceAdd, List.getElem?_cons_zero, List.getElem?_cons_succ]; done) | simp) (bytes_ok _) (by simp [V.ids]) (fun h => by cases h) ?_
  simp only [go_sem, v155, p155]
  refine awp_sr2 ?_
  simp only [go_sem, R155_2, v155, p155]
  obtain ⟨I, hI⟩ : ∃ I : Nat → List V → Store → Prop, I = fun mM L σ => ∃ i out r q τ y2 y11, xs.length - i = mM ∧ (i ≤ xs.length ∧ out = putNum xs.length ++ cat putI (xs.take i) ∧ q = out.length ∧ Last τ r (.live ⟨1, rw_ byteC out⟩)) ∧ L = [.fz 1 (rw_ intC xs), y2, .sl r 1 0 q, .int .i64 (i : Nat), y11] ∧ σ = τ := ⟨_, rfl⟩
  first | refine awp_for I (xs.length) ?_ ?_ | refine awp_seq (awp_for I (xs.length) ?_ ?_)
  · rw [hI]
    refine ⟨0, putNum xs.length, _, _, _, _, _, rfl, ?_, rfl, rfl⟩
    exact ⟨Nat.zero_le _, (List.append_nil _).symm, rfl, Last.mk [] _⟩
  intro mM L σ hIn
  rw [hI] at hIn
  obtain ⟨i, out, r, q, τ, y2, y11, rfl, hP, rfl, rfl⟩ := hIn
  obtain ⟨hi, ho, rfl, rest, rfl, rfl⟩ := hP
  refine awp_sr2 ?_
  simp only [go_sem, R155_3, v155, p155]
  refine awp_if rfl ?_ ?_
  · intro h1
    have h1 : i < xs.length := by omega
    have e1 := cat_take putI h1
    have e2 := cat_le putI xs (i + 1)
    have e3 := congrArg List.length e1
    have e4 := congrArg List.length ho
    rw [List.length_append] at e3 e4
    refine awp_skip ?_
    simp only [go_sem]
    first | refine awp_block ?_ | refine awp_seq (awp_block ?_)
    refine awp_reg ?_
    simp only [go_sem, R155_4, v155, p155, rw_at _ h1, intC]
    refine run_see (specPutI_fz (h _ (List.getElem_mem h1))) false (Views.refl rfl) rfl (fun j hj => by first | omega | ((have hj0 : j = 0 := by omega); subst hj0; first | rfl | (simp only [Nat.add_zero, app_get, app_getk, sapp_get, sapp_getk, Nat.add_assoc, Nat.reduceAdd, List.getElem?_cons_zero, List.getElem?_cons_succ]; done) | simp)) (fun h => by cases h) ?_
    simp only [go_sem, v155, p155]
    refine ⟨by omega, ?_⟩
    refine awp_reg ?_
    simp only [go_sem, R155_5, v155, p155, wrap_succ (i := i) (by omega)]
    refine ⟨xs.length - (i + 1), ?_, ?_⟩
    rotate_left
    rw [hI]
    refine ⟨i + 1, out ++ putI xs[i], _, _, _, _, _, rfl, ?_, rfl, rfl⟩
    · rw [e1, ← List.append_assoc, ← ho]; exact ⟨by omega, rfl, by simp, Last.mk2 _ _ _ _⟩
    · omega
  · intro h1
    refine awp_exit ?_
    simp only [go_sem]
    have : i = xs.length := by omega
    subst this
    rw [List.take_length] at ho
    subst ho
    refine awp_sr ?_
    simp only [go_sem, R155_6, v155, p155]
    refine awp_ret ?_
    try simp only [go_sem]
    rw [hQ]
    exact Ends.ownLast (.inl rfl) rfl (Last.mk _ _) List.length_append.symm (bytes_ok _)
theorem implPutNums_ok (xs : List Int) (h : ∀ x ∈ xs, fit x) (h0 : xs.length ≤ 1048576) : FS Try.prog 119 [] [.fz 1 (rw_ intC xs)] (.fz 1 (rw_ byteC (listB xs))) [] := by
  refine FS.of (X := X119) (ac := A119) (os := O119) Try.func119 (by rfl) (by rfl) (by kernel_rfl) o119 (Nat.le_of_ble_eq_true rfl) ?_
  show AWP X119 A119 (Ends X119.vs O119 0 _ _) [.fz 1 (rw_ intC xs), .tup [], .tup [], .tup [], .tup [], .tup [], .tup [], .tup []] []
  obtain ⟨Q, hQ⟩ : ∃ Q, Q = Ends X119.vs O119 0 (.fz 1 (rw_ byteC (listB xs))) [] := ⟨_, rfl⟩
  rw [← hQ]
  have h5 := putNum_5 (n := xs.length) (by omega)
  have hb := numsB_len h
  refine awp_sr ?_
  simp only [go_sem, R119_0, v119, p119]
  refine awp_sr ?_
  simp only [go_sem, R119_1, v119, p119]
  refine run_see (implPutNum_fz xs.length (by omega)) false (Views.refl rfl) rfl (fun j hj => by first | omega | ((have hj0 : j = 0 := by omega); subst hj0; first | rfl | (simp only [Nat.add_zero, app_get, app_getk, sapp_get, sapp_getk, Nat.add_assoc, Nat.reduceAdd, List.getElem?_cons_zero, List.getElem?_cons_succ]; done) | simp)) (fun h => by cases h) ?_
  simp only [go_sem, v119, p119]
  refine awp_sr2 ?_
  simp only [go_sem, R119_2, v119, p119]
  obtain ⟨I, hI⟩ : ∃ I : Nat → List V → Store → Prop, I = fun mM L σ => ∃ i out τ y0 y2 y5 y12, xs.length - i = mM ∧ (i ≤ xs.length ∧ out = putNum xs.length ++ cat putI (xs.take i)) ∧ L = [y0, y2, .fz 1 (rw_ byteC out), y5, .fz 1 (rw_ intC xs), .int .i64 (xs.length : Nat), .int .i64 (i : Nat), y12] ∧ σ = τ := ⟨_, rfl⟩
  first | refine awp_for I (xs.length) ?_ ?_ | refine awp_seq (awp_for I (xs.length) ?_ ?_)
  · rw [hI]
    refine ⟨0, _, _, _, _, _, _, rfl, ?_, rfl, rfl⟩
    exact ⟨Nat.zero_le _, (List.append_nil _).symm⟩
  intro mM L σ hIn
  rw [hI] at hIn
  obtain ⟨i, out, τ, y0, y2, y5, y12, rfl, hP, rfl, rfl⟩ := hIn
  obtain ⟨hi, ho⟩ := hP
  refine awp_sr ?_
  simp only [go_sem, R119_3, v119, p119]
  refine awp_seq ?_
  refine awp_if rfl ?_ ?_
  · intro h1
    have h1 : i < xs.length := by omega
    have e1 := cat_take putI h1
    have e2 := cat_le putI xs (i + 1)
    have e3 := congrArg List.length e1
    have e4 := congrArg List.length ho
    rw [List.length_append] at e3 e4
    refine awp_skip ?_
    simp only [go_sem]
    first | refine awp_block ?_ | refine awp_seq (awp_block ?_)
    refine awp_sr ?_
    simp only [go_sem, R119_4, v119, p119, rw_at _ h1, intC]
    refine awp_reg ?_
    simp only [go_sem, R119_5, v119, p119]
    refine run_see (implPutI_fz (h _ (List.getElem_mem h1))) false (Views.refl rfl) rfl (fun j hj => by first | omega | ((have hj0 : j = 0 := by omega); subst hj0; first | rfl | (simp only [Nat.add_zero, app_get, app_getk, sapp_get, sapp_getk, Nat.add_assoc, Nat.reduceAdd, List.getElem?_cons_zero, List.getElem?_cons_succ]; done) | simp)) (fun h => by cases h) ?_
    simp only [go_sem, v119, p119, fz_fold, pair_fold]
    have hj : [out, putI xs[i]].flatten.length ≤ lim := by simp [lim]; omega
    refine run_new (joined_ok [out, putI xs[i]] hj (by simp)) true (.cons (View.row (by simp) (by simp) rfl (brows_ok _)) (.nil)) (by first | rfl | (simp only [Nat.add_zero, app_get, app_getk, sapp_get, sapp_getk, Nat.add_assoc, Nat.reduceAdd, List.getElem?_cons_zero, List.getElem?_cons_succ]; done) | simp) (bytes_ok _) (by simp [V.ids]) (fun _ => ⟨rfl, bytes_flat _⟩) ?_
    simp only [go_sem, v119, p119]
    refine awp_freeze (o := σ.length + 2) (ob := ⟨1, rw_ byteC [out, putI xs[i]].flatten⟩) (by simp) (bytes_ok _) ?_
    simp only [go_sem, v119, p119]
    refine awp_reg ?_
    simp only [go_sem, R119_6, v119, p119, wrap_succ (i := i) (by omega)]
    refine ⟨xs.length - (i + 1), ?_, ?_⟩
    rotate_left
    rw [hI]
    refine ⟨i + 1, _, _, _, _, _, _, rfl, ?_, rfl, rfl⟩
    · rw [e1, ← List.append_assoc, ← ho]; exact ⟨by omega, by simp⟩
    · omega
  · intro h1
    refine awp_exit ?_
    simp only [go_sem]
    have : i = xs.length := by omega
    subst this
    rw [List.take_length] at ho
    subst ho
    refine awp_sr ?_
    simp only [go_sem, R119_7, v119, p119]
    refine awp_ret ?_
    try simp only [go_sem]
    rw [hQ]
    exact Ends.is (.inl rfl) rfl rfl rfl
end Go.Proofs.Ytffigokicddekaa.Abs
/- States as bytes, walked in both texts. No condition. -/
set_option linter.unusedVariables false
set_option linter.unusedSimpArgs false
set_option maxRecDepth 10000
namespace Go.Proofs.Ytffigokicddekaa.Abs
open Go Go.Proofs
def R128_0 : List AR := [⟨(some 1), none, 0, (.box 0 2 (.t 0))⟩, ⟨(some 2), none, 0, (.mov (.k .nl))⟩]
def R128_1 : List AR := [⟨(some 9), none, 0, (.faddr 0 (.t 1))⟩, ⟨(some 10), none, 0, (.load 1 false (.t 9))⟩, ⟨(some 11), none, 0, (.len (.t 10))⟩, ⟨(some 12), none, 0, (.call false 0 1 154 [(.t 11)])⟩, ⟨(some 3), none, 0, (.mov (.t 12))⟩]
def R128_2 : List AR := [⟨(some 4), none, 0, (.mov (.k (.int .i64 0)))⟩]
def R128_3 : List AR := [⟨(some 13), none, 0, (.mov (.t 4))⟩, ⟨(some 14), none, 0, (.faddr 0 (.t 1))⟩, ⟨(some 15), none, 0, (.load 1 false (.t 14))⟩, ⟨(some 16), none, 0, (.len (.t 15))⟩, ⟨(some 17), none, 0, (.bin .lss (.t 13) (.t 16))⟩]
def R128_4 : List AR := [⟨(some 20), none, 0, (.faddr 0 (.t 1))⟩, ⟨(some 21), none, 0, (.load 1 false (.t 20))⟩, ⟨(some 22), none, 0, (.mov (.t 4))⟩, ⟨(some 23), none, 0, (.iaddr 6 (.t 21) (.t 22))⟩, ⟨(some 24), none, 0, (.faddr 1 (.t 23))⟩, ⟨(some 25), none, 0, (.load 5 true (.t 24))⟩, ⟨(some 5), none, 0, (.alloc 0 5 [(.int .i64 0), (.int .i64 0), (.int .i64 0), (.int .i64 0), (.str ⟨⟨[]⟩⟩)])⟩, ⟨none, none, 0, (.store 5 (.t 5) (.t 25))⟩]
def R128_5 : List AR := [⟨(some 26), none, 0, (.faddr 0 (.t 1))⟩, ⟨(some 27), none, 0, (.load 1 false (.t 26))⟩, ⟨(some 28), none, 0, (.mov (.t 4))⟩, ⟨(some 29), none, 0, (.iaddr 6 (.t 27) (.t 28))⟩, ⟨(some 30), none, 0, (.faddr 0 (.t 29))⟩, ⟨(some 31), none, 0, (.load 1 false (.t 30))⟩, ⟨(some 32), none, 0, (.faddr 0 (.t 5))⟩, ⟨(some 33), none, 0, (.load 1 false (.t 32))⟩, ⟨(some 34), none, 0, (.faddr 1 (.t 5))⟩, ⟨(some 35), none, 0, (.load 1 false (.t 34))⟩, ⟨(some 36), none, 0, (.faddr 2 (.t 5))⟩, ⟨(some 37), none, 0, (.load 1 false (.t 36))⟩, ⟨(some 38), none, 0, (.faddr 3 (.t 5))⟩, ⟨(some 39), none, 0, (.load 1 false (.t 38))⟩, ⟨(some 40), none, 0, (.bslice 0 1 5 [(.int .i64 0)] [(0, (.t 31)), (1, (.t 33)), (2, (.t 35)), (3, (.t 37)), (4, (.t 39))])⟩, ⟨(some 6), none, 0, (.mov (.t 40))⟩]
def R128_6 : List AR := [⟨(some 7), none, 0, (.mov (.k (.int .i64 0)))⟩]
def R128_7 : List AR := [⟨(some 41), none, 0, (.mov (.t 7))⟩, ⟨(some 42), none, 0, (.mov (.t 6))⟩, ⟨(some 43), none, 0, (.len (.t 42))⟩, ⟨(some 44), none, 0, (.bin .lss (.t 41) (.t 43))⟩]
def R128_8 : List AR := [⟨(some 47), none, 0, (.mov (.t 3))⟩, ⟨(some 48), none, 0, (.mov (.t 6))⟩, ⟨(some 49), none, 0, (.mov (.t 7))⟩, ⟨(some 50), none, 0, (.iaddr 1 (.t 48) (.t 49))⟩, ⟨(some 51), none, 0, (.load 1 false (.t 50))⟩, ⟨(some 52), none, 0, (.call false 0 1 154 [(.t 51)])⟩, ⟨(some 53), none, 0, (.app 1 1 1 (.t 47) (.t 52))⟩, ⟨(some 3), none, 0, (.mov (.t 53))⟩]
def R128_9 : List AR := [⟨(some 45), none, 0, (.mov (.t 7))⟩, ⟨(some 46), none, 0, (.bin .add (.t 45) (.k (.int .i64 1)))⟩, ⟨(some 7), none, 0, (.mov (.t 46))⟩]
def A128_0 : AC := (.seq (.block 3 (.reg 2 R128_8)) (.reg 0 R128_9))
def L128_0 : AC := (.seq (.seq (.reg 0 R128_7) (.cond (.t 44) .skip (.exit 2))) A128_0)
def R128_10 : List AR := [⟨(some 54), none, 0, (.mov (.t 3))⟩, ⟨(some 55), none, 0, (.faddr 4 (.t 5))⟩, ⟨(some 56), none, 0, (.load 1 false (.t 55))⟩, ⟨(some 57), none, 0, (.call false 0 0 163 [(.t 56)])⟩, ⟨(some 58), none, 0, (.app 0 1 1 (.t 54) (.t 57))⟩, ⟨(some 3), none, 0, (.mov (.t 58))⟩]
def A128_1 : AC := (.seq (.seq (.reg 0 R128_6) (.block 2 (.loop L128_0))) (.reg 1 R128_10))
def A128_2 : AC := (.seq (.draw 1 R128_5) A128_1)
def R128_11 : List AR := [⟨(some 18), none, 0, (.mov (.t 4))⟩, ⟨(some 19), none, 0, (.bin .add (.t 18) (.k (.int .i64 1)))⟩, ⟨(some 4), none, 0, (.mov (.t 19))⟩]
def A128_3 : AC := (.seq (.block 1 (.seq (.reg 1 R128_4) A128_2)) (.reg 0 R128_11))
def L128_1 : AC := (.seq (.seq (.reg 0 R128_3) (.cond (.t 17) .skip (.exit 0))) A128_3)
def R128_12 : List AR := [⟨(some 59), none, 0, (.mov (.t 3))⟩, ⟨(some 60), none, 0, (.faddr 1 (.t 1))⟩, ⟨(some 61), none, 0, (.load 1 false (.t 60))⟩, ⟨(some 62), none, 0, (.len (.t 61))⟩, ⟨(some 63), none, 0, (.call false 0 1 154 [(.t 62)])⟩, ⟨(some 64), none, 0, (.app 1 1 1 (.t 59) (.t 63))⟩, ⟨(some 3), none, 0, (.mov (.t 64))⟩]
def R128_13 : List AR := [⟨(some 8), none, 0, (.mov (.k (.int .i64 0)))⟩]
def R128_14 : List AR := [⟨(some 65), none, 0, (.mov (.t 8))⟩, ⟨(some 66), none, 0, (.faddr 1 (.t 1))⟩, ⟨(some 67), none, 0, (.load 1 false (.t 66))⟩, ⟨(some 68), none, 0, (.len (.t 67))⟩, ⟨(some 69), none, 0, (.bin .lss (.t 65) (.t 68))⟩]
def R128_15 : List AR := [⟨(some 72), none, 0, (.mov (.t 3))⟩, ⟨(some 73), none, 0, (.faddr 1 (.t 1))⟩, ⟨(some 74), none, 0, (.load 1 false (.t 73))⟩, ⟨(some 75), none, 0, (.mov (.t 8))⟩, ⟨(some 76), none, 0, (.iaddr 2 (.t 74) (.t 75))⟩, ⟨(some 77), none, 0, (.faddr 0 (.t 76))⟩, ⟨(some 78), none, 0, (.load 1 false (.t 77))⟩, ⟨(some 79), none, 0, (.call false 0 1 154 [(.t 78)])⟩, ⟨(some 80), none, 0, (.app 1 1 1 (.t 72) (.t 79))⟩, ⟨(some 3), none, 0, (.mov (.t 80))⟩]
def R128_16 : List AR := [⟨(some 81), none, 0, (.mov (.t 3))⟩, ⟨(some 82), none, 0, (.faddr 1 (.t 1))⟩, ⟨(some 83), none, 0, (.load 1 false (.t 82))⟩, ⟨(some 84), none, 0, (.mov (.t 8))⟩, ⟨(some 85), none, 0, (.iaddr 2 (.t 83) (.t 84))⟩, ⟨(some 86), none, 0, (.faddr 1 (.t 85))⟩, ⟨(some 87), none, 0, (.load 1 false (.t 86))⟩, ⟨(some 88), none, 0, (.call false 0 1 154 [(.t 87)])⟩, ⟨(some 89), none, 0, (.app 1 1 1 (.t 81) (.t 88))⟩, ⟨(some 3), none, 0, (.mov (.t 89))⟩]
def R128_17 : List AR := [⟨(some 70), none, 0, (.mov (.t 8))⟩, ⟨(some 71), none, 0, (.bin .add (.t 70) (.k (.int .i64 1)))⟩, ⟨(some 8), none, 0, (.mov (.t 71))⟩]
def A128_4 : AC := (.seq (.block 5 (.seq (.reg 2 R128_15) (.reg 2 R128_16))) (.reg 0 R128_17))
def L128_2 : AC := (.seq (.seq (.reg 0 R128_14) (.cond (.t 69) .skip (.exit 4))) A128_4)
def R128_18 : List AR := [⟨(some 90), none, 0, (.mov (.t 3))⟩, ⟨(some 2), none, 0, (.mov (.t 90))⟩]
def A128_5 : AC := (.seq (.reg 0 R128_18) .ret)
def A128_6 : AC := (.seq (.seq (.reg 0 R128_13) (.block 4 (.loop L128_2))) A128_5)
def A128_7 : AC := (.seq (.reg 2 R128_12) A128_6)
def A128_8 : AC := (.seq (.seq (.reg 0 R128_2) (.block 0 (.loop L128_1))) A128_7)
def A128_9 : AC := (.seq (.reg 1 R128_1) A128_8)
def A128 : AC := (.seq (.reg 1 R128_0) A128_9)
def O128 : List AO := [(.mov (.t 2))]
def G128 : Fns := ⟨fun f => false, fun f => if f = 154 then 1 else 0, false⟩
noncomputable def X128 : Cx := ⟨Try.prog, G128, drawD, 91, [0, 1, 2, 3, 4, 5, 6, 7, 8, 17, 44, 69]⟩
theorem c128 : (Try.f128.body).bind (compC X128.P X128.Γ X128.D X128.nt) = some A128 := by kernel_rfl
theorem o128 : compRes X128.P Try.f128.results.toList = some O128 := by kernel_rfl
theorem v128 : X128.vs = [0, 1, 2, 3, 4, 5, 6, 7, 8, 17, 44, 69] := rfl
theorem p128 : X128.P = Try.prog := rfl
def R86_0 : List AR := [⟨(some 1), none, 0, (.box 0 2 (.t 0))⟩, ⟨(some 2), none, 0, (.mov (.k .nl))⟩]
def R86_1 : List AR := [⟨(some 9), none, 0, (.load 2 true (.t 1))⟩, ⟨(some 10), none, 0, (.call false 0 0 59 [(.t 9)])⟩, ⟨(some 11), none, 0, (.not (.t 10))⟩]
def R86_2 : List AR := [⟨(some 2), none, 0, (.mov (.k .nl))⟩]
def R86_3 : List AR := [⟨(some 12), none, 0, (.faddr 0 (.t 1))⟩, ⟨(some 13), none, 0, (.load 1 false (.t 12))⟩, ⟨(some 14), none, 0, (.len (.t 13))⟩, ⟨(some 15), none, 0, (.call false 0 0 118 [(.t 14)])⟩, ⟨(some 3), none, 0, (.mov (.t 15))⟩]
def R86_4 : List AR := [⟨(some 16), none, 0, (.faddr 0 (.t 1))⟩, ⟨(some 17), none, 0, (.load 1 false (.t 16))⟩, ⟨(some 18), none, 0, (.len (.t 17))⟩, ⟨(some 19), none, 0, (.mov (.k (.int .i64 0)))⟩]
def R86_5 : List AR := [⟨(some 20), none, 0, (.bin .lss (.t 19) (.t 18))⟩]
def R86_6 : List AR := [⟨(some 21), none, 0, (.iaddr 6 (.t 17) (.t 19))⟩, ⟨(some 22), none, 0, (.load 6 true (.t 21))⟩, ⟨(some 5), none, 0, (.alloc 0 6 [(.int .i64 0), (.int .i64 0), (.int .i64 0), (.int .i64 0), (.int .i64 0), (.str ⟨⟨[]⟩⟩)])⟩, ⟨none, none, 0, (.store 6 (.t 5) (.t 22))⟩]
def R86_7 : List AR := [⟨(some 23), none, 0, (.faddr 1 (.t 5))⟩, ⟨(some 24), none, 0, (.load 5 true (.t 23))⟩, ⟨(some 6), none, 0, (.alloc 0 5 [(.int .i64 0), (.int .i64 0), (.int .i64 0), (.int .i64 0), (.str ⟨⟨[]⟩⟩)])⟩, ⟨none, none, 0, (.store 5 (.t 6) (.t 24))⟩]
def R86_8 : List AR := [⟨(some 25), none, 0, (.mov (.t 3))⟩, ⟨(some 26), none, 0, (.faddr 0 (.t 5))⟩, ⟨(some 27), none, 0, (.load 1 false (.t 26))⟩, ⟨(some 28), none, 0, (.call false 0 0 118 [(.t 27)])⟩, ⟨(some 29), none, 0, (.faddr 0 (.t 6))⟩, ⟨(some 30), none, 0, (.load 1 false (.t 29))⟩, ⟨(some 31), none, 0, (.call false 0 0 118 [(.t 30)])⟩, ⟨(some 32), none, 0, (.faddr 1 (.t 6))⟩, ⟨(some 33), none, 0, (.load 1 false (.t 32))⟩, ⟨(some 34), none, 0, (.call false 0 0 118 [(.t 33)])⟩, ⟨(some 35), none, 0, (.faddr 2 (.t 6))⟩, ⟨(some 36), none, 0, (.load 1 false (.t 35))⟩, ⟨(some 37), none, 0, (.call false 0 0 118 [(.t 36)])⟩, ⟨(some 38), none, 0, (.faddr 3 (.t 6))⟩, ⟨(some 39), none, 0, (.load 1 false (.t 38))⟩, ⟨(some 40), none, 0, (.call false 0 0 118 [(.t 39)])⟩, ⟨(some 41), none, 0, (.faddr 4 (.t 6))⟩, ⟨(some 42), none, 0, (.load 1 false (.t 41))⟩, ⟨(some 43), none, 0, (.call false 0 0 139 [(.t 42)])⟩, ⟨(some 44), none, 0, (.bslice 0 1 7 [.nl] [(0, (.t 25)), (1, (.t 28)), (2, (.t 31)), (3, (.t 34)), (4, (.t 37)), (5, (.t 40)), (6, (.t 43))])⟩, ⟨(some 45), none, 0, (.call false 1 1 117 [(.t 44)])⟩, ⟨(some 3), none, 0, (.mov (.t 45))⟩]
def A86_0 : AC := (.seq (.reg 1 R86_7) (.draw 2 R86_8))
def R86_9 : List AR := [⟨(some 46), none, 0, (.bin .add (.t 19) (.k (.int .i64 1)))⟩, ⟨(some 19), none, 0, (.mov (.t 46))⟩]
def A86_1 : AC := (.seq (.block 1 (.seq (.reg 1 R86_6) A86_0)) (.reg 0 R86_9))
def A86_2 : AC := (.seq (.cond (.t 20) .skip (.exit 0)) A86_1)
def L86_0 : AC := (.seq (.reg 0 R86_5) A86_2)
def R86_10 : List AR := [⟨(some 47), none, 0, (.mov (.t 3))⟩, ⟨(some 48), none, 0, (.faddr 1 (.t 1))⟩, ⟨(some 49), none, 0, (.load 1 false (.t 48))⟩, ⟨(some 50), none, 0, (.len (.t 49))⟩, ⟨(some 51), none, 0, (.call false 0 0 118 [(.t 50)])⟩, ⟨(some 52), none, 0, (.bslice 0 1 2 [.nl] [(0, (.t 47)), (1, (.t 51))])⟩, ⟨(some 53), none, 0, (.call false 1 1 117 [(.t 52)])⟩, ⟨(some 3), none, 0, (.mov (.t 53))⟩]
def R86_11 : List AR := [⟨(some 54), none, 0, (.faddr 1 (.t 1))⟩, ⟨(some 55), none, 0, (.load 1 false (.t 54))⟩, ⟨(some 56), none, 0, (.len (.t 55))⟩, ⟨(some 57), none, 0, (.mov (.k (.int .i64 0)))⟩]
def R86_12 : List AR := [⟨(some 58), none, 0, (.bin .lss (.t 57) (.t 56))⟩]
def R86_13 : List AR := [⟨(some 59), none, 0, (.iaddr 2 (.t 55) (.t 57))⟩, ⟨(some 60), none, 0, (.load 2 true (.t 59))⟩, ⟨(some 8), none, 0, (.alloc 0 2 [(.int .i64 0), (.int .i64 0)])⟩, ⟨none, none, 0, (.store 2 (.t 8) (.t 60))⟩]
def R86_14 : List AR := [⟨(some 61), none, 0, (.mov (.t 3))⟩, ⟨(some 62), none, 0, (.faddr 0 (.t 8))⟩, ⟨(some 63), none, 0, (.load 1 false (.t 62))⟩, ⟨(some 64), none, 0, (.call false 0 0 118 [(.t 63)])⟩, ⟨(some 65), none, 0, (.faddr 1 (.t 8))⟩, ⟨(some 66), none, 0, (.load 1 false (.t 65))⟩, ⟨(some 67), none, 0, (.call false 0 0 118 [(.t 66)])⟩, ⟨(some 68), none, 0, (.bslice 0 1 3 [.nl] [(0, (.t 61)), (1, (.t 64)), (2, (.t 67))])⟩, ⟨(some 69), none, 0, (.call false 1 1 117 [(.t 68)])⟩, ⟨(some 3), none, 0, (.mov (.t 69))⟩]
def R86_15 : List AR := [⟨(some 70), none, 0, (.bin .add (.t 57) (.k (.int .i64 1)))⟩, ⟨(some 57), none, 0, (.mov (.t 70))⟩]
def A86_3 : AC := (.seq (.block 3 (.seq (.reg 1 R86_13) (.draw 2 R86_14))) (.reg 0 R86_15))
def A86_4 : AC := (.seq (.cond (.t 58) .skip (.exit 2)) A86_3)
def L86_1 : AC := (.seq (.reg 0 R86_12) A86_4)
def R86_16 : List AR := [⟨(some 71), none, 0, (.mov (.t 3))⟩, ⟨(some 2), none, 0, (.mov (.t 71))⟩]
def A86_5 : AC := (.seq (.reg 0 R86_16) .ret)
def A86_6 : AC := (.seq (.seq (.reg 0 R86_11) (.block 2 (.loop L86_1))) A86_5)
def A86_7 : AC := (.seq (.reg 2 R86_10) A86_6)
def A86_8 : AC := (.seq (.seq (.reg 0 R86_4) (.block 0 (.loop L86_0))) A86_7)
def A86_9 : AC := (.seq (.reg 0 R86_3) A86_8)
def A86_10 : AC := (.seq (.seq (.reg 0 R86_1) (.cond (.t 11) (.seq (.reg 0 R86_2) .ret) .skip)) A86_9)
def A86 : AC := (.seq (.reg 1 R86_0) A86_10)
def O86 : List AO := [(.mov (.t 2))]
def G86 : Fns := ⟨fun f => false, fun f => if f = 117 then 1 else 0, false⟩
noncomputable def X86 : Cx := ⟨Try.prog, G86, drawD, 72, [0, 1, 2, 3, 5, 6, 8, 11, 17, 18, 19, 20, 55, 56, 57, 58]⟩
theorem c86 : (Try.f86.body).bind (compC X86.P X86.Γ X86.D X86.nt) = some A86 := by kernel_rfl
theorem o86 : compRes X86.P Try.f86.results.toList = some O86 := by kernel_rfl
theorem v86 : X86.vs = [0, 1, 2, 3, 5, 6, 8, 11, 17, 18, 19, 20, 55, 56, 57, 58] := rfl
theorem p86 : X86.P = Try.prog := rfl
def R80_0 : List AR := [⟨(some 1), none, 0, (.box 0 2 (.t 0))⟩, ⟨(some 2), none, 0, (.mov (.k .nl))⟩]
def R80_1 : List AR := [⟨(some 3), none, 0, (.load 2 true (.t 1))⟩, ⟨(some 4), none, 0, (.call false 0 0 55 [(.t 3)])⟩, ⟨(some 5), none, 0, (.not (.t 4))⟩]
def R80_2 : List AR := [⟨(some 6), none, 0, (.bslice 0 1 0 [(.int .u8 0)] [])⟩, ⟨(some 2), none, 0, (.mov (.t 6))⟩]
def R80_3 : List AR := [⟨(some 7), none, 0, (.load 2 true (.t 1))⟩, ⟨(some 8), none, 0, (.call false 0 1 128 [(.t 7)])⟩, ⟨(some 2), none, 0, (.mov (.t 8))⟩]
def A80_0 : AC := (.seq (.reg 1 R80_3) .ret)
def A80_1 : AC := (.seq (.seq (.reg 0 R80_1) (.cond (.t 5) (.seq (.reg 1 R80_2) .ret) .skip)) A80_0)
def A80 : AC := (.seq (.reg 1 R80_0) A80_1)
def O80 : List AO := [(.mov (.t 2))]
def G80 : Fns := ⟨fun f => false, fun f => if f = 128 then 1 else 0, false⟩
noncomputable def X80 : Cx := ⟨Try.prog, G80, drawD, 9, [0, 1, 2, 5]⟩
theorem c80 : (Try.f80.body).bind (compC X80.P X80.Γ X80.D X80.nt) = some A80 := by kernel_rfl
theorem o80 : compRes X80.P Try.f80.results.toList = some O80 := by kernel_rfl
theorem v80 : X80.vs = [0, 1, 2, 5] := rfl
theorem p80 : X80.P = Try.prog := rfl
def Entry.nums (a : Entry) : List Int := [a.inc, a.rank, a.beat, a.ver]
def Item.nums (x : Item) : List Int := [x.id, x.entry.inc, x.entry.rank, x.entry.beat, x.entry.ver]
def itemB (x : Item) : List UInt8 := cat putI x.nums ++ putText x.entry.data
def floorB (x : Floor) : List UInt8 := putI x.id ++ putI x.inc
def stateB (s : State) : List UInt8 := putNum s.items.length ++ cat itemB s.items ++ putNum s.floors.length ++ cat floorB s.floors
def Item.Fit (x : Item) : Prop := (∀ n ∈ x.nums, fit n) ∧ x.entry.data.size ≤ 8
def Floor.Fit (x : Floor) : Prop := fit x.id ∧ fit x.inc
def State.Fit (s : State) : Prop := (∀ x ∈ s.items, x.Fit) ∧ (∀ x ∈ s.floors, x.Fit) ∧ s.items.length ≤ 1048576 ∧ s.floors.length ≤ 1048576
theorem itemB_len {x : Item} (h : x.Fit) : (itemB x).length ≤ 38 := by
  have h1 := cat_len putI (xs := x.nums) (k := 5) fun a ha => putI_5 (h.1 a ha)
  have h2 := putText_len (s := x.entry.data) (by have := h.2; omega)
  have h3 := h.2
  unfold itemB
  rw [List.length_append]
  simp only [Item.nums, List.length_cons, List.length_nil] at h1 ⊢
  omega
theorem floorB_len {x : Floor} (h : x.Fit) : (floorB x).length ≤ 10 := by
  have h1 := putI_5 h.1
  have h2 := putI_5 h.2
  unfold floorB
  rw [List.length_append]
  omega
theorem State.Right.fit {s : State} (h : s.Right) (hs : s.sz ≤ 1048576) : s.Fit := by
  have h1 := State.items_le s
  have h2 := State.floors_le s
  refine ⟨fun x hx => ?_, fun x hx => ?_, by omega, by omega⟩
  · obtain ⟨i, hi⟩ := List.mem_iff_getElem?.1 hx
    obtain ⟨g1, _, g2, _⟩ := h.1 i x hi
    obtain ⟨g3, g4, g5, g6, g7⟩ := g2
    refine ⟨fun n hn => ?_, by omega⟩
    simp only [Item.nums, List.mem_cons, List.not_mem_nil, or_false] at hn
    rcases hn with rfl | rfl | rfl | rfl | rfl <;> exact ⟨by omega, by omega⟩
  · obtain ⟨i, hi⟩ := List.mem_iff_getElem?.1 hx
    obtain ⟨g1, _, g2⟩ := h.2 i x hi
    exact ⟨⟨by omega, by omega⟩, ⟨by omega, by omega⟩⟩
theorem cat_mem {α : Type} (f : α → List UInt8) {k : Nat} {xs : List α} (h : ∀ a ∈ xs, (f a).length ≤ k) (i : Nat) : (cat f (xs.take i)).length ≤ xs.length * k :=
  Nat.le_trans (cat_le f xs i) (cat_len f h)
set_option maxHeartbeats 4000000 in
theorem specL6Bytes_ok (a : State) (h : a.Fit) : FS Try.prog 128 [] [.agg a.c] (.sl 0 1 0 (stateB a).length) [⟨1, rw_ byteC (stateB a)⟩] := by
  refine FS.of (X := X128) (ac := A128) (os := O128) Try.func128 (by rfl) (by rfl) (by kernel_rfl) o128 (Nat.le_of_ble_eq_true rfl) ?_
  show AWP X128 A128 (Ends X128.vs O128 0 _ _) [.agg a.c, .tup [], .tup [], .tup [], .tup [], .tup [], .tup [], .tup [], .tup [], .tup [], .tup [], .tup []] []
  obtain ⟨Q, hQ⟩ : ∃ Q, Q = Ends X128.vs O128 0 (.sl 0 1 0 (stateB a).length) [⟨1, rw_ byteC (stateB a)⟩] := ⟨_, rfl⟩
  rw [← hQ]
  obtain ⟨hf1, hf2, hl1, hl2⟩ := h
  have h5 := putNum_5 (n := a.items.length) (by omega)
  have h6 := putNum_5 (n := a.floors.length) (by omega)
  have hb1 := cat_len itemB (xs := a.items) fun x hx => itemB_len (hf1 x hx)
  have hb2 := cat_len floorB (xs := a.floors) fun x hx => floorB_len (hf2 x hx)
  refine awp_sr ?_
  simp only [go_sem, R128_0, v128, p128, State.c]
  refine awp_sr ?_
  simp only [go_sem, R128_1, v128, p128]
  refine run_new (specPutNum_ok a.items.length (by omega)) false (Views.refl rfl) (by first | rfl | (simp only [Nat.add_zero, app_get, app_getk, sapp_get, sapp_getk, Nat.add_assoc, Nat.reduceAdd, List.getElem?_cons_zero, List.getElem?_cons_succ]; done) | simp) (bytes_ok _) (by simp [V.ids]) (fun h => by cases h) ?_
  simp only [go_sem, v128, p128]
  refine awp_sr2 ?_
  simp only [go_sem, R128_2, v128, p128]
  obtain ⟨I, hI⟩ : ∃ I : Nat → List V → Store → Prop, I = fun mM L σ => ∃ i out r q τ y0 y2 y5 y6 y7 y8 y17 y44 y69, a.items.length - i = mM ∧ (i ≤ a.items.length ∧ out = putNum a.items.length ++ cat itemB (a.items.take i) ∧ q = out.length ∧ τ[0]? = some (.live ⟨2, [a.c]⟩) ∧ τ[r]? = some (.live ⟨1, rw_ byteC out⟩)) ∧ L = [y0, .ptr 0 2 0 0, y2, .sl r 1 0 q, .int .i64 (i : Nat), y5, y6, y7, y8, y17, y44, y69] ∧ σ = τ := ⟨_, rfl⟩
  first | refine awp_for I (a.items.length) ?_ ?_ | refine awp_seq (awp_for I (a.items.length) ?_ ?_)
  · rw [hI]
    refine ⟨0, putNum a.items.length, _, _, _, _, _, _, _, _, _, _, _, _, rfl, ?_, rfl, rfl⟩
    exact ⟨Nat.zero_le _, (List.append_nil _).symm, rfl, rfl, rfl⟩
  intro mM L σ hIn
  rw [hI] at hIn
  obtain ⟨i, out, r, q, τ, y0, y2, y5, y6, y7, y8, y17, y44, y69, rfl, hP, rfl, rfl⟩ := hIn
  obtain ⟨hi, ho, rfl, g0, gr⟩ := hP
  refine awp_sr2 ?_
  simp only [go_sem, R128_3, v128, p128, get_app g0, g0, State.c]
  refine awp_if rfl ?_ ?_
  · intro h1
    have h1 : i < a.items.length := by omega
    have hfit := hf1 _ (List.getElem_mem h1)
    have e1 := cat_take itemB h1
    have e2 := cat_le itemB a.items (i + 1)
    have e3 := congrArg List.length e1
    have e4 := congrArg List.length ho
    have e5 : (itemB a.items[i]).length = (cat putI a.items[i].nums).length + (putText a.items[i].entry.data).length := by unfold itemB; rw [List.length_append]
    rw [List.length_append] at e3 e4
    refine awp_skip ?_
    simp only [go_sem]
    refine awp_seq (awp_block ?_)
    refine awp_sr ?_
    simp only [go_sem, R128_4, v128, p128, get_app g0, State.c, rw_at _ h1, Item.c]
    refine awp_sd mixed rfl (by rfl) ?_
    simp only [go_sem, R128_5, v128, p128, get_app g0, State.c, rw_at _ h1, Item.c]
    have hp : σ.length = σ.length := rfl
    generalize hpp : σ.length = p at hp
    have hr0 := get_lt gr
    have hr1 := get_ne g0 gr (slot_ne (by omega))
    obtain ⟨τ0, hτ0⟩ : ∃ τ0, τ0 = σ ++ [.live ⟨5, [a.items[i].entry.c]⟩, .live ⟨1, rw_ intC a.items[i].nums⟩] := ⟨_, rfl⟩
    have k0 : τ0[0]? = some (.live ⟨2, [a.c]⟩) := by rw [hτ0]; exact get_app g0
    have ke : τ0[p]? = some (.live ⟨5, [a.items[i].entry.c]⟩) := by rw [hτ0, ← hpp, app_get]; rfl
    have kl : τ0[p + 1]? = some (.live ⟨1, rw_ intC a.items[i].nums⟩) := by rw [hτ0, ← hpp, app_getk]; rfl
    have kr : τ0[r]? = some (.live ⟨1, rw_ byteC out⟩) := by rw [hτ0]; exact get_app gr
    refine (fun G : AWP X128 _ _ _ τ0 => by rw [hτ0] at G; exact G) ?_
    have hfit1 := hfit.1
    have hn5 : a.items[i].nums.length = 5 := rfl
    refine awp_sr2 ?_
    simp only [go_sem, R128_6, v128, p128]
    have hrp : r < p := by omega
    clear hτ0 hpp hp
    obtain ⟨J, hJ⟩ : ∃ J : Nat → List V → Store → Prop, J = fun mM L σ => ∃ k out2 r2 q2 τ y0 y2 y8 y17 y44 y69, 5 - k = mM ∧ (k ≤ 5 ∧ out2 = out ++ cat putI (a.items[i].nums.take k) ∧ q2 = out2.length ∧ τ[0]? = some (.live ⟨2, [a.c]⟩) ∧ τ[p]? = some (.live ⟨5, [a.items[i].entry.c]⟩) ∧ τ[p + 1]? = some (.live ⟨1, rw_ intC a.items[i].nums⟩) ∧ τ[r2]? = some (.live ⟨1, rw_ byteC out2⟩) ∧ r2 ≠ p + 1) ∧ L = [y0, .ptr 0 2 0 0, y2, .sl r2 1 0 q2, .int .i64 (i : Nat), .ptr p 5 0 0, .sl (p + 1) 1 0 5, .int .i64 (k : Nat), y8, y17, y44, y69] ∧ σ = τ := ⟨_, rfl⟩
    first | refine awp_for J (5) ?_ ?_ | refine awp_seq (awp_for J (5) ?_ ?_)
    · rw [hJ]
      refine ⟨0, out, _, _, _, _, _, _, _, _, _, rfl, ?_, rfl, rfl⟩
      exact ⟨by omega, (List.append_nil _).symm, rfl, k0, ke, kl, kr, by omega⟩
    intro mM L σ hIn
    rw [hJ] at hIn
    obtain ⟨k, out2, r2, q2, τ, y0, y2, y8, y17, y44, y69, rfl, hP, rfl, rfl⟩ := hIn
    obtain ⟨hk, hk2, rfl, m0, me, ml, mr, mne⟩ := hP
    have c1 := cat_le putI a.items[i].nums k
    have c2 := congrArg List.length hk2
    rw [List.length_append] at c2
    refine awp_sr2 ?_
    simp only [go_sem, R128_7, v128, p128]
    refine awp_if rfl ?_ ?_
    · intro h2
      have h3 : k < a.items[i].nums.length := by omega
      have d1 := cat_take putI h3
      refine awp_skip ?_
      simp only [go_sem]
      first | refine awp_block ?_ | refine awp_seq (awp_block ?_)
      have d2 := putI_5 (hfit1 _ (List.getElem_mem h3))
      refine awp_reg ?_
      simp only [go_sem, R128_8, v128, p128, get_app ml, rw_at _ h3, intC, h2]
      refine run_see (specPutI_fz (hfit1 _ (List.getElem_mem h3))) false (Views.refl rfl) rfl (fun j hj => by first | omega | ((have hj0 : j = 0 := by omega); subst hj0; first | rfl | (simp only [Nat.add_zero, app_get, app_getk, sapp_get, sapp_getk, Nat.add_assoc, Nat.reduceAdd, List.getElem?_cons_zero, List.getElem?_cons_succ]; done) | simp)) (fun h => by cases h) ?_
      simp only [go_sem, v128, p128, get_app mr, set_app mr]
      refine ⟨by omega, ?_⟩
      refine awp_reg ?_
      simp only [go_sem, R128_9, v128, p128, wrap_succ (i := k) (by omega)]
      have z0 := get_ne m0 mr (slot_ne (by omega))
      have ze := get_ne me mr (slot_ne (by omega))
      have lt0 := get_lt ml
      refine ⟨5 - (k + 1), ?_, ?_⟩
      rotate_left
      rw [hJ]
      refine ⟨k + 1, out2 ++ putI a.items[i].nums[k], _, _, _, _, _, _, _, _, _, rfl, ?_, rfl, rfl⟩
      · refine ⟨by omega, by rw [hk2, d1, List.append_assoc], by simp, keep_get m0 z0, keep_get me ze, keep_get ml mne, ?_, by omega⟩
        first | (rw [sapp_getk]; rfl) | (rw [sapp_get]; rfl)
      · omega
    · intro h2
      refine awp_exit ?_
      simp only [go_sem]
      have : k = 5 := by omega
      subst this
      rw [List.take_of_length_le (by omega)] at hk2
      have dt := putText_len (s := a.items[i].entry.data) (by have := hfit.2; omega)
      refine awp_reg ?_
      simp only [go_sem, R128_10, v128, p128, get_app me, Entry.c]
      refine run_see (specPutText_fz a.items[i].entry.data (by have := hfit.2; omega)) false (Views.refl rfl) rfl (fun j hj => by first | omega | ((have hj0 : j = 0 := by omega); subst hj0; first | rfl | (simp only [Nat.add_zero, app_get, app_getk, sapp_get, sapp_getk, Nat.add_assoc, Nat.reduceAdd, List.getElem?_cons_zero, List.getElem?_cons_succ]; done) | simp)) (fun h => by cases h) ?_
      simp only [go_sem, v128, p128, get_app mr, set_app mr]
      refine ⟨by omega, ?_⟩
      refine awp_reg ?_
      simp only [go_sem, R128_11, v128, p128, wrap_succ (i := i) (by omega)]
      have z0 := get_ne m0 mr (slot_ne (by omega))
      refine ⟨a.items.length - (i + 1), ?_, ?_⟩
      rotate_left
      rw [hI]
      refine ⟨i + 1, out2 ++ putText a.items[i].entry.data, _, _, _, _, _, _, _, _, _, _, _, _, rfl, ?_, rfl, rfl⟩
      · refine ⟨by omega, by rw [hk2, e1, ho]; simp [itemB], by simp, keep_get m0 z0, ?_⟩
        first | (rw [sapp_getk]; rfl) | (rw [sapp_get]; rfl)
      · omega
  · intro h1
    refine awp_exit ?_
    simp only [go_sem]
    have : i = a.items.length := by omega
    subst this
    rw [List.take_length] at ho
    have e4 := congrArg List.length ho
    rw [List.length_append] at e4
    have z0 := get_ne g0 gr (slot_ne (by omega))
    refine awp_sr ?_
    simp only [go_sem, R128_12, v128, p128, get_app g0, State.c]
    refine run_see (specPutNum_fz a.floors.length (by omega)) false (Views.refl rfl) rfl (fun j hj => by first | omega | ((have hj0 : j = 0 := by omega); subst hj0; first | rfl | (simp only [Nat.add_zero, app_get, app_getk, sapp_get, sapp_getk, Nat.add_assoc, Nat.reduceAdd, List.getElem?_cons_zero, List.getElem?_cons_succ]; done) | simp)) (fun h => by cases h) ?_
    simp only [go_sem, v128, p128, get_app gr, set_app gr]
    refine ⟨by omega, ?_⟩
    refine awp_sr2 ?_
    simp only [go_sem, R128_13, v128, p128]
    clear hI
    generalize hq1 : out ++ putNum a.floors.length = out1
    have e6 := congrArg List.length hq1
    rw [List.length_append] at e6
    obtain ⟨J, hJ⟩ : ∃ J : Nat → List V → Store → Prop, J = fun mM L σ => ∃ i out r q τ y0 y2 y4 y5 y6 y7 y17 y44 y69, a.floors.length - i = mM ∧ (i ≤ a.floors.length ∧ out = out1 ++ cat floorB (a.floors.take i) ∧ q = out.length ∧ τ[0]? = some (.live ⟨2, [a.c]⟩) ∧ τ[r]? = some (.live ⟨1, rw_ byteC out⟩)) ∧ L = [y0, .ptr 0 2 0 0, y2, .sl r 1 0 q, y4, y5, y6, y7, .int .i64 (i : Nat), y17, y44, y69] ∧ σ = τ := ⟨_, rfl⟩
    first | refine awp_for J (a.floors.length) ?_ ?_ | refine awp_seq (awp_for J (a.floors.length) ?_ ?_)
    · rw [hJ]
      refine ⟨0, out1, _, _, _, _, _, _, _, _, _, _, _, _, rfl, ?_, rfl, rfl⟩
      refine ⟨Nat.zero_le _, (List.append_nil _).symm, by omega, keep_get g0 z0, ?_⟩
      first | (rw [sapp_getk]; rfl) | (rw [sapp_get]; rfl)
    intro mM L σ hIn
    rw [hJ] at hIn
    obtain ⟨i, out, r, q, τ, y0, y2, y4, y5, y6, y7, y17, y44, y69, rfl, hP, rfl, rfl⟩ := hIn
    obtain ⟨hi2, ho2, rfl, m0, mr⟩ := hP
    have zz := get_ne m0 mr (slot_ne (by omega))
    refine awp_sr2 ?_
    simp only [go_sem, R128_14, v128, p128, get_app m0, m0, State.c]
    refine awp_if rfl ?_ ?_
    · intro h2
      have h2 : i < a.floors.length := by omega
      have hfit := hf2 _ (List.getElem_mem h2)
      have c1 := cat_take floorB h2
      have c2 := cat_le floorB a.floors (i + 1)
      have c3 := congrArg List.length c1
      have c4 := congrArg List.length ho2
      have c5 : (floorB a.floors[i]).length = (putI a.floors[i].id).length + (putI a.floors[i].inc).length := by unfold floorB; rw [List.length_append]
      rw [List.length_append] at c3 c4
      refine awp_skip ?_
      simp only [go_sem]
      first | refine awp_block ?_ | refine awp_seq (awp_block ?_)
      refine awp_sr ?_
      simp only [go_sem, R128_15, v128, p128, get_app m0, State.c, rw_at _ h2, Floor.c]
      refine run_see (specPutI_fz hfit.1) false (Views.refl rfl) rfl (fun j hj => by first | omega | ((have hj0 : j = 0 := by omega); subst hj0; first | rfl | (simp only [Nat.add_zero, app_get, app_getk, sapp_get, sapp_getk, Nat.add_assoc, Nat.reduceAdd, List.getElem?_cons_zero, List.getElem?_cons_succ]; done) | simp)) (fun h => by cases h) ?_
      simp only [go_sem, v128, p128, get_app mr, set_app mr]
      refine ⟨by omega, ?_⟩
      generalize hq2 : out ++ putI a.floors[i].id = out2
      have c6 := congrArg List.length hq2
      rw [List.length_append] at c6
      rw [c6]
      refine awp_reg ?_
      simp only [go_sem, R128_16, v128, p128, keep_get m0 zz, State.c, rw_at _ h2, Floor.c]
      refine run_see (specPutI_fz hfit.2) false (Views.refl rfl) rfl (fun j hj => by first | omega | ((have hj0 : j = 0 := by omega); subst hj0; first | rfl | (simp only [Nat.add_zero, app_get, app_getk, sapp_get, sapp_getk, Nat.add_assoc, Nat.reduceAdd, List.getElem?_cons_zero, List.getElem?_cons_succ]; done) | simp)) (fun h => by cases h) ?_
      simp only [go_sem, v128, p128]
      refine ⟨by omega, ?_⟩
      refine awp_reg ?_
      simp only [go_sem, R128_17, v128, p128, wrap_succ (i := i) (by omega)]
      refine ⟨a.floors.length - (i + 1), ?_, ?_⟩
      rotate_left
      rw [hJ]
      refine ⟨i + 1, out2 ++ putI a.floors[i].inc, _, _, _, _, _, _, _, _, _, _, _, _, rfl, ?_, rfl, rfl⟩
      · refine ⟨by omega, by rw [← hq2, c1, ho2]; simp [floorB], by simp, keep_get m0 zz, ?_⟩
        first | (rw [sapp_getk]; rfl) | (rw [sapp_get]; rfl)
      · omega
    · intro h2
      refine awp_exit ?_
      simp only [go_sem]
      have : i = a.floors.length := by omega
      subst this
      rw [List.take_length] at ho2
      refine awp_sr ?_
      simp only [go_sem, R128_18, v128, p128]
      refine awp_ret ?_
      try simp only [go_sem]
      rw [hQ, show stateB a = out by rw [ho2, ← hq1, ho]; rfl]
      exact Ends.ownAt (.inl rfl) rfl mr rfl (bytes_ok _)
noncomputable def sBytes (a : State) : List UInt8 := if a.Right then stateB a else []
theorem sBytes_yes {a : State} (h : a.Right) : sBytes a = stateB a := if_pos h
theorem sBytes_no {a : State} (h : ¬ a.Right) : sBytes a = [] := if_neg h
theorem specStateBytes_ok (a : State) (h : a.sz ≤ 1048576) : FS Try.prog 80 [] [.agg a.c] (.sl 0 1 0 (sBytes a).length) [⟨1, rw_ byteC (sBytes a)⟩] := by
  refine FS.of (X := X80) (ac := A80) (os := O80) Try.func80 (by rfl) (by rfl) (by kernel_rfl) o80 (Nat.le_of_ble_eq_true rfl) ?_
  show AWP X80 A80 (Ends X80.vs O80 0 _ _) [.agg a.c, .tup [], .tup [], .tup []] []
  obtain ⟨Q, hQ⟩ : ∃ Q, Q = Ends X80.vs O80 0 (.sl 0 1 0 (sBytes a).length) [⟨1, rw_ byteC (sBytes a)⟩] := ⟨_, rfl⟩
  rw [← hQ]
  refine awp_sr ?_
  simp only [go_sem, R80_0, v80, p80, State.c]
  refine awp_sr2 ?_
  simp only [go_sem, R80_1, v80, p80]
  refine run_see (specStateOk_ok a h) false (Views.refl rfl) rfl (fun j hj => by first | omega | ((have hj0 : j = 0 := by omega); subst hj0; first | rfl | (simp only [Nat.add_zero, app_get, app_getk, sapp_get, sapp_getk, Nat.add_assoc, Nat.reduceAdd, List.getElem?_cons_zero, List.getElem?_cons_succ]; done) | simp)) (fun h => by cases h) ?_
  simp only [go_sem, v80, p80]
  refine awp_if' rfl ?_ ?_
  · intro h1
    refine awp_sr ?_
    simp only [go_sem, R80_2, v80, p80]
    refine awp_ret ?_
    try simp only [go_sem]
    rw [hQ, sBytes_no h1]
    exact Ends.ownLast (.inl rfl) rfl (Last.mk [.live ⟨2, [a.c]⟩] _) rfl (bytes_ok [])
  · intro h1
    refine awp_skip ?_
    simp only [go_sem]
    refine awp_sr ?_
    simp only [go_sem, R80_3, v80, p80, State.c]
    refine run_new (specL6Bytes_ok a (h1.fit h)) false (Views.refl rfl) (by first | rfl | (simp only [Nat.add_zero, app_get, app_getk, sapp_get, sapp_getk, Nat.add_assoc, Nat.reduceAdd, List.getElem?_cons_zero, List.getElem?_cons_succ]; done) | simp) (bytes_ok _) (by simp [V.ids]) (fun h => by cases h) ?_
    simp only [go_sem, v80, p80]
    refine awp_ret ?_
    try simp only [go_sem]
    rw [hQ, sBytes_yes h1]
    exact Ends.ownLast (.inl rfl) rfl (Last.mk1 [] _ _) rfl (bytes_ok _)
theorem specStateBytes_fz (a : State) (h : a.sz ≤ 1048576) : FS Try.prog 80 [] [.agg a.c] (.fz 1 (rw_ byteC (sBytes a))) [] := (specStateBytes_ok a h).frz (bytes_ok _) (rw_len _ _).symm
theorem specL6Bytes_fz (a : State) (h : a.Fit) : FS Try.prog 128 [] [.agg a.c] (.fz 1 (rw_ byteC (stateB a))) [] := (specL6Bytes_ok a h).frz (bytes_ok _) (rw_len _ _).symm
theorem seven_fold (a b c d e f g : List UInt8) : [rowB a, rowB b, rowB c, rowB d, rowB e, rowB f, rowB g] = rw_ rowB [a, b, c, d, e, f, g] := rfl
theorem three_fold (a b c : List UInt8) : [rowB a, rowB b, rowB c] = rw_ rowB [a, b, c] := rfl
set_option maxHeartbeats 4000000 in
theorem implStateBytes_ok (a : State) (h : a.sz ≤ 1048576) : FS Try.prog 86 [] [.agg a.c] (.fz 1 (rw_ byteC (sBytes a))) [] := by
  refine FS.of (X := X86) (ac := A86) (os := O86) Try.func86 (by rfl) (by rfl) (by kernel_rfl) o86 (Nat.le_of_ble_eq_true rfl) ?_
  show AWP X86 A86 (Ends X86.vs O86 0 _ _) [.agg a.c, .tup [], .tup [], .tup [], .tup [], .tup [], .tup [], .tup [], .tup [], .tup [], .tup [], .tup [], .tup [], .tup [], .tup [], .tup []] []
  obtain ⟨Q, hQ⟩ : ∃ Q, Q = Ends X86.vs O86 0 (.fz 1 (rw_ byteC (sBytes a))) [] := ⟨_, rfl⟩
  rw [← hQ]
  refine awp_sr ?_
  simp only [go_sem, R86_0, v86, p86, State.c]
  refine awp_sr2 ?_
  simp only [go_sem, R86_1, v86, p86]
  refine run_see (implStateOk_ok a h) false (Views.refl rfl) rfl (fun j hj => by first | omega | ((have hj0 : j = 0 := by omega); subst hj0; first | rfl | (simp only [Nat.add_zero, app_get, app_getk, sapp_get, sapp_getk, Nat.add_assoc, Nat.reduceAdd, List.getElem?_cons_zero, List.getElem?_cons_succ]; done) | simp)) (fun h => by cases h) ?_
  simp only [go_sem, v86, p86]
  refine awp_if' rfl ?_ ?_
  · intro h1
    refine awp_sr ?_
    simp only [go_sem, R86_2, v86, p86]
    refine awp_ret ?_
    try simp only [go_sem]
    rw [hQ, sBytes_no h1]
    exact Ends.plain (.inl rfl) rfl (.nl 1) rfl
  intro h1
  obtain ⟨hf1, hf2, hl1, hl2⟩ := h1.fit h
  have h5 := putNum_5 (n := a.items.length) (by omega)
  have h6 := putNum_5 (n := a.floors.length) (by omega)
  have hb1 := cat_len itemB (xs := a.items) fun x hx => itemB_len (hf1 x hx)
  have hb2 := cat_len floorB (xs := a.floors) fun x hx => floorB_len (hf2 x hx)
  rw [sBytes_yes h1] at hQ
  refine awp_skip ?_
  simp only [go_sem]
  refine awp_sr ?_
  simp only [go_sem, R86_3, v86, p86, State.c]
  refine run_see (implPutNum_fz a.items.length (by omega)) false (Views.refl rfl) rfl (fun j hj => by first | omega | ((have hj0 : j = 0 := by omega); subst hj0; first | rfl | (simp only [Nat.add_zero, app_get, app_getk, sapp_get, sapp_getk, Nat.add_assoc, Nat.reduceAdd, List.getElem?_cons_zero, List.getElem?_cons_succ]; done) | simp)) (fun h => by cases h) ?_
  simp only [go_sem, v86, p86]
  refine awp_sr2 ?_
  simp only [go_sem, R86_4, v86, p86]
  obtain ⟨I, hI⟩ : ∃ I : Nat → List V → Store → Prop, I = fun mM L σ => ∃ i out rest y0 y2 y5 y6 y8 y11 y20 y55 y56 y57 y58, a.items.length - i = mM ∧ (i ≤ a.items.length ∧ out = putNum a.items.length ++ cat itemB (a.items.take i)) ∧ L = [y0, .ptr 0 2 0 0, y2, .fz 1 (rw_ byteC out), y5, y6, y8, y11, .fz 6 (rw_ Item.c a.items), .int .i64 (a.items.length : Nat), .int .i64 (i : Nat), y20, y55, y56, y57, y58] ∧ σ = .live ⟨2, [a.c]⟩ :: rest := ⟨_, rfl⟩
  first | refine awp_for I (a.items.length) ?_ ?_ | refine awp_seq (awp_for I (a.items.length) ?_ ?_)
  · rw [hI]
    refine ⟨0, _, _, _, _, _, _, _, _, _, _, _, _, _, rfl, ?_, rfl, rfl⟩
    exact ⟨Nat.zero_le _, (List.append_nil _).symm⟩
  intro mM L σ hIn
  rw [hI] at hIn
  obtain ⟨i, out, rest, y0, y2, y5, y6, y8, y11, y20, y55, y56, y57, y58, rfl, hP, rfl, rfl⟩ := hIn
  obtain ⟨hi, ho⟩ := hP
  refine awp_sr ?_
  simp only [go_sem, R86_5, v86, p86]
  refine awp_seq ?_
  refine awp_if rfl ?_ ?_
  · intro h1
    have h1 : i < a.items.length := by omega
    have hfit := hf1 _ (List.getElem_mem h1)
    have f1 := hfit.1
    have dt := putText_len (s := a.items[i].entry.data) (by have := hfit.2; omega)
    have e1 := cat_take itemB h1
    have e2 := cat_le itemB a.items (i + 1)
    have e3 := congrArg List.length e1
    have e4 := congrArg List.length ho
    have e5 := itemB_len hfit
    rw [List.length_append] at e3 e4
    refine awp_skip ?_
    simp only [go_sem]
    refine awp_seq (awp_block ?_)
    refine awp_sr ?_
    simp only [go_sem, R86_6, v86, p86, rw_at _ h1, Item.c]
    refine awp_sr ?_
    simp only [go_sem, R86_7, v86, p86]
    refine awp_draw0 mixed rfl (by rfl) ?_
    simp only [go_sem, R86_8, v86, p86]
    refine run_see (implPutI_fz (f1 a.items[i].id (by simp [Item.nums]))) false (Views.refl rfl) rfl (fun j hj => by first | omega | ((have hj0 : j = 0 := by omega); subst hj0; first | rfl | (simp only [Nat.add_zero, app_get, app_getk, sapp_get, sapp_getk, Nat.add_assoc, Nat.reduceAdd, List.getElem?_cons_zero, List.getElem?_cons_succ]; done) | simp)) (fun h => by cases h) ?_
    simp only [go_sem, v86, p86]
    refine run_see (implPutI_fz (f1 a.items[i].entry.inc (by simp [Item.nums]))) false (Views.refl rfl) rfl (fun j hj => by first | omega | ((have hj0 : j = 0 := by omega); subst hj0; first | rfl | (simp only [Nat.add_zero, app_get, app_getk, sapp_get, sapp_getk, Nat.add_assoc, Nat.reduceAdd, List.getElem?_cons_zero, List.getElem?_cons_succ]; done) | simp)) (fun h => by cases h) ?_
    simp only [go_sem, v86, p86]
    refine run_see (implPutI_fz (f1 a.items[i].entry.rank (by simp [Item.nums]))) false (Views.refl rfl) rfl (fun j hj => by first | omega | ((have hj0 : j = 0 := by omega); subst hj0; first | rfl | (simp only [Nat.add_zero, app_get, app_getk, sapp_get, sapp_getk, Nat.add_assoc, Nat.reduceAdd, List.getElem?_cons_zero, List.getElem?_cons_succ]; done) | simp)) (fun h => by cases h) ?_
    simp only [go_sem, v86, p86]
    refine run_see (implPutI_fz (f1 a.items[i].entry.beat (by simp [Item.nums]))) false (Views.refl rfl) rfl (fun j hj => by first | omega | ((have hj0 : j = 0 := by omega); subst hj0; first | rfl | (simp only [Nat.add_zero, app_get, app_getk, sapp_get, sapp_getk, Nat.add_assoc, Nat.reduceAdd, List.getElem?_cons_zero, List.getElem?_cons_succ]; done) | simp)) (fun h => by cases h) ?_
    simp only [go_sem, v86, p86]
    refine run_see (implPutI_fz (f1 a.items[i].entry.ver (by simp [Item.nums]))) false (Views.refl rfl) rfl (fun j hj => by first | omega | ((have hj0 : j = 0 := by omega); subst hj0; first | rfl | (simp only [Nat.add_zero, app_get, app_getk, sapp_get, sapp_getk, Nat.add_assoc, Nat.reduceAdd, List.getElem?_cons_zero, List.getElem?_cons_succ]; done) | simp)) (fun h => by cases h) ?_
    simp only [go_sem, v86, p86]
    refine run_see (implPutText_fz a.items[i].entry.data (by have := hfit.2; omega)) false (Views.refl rfl) rfl (fun j hj => by first | omega | ((have hj0 : j = 0 := by omega); subst hj0; first | rfl | (simp only [Nat.add_zero, app_get, app_getk, sapp_get, sapp_getk, Nat.add_assoc, Nat.reduceAdd, List.getElem?_cons_zero, List.getElem?_cons_succ]; done) | simp)) (fun h => by cases h) ?_
    simp only [go_sem, v86, p86, fz_fold, seven_fold]
    obtain ⟨ls, hls⟩ : ∃ ls, ls = [out, putI a.items[i].id, putI a.items[i].entry.inc, putI a.items[i].entry.rank, putI a.items[i].entry.beat, putI a.items[i].entry.ver, putText a.items[i].entry.data] := ⟨_, rfl⟩
    have hl7 : ls.length = 7 := by rw [hls]; rfl
    have hfl : ls.flatten = out ++ itemB a.items[i] := by rw [hls]; simp [itemB, cat, Item.nums]
    rw [← hls]
    have hj : ls.flatten.length ≤ lim := by rw [hfl, List.length_append]; simp [lim]; omega
    refine run_new (joined_ok ls hj (by omega)) true (.cons (View.row (by simp) (by simp) (by rw [rw_len, hl7]) (brows_ok _)) (.nil)) (by first | rfl | (simp only [Nat.add_zero, app_get, app_getk, sapp_get, sapp_getk, Nat.add_assoc, Nat.reduceAdd, List.getElem?_cons_zero, List.getElem?_cons_succ]; done) | simp) (bytes_ok _) (by simp [V.ids]) (fun _ => ⟨rfl, bytes_flat _⟩) ?_
    simp only [go_sem, v86, p86]
    refine awp_freeze (o := rest.length + 4) (ob := ⟨1, rw_ byteC ls.flatten⟩) (by simp) (bytes_ok _) ?_
    rw [hfl]
    have np : (0 : Nat) ≠ rest.length + 4 := by omega
    generalize hq : out ++ itemB a.items[i] = out2
    simp only [go_sem, v86, p86, frz_ptr _ _ _ _ _ np]
    refine awp_reg ?_
    simp only [go_sem, R86_9, v86, p86, wrap_succ (i := i) (by omega)]
    refine ⟨a.items.length - (i + 1), ?_, ?_⟩
    rotate_left
    rw [hI]
    refine ⟨i + 1, _, _, _, _, _, _, _, _, _, _, _, _, _, rfl, ?_, rfl, rfl⟩
    · exact ⟨by omega, by rw [e1, ← hq, ho, List.append_assoc]⟩
    · omega
  · intro h1
    refine awp_exit ?_
    simp only [go_sem]
    have : i = a.items.length := by omega
    subst this
    rw [List.take_length] at ho
    have e4 := congrArg List.length ho
    rw [List.length_append] at e4
    clear hI
    refine awp_sr ?_
    simp only [go_sem, R86_10, v86, p86, State.c]
    refine run_see (implPutNum_fz a.floors.length (by omega)) false (Views.refl rfl) rfl (fun j hj => by first | omega | ((have hj0 : j = 0 := by omega); subst hj0; first | rfl | (simp only [Nat.add_zero, app_get, app_getk, sapp_get, sapp_getk, Nat.add_assoc, Nat.reduceAdd, List.getElem?_cons_zero, List.getElem?_cons_succ]; done) | simp)) (fun h => by cases h) ?_
    simp only [go_sem, v86, p86, fz_fold, pair_fold]
    have hj : [out, putNum a.floors.length].flatten.length ≤ lim := by simp [lim]; omega
    refine run_new (joined_ok [out, putNum a.floors.length] hj (by simp)) true (.cons (View.row (by simp) (by simp) rfl (brows_ok _)) (.nil)) (by first | rfl | (simp only [Nat.add_zero, app_get, app_getk, sapp_get, sapp_getk, Nat.add_assoc, Nat.reduceAdd, List.getElem?_cons_zero, List.getElem?_cons_succ]; done) | simp) (bytes_ok _) (by simp [V.ids]) (fun _ => ⟨rfl, bytes_flat _⟩) ?_
    simp only [go_sem, v86, p86]
    refine awp_freeze (o := rest.length + 2) (ob := ⟨1, rw_ byteC [out, putNum a.floors.length].flatten⟩) (by simp) (bytes_ok _) ?_
    have np : (0 : Nat) ≠ rest.length + 2 := by omega
    generalize hq1 : [out, putNum a.floors.length].flatten = out1
    have hq1 : out ++ putNum a.floors.length = out1 := by rw [← hq1]; simp
    have e6 := congrArg List.length hq1
    rw [List.length_append] at e6
    simp only [go_sem, v86, p86, frz_ptr _ _ _ _ _ np]
    refine awp_sr2 ?_
    simp only [go_sem, R86_11, v86, p86, State.c]
    obtain ⟨J, hJ⟩ : ∃ J : Nat → List V → Store → Prop, J = fun mM L σ => ∃ i out rest y0 y1 y2 y5 y6 y8 y11 y17 y18 y19 y20 y58, a.floors.length - i = mM ∧ (i ≤ a.floors.length ∧ out = out1 ++ cat floorB (a.floors.take i)) ∧ L = [y0, y1, y2, .fz 1 (rw_ byteC out), y5, y6, y8, y11, y17, y18, y19, y20, .fz 2 (rw_ Floor.c a.floors), .int .i64 (a.floors.length : Nat), .int .i64 (i : Nat), y58] ∧ σ = .live ⟨2, [a.c]⟩ :: rest := ⟨_, rfl⟩
    first | refine awp_for J (a.floors.length) ?_ ?_ | refine awp_seq (awp_for J (a.floors.length) ?_ ?_)
    · rw [hJ]
      refine ⟨0, _, _, _, _, _, _, _, _, _, _, _, _, _, _, rfl, ?_, rfl, rfl⟩
      exact ⟨Nat.zero_le _, (List.append_nil _).symm⟩
    intro mM L σ hIn
    rw [hJ] at hIn
    obtain ⟨i, out, rest, y0, y1, y2, y5, y6, y8, y11, y17, y18, y19, y20, y58, rfl, hP, rfl, rfl⟩ := hIn
    obtain ⟨hi2, ho2⟩ := hP
    refine awp_sr ?_
    simp only [go_sem, R86_12, v86, p86]
    refine awp_seq ?_
    refine awp_if rfl ?_ ?_
    · intro h2
      have h2 : i < a.floors.length := by omega
      have hfit := hf2 _ (List.getElem_mem h2)
      have c1 := cat_take floorB h2
      have c2 := cat_le floorB a.floors (i + 1)
      have c3 := congrArg List.length c1
      have c4 := congrArg List.length ho2
      have c5 := floorB_len hfit
      rw [List.length_append] at c3 c4
      refine awp_skip ?_
      simp only [go_sem]
      refine awp_seq (awp_block ?_)
      refine awp_sr ?_
      simp only [go_sem, R86_13, v86, p86, rw_at _ h2, Floor.c]
      refine awp_draw0 mixed rfl (by rfl) ?_
      simp only [go_sem, R86_14, v86, p86]
      refine run_see (implPutI_fz hfit.1) false (Views.refl rfl) rfl (fun j hj => by first | omega | ((have hj0 : j = 0 := by omega); subst hj0; first | rfl | (simp only [Nat.add_zero, app_get, app_getk, sapp_get, sapp_getk, Nat.add_assoc, Nat.reduceAdd, List.getElem?_cons_zero, List.getElem?_cons_succ]; done) | simp)) (fun h => by cases h) ?_
      simp only [go_sem, v86, p86]
      refine run_see (implPutI_fz hfit.2) false (Views.refl rfl) rfl (fun j hj => by first | omega | ((have hj0 : j = 0 := by omega); subst hj0; first | rfl | (simp only [Nat.add_zero, app_get, app_getk, sapp_get, sapp_getk, Nat.add_assoc, Nat.reduceAdd, List.getElem?_cons_zero, List.getElem?_cons_succ]; done) | simp)) (fun h => by cases h) ?_
      simp only [go_sem, v86, p86, fz_fold, three_fold]
      have hfl : [out, putI a.floors[i].id, putI a.floors[i].inc].flatten = out ++ floorB a.floors[i] := by simp [floorB]
      have hj : [out, putI a.floors[i].id, putI a.floors[i].inc].flatten.length ≤ lim := by rw [hfl, List.length_append]; simp [lim]; omega
      refine run_new (joined_ok _ hj (by simp)) true (.cons (View.row (by simp) (by simp) rfl (brows_ok _)) (.nil)) (by first | rfl | (simp only [Nat.add_zero, app_get, app_getk, sapp_get, sapp_getk, Nat.add_assoc, Nat.reduceAdd, List.getElem?_cons_zero, List.getElem?_cons_succ]; done) | simp) (bytes_ok _) (by simp [V.ids]) (fun _ => ⟨rfl, bytes_flat _⟩) ?_
      simp only [go_sem, v86, p86]
      refine awp_freeze (o := rest.length + 3) (ob := ⟨1, rw_ byteC [out, putI a.floors[i].id, putI a.floors[i].inc].flatten⟩) (by simp) (bytes_ok _) ?_
      rw [hfl]
      have np : (0 : Nat) ≠ rest.length + 3 := by omega
      generalize hq : out ++ floorB a.floors[i] = out2
      simp only [go_sem, v86, p86, frz_ptr _ _ _ _ _ np]
      refine awp_reg ?_
      simp only [go_sem, R86_15, v86, p86, wrap_succ (i := i) (by omega)]
      refine ⟨a.floors.length - (i + 1), ?_, ?_⟩
      rotate_left
      rw [hJ]
      refine ⟨i + 1, _, _, _, _, _, _, _, _, _, _, _, _, _, _, rfl, ?_, rfl, rfl⟩
      · exact ⟨by omega, by rw [c1, ← hq, ho2, List.append_assoc]⟩
      · omega
    · intro h2
      refine awp_exit ?_
      simp only [go_sem]
      have : i = a.floors.length := by omega
      subst this
      rw [List.take_length] at ho2
      refine awp_sr ?_
      simp only [go_sem, R86_16, v86, p86]
      refine awp_ret ?_
      try simp only [go_sem]
      rw [hQ, show stateB a = out by rw [ho2, ← hq1, ho]; rfl]
      exact Ends.is (.inl rfl) rfl rfl rfl
end Go.Proofs.Ytffigokicddekaa.Abs
