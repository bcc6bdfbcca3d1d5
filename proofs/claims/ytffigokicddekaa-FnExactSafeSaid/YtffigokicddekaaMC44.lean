/- What a right message is, walked in both texts. No condition. -/
import Derived.Test.YtffigokicddekaaMC43
set_option linter.unusedVariables false
set_option linter.unusedSimpArgs false
set_option maxRecDepth 10000
namespace Go.Proofs.Ytffigokicddekaa.Abs
open Go Go.Proofs
def R152_0 : List AR := [⟨(some 6), none, 0, (.mov (.k (.bool false)))⟩]
def R152_1 : List AR := [⟨(some 8), none, 0, (.mov (.t 0))⟩, ⟨(some 9), none, 0, (.len (.t 8))⟩, ⟨(some 10), none, 0, (.mov (.t 1))⟩, ⟨(some 11), none, 0, (.bin .gtr (.t 9) (.t 10))⟩]
def R152_2 : List AR := [⟨(some 6), none, 0, (.mov (.k (.bool false)))⟩]
def R152_3 : List AR := [⟨(some 7), none, 0, (.mov (.k (.int .i64 0)))⟩]
def R152_4 : List AR := [⟨(some 12), none, 0, (.mov (.t 7))⟩, ⟨(some 13), none, 0, (.mov (.t 0))⟩, ⟨(some 14), none, 0, (.len (.t 13))⟩, ⟨(some 15), none, 0, (.bin .lss (.t 12) (.t 14))⟩]
def R152_5 : List AR := [⟨(some 18), none, 0, (.mov (.t 0))⟩, ⟨(some 19), none, 0, (.mov (.t 7))⟩, ⟨(some 20), none, 0, (.iaddr 1 (.t 18) (.t 19))⟩, ⟨(some 21), none, 0, (.load 1 false (.t 20))⟩, ⟨(some 22), none, 0, (.mov (.t 2))⟩, ⟨(some 23), none, 0, (.call false 0 0 101 [(.t 21), (.k (.int .i64 0)), (.t 22)])⟩, ⟨(some 24), none, 0, (.not (.t 23))⟩]
def R152_6 : List AR := [⟨(some 6), none, 0, (.mov (.k (.bool false)))⟩]
def R152_7 : List AR := [⟨(some 16), none, 0, (.mov (.t 7))⟩, ⟨(some 17), none, 0, (.bin .add (.t 16) (.k (.int .i64 1)))⟩, ⟨(some 7), none, 0, (.mov (.t 17))⟩]
def A152_0 : AC := (.seq (.block 1 (.seq (.reg 0 R152_5) (.cond (.t 24) (.seq (.reg 0 R152_6) .ret) .skip))) (.reg 0 R152_7))
def L152_0 : AC := (.seq (.seq (.reg 0 R152_4) (.cond (.t 15) .skip (.exit 0))) A152_0)
def R152_8 : List AR := [⟨(some 6), none, 0, (.mov (.k (.bool true)))⟩]
def A152_1 : AC := (.seq (.reg 0 R152_8) .ret)
def A152_2 : AC := (.seq (.seq (.reg 0 R152_3) (.block 0 (.loop L152_0))) A152_1)
def A152_3 : AC := (.seq (.seq (.reg 0 R152_1) (.cond (.t 11) (.seq (.reg 0 R152_2) .ret) .skip)) A152_2)
def A152 : AC := (.seq (.reg 0 R152_0) A152_3)
def O152 : List AO := [(.mov (.t 6))]
def G152 : Fns := ⟨fun f => false, fun f => 0, false⟩
noncomputable def X152 : Cx := ⟨Try.prog, G152, drawD, 25, [0, 1, 2, 6, 7, 11, 15, 24]⟩
theorem c152 : (Try.f152.body).bind (compC X152.P X152.Γ X152.D X152.nt) = some A152 := by kernel_rfl
theorem o152 : compRes X152.P Try.f152.results.toList = some O152 := by kernel_rfl
theorem v152 : X152.vs = [0, 1, 2, 6, 7, 11, 15, 24] := rfl
theorem p152 : X152.P = Try.prog := rfl
def R153_0 : List AR := [⟨(some 2), none, 0, (.mov (.k (.bool false)))⟩]
def R153_1 : List AR := [⟨(some 3), none, 0, (.mov (.k (.int .i64 0)))⟩]
def R153_2 : List AR := [⟨(some 4), none, 0, (.mov (.t 3))⟩, ⟨(some 5), none, 0, (.mov (.t 0))⟩, ⟨(some 6), none, 0, (.len (.t 5))⟩, ⟨(some 7), none, 0, (.bin .lss (.t 4) (.t 6))⟩]
def R153_3 : List AR := [⟨(some 10), none, 0, (.mov (.t 0))⟩, ⟨(some 11), none, 0, (.mov (.t 3))⟩, ⟨(some 12), none, 0, (.iaddr 2 (.t 10) (.t 11))⟩, ⟨(some 13), none, 0, (.faddr 0 (.t 12))⟩, ⟨(some 14), none, 0, (.load 1 false (.t 13))⟩, ⟨(some 15), none, 0, (.call false 0 0 98 [(.t 14)])⟩, ⟨(some 16), none, 0, (.not (.t 15))⟩, ⟨(some 17), none, 0, (.mov (.t 16))⟩, ⟨(some 18), (some (17, false)), 0, (.mov (.t 3))⟩, ⟨(some 19), (some (17, false)), 0, (.bin .gtr (.t 18) (.k (.int .i64 0)))⟩, ⟨(some 20), (some (17, false)), 0, (.mov (.t 19))⟩, ⟨(some 21), (some (20, true)), 0, (.mov (.t 0))⟩, ⟨(some 22), (some (20, true)), 0, (.mov (.t 3))⟩, ⟨(some 23), (some (20, true)), 0, (.iaddr 2 (.t 21) (.t 22))⟩, ⟨(some 24), (some (20, true)), 0, (.faddr 0 (.t 23))⟩, ⟨(some 25), (some (20, true)), 0, (.load 1 false (.t 24))⟩, ⟨(some 26), (some (20, true)), 0, (.mov (.t 0))⟩, ⟨(some 27), (some (20, true)), 0, (.mov (.t 3))⟩, ⟨(some 28), (some (20, true)), 0, (.bin .sub (.t 27) (.k (.int .i64 1)))⟩, ⟨(some 29), (some (20, true)), 0, (.iaddr 2 (.t 26) (.t 28))⟩, ⟨(some 30), (some (20, true)), 0, (.faddr 0 (.t 29))⟩, ⟨(some 31), (some (20, true)), 0, (.load 1 false (.t 30))⟩, ⟨(some 32), (some (20, true)), 0, (.bin .leq (.t 25) (.t 31))⟩, ⟨(some 33), (some (17, false)), 0, (.pick (.t 20) (.t 32) (.k (.bool false)))⟩, ⟨(some 34), none, 0, (.pick (.t 17) (.k (.bool true)) (.t 33))⟩, ⟨(some 35), none, 0, (.mov (.t 34))⟩, ⟨(some 36), (some (35, false)), 0, (.mov (.t 0))⟩, ⟨(some 37), (some (35, false)), 0, (.mov (.t 3))⟩, ⟨(some 38), (some (35, false)), 0, (.iaddr 2 (.t 36) (.t 37))⟩, ⟨(some 39), (some (35, false)), 0, (.faddr 1 (.t 38))⟩, ⟨(some 40), (some (35, false)), 0, (.load 1 false (.t 39))⟩, ⟨(some 41), (some (35, false)), 0, (.call false 0 0 101 [(.t 40), (.k (.int .i64 1)), (.k (.int .i64 1000))])⟩, ⟨(some 42), (some (35, false)), 0, (.not (.t 41))⟩, ⟨(some 43), none, 0, (.pick (.t 35) (.k (.bool true)) (.t 42))⟩]
def R153_4 : List AR := [⟨(some 2), none, 0, (.mov (.k (.bool false)))⟩]
def R153_5 : List AR := [⟨(some 8), none, 0, (.mov (.t 3))⟩, ⟨(some 9), none, 0, (.bin .add (.t 8) (.k (.int .i64 1)))⟩, ⟨(some 3), none, 0, (.mov (.t 9))⟩]
def A153_0 : AC := (.seq (.block 1 (.seq (.draw 0 R153_3) (.cond (.t 43) (.seq (.reg 0 R153_4) .ret) .skip))) (.reg 0 R153_5))
def L153_0 : AC := (.seq (.seq (.reg 0 R153_2) (.cond (.t 7) .skip (.exit 0))) A153_0)
def R153_6 : List AR := [⟨(some 2), none, 0, (.mov (.k (.bool true)))⟩]
def A153_1 : AC := (.seq (.reg 0 R153_6) .ret)
def A153_2 : AC := (.seq (.seq (.reg 0 R153_1) (.block 0 (.loop L153_0))) A153_1)
def A153 : AC := (.seq (.reg 0 R153_0) A153_2)
def O153 : List AO := [(.mov (.t 2))]
def G153 : Fns := ⟨fun f => false, fun f => 0, false⟩
noncomputable def X153 : Cx := ⟨Try.prog, G153, drawD, 44, [0, 2, 3, 7, 43]⟩
theorem c153 : (Try.f153.body).bind (compC X153.P X153.Γ X153.D X153.nt) = some A153 := by kernel_rfl
theorem o153 : compRes X153.P Try.f153.results.toList = some O153 := by kernel_rfl
theorem v153 : X153.vs = [0, 2, 3, 7, 43] := rfl
theorem p153 : X153.P = Try.prog := rfl
def R158_0 : List AR := [⟨(some 2), none, 0, (.mov (.k (.bool false)))⟩]
def R158_1 : List AR := [⟨(some 5), none, 0, (.mov (.t 0))⟩, ⟨(some 6), none, 0, (.len (.t 5))⟩, ⟨(some 7), none, 0, (.mov (.k (.int .i64 0)))⟩]
def R158_2 : List AR := [⟨(some 8), none, 0, (.bin .lss (.t 7) (.t 6))⟩]
def R158_3 : List AR := [⟨(some 9), none, 0, (.mov (.t 7))⟩, ⟨(some 10), none, 0, (.iaddr 2 (.t 5) (.t 7))⟩, ⟨(some 11), none, 0, (.load 2 true (.t 10))⟩, ⟨(some 4), none, 0, (.alloc 0 2 [(.int .i64 0), (.int .i64 0)])⟩, ⟨(some 3), none, 0, (.mov (.t 9))⟩, ⟨none, none, 0, (.store 2 (.t 4) (.t 11))⟩]
def R158_4 : List AR := [⟨(some 12), none, 0, (.faddr 0 (.t 4))⟩, ⟨(some 13), none, 0, (.load 1 false (.t 12))⟩, ⟨(some 14), none, 0, (.call false 0 0 104 [(.t 13)])⟩, ⟨(some 15), none, 0, (.not (.t 14))⟩, ⟨(some 16), none, 0, (.mov (.t 15))⟩, ⟨(some 17), (some (16, false)), 0, (.faddr 1 (.t 4))⟩, ⟨(some 18), (some (16, false)), 0, (.load 1 false (.t 17))⟩, ⟨(some 19), (some (16, false)), 0, (.call false 0 0 105 [(.t 18), (.k (.int .i64 1)), (.k (.int .i64 1000))])⟩, ⟨(some 20), (some (16, false)), 0, (.not (.t 19))⟩, ⟨(some 21), none, 0, (.pick (.t 16) (.k (.bool true)) (.t 20))⟩, ⟨(some 22), none, 0, (.mov (.t 21))⟩, ⟨(some 23), (some (22, false)), 0, (.mov (.t 3))⟩, ⟨(some 24), (some (22, false)), 0, (.bin .gtr (.t 23) (.k (.int .i64 0)))⟩, ⟨(some 25), (some (22, false)), 0, (.mov (.t 24))⟩, ⟨(some 26), (some (25, true)), 0, (.mov (.t 0))⟩, ⟨(some 27), (some (25, true)), 0, (.mov (.t 3))⟩, ⟨(some 28), (some (25, true)), 0, (.bin .sub (.t 27) (.k (.int .i64 1)))⟩, ⟨(some 29), (some (25, true)), 0, (.iaddr 2 (.t 26) (.t 28))⟩, ⟨(some 30), (some (25, true)), 0, (.faddr 0 (.t 29))⟩, ⟨(some 31), (some (25, true)), 0, (.load 1 false (.t 30))⟩, ⟨(some 32), (some (25, true)), 0, (.faddr 0 (.t 4))⟩, ⟨(some 33), (some (25, true)), 0, (.load 1 false (.t 32))⟩, ⟨(some 34), (some (25, true)), 0, (.bin .geq (.t 31) (.t 33))⟩, ⟨(some 35), (some (22, false)), 0, (.pick (.t 25) (.t 34) (.k (.bool false)))⟩, ⟨(some 36), none, 0, (.pick (.t 22) (.k (.bool true)) (.t 35))⟩]
def R158_5 : List AR := [⟨(some 2), none, 0, (.mov (.k (.bool false)))⟩]
def A158_0 : AC := (.seq (.draw 0 R158_4) (.cond (.t 36) (.seq (.reg 0 R158_5) .ret) .skip))
def R158_6 : List AR := [⟨(some 37), none, 0, (.bin .add (.t 7) (.k (.int .i64 1)))⟩, ⟨(some 7), none, 0, (.mov (.t 37))⟩]
def A158_1 : AC := (.seq (.block 1 (.seq (.reg 1 R158_3) A158_0)) (.reg 0 R158_6))
def A158_2 : AC := (.seq (.cond (.t 8) .skip (.exit 0)) A158_1)
def L158_0 : AC := (.seq (.reg 0 R158_2) A158_2)
def R158_7 : List AR := [⟨(some 2), none, 0, (.mov (.k (.bool true)))⟩]
def A158_3 : AC := (.seq (.reg 0 R158_7) .ret)
def A158_4 : AC := (.seq (.seq (.reg 0 R158_1) (.block 0 (.loop L158_0))) A158_3)
def A158 : AC := (.seq (.reg 0 R158_0) A158_4)
def O158 : List AO := [(.mov (.t 2))]
def G158 : Fns := ⟨fun f => false, fun f => 0, false⟩
noncomputable def X158 : Cx := ⟨Try.prog, G158, drawD, 38, [0, 2, 3, 4, 5, 6, 7, 8, 36]⟩
theorem c158 : (Try.f158.body).bind (compC X158.P X158.Γ X158.D X158.nt) = some A158 := by kernel_rfl
theorem o158 : compRes X158.P Try.f158.results.toList = some O158 := by kernel_rfl
theorem v158 : X158.vs = [0, 2, 3, 4, 5, 6, 7, 8, 36] := rfl
theorem p158 : X158.P = Try.prog := rfl
def R151_0 : List AR := [⟨(some 1), none, 0, (.box 0 2 (.t 0))⟩, ⟨(some 2), none, 0, (.mov (.k (.bool false)))⟩]
def R151_1 : List AR := [⟨(some 3), none, 0, (.faddr 0 (.t 1))⟩, ⟨(some 4), none, 0, (.load 1 false (.t 3))⟩, ⟨(some 5), none, 0, (.len (.t 4))⟩, ⟨(some 6), none, 0, (.bin .eql (.t 5) (.k (.int .i64 0)))⟩]
def R151_2 : List AR := [⟨(some 7), none, 0, (.faddr 1 (.t 1))⟩, ⟨(some 8), none, 0, (.load 1 false (.t 7))⟩, ⟨(some 9), none, 0, (.bin .eql (.t 8) (.k (.int .i64 0)))⟩, ⟨(some 2), none, 0, (.mov (.t 9))⟩]
def R151_3 : List AR := [⟨(some 10), none, 0, (.faddr 0 (.t 1))⟩, ⟨(some 11), none, 0, (.load 1 false (.t 10))⟩, ⟨(some 12), none, 0, (.len (.t 11))⟩, ⟨(some 13), none, 0, (.bin .eql (.t 12) (.k (.int .i64 4)))⟩, ⟨(some 14), none, 0, (.mov (.t 13))⟩, ⟨(some 15), (some (14, true)), 0, (.faddr 0 (.t 1))⟩, ⟨(some 16), (some (14, true)), 0, (.load 1 false (.t 15))⟩, ⟨(some 17), (some (14, true)), 0, (.call false 0 0 152 [(.t 16), (.k (.int .i64 4)), (.k (.int .i64 1023))])⟩, ⟨(some 18), none, 0, (.pick (.t 14) (.t 17) (.k (.bool false)))⟩, ⟨(some 19), none, 0, (.mov (.t 18))⟩, ⟨(some 20), (some (19, true)), 0, (.faddr 1 (.t 1))⟩, ⟨(some 21), (some (19, true)), 0, (.load 1 false (.t 20))⟩, ⟨(some 22), (some (19, true)), 0, (.call false 0 0 101 [(.t 21), (.k (.int .i64 0)), (.k (.int .i64 1023))])⟩, ⟨(some 23), none, 0, (.pick (.t 19) (.t 22) (.k (.bool false)))⟩, ⟨(some 2), none, 0, (.mov (.t 23))⟩]
def A151_0 : AC := (.seq (.reg 0 R151_3) .ret)
def A151_1 : AC := (.seq (.seq (.reg 0 R151_1) (.cond (.t 6) (.seq (.reg 0 R151_2) .ret) .skip)) A151_0)
def A151 : AC := (.seq (.reg 1 R151_0) A151_1)
def O151 : List AO := [(.mov (.t 2))]
def G151 : Fns := ⟨fun f => false, fun f => 0, false⟩
noncomputable def X151 : Cx := ⟨Try.prog, G151, drawD, 24, [0, 1, 2, 6]⟩
theorem c151 : (Try.f151.body).bind (compC X151.P X151.Γ X151.D X151.nt) = some A151 := by kernel_rfl
theorem o151 : compRes X151.P Try.f151.results.toList = some O151 := by kernel_rfl
theorem v151 : X151.vs = [0, 1, 2, 6] := rfl
theorem p151 : X151.P = Try.prog := rfl
def R157_0 : List AR := [⟨(some 1), none, 0, (.box 0 2 (.t 0))⟩, ⟨(some 2), none, 0, (.mov (.k (.bool false)))⟩]
def R157_1 : List AR := [⟨(some 5), none, 0, (.faddr 0 (.t 1))⟩, ⟨(some 6), none, 0, (.load 1 false (.t 5))⟩, ⟨(some 7), none, 0, (.len (.t 6))⟩, ⟨(some 8), none, 0, (.bin .eql (.t 7) (.k (.int .i64 0)))⟩]
def R157_2 : List AR := [⟨(some 9), none, 0, (.faddr 1 (.t 1))⟩, ⟨(some 10), none, 0, (.load 1 false (.t 9))⟩, ⟨(some 11), none, 0, (.bin .eql (.t 10) (.k (.int .i64 0)))⟩, ⟨(some 2), none, 0, (.mov (.t 11))⟩]
def R157_3 : List AR := [⟨(some 12), none, 0, (.faddr 0 (.t 1))⟩, ⟨(some 13), none, 0, (.load 1 false (.t 12))⟩, ⟨(some 14), none, 0, (.len (.t 13))⟩, ⟨(some 15), none, 0, (.mov (.k (.int .i64 0)))⟩]
def R157_4 : List AR := [⟨(some 16), none, 0, (.bin .lss (.t 15) (.t 14))⟩]
def R157_5 : List AR := [⟨(some 17), none, 0, (.iaddr 1 (.t 13) (.t 15))⟩, ⟨(some 18), none, 0, (.load 1 false (.t 17))⟩, ⟨(some 4), none, 0, (.mov (.t 18))⟩]
def R157_6 : List AR := [⟨(some 19), none, 0, (.mov (.t 4))⟩, ⟨(some 20), none, 0, (.call false 0 0 105 [(.t 19), (.k (.int .i64 0)), (.k (.int .i64 1023))])⟩, ⟨(some 21), none, 0, (.not (.t 20))⟩]
def R157_7 : List AR := [⟨(some 2), none, 0, (.mov (.k (.bool false)))⟩]
def A157_0 : AC := (.seq (.reg 0 R157_6) (.cond (.t 21) (.seq (.reg 0 R157_7) .ret) .skip))
def R157_8 : List AR := [⟨(some 22), none, 0, (.bin .add (.t 15) (.k (.int .i64 1)))⟩, ⟨(some 15), none, 0, (.mov (.t 22))⟩]
def A157_1 : AC := (.seq (.block 1 (.seq (.reg 0 R157_5) A157_0)) (.reg 0 R157_8))
def A157_2 : AC := (.seq (.cond (.t 16) .skip (.exit 0)) A157_1)
def L157_0 : AC := (.seq (.reg 0 R157_4) A157_2)
def R157_9 : List AR := [⟨(some 23), none, 0, (.faddr 0 (.t 1))⟩, ⟨(some 24), none, 0, (.load 1 false (.t 23))⟩, ⟨(some 25), none, 0, (.len (.t 24))⟩, ⟨(some 26), none, 0, (.bin .eql (.t 25) (.k (.int .i64 4)))⟩, ⟨(some 27), none, 0, (.mov (.t 26))⟩, ⟨(some 28), (some (27, true)), 0, (.faddr 1 (.t 1))⟩, ⟨(some 29), (some (27, true)), 0, (.load 1 false (.t 28))⟩, ⟨(some 30), (some (27, true)), 0, (.call false 0 0 105 [(.t 29), (.k (.int .i64 0)), (.k (.int .i64 1023))])⟩, ⟨(some 31), none, 0, (.pick (.t 27) (.t 30) (.k (.bool false)))⟩, ⟨(some 2), none, 0, (.mov (.t 31))⟩]
def A157_3 : AC := (.seq (.reg 0 R157_9) .ret)
def A157_4 : AC := (.seq (.seq (.reg 0 R157_3) (.block 0 (.loop L157_0))) A157_3)
def A157_5 : AC := (.seq (.seq (.reg 0 R157_1) (.cond (.t 8) (.seq (.reg 0 R157_2) .ret) .skip)) A157_4)
def A157 : AC := (.seq (.reg 1 R157_0) A157_5)
def O157 : List AO := [(.mov (.t 2))]
def G157 : Fns := ⟨fun f => false, fun f => 0, false⟩
noncomputable def X157 : Cx := ⟨Try.prog, G157, drawD, 32, [0, 1, 2, 4, 8, 13, 14, 15, 16, 21]⟩
theorem c157 : (Try.f157.body).bind (compC X157.P X157.Γ X157.D X157.nt) = some A157 := by kernel_rfl
theorem o157 : compRes X157.P Try.f157.results.toList = some O157 := by kernel_rfl
theorem v157 : X157.vs = [0, 1, 2, 4, 8, 13, 14, 15, 16, 21] := rfl
theorem p157 : X157.P = Try.prog := rfl
def inTop (top : Int) (j : Nat) (x : Int) : Prop := 0 ≤ x ∧ x ≤ top
instance (top : Int) (j : Nat) (x : Int) : Decidable (inTop top j x) := by unfold inTop; exact inferInstance
def numsR (xs : List Int) (most top : Int) : Prop := (xs.length : Int) ≤ most ∧ ∀ j x, xs[j]? = some x → inTop top j x
noncomputable instance (xs : List Int) (most top : Int) : Decidable (numsR xs most top) := Classical.propDecidable _
theorem int_at (n : Int) : intC n = [V.int .i64 n] := rfl
theorem specL10Nums_ok (xs : List Int) (most top : Int) (h : xs.length ≤ 1048576) : FS Try.prog 152 [] [.fz 1 (rw_ intC xs), .int .i64 most, .int .i64 top] (.bool (decide (numsR xs most top))) [] := by
  refine FS.of (X := X152) (ac := A152) (os := O152) Try.func152 (by rfl) (by rfl) (by kernel_rfl) o152 (Nat.le_of_ble_eq_true rfl) ?_
  show AWP X152 A152 (Ends X152.vs O152 0 _ _) [.fz 1 (rw_ intC xs), .int .i64 most, .int .i64 top, .tup [], .tup [], .tup [], .tup [], .tup []] []
  obtain ⟨Q, hQ⟩ : ∃ Q, Q = Ends X152.vs O152 0 (.bool (decide (numsR xs most top))) [] := ⟨_, rfl⟩
  rw [← hQ]
  have fin : ∀ L σ v, resVs O152 (look X152.vs L) σ = some [v] → v = (.bool (decide (numsR xs most top))) → Q .ret L σ := by
    intro L σ v h1 h2
    rw [hQ]
    exact Ends.is (.inl rfl) h1 (by simp only [packV, h2]) rfl
  refine awp_sr ?_
  simp only [go_sem, R152_0, v152, p152]
  refine awp_sr2 ?_
  simp only [go_sem, R152_1, v152, p152]
  refine awp_if rfl ?_ ?_
  · intro h1
    refine awp_sr ?_
    simp only [go_sem, R152_2, v152, p152]
    refine awp_ret ?_
    try simp only [go_sem]
    exact fin _ _ (.bool false) rfl (congrArg V.bool (decide_eq_false fun e => by have := e.1; omega)).symm
  intro h1
  refine awp_skip ?_
  simp only [go_sem]
  refine awp_sr2 ?_
  simp only [go_sem, R152_3, v152, p152]
  obtain ⟨I, hI⟩ : ∃ I : Nat → List V → Store → Prop, I = fun mM L σ => ∃ i rest y1 y6 y11 y15 y24, mM = xs.length - i ∧ i ≤ xs.length ∧ (∀ j x, j < i → xs[j]? = some x → inTop top j x) ∧ L = [.fz 1 (rw_ intC xs), y1, .int .i64 top, y6, .int .i64 (i : Nat), y11, y15, y24] ∧ σ = rest := ⟨_, rfl⟩
  first | refine awp_for I xs.length ?_ ?_ | refine awp_seq (awp_for I xs.length ?_ ?_)
  · rw [hI]; refine ⟨0, _, _, _, _, _, _, rfl, Nat.zero_le _, ?_, rfl, rfl⟩
    intro j x h; omega
  intro mM L σ hIn
  rw [hI] at hIn
  obtain ⟨i, rest, y1, y6, y11, y15, y24, rfl, hi, hP, rfl, rfl⟩ := hIn
  refine awp_sr2 ?_
  simp only [go_sem, R152_4, v152, p152]
  refine awp_if rfl ?_ ?_
  · intro h2
    have h2 : i < xs.length := by omega
    refine awp_skip ?_
    simp only [go_sem]
    refine awp_seq (awp_block ?_)
    refine awp_sr ?_
    simp only [go_sem, R152_5, v152, p152, rw_at _ h2, intC]
    refine run_see (l1In_ok _ _ _) false (Views.refl rfl) rfl (fun j hj => by first | omega | ((have hj0 : j = 0 := by omega); subst hj0; first | rfl | (simp only [Nat.add_zero, app_get, app_getk, sapp_get, sapp_getk, Nat.add_assoc, Nat.reduceAdd, List.getElem?_cons_zero, List.getElem?_cons_succ]; done) | simp)) (fun h => by cases h) ?_
    simp only [go_sem, v152, p152]
    refine awp_if' rfl ?_ ?_
    · intro h3
      refine awp_sr ?_
      simp only [go_sem, R152_6, v152, p152]
      refine awp_ret ?_
      try simp only [go_sem]
      exact fin _ _ (.bool false) rfl (congrArg V.bool (decide_eq_false fun e => h3 (e.2 i _ (List.getElem?_eq_getElem h2)))).symm
    · intro h3
      refine awp_skip ?_
      simp only [go_sem]
      refine awp_reg ?_
      simp only [go_sem, R152_7, v152, p152, wrap_succ (i := i) (by omega)]
      refine ⟨xs.length - (i + 1), by omega, ?_⟩
      rw [hI]
      refine ⟨i + 1, _, _, _, _, _, _, rfl, by omega, ?_, rfl, rfl⟩
      exact upto_succ hP h2 h3
  · intro h2
    refine awp_exit ?_
    simp only [go_sem]
    refine awp_sr ?_
    simp only [go_sem, R152_8, v152, p152]
    refine awp_ret ?_
    try simp only [go_sem]
    exact fin _ _ (.bool true) rfl (congrArg V.bool (decide_eq_true (show numsR xs most top from ⟨by omega, upto_all hP (by omega)⟩)).symm)
def markR (ms : List Mark) (i : Nat) (x : Mark) : Prop := (0 ≤ x.id ∧ x.id ≤ 4) ∧ (∀ y, 0 < i → ms[i - 1]? = some y → y.id < x.id) ∧ (1 ≤ x.inc ∧ x.inc ≤ 1000)
def marksR (ms : List Mark) : Prop := ∀ i x, ms[i]? = some x → markR ms i x
noncomputable instance (ms : List Mark) : Decidable (marksR ms) := Classical.propDecidable _
noncomputable instance (ms : List Mark) (i : Nat) (x : Mark) : Decidable (markR ms i x) := Classical.propDecidable _
theorem markR_iff (ms : List Mark) {i : Nat} (h1 : i < ms.length) (h3 : i - 1 < ms.length) : markR ms i ms[i] ↔ (0 ≤ ms[i].id ∧ ms[i].id ≤ 4) ∧ (0 < i → ms[i - 1].id < ms[i].id) ∧ (1 ≤ ms[i].inc ∧ ms[i].inc ≤ 1000) := by
  unfold markR
  simp only [List.getElem?_eq_getElem h3, Option.some.injEq]
  grind
theorem specMarksOk_ok (ms : List Mark) (h : ms.length ≤ 1048576) : FS Try.prog 153 [] [.fz 2 (rw_ Mark.c ms)] (.bool (decide (marksR ms))) [] := by
  refine FS.of (X := X153) (ac := A153) (os := O153) Try.func153 (by rfl) (by rfl) (by kernel_rfl) o153 (Nat.le_of_ble_eq_true rfl) ?_
  show AWP X153 A153 (Ends X153.vs O153 0 _ _) [.fz 2 (rw_ Mark.c ms), .tup [], .tup [], .tup [], .tup []] []
  obtain ⟨Q, hQ⟩ : ∃ Q, Q = Ends X153.vs O153 0 (.bool (decide (marksR ms))) [] := ⟨_, rfl⟩
  rw [← hQ]
  have fin : ∀ L σ v, resVs O153 (look X153.vs L) σ = some [v] → v = (.bool (decide (marksR ms))) → Q .ret L σ := by
    intro L σ v h1 h2
    rw [hQ]
    exact Ends.is (.inl rfl) h1 (by simp only [packV, h2]) rfl
  refine awp_sr ?_
  simp only [go_sem, R153_0, v153, p153]
  refine awp_sr2 ?_
  simp only [go_sem, R153_1, v153, p153]
  obtain ⟨I, hI⟩ : ∃ I : Nat → List V → Store → Prop, I = fun mM L σ => ∃ i rest y2 y7 y43, mM = ms.length - i ∧ i ≤ ms.length ∧ (∀ j x, j < i → ms[j]? = some x → markR ms j x) ∧ L = [.fz 2 (rw_ Mark.c ms), y2, .int .i64 (i : Nat), y7, y43] ∧ σ = rest := ⟨_, rfl⟩
  first | refine awp_for I ms.length ?_ ?_ | refine awp_seq (awp_for I ms.length ?_ ?_)
  · rw [hI]; refine ⟨0, _, _, _, _, rfl, Nat.zero_le _, ?_, rfl, rfl⟩
    intro j x h; omega
  intro mM L σ hIn
  rw [hI] at hIn
  obtain ⟨i, rest, y2, y7, y43, rfl, hi, hP, rfl, rfl⟩ := hIn
  refine awp_sr2 ?_
  simp only [go_sem, R153_2, v153, p153]
  refine awp_if rfl ?_ ?_
  · intro h1
    have h1 : i < ms.length := by omega
    have h3 : i - 1 < ms.length := by omega
    refine awp_skip ?_
    simp only [go_sem]
    refine awp_seq (awp_block ?_)
    obtain ⟨K1, hK1⟩ : ∃ K : List V → Store → Prop, K = fun L σ => ∃ q rest y2 y7, L = [.fz 2 (rw_ Mark.c ms), y2, .int .i64 (i : Nat), y7, .bool q] ∧ σ = rest ∧ q = !decide (markR ms i ms[i]) := ⟨_, rfl⟩
    refine awp_sdK (K1) mixed rfl (by rfl) ?_ ?_
    · simp only [go_sem, R153_3, v153, p153, rw_at _ h1, Mark.c]
      repeat' first
        | (refine selP_if rfl (fun hG => ?_) (fun hG => ?_) <;> first | simp only [go_sem, v153, p153, eq_false hG, Mark.c, rw_at _ h1, rw_at _ h3, wrap_pred, show i < 9223372036854775807 by omega] | simp only [go_sem, v153, p153, eq_true hG, Mark.c, rw_at _ h1, rw_at _ h3, wrap_pred, show i < 9223372036854775807 by omega])
        | (refine selP_ifn rfl (fun hG => ?_) (fun hG => ?_) <;> first | simp only [go_sem, v153, p153, eq_false hG, Mark.c, rw_at _ h1, rw_at _ h3, wrap_pred, show i < 9223372036854775807 by omega] | simp only [go_sem, v153, p153, eq_true hG, Mark.c, rw_at _ h1, rw_at _ h3, wrap_pred, show i < 9223372036854775807 by omega])
        | (refine selN_if rfl (fun hG => ?_) (fun hG => ?_) <;> first | simp only [go_sem, v153, p153, eq_false hG, Mark.c, rw_at _ h1, rw_at _ h3, wrap_pred, show i < 9223372036854775807 by omega] | simp only [go_sem, v153, p153, eq_true hG, Mark.c, rw_at _ h1, rw_at _ h3, wrap_pred, show i < 9223372036854775807 by omega])
        | (refine selN_ifn rfl (fun hG => ?_) (fun hG => ?_) <;> first | simp only [go_sem, v153, p153, eq_false hG, Mark.c, rw_at _ h1, rw_at _ h3, wrap_pred, show i < 9223372036854775807 by omega] | simp only [go_sem, v153, p153, eq_true hG, Mark.c, rw_at _ h1, rw_at _ h3, wrap_pred, show i < 9223372036854775807 by omega])
        | (refine selB_if rfl (fun hG => ?_) (fun hG => ?_) <;> simp only [go_sem, v153, p153, hG, Mark.c, rw_at _ h1, rw_at _ h3, wrap_pred, show i < 9223372036854775807 by omega])
        | (refine selB_ifn rfl (fun hG => ?_) (fun hG => ?_) <;> simp only [go_sem, v153, p153, hG, Mark.c, rw_at _ h1, rw_at _ h3, wrap_pred, show i < 9223372036854775807 by omega])
        | (refine run_see (l3Node_ok _) false (Views.refl rfl) rfl (fun j hj => by omega) (fun h => by cases h) ?_; simp only [go_sem, v153, p153, Mark.c, rw_at _ h1, rw_at _ h3, wrap_pred, show i < 9223372036854775807 by omega])
        | (refine run_see (l1In_ok _ _ _) false (Views.refl rfl) rfl (fun j hj => by omega) (fun h => by cases h) ?_; simp only [go_sem, v153, p153, Mark.c, rw_at _ h1, rw_at _ h3, wrap_pred, show i < 9223372036854775807 by omega])
      all_goals rw [hK1]
      all_goals refine ⟨_, _, _, _, rfl, rfl, ?_⟩
      all_goals have key := markR_iff ms h1 h3
      all_goals grind
    intro L σ hq
    rw [hK1] at hq
    obtain ⟨q, rest, y2, y7, rfl, rfl, hq⟩ := hq
    subst hq
    refine awp_if' rfl ?_ ?_
    · intro h2
      refine awp_sr ?_
      simp only [go_sem, R153_4, v153, p153]
      refine awp_ret ?_
      try simp only [go_sem]
      exact fin _ _ (.bool false) rfl (congrArg V.bool (decide_eq_false fun e => h2 (e i _ (List.getElem?_eq_getElem h1)))).symm
    · intro h2
      refine awp_skip ?_
      simp only [go_sem]
      refine awp_reg ?_
      simp only [go_sem, R153_5, v153, p153, wrap_succ (i := i) (by omega)]
      refine ⟨ms.length - (i + 1), by omega, ?_⟩
      rw [hI]
      refine ⟨i + 1, _, _, _, _, rfl, by omega, ?_, rfl, rfl⟩
      exact upto_succ hP h1 h2
  · intro h1
    refine awp_exit ?_
    simp only [go_sem]
    refine awp_sr ?_
    simp only [go_sem, R153_6, v153, p153]
    refine awp_ret ?_
    try simp only [go_sem]
    exact fin _ _ (.bool true) rfl (congrArg V.bool (decide_eq_true (show marksR ms from upto_all hP (by omega))).symm)
theorem implMarksOk_ok (ms : List Mark) (h : ms.length ≤ 1048576) : FS Try.prog 158 [] [.fz 2 (rw_ Mark.c ms)] (.bool (decide (marksR ms))) [] := by
  refine FS.of (X := X158) (ac := A158) (os := O158) Try.func158 (by rfl) (by rfl) (by kernel_rfl) o158 (Nat.le_of_ble_eq_true rfl) ?_
  show AWP X158 A158 (Ends X158.vs O158 0 _ _) [.fz 2 (rw_ Mark.c ms), .tup [], .tup [], .tup [], .tup [], .tup [], .tup [], .tup [], .tup []] []
  obtain ⟨Q, hQ⟩ : ∃ Q, Q = Ends X158.vs O158 0 (.bool (decide (marksR ms))) [] := ⟨_, rfl⟩
  rw [← hQ]
  have fin : ∀ L σ v, resVs O158 (look X158.vs L) σ = some [v] → v = (.bool (decide (marksR ms))) → Q .ret L σ := by
    intro L σ v h1 h2
    rw [hQ]
    exact Ends.is (.inl rfl) h1 (by simp only [packV, h2]) rfl
  refine awp_sr ?_
  simp only [go_sem, R158_0, v158, p158]
  refine awp_sr2 ?_
  simp only [go_sem, R158_1, v158, p158]
  obtain ⟨I, hI⟩ : ∃ I : Nat → List V → Store → Prop, I = fun mM L σ => ∃ i rest y2 y3 y4 y8 y36, mM = ms.length - i ∧ i ≤ ms.length ∧ (∀ j x, j < i → ms[j]? = some x → markR ms j x) ∧ L = [.fz 2 (rw_ Mark.c ms), y2, y3, y4, .fz 2 (rw_ Mark.c ms), .int .i64 (ms.length : Nat), .int .i64 (i : Nat), y8, y36] ∧ σ = rest := ⟨_, rfl⟩
  first | refine awp_for I ms.length ?_ ?_ | refine awp_seq (awp_for I ms.length ?_ ?_)
  · rw [hI]; refine ⟨0, _, _, _, _, _, _, rfl, Nat.zero_le _, ?_, rfl, rfl⟩
    intro j x h; omega
  intro mM L σ hIn
  rw [hI] at hIn
  obtain ⟨i, rest, y2, y3, y4, y8, y36, rfl, hi, hP, rfl, rfl⟩ := hIn
  refine awp_sr ?_
  simp only [go_sem, R158_2, v158, p158]
  refine awp_seq ?_
  refine awp_if rfl ?_ ?_
  · intro h1
    have h1 : i < ms.length := by omega
    have h3 : i - 1 < ms.length := by omega
    refine awp_skip ?_
    simp only [go_sem]
    refine awp_seq (awp_block ?_)
    refine awp_sr ?_
    simp only [go_sem, R158_3, v158, p158, rw_at _ h1, Mark.c]
    obtain ⟨K2, hK2⟩ : ∃ K : List V → Store → Prop, K = fun L σ => ∃ q rest y2 y3 y4 y8, L = [.fz 2 (rw_ Mark.c ms), y2, y3, y4, .fz 2 (rw_ Mark.c ms), .int .i64 (ms.length : Nat), .int .i64 (i : Nat), y8, .bool q] ∧ σ = rest ∧ q = !decide (markR ms i ms[i]) := ⟨_, rfl⟩
    refine awp_sdK (K2) mixed rfl (by rfl) ?_ ?_
    · simp only [go_sem, R158_4, v158, p158, rw_at _ h1, Mark.c]
      repeat' first
        | (refine selP_if rfl (fun hG => ?_) (fun hG => ?_) <;> first | simp only [go_sem, v158, p158, eq_false hG, Mark.c, rw_at _ h1, rw_at _ h3, wrap_pred, show i < 9223372036854775807 by omega] | simp only [go_sem, v158, p158, eq_true hG, Mark.c, rw_at _ h1, rw_at _ h3, wrap_pred, show i < 9223372036854775807 by omega])
        | (refine selP_ifn rfl (fun hG => ?_) (fun hG => ?_) <;> first | simp only [go_sem, v158, p158, eq_false hG, Mark.c, rw_at _ h1, rw_at _ h3, wrap_pred, show i < 9223372036854775807 by omega] | simp only [go_sem, v158, p158, eq_true hG, Mark.c, rw_at _ h1, rw_at _ h3, wrap_pred, show i < 9223372036854775807 by omega])
        | (refine selN_if rfl (fun hG => ?_) (fun hG => ?_) <;> first | simp only [go_sem, v158, p158, eq_false hG, Mark.c, rw_at _ h1, rw_at _ h3, wrap_pred, show i < 9223372036854775807 by omega] | simp only [go_sem, v158, p158, eq_true hG, Mark.c, rw_at _ h1, rw_at _ h3, wrap_pred, show i < 9223372036854775807 by omega])
        | (refine selN_ifn rfl (fun hG => ?_) (fun hG => ?_) <;> first | simp only [go_sem, v158, p158, eq_false hG, Mark.c, rw_at _ h1, rw_at _ h3, wrap_pred, show i < 9223372036854775807 by omega] | simp only [go_sem, v158, p158, eq_true hG, Mark.c, rw_at _ h1, rw_at _ h3, wrap_pred, show i < 9223372036854775807 by omega])
        | (refine selB_if rfl (fun hG => ?_) (fun hG => ?_) <;> simp only [go_sem, v158, p158, hG, Mark.c, rw_at _ h1, rw_at _ h3, wrap_pred, show i < 9223372036854775807 by omega])
        | (refine selB_ifn rfl (fun hG => ?_) (fun hG => ?_) <;> simp only [go_sem, v158, p158, hG, Mark.c, rw_at _ h1, rw_at _ h3, wrap_pred, show i < 9223372036854775807 by omega])
        | (refine run_see (isNode_ok _) false (Views.refl rfl) rfl (fun j hj => by omega) (fun h => by cases h) ?_; simp only [go_sem, v158, p158, Mark.c, rw_at _ h1, rw_at _ h3, wrap_pred, show i < 9223372036854775807 by omega])
        | (refine run_see (within_ok _ _ _) false (Views.refl rfl) rfl (fun j hj => by omega) (fun h => by cases h) ?_; simp only [go_sem, v158, p158, Mark.c, rw_at _ h1, rw_at _ h3, wrap_pred, show i < 9223372036854775807 by omega])
      all_goals rw [hK2]
      all_goals refine ⟨_, _, _, _, _, _, rfl, rfl, ?_⟩
      all_goals have key := markR_iff ms h1 h3
      all_goals grind
    intro L σ hq
    rw [hK2] at hq
    obtain ⟨q, rest, y2, y3, y4, y8, rfl, rfl, hq⟩ := hq
    subst hq
    refine awp_if' rfl ?_ ?_
    · intro h2
      refine awp_sr ?_
      simp only [go_sem, R158_5, v158, p158]
      refine awp_ret ?_
      try simp only [go_sem]
      exact fin _ _ (.bool false) rfl (congrArg V.bool (decide_eq_false fun e => h2 (e i _ (List.getElem?_eq_getElem h1)))).symm
    · intro h2
      refine awp_skip ?_
      simp only [go_sem]
      refine awp_reg ?_
      simp only [go_sem, R158_6, v158, p158, wrap_succ (i := i) (by omega)]
      refine ⟨ms.length - (i + 1), by omega, ?_⟩
      rw [hI]
      refine ⟨i + 1, _, _, _, _, _, _, rfl, by omega, ?_, rfl, rfl⟩
      exact upto_succ hP h1 h2
  · intro h1
    refine awp_exit ?_
    simp only [go_sem]
    refine awp_sr ?_
    simp only [go_sem, R158_7, v158, p158]
    refine awp_ret ?_
    try simp only [go_sem]
    exact fin _ _ (.bool true) rfl (congrArg V.bool (decide_eq_true (show marksR ms from upto_all hP (by omega))).symm)
/-- a right tree -/
def Tree.Right (t : Tree) : Prop := (t.leaves.length = 0 → t.root = 0) ∧ (t.leaves.length ≠ 0 → t.leaves.length = 4 ∧ (∀ j x, t.leaves[j]? = some x → inTop 1023 j x) ∧ 0 ≤ t.root ∧ t.root ≤ 1023)
noncomputable instance (t : Tree) : Decidable t.Right := Classical.propDecidable _
theorem specL10Tree_ok (t : Tree) (h : t.leaves.length ≤ 1048576) : FS Try.prog 151 [] [.agg t.c] (.bool (decide t.Right)) [] := by
  refine FS.of (X := X151) (ac := A151) (os := O151) Try.func151 (by rfl) (by rfl) (by kernel_rfl) o151 (Nat.le_of_ble_eq_true rfl) ?_
  show AWP X151 A151 (Ends X151.vs O151 0 _ _) [.agg t.c, .tup [], .tup [], .tup []] []
  obtain ⟨Q, hQ⟩ : ∃ Q, Q = Ends X151.vs O151 0 (.bool (decide t.Right)) [] := ⟨_, rfl⟩
  rw [← hQ]
  have fin : ∀ L σ v, resVs O151 (look X151.vs L) σ = some [v] → v = (.bool (decide t.Right)) → Q .ret L σ := by
    intro L σ v h1 h2
    rw [hQ]
    exact Ends.is (.inl rfl) h1 (by simp only [packV, h2]) rfl
  refine awp_sr ?_
  simp only [go_sem, R151_0, v151, p151, Tree.c]
  refine awp_sr2 ?_
  simp only [go_sem, R151_1, v151, p151]
  refine awp_if rfl ?_ ?_
  · intro h1
    refine awp_sr ?_
    simp only [go_sem, R151_2, v151, p151]
    refine awp_ret ?_
    try simp only [go_sem]
    refine fin _ _ _ rfl (congrArg V.bool ?_)
    grind [Tree.Right]
  intro h1
  refine awp_skip ?_
  simp only [go_sem]
  obtain ⟨K3, hK3⟩ : ∃ K : List V → Store → Prop, K = fun L σ => ∃ q y0 y1 y6, L = [y0, y1, .bool q, y6] ∧ σ = [.live ⟨2, [t.c]⟩] ∧ q = decide t.Right := ⟨_, rfl⟩
  refine awp_srK (K3) ?_ ?_
  · simp only [go_sem, R151_3, v151, p151, Tree.c]
    repeat' first
      | (refine selP_if rfl (fun hG => ?_) (fun hG => ?_) <;> first | simp only [go_sem, v151, p151, eq_false hG, Tree.c] | simp only [go_sem, v151, p151, eq_true hG, Tree.c])
      | (refine selP_ifn rfl (fun hG => ?_) (fun hG => ?_) <;> first | simp only [go_sem, v151, p151, eq_false hG, Tree.c] | simp only [go_sem, v151, p151, eq_true hG, Tree.c])
      | (refine selN_if rfl (fun hG => ?_) (fun hG => ?_) <;> first | simp only [go_sem, v151, p151, eq_false hG, Tree.c] | simp only [go_sem, v151, p151, eq_true hG, Tree.c])
      | (refine selN_ifn rfl (fun hG => ?_) (fun hG => ?_) <;> first | simp only [go_sem, v151, p151, eq_false hG, Tree.c] | simp only [go_sem, v151, p151, eq_true hG, Tree.c])
      | (refine selB_if rfl (fun hG => ?_) (fun hG => ?_) <;> simp only [go_sem, v151, p151, hG, Tree.c])
      | (refine selB_ifn rfl (fun hG => ?_) (fun hG => ?_) <;> simp only [go_sem, v151, p151, hG, Tree.c])
      | (refine run_see (specL10Nums_ok t.leaves _ _ h) false (Views.refl rfl) rfl (fun j hj => by omega) (fun h => by cases h) ?_; simp only [go_sem, v151, p151, Tree.c])
      | (refine run_see (l1In_ok _ _ _) false (Views.refl rfl) rfl (fun j hj => by omega) (fun h => by cases h) ?_; simp only [go_sem, v151, p151, Tree.c])
    all_goals rw [hK3]
    all_goals refine ⟨_, _, _, _, rfl, rfl, ?_⟩
    all_goals grind [Tree.Right, numsR]
  intro L σ hq
  rw [hK3] at hq
  obtain ⟨q, y0, y1, y6, rfl, rfl, hq⟩ := hq
  subst hq
  refine awp_ret ?_
  try simp only [go_sem]
  exact fin _ _ _ rfl rfl
theorem implTreeOk_ok (t : Tree) (h : t.leaves.length ≤ 1048576) : FS Try.prog 157 [] [.agg t.c] (.bool (decide t.Right)) [] := by
  refine FS.of (X := X157) (ac := A157) (os := O157) Try.func157 (by rfl) (by rfl) (by kernel_rfl) o157 (Nat.le_of_ble_eq_true rfl) ?_
  show AWP X157 A157 (Ends X157.vs O157 0 _ _) [.agg t.c, .tup [], .tup [], .tup [], .tup [], .tup [], .tup [], .tup [], .tup [], .tup []] []
  obtain ⟨Q, hQ⟩ : ∃ Q, Q = Ends X157.vs O157 0 (.bool (decide t.Right)) [] := ⟨_, rfl⟩
  rw [← hQ]
  have fin : ∀ L σ v, resVs O157 (look X157.vs L) σ = some [v] → v = (.bool (decide t.Right)) → Q .ret L σ := by
    intro L σ v h1 h2
    rw [hQ]
    exact Ends.is (.inl rfl) h1 (by simp only [packV, h2]) rfl
  refine awp_sr ?_
  simp only [go_sem, R157_0, v157, p157, Tree.c]
  refine awp_sr2 ?_
  simp only [go_sem, R157_1, v157, p157]
  refine awp_if rfl ?_ ?_
  · intro h1
    refine awp_sr ?_
    simp only [go_sem, R157_2, v157, p157]
    refine awp_ret ?_
    try simp only [go_sem]
    refine fin _ _ _ rfl (congrArg V.bool ?_)
    grind [Tree.Right]
  intro h1
  refine awp_skip ?_
  simp only [go_sem]
  refine awp_sr2 ?_
  simp only [go_sem, R157_3, v157, p157, Tree.c]
  obtain ⟨I, hI⟩ : ∃ I : Nat → List V → Store → Prop, I = fun mM L σ => ∃ i rest y0 y2 y4 y8 y16 y21, mM = t.leaves.length - i ∧ i ≤ t.leaves.length ∧ (∀ j x, j < i → t.leaves[j]? = some x → inTop 1023 j x) ∧ L = [y0, .ptr 0 2 0 0, y2, y4, y8, .fz 1 (rw_ intC t.leaves), .int .i64 (t.leaves.length : Nat), .int .i64 (i : Nat), y16, y21] ∧ σ = .live ⟨2, [t.c]⟩ :: rest := ⟨_, rfl⟩
  first | refine awp_for I t.leaves.length ?_ ?_ | refine awp_seq (awp_for I t.leaves.length ?_ ?_)
  · rw [hI]; refine ⟨0, _, _, _, _, _, _, _, rfl, Nat.zero_le _, ?_, rfl, rfl⟩
    intro j x h; omega
  intro mM L σ hIn
  rw [hI] at hIn
  obtain ⟨i, rest, y0, y2, y4, y8, y16, y21, rfl, hi, hP, rfl, rfl⟩ := hIn
  refine awp_sr ?_
  simp only [go_sem, R157_4, v157, p157]
  refine awp_seq ?_
  refine awp_if rfl ?_ ?_
  · intro h2
    have h2 : i < t.leaves.length := by omega
    refine awp_skip ?_
    simp only [go_sem]
    refine awp_seq (awp_block ?_)
    refine awp_sr ?_
    simp only [go_sem, R157_5, v157, p157, rw_at _ h2, intC]
    refine awp_sr ?_
    simp only [go_sem, R157_6, v157, p157]
    refine run_see (within_ok _ _ _) false (Views.refl rfl) rfl (fun j hj => by first | omega | ((have hj0 : j = 0 := by omega); subst hj0; first | rfl | (simp only [Nat.add_zero, app_get, app_getk, sapp_get, sapp_getk, Nat.add_assoc, Nat.reduceAdd, List.getElem?_cons_zero, List.getElem?_cons_succ]; done) | simp)) (fun h => by cases h) ?_
    simp only [go_sem, v157, p157]
    refine awp_if' rfl ?_ ?_
    · intro h3
      refine awp_sr ?_
      simp only [go_sem, R157_7, v157, p157]
      refine awp_ret ?_
      try simp only [go_sem]
      exact fin _ _ (.bool false) rfl (congrArg V.bool (decide_eq_false fun e => h3 ((e.2 (by omega)).2.1 i _ (List.getElem?_eq_getElem h2)))).symm
    · intro h3
      refine awp_skip ?_
      simp only [go_sem]
      refine awp_reg ?_
      simp only [go_sem, R157_8, v157, p157, wrap_succ (i := i) (by omega)]
      refine ⟨t.leaves.length - (i + 1), by omega, ?_⟩
      rw [hI]
      refine ⟨i + 1, _, _, _, _, _, _, _, rfl, by omega, ?_, rfl, rfl⟩
      exact upto_succ hP h2 h3
  · intro h2
    refine awp_exit ?_
    simp only [go_sem]
    have hall := upto_all hP (by omega)
    obtain ⟨K4, hK4⟩ : ∃ K : List V → Store → Prop, K = fun L σ => ∃ q rest y0 y1 y4 y8 y13 y14 y15 y16 y21, L = [y0, y1, .bool q, y4, y8, y13, y14, y15, y16, y21] ∧ σ = .live ⟨2, [t.c]⟩ :: rest ∧ q = decide t.Right := ⟨_, rfl⟩
    refine awp_srK (K4) ?_ ?_
    · simp only [go_sem, R157_9, v157, p157, Tree.c]
      repeat' first
        | (refine selP_if rfl (fun hG => ?_) (fun hG => ?_) <;> first | simp only [go_sem, v157, p157, eq_false hG, Tree.c] | simp only [go_sem, v157, p157, eq_true hG, Tree.c])
        | (refine selP_ifn rfl (fun hG => ?_) (fun hG => ?_) <;> first | simp only [go_sem, v157, p157, eq_false hG, Tree.c] | simp only [go_sem, v157, p157, eq_true hG, Tree.c])
        | (refine selN_if rfl (fun hG => ?_) (fun hG => ?_) <;> first | simp only [go_sem, v157, p157, eq_false hG, Tree.c] | simp only [go_sem, v157, p157, eq_true hG, Tree.c])
        | (refine selN_ifn rfl (fun hG => ?_) (fun hG => ?_) <;> first | simp only [go_sem, v157, p157, eq_false hG, Tree.c] | simp only [go_sem, v157, p157, eq_true hG, Tree.c])
        | (refine selB_if rfl (fun hG => ?_) (fun hG => ?_) <;> simp only [go_sem, v157, p157, hG, Tree.c])
        | (refine selB_ifn rfl (fun hG => ?_) (fun hG => ?_) <;> simp only [go_sem, v157, p157, hG, Tree.c])
        | (refine run_see (within_ok _ _ _) false (Views.refl rfl) rfl (fun j hj => by omega) (fun h => by cases h) ?_; simp only [go_sem, v157, p157, Tree.c])
      all_goals rw [hK4]
      all_goals refine ⟨_, _, _, _, _, _, _, _, _, _, _, rfl, rfl, ?_⟩
      all_goals grind [Tree.Right]
    intro L σ hq
    rw [hK4] at hq
    obtain ⟨q, rest, y0, y1, y4, y8, y13, y14, y15, y16, y21, rfl, rfl, hq⟩ := hq
    subst hq
    refine awp_ret ?_
    try simp only [go_sem]
    exact fin _ _ _ rfl rfl
end Go.Proofs.Ytffigokicddekaa.Abs
/- Numbers as bytes, walked in both texts. No condition. -/
set_option linter.unusedVariables false
set_option linter.unusedSimpArgs false
set_option maxRecDepth 10000
namespace Go.Proofs.Ytffigokicddekaa.Abs
open Go Go.Proofs
theorem byte_fold (b : UInt8) : [V.int .u8 (b.toNat : Int)] = byteC b := rfl
theorem byte_sing (b : UInt8) : [byteC b] = rw_ byteC [b] := rfl
theorem bytes_ok {s : Nat} (xs : List UInt8) : (⟨s, rw_ byteC xs⟩ : Ob).closed := rw_closed byteC_closed xs
theorem tmod_nat (n k : Nat) : (n : Int).tmod (k : Int) = ((n % k : Nat) : Int) := by rw [Int.ofNat_tmod]
theorem tdiv_nat (n k : Nat) : (n : Int).tdiv (k : Int) = ((n / k : Nat) : Int) := by rw [Int.ofNat_tdiv]
/-- a number's bytes -/
def putNum (n : Nat) : List UInt8 := if h : n < 128 then [u8 n] else u8 ((n % 128 + 128 : Nat) : Int) :: putNum (n / 128)
termination_by n
decreasing_by omega
theorem putNum_end {n : Nat} (h : n < 128) : putNum n = [u8 n] := by rw [putNum, dif_pos h]
theorem putNum_step {n : Nat} (h : ¬ n < 128) : putNum n = u8 ((n % 128 + 128 : Nat) : Int) :: putNum (n / 128) := by rw [putNum, dif_neg h]
theorem putNum_len {n : Nat} {k : Nat} (h : n < 128 ^ (k + 1)) : (putNum n).length ≤ k + 1 := by
  induction k generalizing n with
  | zero => rw [putNum_end (by simpa using h)]; simp
  | succ k ih =>
    by_cases h1 : n < 128
    · rw [putNum_end h1]; simp
    · rw [putNum_step h1]
      have : n / 128 < 128 ^ (k + 1) := by
        rw [Nat.div_lt_iff_lt_mul (by omega)]
        rw [Nat.pow_succ] at h
        exact h
      have := ih this
      simp
      omega
theorem putNum_5 {n : Nat} (h : n ≤ 2147483647) : (putNum n).length ≤ 5 := putNum_len (k := 4) (by omega)
def R154_0 : List AR := [⟨(some 2), none, 0, (.mov (.k .nl))⟩]
def R154_1 : List AR := [⟨(some 4), none, 0, (.bslice 0 1 0 [(.int .u8 0)] [])⟩, ⟨(some 3), none, 0, (.mov (.t 4))⟩]
def R154_2 : List AR := [⟨(some 5), none, 0, (.mov (.t 0))⟩, ⟨(some 6), none, 0, (.call false 0 0 101 [(.t 5), (.k (.int .i64 0)), (.k (.int .i64 2147483647))])⟩, ⟨(some 7), none, 0, (.not (.t 6))⟩]
def R154_3 : List AR := [⟨(some 8), none, 0, (.mov (.t 3))⟩, ⟨(some 2), none, 0, (.mov (.t 8))⟩]
def R154_4 : List AR := [⟨(some 9), none, 0, (.mov (.t 0))⟩, ⟨(some 10), none, 0, (.bin .gtr (.t 9) (.k (.int .i64 127)))⟩]
def R154_5 : List AR := [⟨(some 11), none, 0, (.mov (.t 3))⟩, ⟨(some 12), none, 0, (.mov (.t 0))⟩, ⟨(some 13), none, 0, (.bin .rem (.t 12) (.k (.int .i64 128)))⟩, ⟨(some 14), none, 0, (.bin .add (.t 13) (.k (.int .i64 128)))⟩, ⟨(some 15), none, 0, (.cint .u8 (.t 14))⟩, ⟨(some 16), none, 0, (.bslice 0 1 1 [(.int .u8 0)] [(0, (.t 15))])⟩, ⟨(some 17), none, 0, (.app 1 1 1 (.t 11) (.t 16))⟩, ⟨(some 3), none, 0, (.mov (.t 17))⟩]
def R154_6 : List AR := [⟨(some 18), none, 0, (.mov (.t 0))⟩, ⟨(some 19), none, 0, (.bin .quo (.t 18) (.k (.int .i64 128)))⟩, ⟨(some 0), none, 0, (.mov (.t 19))⟩]
def L154_0 : AC := (.seq (.seq (.reg 0 R154_4) (.cond (.t 10) .skip (.exit 0))) (.block 1 (.seq (.reg 2 R154_5) (.reg 0 R154_6))))
def R154_7 : List AR := [⟨(some 20), none, 0, (.mov (.t 3))⟩, ⟨(some 21), none, 0, (.mov (.t 0))⟩, ⟨(some 22), none, 0, (.cint .u8 (.t 21))⟩, ⟨(some 23), none, 0, (.bslice 0 1 1 [(.int .u8 0)] [(0, (.t 22))])⟩, ⟨(some 24), none, 0, (.app 1 1 1 (.t 20) (.t 23))⟩, ⟨(some 2), none, 0, (.mov (.t 24))⟩]
def A154_0 : AC := (.seq (.reg 2 R154_7) .ret)
def A154_1 : AC := (.seq (.block 0 (.loop L154_0)) A154_0)
def A154_2 : AC := (.seq (.seq (.reg 0 R154_2) (.cond (.t 7) (.seq (.reg 0 R154_3) .ret) .skip)) A154_1)
def A154_3 : AC := (.seq (.reg 1 R154_1) A154_2)
def A154 : AC := (.seq (.reg 0 R154_0) A154_3)
def O154 : List AO := [(.mov (.t 2))]
def G154 : Fns := ⟨fun f => false, fun f => 0, false⟩
noncomputable def X154 : Cx := ⟨Try.prog, G154, drawD, 25, [0, 2, 3, 7, 10]⟩
theorem c154 : (Try.f154.body).bind (compC X154.P X154.Γ X154.D X154.nt) = some A154 := by kernel_rfl
theorem o154 : compRes X154.P Try.f154.results.toList = some O154 := by kernel_rfl
theorem v154 : X154.vs = [0, 2, 3, 7, 10] := rfl
theorem p154 : X154.P = Try.prog := rfl
def R118_0 : List AR := [⟨(some 2), none, 0, (.mov (.k .nl))⟩]
def R118_1 : List AR := [⟨(some 4), none, 0, (.mov (.t 0))⟩, ⟨(some 5), none, 0, (.call false 0 0 105 [(.t 4), (.k (.int .i64 0)), (.k (.int .i64 2147483647))])⟩, ⟨(some 6), none, 0, (.not (.t 5))⟩]
def R118_2 : List AR := [⟨(some 2), none, 0, (.mov (.k .nl))⟩]
def R118_3 : List AR := [⟨(some 7), none, 0, (.bslice 0 1 0 [(.int .u8 0)] [])⟩, ⟨(some 3), none, 0, (.mov (.t 7))⟩]
def R118_4 : List AR := [⟨(some 8), none, 0, (.mov (.t 0))⟩, ⟨(some 9), none, 0, (.bin .geq (.t 8) (.k (.int .i64 128)))⟩]
def R118_5 : List AR := [⟨(some 10), none, 0, (.mov (.t 3))⟩, ⟨(some 11), none, 0, (.mov (.t 0))⟩, ⟨(some 12), none, 0, (.bin .rem (.t 11) (.k (.int .i64 128)))⟩, ⟨(some 13), none, 0, (.bin .add (.t 12) (.k (.int .i64 128)))⟩, ⟨(some 14), none, 0, (.cint .u8 (.t 13))⟩, ⟨(some 15), none, 0, (.bslice 0 1 1 [(.int .u8 0)] [(0, (.t 14))])⟩, ⟨(some 16), none, 0, (.app 1 1 1 (.t 10) (.t 15))⟩, ⟨(some 3), none, 0, (.mov (.t 16))⟩]
def R118_6 : List AR := [⟨(some 17), none, 0, (.mov (.t 0))⟩, ⟨(some 18), none, 0, (.bin .quo (.t 17) (.k (.int .i64 128)))⟩, ⟨(some 0), none, 0, (.mov (.t 18))⟩]
def L118_0 : AC := (.seq (.seq (.reg 0 R118_4) (.cond (.t 9) .skip (.exit 0))) (.block 1 (.seq (.reg 2 R118_5) (.reg 0 R118_6))))
def R118_7 : List AR := [⟨(some 19), none, 0, (.mov (.t 3))⟩, ⟨(some 20), none, 0, (.mov (.t 0))⟩, ⟨(some 21), none, 0, (.cint .u8 (.t 20))⟩, ⟨(some 22), none, 0, (.bslice 0 1 1 [(.int .u8 0)] [(0, (.t 21))])⟩, ⟨(some 23), none, 0, (.app 1 1 1 (.t 19) (.t 22))⟩, ⟨(some 2), none, 0, (.mov (.t 23))⟩]
def A118_0 : AC := (.seq (.reg 2 R118_7) .ret)
def A118_1 : AC := (.seq (.block 0 (.loop L118_0)) A118_0)
def A118_2 : AC := (.seq (.reg 1 R118_3) A118_1)
def A118_3 : AC := (.seq (.seq (.reg 0 R118_1) (.cond (.t 6) (.seq (.reg 0 R118_2) .ret) .skip)) A118_2)
def A118 : AC := (.seq (.reg 0 R118_0) A118_3)
def O118 : List AO := [(.mov (.t 2))]
def G118 : Fns := ⟨fun f => false, fun f => 0, false⟩
noncomputable def X118 : Cx := ⟨Try.prog, G118, drawD, 24, [0, 2, 3, 6, 9]⟩
theorem c118 : (Try.f118.body).bind (compC X118.P X118.Γ X118.D X118.nt) = some A118 := by kernel_rfl
theorem o118 : compRes X118.P Try.f118.results.toList = some O118 := by kernel_rfl
theorem v118 : X118.vs = [0, 2, 3, 6, 9] := rfl
theorem p118 : X118.P = Try.prog := rfl
theorem specPutNum_ok (n : Nat) (hn : n ≤ 2147483647) : FS Try.prog 154 [] [.int .i64 (n : Nat)] (.sl 0 1 0 (putNum n).length) [⟨1, rw_ byteC (putNum n)⟩] := by
  refine FS.of (X := X154) (ac := A154) (os := O154) Try.func154 (by rfl) (by rfl) (by kernel_rfl) o154 (Nat.le_of_ble_eq_true rfl) ?_
  show AWP X154 A154 (Ends X154.vs O154 0 _ _) [.int .i64 (n : Nat), .tup [], .tup [], .tup [], .tup []] []
  obtain ⟨Q, hQ⟩ : ∃ Q, Q = Ends X154.vs O154 0 (.sl 0 1 0 (putNum n).length) [⟨1, rw_ byteC (putNum n)⟩] := ⟨_, rfl⟩
  rw [← hQ]
  refine awp_sr ?_
  simp only [go_sem, R154_0, v154, p154]
  refine awp_sr ?_
  simp only [go_sem, R154_1, v154, p154]
  refine awp_sr2 ?_
  simp only [go_sem, R154_2, v154, p154]
  refine run_see (l1In_ok _ _ _) false (Views.refl rfl) rfl (fun j hj => by first | omega | ((have hj0 : j = 0 := by omega); subst hj0; first | rfl | (simp only [Nat.add_zero, app_get, app_getk, sapp_get, sapp_getk, Nat.add_assoc, Nat.reduceAdd, List.getElem?_cons_zero, List.getElem?_cons_succ]; done) | simp)) (fun h => by cases h) ?_
  simp only [go_sem, v154, p154]
  refine awp_if' rfl (fun h => absurd (show (n : Int) ≤ 2147483647 by omega) h) ?_
  intro _
  refine awp_skip ?_
  simp only [go_sem]
  have h5 := putNum_5 hn
  obtain ⟨I, hI⟩ : ∃ I : Nat → List V → Store → Prop, I = fun mM L σ => ∃ out k r q τ y2 y7 y10, k = mM ∧ (putNum n = out ++ putNum k ∧ k ≤ n ∧ q = out.length ∧ Last τ r (.live ⟨1, rw_ byteC out⟩)) ∧ L = [.int .i64 (k : Nat), y2, .sl r 1 0 q, y7, y10] ∧ σ = τ := ⟨_, rfl⟩
  first | refine awp_for I (n) ?_ ?_ | refine awp_seq (awp_for I (n) ?_ ?_)
  · rw [hI]
    refine ⟨[], n, _, _, _, _, _, _, rfl, ?_, rfl, rfl⟩
    exact ⟨rfl, Nat.le_refl _, rfl, Last.mk [] _⟩
  intro mM L σ hIn
  rw [hI] at hIn
  obtain ⟨out, k, r, q, τ, y2, y7, y10, rfl, hP, rfl, rfl⟩ := hIn
  obtain ⟨p1, p2, rfl, rest, rfl, rfl⟩ := hP
  refine awp_sr2 ?_
  simp only [go_sem, R154_4, v154, p154]
  refine awp_if rfl ?_ ?_
  · intro h1
    have e1 := putNum_step (n := k) (by omega)
    have hl : out.length + 1 ≤ 5 := by
      have := congrArg List.length p1
      rw [e1] at this
      simp at this
      omega
    refine awp_skip ?_
    simp only [go_sem]
    first | refine awp_block ?_ | refine awp_seq (awp_block ?_)
    refine awp_sr ?_
    simp only [go_sem, R154_5, v154, p154, show ((k : Int).tmod 128) = ((k % 128 : Nat) : Int) from tmod_nat k 128, show IntKind.wrap .i64 (((k % 128 : Nat) : Int) + 128) = ((k % 128 + 128 : Nat) : Int) by rw [wrap_i64 (by omega) (by omega)]; omega, wrap_u8, byte_fold, byte_sing]
    refine ⟨by omega, ?_⟩
    refine awp_reg ?_
    simp only [go_sem, R154_6, v154, p154, show ((k : Int).tdiv 128) = ((k / 128 : Nat) : Int) from tdiv_nat k 128, wrap_i64 (n := ((k / 128 : Nat) : Int)) (by omega) (by omega)]
    refine ⟨k / 128, ?_, ?_⟩
    rotate_left
    rw [hI]
    refine ⟨out ++ [u8 ((k % 128 + 128 : Nat) : Int)], k / 128, _, _, _, _, _, _, rfl, ?_, rfl, rfl⟩
    · exact ⟨by rw [p1, e1]; simp, by omega, by simp, Last.mk2 _ _ _ _⟩
    · omega
  · intro h1
    refine awp_exit ?_
    simp only [go_sem]
    have e1 := putNum_end (n := k) (by omega)
    have hl : out.length + 1 ≤ 5 := by
      have := congrArg List.length p1
      rw [e1] at this
      simp at this
      omega
    refine awp_sr ?_
    simp only [go_sem, R154_7, v154, p154, wrap_u8, byte_fold, byte_sing]
    refine ⟨by omega, ?_⟩
    refine awp_ret ?_
    try simp only [go_sem]
    rw [hQ, p1, e1]
    exact Ends.ownLast (.inl rfl) rfl (Last.mk2 _ _ _ _) (by simp) (bytes_ok _)
theorem implPutNum_ok (n : Nat) (hn : n ≤ 2147483647) : FS Try.prog 118 [] [.int .i64 (n : Nat)] (.sl 0 1 0 (putNum n).length) [⟨1, rw_ byteC (putNum n)⟩] := by
  refine FS.of (X := X118) (ac := A118) (os := O118) Try.func118 (by rfl) (by rfl) (by kernel_rfl) o118 (Nat.le_of_ble_eq_true rfl) ?_
  show AWP X118 A118 (Ends X118.vs O118 0 _ _) [.int .i64 (n : Nat), .tup [], .tup [], .tup [], .tup []] []
  obtain ⟨Q, hQ⟩ : ∃ Q, Q = Ends X118.vs O118 0 (.sl 0 1 0 (putNum n).length) [⟨1, rw_ byteC (putNum n)⟩] := ⟨_, rfl⟩
  rw [← hQ]
  refine awp_sr ?_
  simp only [go_sem, R118_0, v118, p118]
  refine awp_sr2 ?_
  simp only [go_sem, R118_1, v118, p118]
  refine run_see (within_ok _ _ _) false (Views.refl rfl) rfl (fun j hj => by first | omega | ((have hj0 : j = 0 := by omega); subst hj0; first | rfl | (simp only [Nat.add_zero, app_get, app_getk, sapp_get, sapp_getk, Nat.add_assoc, Nat.reduceAdd, List.getElem?_cons_zero, List.getElem?_cons_succ]; done) | simp)) (fun h => by cases h) ?_
  simp only [go_sem, v118, p118]
  refine awp_if' rfl (fun h => absurd (show (n : Int) ≤ 2147483647 by omega) h) ?_
  intro _
  refine awp_skip ?_
  simp only [go_sem]
  have h5 := putNum_5 hn
  refine awp_sr ?_
  simp only [go_sem, R118_3, v118, p118]
  obtain ⟨I, hI⟩ : ∃ I : Nat → List V → Store → Prop, I = fun mM L σ => ∃ out k r q τ y2 y6 y9, k = mM ∧ (putNum n = out ++ putNum k ∧ k ≤ n ∧ q = out.length ∧ Last τ r (.live ⟨1, rw_ byteC out⟩)) ∧ L = [.int .i64 (k : Nat), y2, .sl r 1 0 q, y6, y9] ∧ σ = τ := ⟨_, rfl⟩
  first | refine awp_for I (n) ?_ ?_ | refine awp_seq (awp_for I (n) ?_ ?_)
  · rw [hI]
    refine ⟨[], n, _, _, _, _, _, _, rfl, ?_, rfl, rfl⟩
    exact ⟨rfl, Nat.le_refl _, rfl, Last.mk [] _⟩
  intro mM L σ hIn
  rw [hI] at hIn
  obtain ⟨out, k, r, q, τ, y2, y6, y9, rfl, hP, rfl, rfl⟩ := hIn
  obtain ⟨p1, p2, rfl, rest, rfl, rfl⟩ := hP
  refine awp_sr2 ?_
  simp only [go_sem, R118_4, v118, p118]
  refine awp_if rfl ?_ ?_
  · intro h1
    have e1 := putNum_step (n := k) (by omega)
    have hl : out.length + 1 ≤ 5 := by
      have := congrArg List.length p1
      rw [e1] at this
      simp at this
      omega
    refine awp_skip ?_
    simp only [go_sem]
    first | refine awp_block ?_ | refine awp_seq (awp_block ?_)
    refine awp_sr ?_
    simp only [go_sem, R118_5, v118, p118, show ((k : Int).tmod 128) = ((k % 128 : Nat) : Int) from tmod_nat k 128, show IntKind.wrap .i64 (((k % 128 : Nat) : Int) + 128) = ((k % 128 + 128 : Nat) : Int) by rw [wrap_i64 (by omega) (by omega)]; omega, wrap_u8, byte_fold, byte_sing]
    refine ⟨by omega, ?_⟩
    refine awp_reg ?_
    simp only [go_sem, R118_6, v118, p118, show ((k : Int).tdiv 128) = ((k / 128 : Nat) : Int) from tdiv_nat k 128, wrap_i64 (n := ((k / 128 : Nat) : Int)) (by omega) (by omega)]
    refine ⟨k / 128, ?_, ?_⟩
    rotate_left
    rw [hI]
    refine ⟨out ++ [u8 ((k % 128 + 128 : Nat) : Int)], k / 128, _, _, _, _, _, _, rfl, ?_, rfl, rfl⟩
    · exact ⟨by rw [p1, e1]; simp, by omega, by simp, Last.mk2 _ _ _ _⟩
    · omega
  · intro h1
    refine awp_exit ?_
    simp only [go_sem]
    have e1 := putNum_end (n := k) (by omega)
    have hl : out.length + 1 ≤ 5 := by
      have := congrArg List.length p1
      rw [e1] at this
      simp at this
      omega
    refine awp_sr ?_
    simp only [go_sem, R118_7, v118, p118, wrap_u8, byte_fold, byte_sing]
    refine ⟨by omega, ?_⟩
    refine awp_ret ?_
    try simp only [go_sem]
    rw [hQ, p1, e1]
    exact Ends.ownLast (.inl rfl) rfl (Last.mk2 _ _ _ _) (by simp) (bytes_ok _)
theorem specPutNum_fz (n : Nat) (hn : n ≤ 2147483647) : FS Try.prog 154 [] [.int .i64 (n : Nat)] (.fz 1 (rw_ byteC (putNum n))) [] := (specPutNum_ok n hn).frz (bytes_ok _) (by simp [rw_])
theorem implPutNum_fz (n : Nat) (hn : n ≤ 2147483647) : FS Try.prog 118 [] [.int .i64 (n : Nat)] (.fz 1 (rw_ byteC (putNum n))) [] := (implPutNum_ok n hn).frz (bytes_ok _) (by simp [rw_])
end Go.Proofs.Ytffigokicddekaa.Abs
/- Rows of bytes joined; the check sum; walked in both texts. No condition. -/
set_option linter.unusedVariables false
set_option linter.unusedSimpArgs false
set_option maxRecDepth 10000
namespace Go.Proofs.Ytffigokicddekaa.Abs
open Go Go.Proofs
def R117_0 : List AR := [⟨(some 2), none, 0, (.mov (.k .nl))⟩]
def R117_1 : List AR := [⟨(some 6), none, 0, (.bslice 0 1 0 [(.int .u8 0)] [])⟩, ⟨(some 3), none, 0, (.mov (.t 6))⟩]
def R117_2 : List AR := [⟨(some 7), none, 0, (.mov (.t 0))⟩, ⟨(some 8), none, 0, (.len (.t 7))⟩, ⟨(some 9), none, 0, (.mov (.k (.int .i64 0)))⟩]
def R117_3 : List AR := [⟨(some 10), none, 0, (.bin .lss (.t 9) (.t 8))⟩]
def R117_4 : List AR := [⟨(some 11), none, 0, (.iaddr 1 (.t 7) (.t 9))⟩, ⟨(some 12), none, 0, (.load 1 false (.t 11))⟩, ⟨(some 5), none, 0, (.mov (.t 12))⟩]
def R117_5 : List AR := [⟨(some 13), none, 0, (.mov (.t 3))⟩, ⟨(some 14), none, 0, (.mov (.t 5))⟩, ⟨(some 15), none, 0, (.app 0 1 1 (.t 13) (.t 14))⟩, ⟨(some 3), none, 0, (.mov (.t 15))⟩]
def R117_6 : List AR := [⟨(some 16), none, 0, (.bin .add (.t 9) (.k (.int .i64 1)))⟩, ⟨(some 9), none, 0, (.mov (.t 16))⟩]
def A117_0 : AC := (.seq (.block 1 (.seq (.reg 0 R117_4) (.reg 1 R117_5))) (.reg 0 R117_6))
def A117_1 : AC := (.seq (.cond (.t 10) .skip (.exit 0)) A117_0)
def L117_0 : AC := (.seq (.reg 0 R117_3) A117_1)
def R117_7 : List AR := [⟨(some 17), none, 0, (.mov (.t 3))⟩, ⟨(some 2), none, 0, (.mov (.t 17))⟩]
def A117_2 : AC := (.seq (.reg 0 R117_7) .ret)
def A117_3 : AC := (.seq (.seq (.reg 0 R117_2) (.block 0 (.loop L117_0))) A117_2)
def A117_4 : AC := (.seq (.reg 1 R117_1) A117_3)
def A117 : AC := (.seq (.reg 0 R117_0) A117_4)
def O117 : List AO := [(.mov (.t 2))]
def G117 : Fns := ⟨fun f => false, fun f => 0, false⟩
noncomputable def X117 : Cx := ⟨Try.prog, G117, drawD, 18, [0, 2, 3, 5, 7, 8, 9, 10]⟩
theorem c117 : (Try.f117.body).bind (compC X117.P X117.Γ X117.D X117.nt) = some A117 := by kernel_rfl
theorem o117 : compRes X117.P Try.f117.results.toList = some O117 := by kernel_rfl
theorem v117 : X117.vs = [0, 2, 3, 5, 7, 8, 9, 10] := rfl
theorem p117 : X117.P = Try.prog := rfl
def R156_0 : List AR := [⟨(some 2), none, 0, (.mov (.k (.int .i64 0)))⟩]
def R156_1 : List AR := [⟨(some 3), none, 0, (.mov (.k (.int .i64 4294967295)))⟩]
def R156_2 : List AR := [⟨(some 4), none, 0, (.mov (.k (.int .i64 0)))⟩]
def R156_3 : List AR := [⟨(some 7), none, 0, (.mov (.t 4))⟩, ⟨(some 8), none, 0, (.mov (.t 0))⟩, ⟨(some 9), none, 0, (.len (.t 8))⟩, ⟨(some 10), none, 0, (.bin .lss (.t 7) (.t 9))⟩]
def R156_4 : List AR := [⟨(some 13), none, 0, (.mov (.t 3))⟩, ⟨(some 14), none, 0, (.mov (.t 0))⟩, ⟨(some 15), none, 0, (.mov (.t 4))⟩, ⟨(some 16), none, 0, (.iaddr 1 (.t 14) (.t 15))⟩, ⟨(some 17), none, 0, (.load 1 false (.t 16))⟩, ⟨(some 18), none, 0, (.cint .i64 (.t 17))⟩, ⟨(some 19), none, 0, (.bin .xor (.t 13) (.t 18))⟩, ⟨(some 3), none, 0, (.mov (.t 19))⟩]
def R156_5 : List AR := [⟨(some 5), none, 0, (.mov (.k (.int .i64 0)))⟩]
def R156_6 : List AR := [⟨(some 20), none, 0, (.mov (.t 5))⟩, ⟨(some 21), none, 0, (.bin .lss (.t 20) (.k (.int .i64 8)))⟩]
def R156_7 : List AR := [⟨(some 24), none, 0, (.mov (.t 3))⟩, ⟨(some 25), none, 0, (.bin .rem (.t 24) (.k (.int .i64 2)))⟩, ⟨(some 26), none, 0, (.bin .eql (.t 25) (.k (.int .i64 1)))⟩, ⟨(some 6), none, 0, (.mov (.t 26))⟩]
def R156_8 : List AR := [⟨(some 27), none, 0, (.mov (.t 3))⟩, ⟨(some 28), none, 0, (.bin .quo (.t 27) (.k (.int .i64 2)))⟩, ⟨(some 3), none, 0, (.mov (.t 28))⟩]
def R156_9 : List AR := [⟨(some 29), none, 0, (.mov (.t 6))⟩]
def R156_10 : List AR := [⟨(some 30), none, 0, (.mov (.t 3))⟩, ⟨(some 31), none, 0, (.bin .xor (.t 30) (.k (.int .i64 3988292384)))⟩, ⟨(some 3), none, 0, (.mov (.t 31))⟩]
def A156_0 : AC := (.seq (.reg 0 R156_9) (.cond (.t 29) (.reg 0 R156_10) .skip))
def A156_1 : AC := (.seq (.reg 0 R156_8) A156_0)
def R156_11 : List AR := [⟨(some 22), none, 0, (.mov (.t 5))⟩, ⟨(some 23), none, 0, (.bin .add (.t 22) (.k (.int .i64 1)))⟩, ⟨(some 5), none, 0, (.mov (.t 23))⟩]
def A156_2 : AC := (.seq (.block 3 (.seq (.reg 0 R156_7) A156_1)) (.reg 0 R156_11))
def L156_0 : AC := (.seq (.seq (.reg 0 R156_6) (.cond (.t 21) .skip (.exit 2))) A156_2)
def A156_3 : AC := (.seq (.reg 0 R156_5) (.block 2 (.loop L156_0)))
def R156_12 : List AR := [⟨(some 11), none, 0, (.mov (.t 4))⟩, ⟨(some 12), none, 0, (.bin .add (.t 11) (.k (.int .i64 1)))⟩, ⟨(some 4), none, 0, (.mov (.t 12))⟩]
def A156_4 : AC := (.seq (.block 1 (.seq (.reg 0 R156_4) A156_3)) (.reg 0 R156_12))
def L156_1 : AC := (.seq (.seq (.reg 0 R156_3) (.cond (.t 10) .skip (.exit 0))) A156_4)
def R156_13 : List AR := [⟨(some 32), none, 0, (.mov (.t 3))⟩, ⟨(some 33), none, 0, (.bin .xor (.t 32) (.k (.int .i64 4294967295)))⟩, ⟨(some 2), none, 0, (.mov (.t 33))⟩]
def A156_5 : AC := (.seq (.reg 0 R156_13) .ret)
def A156_6 : AC := (.seq (.seq (.reg 0 R156_2) (.block 0 (.loop L156_1))) A156_5)
def A156_7 : AC := (.seq (.reg 0 R156_1) A156_6)
def A156 : AC := (.seq (.reg 0 R156_0) A156_7)
def O156 : List AO := [(.mov (.t 2))]
def G156 : Fns := ⟨fun f => false, fun f => 0, false⟩
noncomputable def X156 : Cx := ⟨Try.prog, G156, drawD, 34, [0, 2, 3, 4, 5, 6, 10, 21, 29]⟩
theorem c156 : (Try.f156.body).bind (compC X156.P X156.Γ X156.D X156.nt) = some A156 := by kernel_rfl
theorem o156 : compRes X156.P Try.f156.results.toList = some O156 := by kernel_rfl
theorem v156 : X156.vs = [0, 2, 3, 4, 5, 6, 10, 21, 29] := rfl
theorem p156 : X156.P = Try.prog := rfl
def R159_0 : List AR := [⟨(some 2), none, 0, (.mov (.k (.int .i64 0)))⟩]
def R159_1 : List AR := [⟨(some 3), none, 0, (.mov (.k (.int .i64 4294967295)))⟩]
def R159_2 : List AR := [⟨(some 7), none, 0, (.mov (.t 0))⟩, ⟨(some 8), none, 0, (.len (.t 7))⟩, ⟨(some 9), none, 0, (.mov (.k (.int .i64 0)))⟩]
def R159_3 : List AR := [⟨(some 10), none, 0, (.bin .lss (.t 9) (.t 8))⟩]
def R159_4 : List AR := [⟨(some 11), none, 0, (.iaddr 1 (.t 7) (.t 9))⟩, ⟨(some 12), none, 0, (.load 1 false (.t 11))⟩, ⟨(some 5), none, 0, (.mov (.t 12))⟩]
def R159_5 : List AR := [⟨(some 13), none, 0, (.mov (.t 3))⟩, ⟨(some 14), none, 0, (.mov (.t 5))⟩, ⟨(some 15), none, 0, (.cint .i64 (.t 14))⟩, ⟨(some 16), none, 0, (.bin .xor (.t 13) (.t 15))⟩, ⟨(some 3), none, 0, (.mov (.t 16))⟩]
def R159_6 : List AR := [⟨(some 17), none, 0, (.mov (.k (.int .i64 0)))⟩]
def R159_7 : List AR := [⟨(some 18), none, 0, (.bin .lss (.t 17) (.k (.int .i64 8)))⟩]
def R159_8 : List AR := [⟨(some 19), none, 0, (.mov (.t 3))⟩, ⟨(some 20), none, 0, (.bin .rem (.t 19) (.k (.int .i64 2)))⟩, ⟨(some 21), none, 0, (.bin .eql (.t 20) (.k (.int .i64 1)))⟩, ⟨(some 6), none, 0, (.mov (.t 21))⟩]
def R159_9 : List AR := [⟨(some 22), none, 0, (.mov (.t 3))⟩, ⟨(some 23), none, 0, (.bin .quo (.t 22) (.k (.int .i64 2)))⟩, ⟨(some 3), none, 0, (.mov (.t 23))⟩]
def R159_10 : List AR := [⟨(some 24), none, 0, (.mov (.t 6))⟩]
def R159_11 : List AR := [⟨(some 25), none, 0, (.mov (.t 3))⟩, ⟨(some 26), none, 0, (.bin .xor (.t 25) (.k (.int .i64 3988292384)))⟩, ⟨(some 3), none, 0, (.mov (.t 26))⟩]
def A159_0 : AC := (.seq (.reg 0 R159_10) (.cond (.t 24) (.reg 0 R159_11) .skip))
def A159_1 : AC := (.seq (.reg 0 R159_9) A159_0)
def R159_12 : List AR := [⟨(some 27), none, 0, (.bin .add (.t 17) (.k (.int .i64 1)))⟩, ⟨(some 17), none, 0, (.mov (.t 27))⟩]
def A159_2 : AC := (.seq (.block 3 (.seq (.reg 0 R159_8) A159_1)) (.reg 0 R159_12))
def A159_3 : AC := (.seq (.cond (.t 18) .skip (.exit 2)) A159_2)
def L159_0 : AC := (.seq (.reg 0 R159_7) A159_3)
def A159_4 : AC := (.seq (.reg 0 R159_6) (.block 2 (.loop L159_0)))
def A159_5 : AC := (.seq (.reg 0 R159_5) A159_4)
def R159_13 : List AR := [⟨(some 28), none, 0, (.bin .add (.t 9) (.k (.int .i64 1)))⟩, ⟨(some 9), none, 0, (.mov (.t 28))⟩]
def A159_6 : AC := (.seq (.block 1 (.seq (.reg 0 R159_4) A159_5)) (.reg 0 R159_13))
def A159_7 : AC := (.seq (.cond (.t 10) .skip (.exit 0)) A159_6)
def L159_1 : AC := (.seq (.reg 0 R159_3) A159_7)
def R159_14 : List AR := [⟨(some 29), none, 0, (.mov (.t 3))⟩, ⟨(some 30), none, 0, (.bin .xor (.t 29) (.k (.int .i64 4294967295)))⟩, ⟨(some 2), none, 0, (.mov (.t 30))⟩]
def A159_8 : AC := (.seq (.reg 0 R159_14) .ret)
def A159_9 : AC := (.seq (.seq (.reg 0 R159_2) (.block 0 (.loop L159_1))) A159_8)
def A159_10 : AC := (.seq (.reg 0 R159_1) A159_9)
def A159 : AC := (.seq (.reg 0 R159_0) A159_10)
def O159 : List AO := [(.mov (.t 2))]
def G159 : Fns := ⟨fun f => false, fun f => 0, false⟩
noncomputable def X159 : Cx := ⟨Try.prog, G159, drawD, 31, [0, 2, 3, 5, 6, 7, 8, 9, 10, 17, 18, 24]⟩
theorem c159 : (Try.f159.body).bind (compC X159.P X159.Γ X159.D X159.nt) = some A159 := by kernel_rfl
theorem o159 : compRes X159.P Try.f159.results.toList = some O159 := by kernel_rfl
theorem v159 : X159.vs = [0, 2, 3, 5, 6, 7, 8, 9, 10, 17, 18, 24] := rfl
theorem p159 : X159.P = Try.prog := rfl
theorem fold_take1 {α β : Type} (f : β → α → β) (b : β) {xs : List α} {i : Nat} (h : i < xs.length) : (xs.take (i + 1)).foldl f b = f ((xs.take i).foldl f b) xs[i] := by
  rw [List.take_succ_eq_append_getElem h, List.foldl_append]; rfl
def rowB (bs : List UInt8) : List V := [.fz 1 (rw_ byteC bs)]
theorem fz_fold (bs : List UInt8) : [V.fz 1 (rw_ byteC bs)] = rowB bs := rfl
theorem flat_take {xs : List (List UInt8)} {i : Nat} (h : i < xs.length) : (xs.take (i + 1)).flatten = (xs.take i).flatten ++ xs[i] := by
  rw [List.take_succ_eq_append_getElem h, List.flatten_append]; simp
theorem flat_take_le (xs : List (List UInt8)) (i : Nat) : (xs.take i).flatten.length ≤ xs.flatten.length := by
  conv => rhs; rw [← List.take_append_drop i xs, List.flatten_append, List.length_append]
  omega
abbrev lim : Nat := 10000000000000
theorem joined_ok (xs : List (List UInt8)) (h : xs.flatten.length ≤ lim) (h0 : xs.length ≤ 1000000000) : FS Try.prog 117 [] [.fz 1 (rw_ rowB xs)] (.sl 0 1 0 xs.flatten.length) [⟨1, rw_ byteC xs.flatten⟩] := by
  refine FS.of (X := X117) (ac := A117) (os := O117) Try.func117 (by rfl) (by rfl) (by kernel_rfl) o117 (Nat.le_of_ble_eq_true rfl) ?_
  show AWP X117 A117 (Ends X117.vs O117 0 _ _) [.fz 1 (rw_ rowB xs), .tup [], .tup [], .tup [], .tup [], .tup [], .tup [], .tup []] []
  obtain ⟨Q, hQ⟩ : ∃ Q, Q = Ends X117.vs O117 0 (.sl 0 1 0 xs.flatten.length) [⟨1, rw_ byteC xs.flatten⟩] := ⟨_, rfl⟩
  rw [← hQ]
  have h : xs.flatten.length ≤ 10000000000000 := h
  refine awp_sr ?_
  simp only [go_sem, R117_0, v117, p117]
  refine awp_sr ?_
  simp only [go_sem, R117_1, v117, p117]
  refine awp_sr2 ?_
  simp only [go_sem, R117_2, v117, p117]
  obtain ⟨I, hI⟩ : ∃ I : Nat → List V → Store → Prop, I = fun mM L σ => ∃ i r q τ y0 y2 y5 y10, xs.length - i = mM ∧ (i ≤ xs.length ∧ q = (xs.take i).flatten.length ∧ Last τ r (.live ⟨1, rw_ byteC (xs.take i).flatten⟩)) ∧ L = [y0, y2, .sl r 1 0 q, y5, .fz 1 (rw_ rowB xs), .int .i64 (xs.length : Nat), .int .i64 (i : Nat), y10] ∧ σ = τ := ⟨_, rfl⟩
  first | refine awp_for I (xs.length) ?_ ?_ | refine awp_seq (awp_for I (xs.length) ?_ ?_)
  · rw [hI]
    refine ⟨0, _, _, _, _, _, _, _, rfl, ?_, rfl, rfl⟩
    exact ⟨Nat.zero_le _, rfl, Last.mk [] _⟩
  intro mM L σ hIn
  rw [hI] at hIn
  obtain ⟨i, r, q, τ, y0, y2, y5, y10, rfl, hP, rfl, rfl⟩ := hIn
  obtain ⟨hi, rfl, rest, rfl, rfl⟩ := hP
  refine awp_sr ?_
  simp only [go_sem, R117_3, v117, p117]
  refine awp_seq ?_
  refine awp_if rfl ?_ ?_
  · intro h1
    have h1 : i < xs.length := by omega
    have e1 := flat_take h1
    have e2 := flat_take_le xs (i + 1)
    have e3 := congrArg List.length e1
    rw [List.length_append] at e3
    refine awp_skip ?_
    simp only [go_sem]
    first | refine awp_block ?_ | refine awp_seq (awp_block ?_)
    refine awp_sr ?_
    simp only [go_sem, R117_4, v117, p117, rw_at _ h1, rowB]
    refine awp_reg ?_
    simp only [go_sem, R117_5, v117, p117]
    refine ⟨by omega, ?_⟩
    refine awp_reg ?_
    simp only [go_sem, R117_6, v117, p117, wrap_succ (i := i) (by omega)]
    refine ⟨xs.length - (i + 1), ?_, ?_⟩
    rotate_left
    rw [hI]
    refine ⟨i + 1, _, _, _, _, _, _, _, rfl, ?_, rfl, rfl⟩
    · rw [e1]; exact ⟨by omega, by simp, Last.mk1 _ _ _⟩
    · omega
  · intro h1
    refine awp_exit ?_
    simp only [go_sem]
    have : i = xs.length := by omega
    subst this
    rw [List.take_length]
    refine awp_sr ?_
    simp only [go_sem, R117_7, v117, p117]
    refine awp_ret ?_
    try simp only [go_sem]
    rw [hQ]
    exact Ends.ownLast (.inl rfl) rfl (Last.mk _ _) (by simp) (bytes_ok _)
theorem joined_fz (xs : List (List UInt8)) (h : xs.flatten.length ≤ lim) (h0 : xs.length ≤ 1000000000) : FS Try.prog 117 [] [.fz 1 (rw_ rowB xs)] (.fz 1 (rw_ byteC xs.flatten)) [] := (joined_ok xs h h0).frz (bytes_ok _) (rw_len _ _).symm
/-! the check sum -/
theorem xor_lt {a b : Nat} (ha : a < 4294967296) (hb : b < 4294967296) : a ^^^ b < 4294967296 := Nat.xor_lt_two_pow (n := 32) ha hb
theorem xor_nat {a b : Nat} (ha : a < 4294967296) (hb : b < 4294967296) : xorI .i64 (a : Int) (b : Int) = ((a ^^^ b : Nat) : Int) := by
  have e : (BitVec.ofInt (IntKind.bits .i64) (a : Int) ^^^ BitVec.ofInt (IntKind.bits .i64) (b : Int)).toNat = a ^^^ b := by
    rw [BitVec.toNat_xor, BitVec.ofInt_natCast, BitVec.ofInt_natCast, BitVec.toNat_ofNat, BitVec.toNat_ofNat]
    rw [Nat.mod_eq_of_lt, Nat.mod_eq_of_lt]
    · simp only [IntKind.bits]; omega
    · simp only [IntKind.bits]; omega
  unfold xorI
  rw [e]
  have := xor_lt ha hb
  exact wrap_i64 (by omega) (by omega)
def crcStep (x : Nat) : Nat := if x % 2 = 1 then x / 2 ^^^ 3988292384 else x / 2
def crcIter : Nat → Nat → Nat
  | 0, x => x
  | k + 1, x => crcStep (crcIter k x)
def crcByte (x : Nat) (b : UInt8) : Nat := crcIter 8 (x ^^^ b.toNat)
def crc (bs : List UInt8) : Nat := bs.foldl crcByte 4294967295 ^^^ 4294967295
theorem crcStep_lt {x : Nat} (h : x < 4294967296) : crcStep x < 4294967296 := by
  unfold crcStep
  split
  · exact xor_lt (by omega) (by omega)
  · omega
theorem crcIter_lt {x : Nat} (h : x < 4294967296) : ∀ k, crcIter k x < 4294967296
  | 0 => h
  | k + 1 => crcStep_lt (crcIter_lt h k)
theorem byte_lt (b : UInt8) : b.toNat < 4294967296 := by have := b.toNat_lt; omega
theorem crcByte_lt {x : Nat} (h : x < 4294967296) (b : UInt8) : crcByte x b < 4294967296 := crcIter_lt (xor_lt h (byte_lt b)) 8
theorem crcFold_lt : ∀ (bs : List UInt8) {x : Nat}, x < 4294967296 → bs.foldl crcByte x < 4294967296
  | [], x, h => h
  | b :: bs, x, h => crcFold_lt bs (crcByte_lt h b)
theorem crc_lt (bs : List UInt8) : crc bs < 4294967296 := xor_lt (crcFold_lt bs (by omega)) (by omega)
theorem specCrc_ok (bs : List UInt8) (h : bs.length ≤ lim) : FS Try.prog 156 [] [.fz 1 (rw_ byteC bs)] (.int .i64 (crc bs : Nat)) [] := by
  refine FS.of (X := X156) (ac := A156) (os := O156) Try.func156 (by rfl) (by rfl) (by kernel_rfl) o156 (Nat.le_of_ble_eq_true rfl) ?_
  show AWP X156 A156 (Ends X156.vs O156 0 _ _) [.fz 1 (rw_ byteC bs), .tup [], .tup [], .tup [], .tup [], .tup [], .tup [], .tup [], .tup []] []
  obtain ⟨Q, hQ⟩ : ∃ Q, Q = Ends X156.vs O156 0 (.int .i64 (crc bs : Nat)) [] := ⟨_, rfl⟩
  rw [← hQ]
  have h : bs.length ≤ 10000000000000 := h
  have fin : ∀ L σ vV, resVs O156 (look X156.vs L) σ = some [vV] → vV = (.int .i64 (crc bs : Nat)) → Q .ret L σ := by
    intro L σ vV h1 h2
    rw [hQ]
    exact Ends.is (.inl rfl) h1 (by simp only [packV, h2]) rfl
  refine awp_sr ?_
  simp only [go_sem, R156_0, v156, p156]
  refine awp_sr ?_
  simp only [go_sem, R156_1, v156, p156]
  refine awp_sr2 ?_
  simp only [go_sem, R156_2, v156, p156]
  obtain ⟨I, hI⟩ : ∃ I : Nat → List V → Store → Prop, I = fun mM L σ => ∃ i y2 y5 y6 y10 y21 y29, mM = bs.length - i ∧ i ≤ bs.length ∧ (True) ∧ L = [.fz 1 (rw_ byteC bs), y2, .int .i64 (((bs.take i).foldl crcByte 4294967295 : Nat) : Int), .int .i64 (i : Nat), y5, y6, y10, y21, y29] ∧ σ = [] := ⟨_, rfl⟩
  first | refine awp_for I bs.length ?_ ?_ | refine awp_seq (awp_for I bs.length ?_ ?_)
  · rw [hI]; refine ⟨0, _, _, _, _, _, _, rfl, Nat.zero_le _, ?_, rfl, rfl⟩
    trivial
  intro mM L σ hIn
  rw [hI] at hIn
  obtain ⟨i, y2, y5, y6, y10, y21, y29, rfl, hi, hP, rfl, rfl⟩ := hIn
  refine awp_sr2 ?_
  simp only [go_sem, R156_3, v156, p156]
  refine awp_if rfl ?_ ?_
  · intro h1
    have h1 : i < bs.length := by omega
    have hx := crcFold_lt (bs.take i) (x := 4294967295) (by omega)
    have e1 := fold_take1 crcByte 4294967295 h1
    generalize (bs.take i).foldl crcByte 4294967295 = x at hx e1
    refine awp_skip ?_
    simp only [go_sem]
    refine awp_seq (awp_block ?_)
    refine awp_sr ?_
    simp only [go_sem, R156_4, v156, p156, rw_at _ h1, byteC, wrap_i64 (n := (bs[i].toNat : Int)) (by omega) (by have := byte_lt bs[i]; omega), xor_nat hx (byte_lt bs[i])]
    refine awp_sr ?_
    simp only [go_sem, R156_5, v156, p156]
    obtain ⟨J, hJ⟩ : ∃ J : Nat → List V → Store → Prop, J = fun mM L σ => ∃ k y2 y6 y10 y21 y29, 8 - k = mM ∧ (k ≤ 8) ∧ L = [.fz 1 (rw_ byteC bs), y2, .int .i64 ((crcIter k (x ^^^ bs[i].toNat) : Nat) : Int), .int .i64 (i : Nat), .int .i64 (k : Nat), y6, y10, y21, y29] ∧ σ = [] := ⟨_, rfl⟩
    first | refine awp_for J (8) ?_ ?_ | refine awp_seq (awp_for J (8) ?_ ?_)
    · rw [hJ]
      refine ⟨0, _, _, _, _, _, rfl, ?_, rfl, rfl⟩
      omega
    intro mM L σ hIn
    rw [hJ] at hIn
    obtain ⟨k, y2, y6, y10, y21, y29, rfl, hP, rfl, rfl⟩ := hIn
    have hy := crcIter_lt (xor_lt hx (byte_lt bs[i])) k
    refine awp_sr2 ?_
    simp only [go_sem, R156_6, v156, p156]
    refine awp_if rfl ?_ ?_
    · intro h2
      generalize hy0 : crcIter k (x ^^^ bs[i].toNat) = y at hy
      refine awp_skip ?_
      simp only [go_sem]
      first | refine awp_block ?_ | refine awp_seq (awp_block ?_)
      refine awp_sr ?_
      simp only [go_sem, R156_7, v156, p156, show ((y : Int).tmod 2) = ((y % 2 : Nat) : Int) from tmod_nat y 2]
      refine awp_sr ?_
      simp only [go_sem, R156_8, v156, p156, show ((y : Int).tdiv 2) = ((y / 2 : Nat) : Int) from tdiv_nat y 2, wrap_i64 (n := ((y / 2 : Nat) : Int)) (by omega) (by omega)]
      refine awp_sr ?_
      simp only [go_sem, R156_9, v156, p156]
      obtain ⟨K1, hK1⟩ : ∃ K : List V → Store → Prop, K = fun L σ => ∃ y2 y6 y10 y21 y29, L = [.fz 1 (rw_ byteC bs), y2, .int .i64 ((crcStep y : Nat) : Int), .int .i64 (i : Nat), .int .i64 (k : Nat), y6, y10, y21, y29] ∧ σ = [] ∧ True := ⟨_, rfl⟩
      refine awp_K K1 ?_ ?_
      · refine awp_if rfl ?_ ?_
        · intro h3
          refine awp_reg ?_
          simp only [go_sem, R156_10, v156, p156, show xorI .i64 ((y / 2 : Nat) : Int) 3988292384 = ((y / 2 ^^^ 3988292384 : Nat) : Int) from xor_nat (a := y / 2) (b := 3988292384) (by omega) (by omega)]
          rw [show y / 2 ^^^ 3988292384 = crcStep y by unfold crcStep; rw [if_pos (by omega)]]
          rw [hK1]
          refine ⟨_, _, _, _, _, rfl, rfl, ?_⟩
          trivial
        · intro h3
          refine awp_skip ?_
          simp only [go_sem]
          rw [show y / 2 = crcStep y by unfold crcStep; rw [if_neg (by omega)]]
          rw [hK1]
          refine ⟨_, _, _, _, _, rfl, rfl, ?_⟩
          trivial
      · intro L σ hq
        rw [hK1] at hq
        obtain ⟨y2, y6, y10, y21, y29, rfl, rfl, hq⟩ := hq
        simp only [go_sem, v156, p156]
        refine awp_reg ?_
        simp only [go_sem, R156_11, v156, p156, wrap_succ (i := k) (by omega)]
        rw [show crcStep y = crcIter (k + 1) (x ^^^ bs[i].toNat) by rw [← hy0]; rfl]
        refine ⟨8 - (k + 1), ?_, ?_⟩
        rotate_left
        rw [hJ]
        refine ⟨k + 1, _, _, _, _, _, rfl, ?_, rfl, rfl⟩
        · omega
        · omega
    · intro h2
      have : k = 8 := by omega
      subst this
      refine awp_exit ?_
      simp only [go_sem]
      refine awp_reg ?_
      simp only [go_sem, R156_12, v156, p156, wrap_succ (i := i) (by omega)]
      rw [show crcIter 8 (x ^^^ bs[i].toNat) = (bs.take (i + 1)).foldl crcByte 4294967295 from e1.symm]
      refine ⟨bs.length - (i + 1), by omega, ?_⟩
      rw [hI]
      refine ⟨i + 1, _, _, _, _, _, _, rfl, by omega, ?_, rfl, rfl⟩
      trivial
  · intro h1
    refine awp_exit ?_
    simp only [go_sem]
    have : i = bs.length := by omega
    subst this
    have hx := crcFold_lt bs (x := 4294967295) (by omega)
    rw [List.take_length]
    refine awp_sr ?_
    simp only [go_sem, R156_13, v156, p156, show xorI .i64 ((bs.foldl crcByte 4294967295 : Nat) : Int) 4294967295 = ((crc bs : Nat) : Int) from xor_nat (b := 4294967295) hx (by omega)]
    refine awp_ret ?_
    try simp only [go_sem]
    exact fin _ _ _ rfl rfl
theorem implCrc_ok (bs : List UInt8) (h : bs.length ≤ lim) : FS Try.prog 159 [] [.fz 1 (rw_ byteC bs)] (.int .i64 (crc bs : Nat)) [] := by
  refine FS.of (X := X159) (ac := A159) (os := O159) Try.func159 (by rfl) (by rfl) (by kernel_rfl) o159 (Nat.le_of_ble_eq_true rfl) ?_
  show AWP X159 A159 (Ends X159.vs O159 0 _ _) [.fz 1 (rw_ byteC bs), .tup [], .tup [], .tup [], .tup [], .tup [], .tup [], .tup [], .tup [], .tup [], .tup [], .tup []] []
  obtain ⟨Q, hQ⟩ : ∃ Q, Q = Ends X159.vs O159 0 (.int .i64 (crc bs : Nat)) [] := ⟨_, rfl⟩
  rw [← hQ]
  have h : bs.length ≤ 10000000000000 := h
  have fin : ∀ L σ vV, resVs O159 (look X159.vs L) σ = some [vV] → vV = (.int .i64 (crc bs : Nat)) → Q .ret L σ := by
    intro L σ vV h1 h2
    rw [hQ]
    exact Ends.is (.inl rfl) h1 (by simp only [packV, h2]) rfl
  refine awp_sr ?_
  simp only [go_sem, R159_0, v159, p159]
  refine awp_sr ?_
  simp only [go_sem, R159_1, v159, p159]
  refine awp_sr2 ?_
  simp only [go_sem, R159_2, v159, p159]
  obtain ⟨I, hI⟩ : ∃ I : Nat → List V → Store → Prop, I = fun mM L σ => ∃ i y0 y2 y5 y6 y10 y17 y18 y24, mM = bs.length - i ∧ i ≤ bs.length ∧ (True) ∧ L = [y0, y2, .int .i64 (((bs.take i).foldl crcByte 4294967295 : Nat) : Int), y5, y6, .fz 1 (rw_ byteC bs), .int .i64 (bs.length : Nat), .int .i64 (i : Nat), y10, y17, y18, y24] ∧ σ = [] := ⟨_, rfl⟩
  first | refine awp_for I bs.length ?_ ?_ | refine awp_seq (awp_for I bs.length ?_ ?_)
  · rw [hI]; refine ⟨0, _, _, _, _, _, _, _, _, rfl, Nat.zero_le _, ?_, rfl, rfl⟩
    trivial
  intro mM L σ hIn
  rw [hI] at hIn
  obtain ⟨i, y0, y2, y5, y6, y10, y17, y18, y24, rfl, hi, hP, rfl, rfl⟩ := hIn
  refine awp_sr ?_
  simp only [go_sem, R159_3, v159, p159]
  refine awp_seq ?_
  refine awp_if rfl ?_ ?_
  · intro h1
    have h1 : i < bs.length := by omega
    have hx := crcFold_lt (bs.take i) (x := 4294967295) (by omega)
    have e1 := fold_take1 crcByte 4294967295 h1
    generalize (bs.take i).foldl crcByte 4294967295 = x at hx e1
    refine awp_skip ?_
    simp only [go_sem]
    refine awp_seq (awp_block ?_)
    refine awp_sr ?_
    simp only [go_sem, R159_4, v159, p159, rw_at _ h1, byteC]
    refine awp_sr ?_
    simp only [go_sem, R159_5, v159, p159, wrap_i64 (n := (bs[i].toNat : Int)) (by omega) (by have := byte_lt bs[i]; omega), xor_nat hx (byte_lt bs[i])]
    refine awp_sr ?_
    simp only [go_sem, R159_6, v159, p159]
    obtain ⟨J, hJ⟩ : ∃ J : Nat → List V → Store → Prop, J = fun mM L σ => ∃ k y0 y2 y5 y6 y10 y18 y24, 8 - k = mM ∧ (k ≤ 8) ∧ L = [y0, y2, .int .i64 ((crcIter k (x ^^^ bs[i].toNat) : Nat) : Int), y5, y6, .fz 1 (rw_ byteC bs), .int .i64 (bs.length : Nat), .int .i64 (i : Nat), y10, .int .i64 (k : Nat), y18, y24] ∧ σ = [] := ⟨_, rfl⟩
    first | refine awp_for J (8) ?_ ?_ | refine awp_seq (awp_for J (8) ?_ ?_)
    · rw [hJ]
      refine ⟨0, _, _, _, _, _, _, _, rfl, ?_, rfl, rfl⟩
      omega
    intro mM L σ hIn
    rw [hJ] at hIn
    obtain ⟨k, y0, y2, y5, y6, y10, y18, y24, rfl, hP, rfl, rfl⟩ := hIn
    have hy := crcIter_lt (xor_lt hx (byte_lt bs[i])) k
    refine awp_sr ?_
    simp only [go_sem, R159_7, v159, p159]
    refine awp_seq ?_
    refine awp_if rfl ?_ ?_
    · intro h2
      generalize hy0 : crcIter k (x ^^^ bs[i].toNat) = y at hy
      refine awp_skip ?_
      simp only [go_sem]
      first | refine awp_block ?_ | refine awp_seq (awp_block ?_)
      refine awp_sr ?_
      simp only [go_sem, R159_8, v159, p159, show ((y : Int).tmod 2) = ((y % 2 : Nat) : Int) from tmod_nat y 2]
      refine awp_sr ?_
      simp only [go_sem, R159_9, v159, p159, show ((y : Int).tdiv 2) = ((y / 2 : Nat) : Int) from tdiv_nat y 2, wrap_i64 (n := ((y / 2 : Nat) : Int)) (by omega) (by omega)]
      refine awp_sr ?_
      simp only [go_sem, R159_10, v159, p159]
      obtain ⟨K2, hK2⟩ : ∃ K : List V → Store → Prop, K = fun L σ => ∃ y0 y2 y5 y6 y10 y18 y24, L = [y0, y2, .int .i64 ((crcStep y : Nat) : Int), y5, y6, .fz 1 (rw_ byteC bs), .int .i64 (bs.length : Nat), .int .i64 (i : Nat), y10, .int .i64 (k : Nat), y18, y24] ∧ σ = [] ∧ True := ⟨_, rfl⟩
      refine awp_K K2 ?_ ?_
      · refine awp_if rfl ?_ ?_
        · intro h3
          refine awp_reg ?_
          simp only [go_sem, R159_11, v159, p159, show xorI .i64 ((y / 2 : Nat) : Int) 3988292384 = ((y / 2 ^^^ 3988292384 : Nat) : Int) from xor_nat (a := y / 2) (b := 3988292384) (by omega) (by omega)]
          rw [show y / 2 ^^^ 3988292384 = crcStep y by unfold crcStep; rw [if_pos (by omega)]]
          rw [hK2]
          refine ⟨_, _, _, _, _, _, _, rfl, rfl, ?_⟩
          trivial
        · intro h3
          refine awp_skip ?_
          simp only [go_sem]
          rw [show y / 2 = crcStep y by unfold crcStep; rw [if_neg (by omega)]]
          rw [hK2]
          refine ⟨_, _, _, _, _, _, _, rfl, rfl, ?_⟩
          trivial
      · intro L σ hq
        rw [hK2] at hq
        obtain ⟨y0, y2, y5, y6, y10, y18, y24, rfl, rfl, hq⟩ := hq
        simp only [go_sem, v159, p159]
        refine awp_reg ?_
        simp only [go_sem, R159_12, v159, p159, wrap_succ (i := k) (by omega)]
        rw [show crcStep y = crcIter (k + 1) (x ^^^ bs[i].toNat) by rw [← hy0]; rfl]
        refine ⟨8 - (k + 1), ?_, ?_⟩
        rotate_left
        rw [hJ]
        refine ⟨k + 1, _, _, _, _, _, _, _, rfl, ?_, rfl, rfl⟩
        · omega
        · omega
    · intro h2
      have : k = 8 := by omega
      subst this
      refine awp_exit ?_
      simp only [go_sem]
      refine awp_reg ?_
      simp only [go_sem, R159_13, v159, p159, wrap_succ (i := i) (by omega)]
      rw [show crcIter 8 (x ^^^ bs[i].toNat) = (bs.take (i + 1)).foldl crcByte 4294967295 from e1.symm]
      refine ⟨bs.length - (i + 1), by omega, ?_⟩
      rw [hI]
      refine ⟨i + 1, _, _, _, _, _, _, _, _, rfl, by omega, ?_, rfl, rfl⟩
      trivial
  · intro h1
    refine awp_exit ?_
    simp only [go_sem]
    have : i = bs.length := by omega
    subst this
    have hx := crcFold_lt bs (x := 4294967295) (by omega)
    rw [List.take_length]
    refine awp_sr ?_
    simp only [go_sem, R159_14, v159, p159, show xorI .i64 ((bs.foldl crcByte 4294967295 : Nat) : Int) 4294967295 = ((crc bs : Nat) : Int) from xor_nat (b := 4294967295) hx (by omega)]
    refine awp_ret ?_
    try simp only [go_sem]
    exact fin _ _ _ rfl rfl
end Go.Proofs.Ytffigokicddekaa.Abs
/- Texts and check sums as bytes, walked in both texts. No condition. -/
set_option linter.unusedVariables false
set_option linter.unusedSimpArgs false
set_option maxRecDepth 10000
namespace Go.Proofs.Ytffigokicddekaa.Abs
open Go Go.Proofs
def R163_0 : List AR := [⟨(some 2), none, 0, (.mov (.k .nl))⟩]
def R163_1 : List AR := [⟨(some 3), none, 0, (.mov (.t 0))⟩, ⟨(some 4), none, 0, (.slen (.t 3))⟩, ⟨(some 5), none, 0, (.call false 0 1 154 [(.t 4)])⟩, ⟨(some 6), none, 0, (.mov (.t 0))⟩, ⟨(some 7), none, 0, (.s2b 1 (.t 6))⟩, ⟨(some 8), none, 0, (.app 2 1 1 (.t 5) (.t 7))⟩, ⟨(some 2), none, 0, (.mov (.t 8))⟩]
def A163_0 : AC := (.seq (.reg 3 R163_1) .ret)
def A163 : AC := (.seq (.reg 0 R163_0) A163_0)
def O163 : List AO := [(.mov (.t 2))]
def G163 : Fns := ⟨fun f => false, fun f => if f = 154 then 1 else 0, false⟩
noncomputable def X163 : Cx := ⟨Try.prog, G163, drawD, 9, [0, 2]⟩
theorem c163 : (Try.f163.body).bind (compC X163.P X163.Γ X163.D X163.nt) = some A163 := by kernel_rfl
theorem o163 : compRes X163.P Try.f163.results.toList = some O163 := by kernel_rfl
theorem v163 : X163.vs = [0, 2] := rfl
theorem p163 : X163.P = Try.prog := rfl
def R139_0 : List AR := [⟨(some 2), none, 0, (.mov (.k .nl))⟩]
def R139_1 : List AR := [⟨(some 3), none, 0, (.mov (.t 0))⟩, ⟨(some 4), none, 0, (.slen (.t 3))⟩, ⟨(some 5), none, 0, (.call false 0 1 118 [(.t 4)])⟩, ⟨(some 6), none, 0, (.mov (.t 0))⟩, ⟨(some 7), none, 0, (.s2f (.t 6))⟩, ⟨(some 8), none, 0, (.bslice 1 1 2 [.nl] [(0, (.t 5)), (1, (.t 7))])⟩, ⟨(some 9), none, 0, (.call false 2 1 117 [(.t 8)])⟩, ⟨(some 2), none, 0, (.mov (.t 9))⟩]
def A139_0 : AC := (.seq (.reg 3 R139_1) .ret)
def A139 : AC := (.seq (.reg 0 R139_0) A139_0)
def O139 : List AO := [(.mov (.t 2))]
def G139 : Fns := ⟨fun f => false, fun f => if f = 118 then 1 else if f = 117 then 1 else 0, true⟩
noncomputable def X139 : Cx := ⟨Try.prog, G139, drawD, 10, [0, 2]⟩
theorem c139 : (Try.f139.body).bind (compC X139.P X139.Γ X139.D X139.nt) = some A139 := by kernel_rfl
theorem o139 : compRes X139.P Try.f139.results.toList = some O139 := by kernel_rfl
theorem v139 : X139.vs = [0, 2] := rfl
theorem p139 : X139.P = Try.prog := rfl
def R114_0 : List AR := [⟨(some 2), none, 0, (.mov (.k .nl))⟩]
def R114_1 : List AR := [⟨(some 4), none, 0, (.mov (.t 0))⟩, ⟨(some 5), none, 0, (.call false 0 0 156 [(.t 4)])⟩, ⟨(some 3), none, 0, (.mov (.t 5))⟩]
def R114_2 : List AR := [⟨(some 6), none, 0, (.mov (.t 3))⟩, ⟨(some 7), none, 0, (.bin .quo (.t 6) (.k (.int .i64 16777216)))⟩, ⟨(some 8), none, 0, (.cint .u8 (.t 7))⟩, ⟨(some 9), none, 0, (.mov (.t 3))⟩, ⟨(some 10), none, 0, (.bin .quo (.t 9) (.k (.int .i64 65536)))⟩, ⟨(some 11), none, 0, (.bin .rem (.t 10) (.k (.int .i64 256)))⟩, ⟨(some 12), none, 0, (.cint .u8 (.t 11))⟩, ⟨(some 13), none, 0, (.mov (.t 3))⟩, ⟨(some 14), none, 0, (.bin .quo (.t 13) (.k (.int .i64 256)))⟩, ⟨(some 15), none, 0, (.bin .rem (.t 14) (.k (.int .i64 256)))⟩, ⟨(some 16), none, 0, (.cint .u8 (.t 15))⟩, ⟨(some 17), none, 0, (.mov (.t 3))⟩, ⟨(some 18), none, 0, (.bin .rem (.t 17) (.k (.int .i64 256)))⟩, ⟨(some 19), none, 0, (.cint .u8 (.t 18))⟩, ⟨(some 20), none, 0, (.bslice 0 1 4 [(.int .u8 0)] [(0, (.t 8)), (1, (.t 12)), (2, (.t 16)), (3, (.t 19))])⟩, ⟨(some 2), none, 0, (.mov (.t 20))⟩]
def A114_0 : AC := (.seq (.reg 1 R114_2) .ret)
def A114_1 : AC := (.seq (.reg 0 R114_1) A114_0)
def A114 : AC := (.seq (.reg 0 R114_0) A114_1)
def O114 : List AO := [(.mov (.t 2))]
def G114 : Fns := ⟨fun f => false, fun f => 0, false⟩
noncomputable def X114 : Cx := ⟨Try.prog, G114, drawD, 21, [0, 2, 3]⟩
theorem c114 : (Try.f114.body).bind (compC X114.P X114.Γ X114.D X114.nt) = some A114 := by kernel_rfl
theorem o114 : compRes X114.P Try.f114.results.toList = some O114 := by kernel_rfl
theorem v114 : X114.vs = [0, 2, 3] := rfl
theorem p114 : X114.P = Try.prog := rfl
def R120_0 : List AR := [⟨(some 2), none, 0, (.mov (.k .nl))⟩]
def R120_1 : List AR := [⟨(some 4), none, 0, (.mov (.t 0))⟩, ⟨(some 5), none, 0, (.call false 0 0 159 [(.t 4)])⟩, ⟨(some 3), none, 0, (.mov (.t 5))⟩]
def R120_2 : List AR := [⟨(some 6), none, 0, (.mov (.t 3))⟩, ⟨(some 7), none, 0, (.bin .shr (.t 6) (.k (.int .u64 24)))⟩, ⟨(some 8), none, 0, (.bin .and (.t 7) (.k (.int .i64 255)))⟩, ⟨(some 9), none, 0, (.cint .u8 (.t 8))⟩, ⟨(some 10), none, 0, (.mov (.t 3))⟩, ⟨(some 11), none, 0, (.bin .shr (.t 10) (.k (.int .u64 16)))⟩, ⟨(some 12), none, 0, (.bin .and (.t 11) (.k (.int .i64 255)))⟩, ⟨(some 13), none, 0, (.cint .u8 (.t 12))⟩, ⟨(some 14), none, 0, (.mov (.t 3))⟩, ⟨(some 15), none, 0, (.bin .shr (.t 14) (.k (.int .u64 8)))⟩, ⟨(some 16), none, 0, (.bin .and (.t 15) (.k (.int .i64 255)))⟩, ⟨(some 17), none, 0, (.cint .u8 (.t 16))⟩, ⟨(some 18), none, 0, (.mov (.t 3))⟩, ⟨(some 19), none, 0, (.bin .and (.t 18) (.k (.int .i64 255)))⟩, ⟨(some 20), none, 0, (.cint .u8 (.t 19))⟩, ⟨(some 21), none, 0, (.bslice 0 1 4 [(.int .u8 0)] [(0, (.t 9)), (1, (.t 13)), (2, (.t 17)), (3, (.t 20))])⟩, ⟨(some 2), none, 0, (.mov (.t 21))⟩]
def A120_0 : AC := (.seq (.reg 1 R120_2) .ret)
def A120_1 : AC := (.seq (.reg 0 R120_1) A120_0)
def A120 : AC := (.seq (.reg 0 R120_0) A120_1)
def O120 : List AO := [(.mov (.t 2))]
def G120 : Fns := ⟨fun f => false, fun f => 0, false⟩
noncomputable def X120 : Cx := ⟨Try.prog, G120, drawD, 22, [0, 2, 3]⟩
theorem c120 : (Try.f120.body).bind (compC X120.P X120.Γ X120.D X120.nt) = some A120 := by kernel_rfl
theorem o120 : compRes X120.P Try.f120.results.toList = some O120 := by kernel_rfl
theorem v120 : X120.vs = [0, 2, 3] := rfl
theorem p120 : X120.P = Try.prog := rfl
def putText (s : ByteArray) : List UInt8 := putNum s.size ++ s.toList
theorem bytes_flat {s : Nat} (xs : List UInt8) : (⟨s, rw_ byteC xs⟩ : Ob).flat := by
  intro l hl x hx
  simp only [rw_, List.mem_map] at hl
  obtain ⟨a, _, rfl⟩ := hl
  exact byteC_flat a x hx
theorem ofBytes_rw (s : ByteArray) : ofBytes s = rw_ byteC s.toList := rfl
theorem toList_size (s : ByteArray) : s.toList.length = s.size := by rw [ByteArray.toList_eq]; simp
theorem rowB_closed (a : List UInt8) : ∀ x ∈ rowB a, x.closed = true := by simp [rowB, V.closed]
theorem brows_ok {s : Nat} (xs : List (List UInt8)) : (⟨s, rw_ rowB xs⟩ : Ob).closed := rw_closed rowB_closed xs
theorem toList_take (s : ByteArray) : s.toList.take s.size = s.toList := by rw [← toList_size s]; exact List.take_length
theorem specPutText_ok (s : ByteArray) (h : s.size ≤ 2147483647) : FS Try.prog 163 [] [.str s] (.sl 0 1 0 (putText s).length) [⟨1, rw_ byteC (putText s)⟩] := by
  refine FS.of (X := X163) (ac := A163) (os := O163) Try.func163 (by rfl) (by rfl) (by kernel_rfl) o163 (Nat.le_of_ble_eq_true rfl) ?_
  show AWP X163 A163 (Ends X163.vs O163 0 _ _) [.str s, .tup []] []
  obtain ⟨Q, hQ⟩ : ∃ Q, Q = Ends X163.vs O163 0 (.sl 0 1 0 (putText s).length) [⟨1, rw_ byteC (putText s)⟩] := ⟨_, rfl⟩
  rw [← hQ]
  refine awp_sr ?_
  simp only [go_sem, R163_0, v163, p163]
  refine awp_sr ?_
  simp only [go_sem, R163_1, v163, p163]
  refine run_new (specPutNum_ok s.size h) false (Views.refl rfl) (by first | rfl | (simp only [Nat.add_zero, app_get, app_getk, sapp_get, sapp_getk, Nat.add_assoc, Nat.reduceAdd, List.getElem?_cons_zero, List.getElem?_cons_succ]; done) | simp) (bytes_ok _) (by simp [V.ids]) (fun h => by cases h) ?_
  have h5 := putNum_5 h
  have hsz := toList_size s
  simp only [go_sem, v163, p163, ofBytes_rw, toList_size, toList_take]
  refine ⟨by omega, ?_⟩
  refine awp_ret ?_
  try simp only [go_sem]
  rw [hQ]
  exact Ends.ownLast (.inl rfl) rfl (Last.mk2 [] _ _ _) (by simp [putText, hsz]) (bytes_ok _)
theorem implPutText_ok (s : ByteArray) (h : s.size ≤ 2147483647) : FS Try.prog 139 [] [.str s] (.sl 0 1 0 (putText s).length) [⟨1, rw_ byteC (putText s)⟩] := by
  refine FS.of (X := X139) (ac := A139) (os := O139) Try.func139 (by rfl) (by rfl) (by kernel_rfl) o139 (Nat.le_of_ble_eq_true rfl) ?_
  show AWP X139 A139 (Ends X139.vs O139 0 _ _) [.str s, .tup []] []
  obtain ⟨Q, hQ⟩ : ∃ Q, Q = Ends X139.vs O139 0 (.sl 0 1 0 (putText s).length) [⟨1, rw_ byteC (putText s)⟩] := ⟨_, rfl⟩
  rw [← hQ]
  refine awp_sr ?_
  simp only [go_sem, R139_0, v139, p139]
  refine awp_sr ?_
  simp only [go_sem, R139_1, v139, p139]
  refine run_see (implPutNum_fz s.size h) false (Views.refl rfl) rfl (fun j hj => by first | omega | ((have hj0 : j = 0 := by omega); subst hj0; first | rfl | (simp only [Nat.add_zero, app_get, app_getk, sapp_get, sapp_getk, Nat.add_assoc, Nat.reduceAdd, List.getElem?_cons_zero, List.getElem?_cons_succ]; done) | simp)) (fun h => by cases h) ?_
  simp only [go_sem, v139, p139, ofBytes_rw, fz_fold, show ∀ a b : List UInt8, [rowB a, rowB b] = rw_ rowB [a, b] from fun _ _ => rfl]
  have := putNum_5 h
  have := toList_size s
  have hlen : [putNum s.size, s.toList].flatten.length ≤ lim := by simp [lim]; omega
  refine run_new (joined_ok [putNum s.size, s.toList] hlen (by simp)) true (.cons (View.row (by simp) rfl rfl (brows_ok _)) (.nil)) (by first | rfl | (simp only [Nat.add_zero, app_get, app_getk, sapp_get, sapp_getk, Nat.add_assoc, Nat.reduceAdd, List.getElem?_cons_zero, List.getElem?_cons_succ]; done) | simp) (bytes_ok _) (by simp [V.ids]) (fun _ => ⟨rfl, bytes_flat _⟩) ?_
  simp only [go_sem, v139, p139]
  refine awp_ret ?_
  try simp only [go_sem]
  rw [hQ]
  rw [show putText s = [putNum s.size, s.toList].flatten by simp [putText]]
  exact Ends.ownLast (.inl rfl) rfl (Last.mk2 [] _ _ _) rfl (bytes_ok _)
theorem specPutText_fz (s : ByteArray) (h : s.size ≤ 2147483647) : FS Try.prog 163 [] [.str s] (.fz 1 (rw_ byteC (putText s))) [] := (specPutText_ok s h).frz (bytes_ok _) (rw_len _ _).symm
theorem implPutText_fz (s : ByteArray) (h : s.size ≤ 2147483647) : FS Try.prog 139 [] [.str s] (.fz 1 (rw_ byteC (putText s))) [] := (implPutText_ok s h).frz (bytes_ok _) (rw_len _ _).symm
theorem putText_len {s : ByteArray} (h : s.size ≤ 2147483647) : (putText s).length ≤ s.size + 5 := by
  unfold putText
  have := putNum_5 h
  rw [List.length_append, toList_size]
  omega
def sumBytes (x : Nat) : List UInt8 := [u8 ((x / 16777216 : Nat) : Int), u8 ((x / 65536 % 256 : Nat) : Int), u8 ((x / 256 % 256 : Nat) : Int), u8 ((x % 256 : Nat) : Int)]
theorem u8_mod (n : Nat) : u8 ((n % 256 : Nat) : Int) = u8 (n : Int) := by
  unfold u8
  congr 1
  omega
theorem and_255 {a : Nat} (ha : a < 4294967296) : andI .i64 (a : Int) 255 = ((a % 256 : Nat) : Int) := by
  have e : (BitVec.ofInt (IntKind.bits .i64) (a : Int) &&& BitVec.ofInt (IntKind.bits .i64) (255 : Int)).toNat = a % 256 := by
    rw [BitVec.toNat_and, BitVec.ofInt_natCast, show (255 : Int) = ((255 : Nat) : Int) from rfl, BitVec.ofInt_natCast, BitVec.toNat_ofNat, BitVec.toNat_ofNat]
    rw [Nat.mod_eq_of_lt, Nat.mod_eq_of_lt]
    · exact Nat.and_two_pow_sub_one_eq_mod a 8
    · simp only [IntKind.bits]; omega
    · simp only [IntKind.bits]; omega
  unfold andI
  rw [e]
  exact wrap_i64 (by omega) (by omega)
theorem fdiv_nat (n k : Nat) : (n : Int).fdiv (k : Int) = ((n / k : Nat) : Int) := by
  rw [Int.fdiv_eq_ediv_of_nonneg _ (by omega)]; rfl
theorem specL10Sum_ok (bs : List UInt8) (h : bs.length ≤ lim) : FS Try.prog 114 [] [.fz 1 (rw_ byteC bs)] (.sl 0 1 0 4) [⟨1, rw_ byteC (sumBytes (crc bs))⟩] := by
  refine FS.of (X := X114) (ac := A114) (os := O114) Try.func114 (by rfl) (by rfl) (by kernel_rfl) o114 (Nat.le_of_ble_eq_true rfl) ?_
  show AWP X114 A114 (Ends X114.vs O114 0 _ _) [.fz 1 (rw_ byteC bs), .tup [], .tup []] []
  obtain ⟨Q, hQ⟩ : ∃ Q, Q = Ends X114.vs O114 0 (.sl 0 1 0 4) [⟨1, rw_ byteC (sumBytes (crc bs))⟩] := ⟨_, rfl⟩
  rw [← hQ]
  have hx := crc_lt bs
  refine awp_sr ?_
  simp only [go_sem, R114_0, v114, p114]
  refine awp_sr ?_
  simp only [go_sem, R114_1, v114, p114]
  refine run_see (specCrc_ok bs h) false (Views.refl rfl) rfl (fun j hj => by first | omega | ((have hj0 : j = 0 := by omega); subst hj0; first | rfl | (simp only [Nat.add_zero, app_get, app_getk, sapp_get, sapp_getk, Nat.add_assoc, Nat.reduceAdd, List.getElem?_cons_zero, List.getElem?_cons_succ]; done) | simp)) (fun h => by cases h) ?_
  simp only [go_sem, v114, p114]
  generalize crc bs = x at hx hQ
  refine awp_sr ?_
  simp only [go_sem, R114_2, v114, p114, wrap_u8, show ((x : Int).tdiv 16777216) = ((x / 16777216 : Nat) : Int) from tdiv_nat x 16777216, show ((x : Int).tdiv 65536) = ((x / 65536 : Nat) : Int) from tdiv_nat x 65536, show ((x : Int).tdiv 256) = ((x / 256 : Nat) : Int) from tdiv_nat x 256, show ((x : Int).tmod 256) = ((x % 256 : Nat) : Int) from tmod_nat x 256, wrap_i64 (n := ((x / 16777216 : Nat) : Int)) (by omega) (by omega), wrap_i64 (n := ((x / 65536 : Nat) : Int)) (by omega) (by omega), wrap_i64 (n := ((x / 256 : Nat) : Int)) (by omega) (by omega), show (((x / 65536 : Nat) : Int).tmod 256) = ((x / 65536 % 256 : Nat) : Int) from tmod_nat _ 256, show (((x / 256 : Nat) : Int).tmod 256) = ((x / 256 % 256 : Nat) : Int) from tmod_nat _ 256]
  refine awp_ret ?_
  try simp only [go_sem]
  rw [hQ]
  exact Ends.ownLast (.inl rfl) rfl (Last.mk [] _) rfl (bytes_ok (sumBytes x))
theorem implCrcBytes_ok (bs : List UInt8) (h : bs.length ≤ lim) : FS Try.prog 120 [] [.fz 1 (rw_ byteC bs)] (.sl 0 1 0 4) [⟨1, rw_ byteC (sumBytes (crc bs))⟩] := by
  refine FS.of (X := X120) (ac := A120) (os := O120) Try.func120 (by rfl) (by rfl) (by kernel_rfl) o120 (Nat.le_of_ble_eq_true rfl) ?_
  show AWP X120 A120 (Ends X120.vs O120 0 _ _) [.fz 1 (rw_ byteC bs), .tup [], .tup []] []
  obtain ⟨Q, hQ⟩ : ∃ Q, Q = Ends X120.vs O120 0 (.sl 0 1 0 4) [⟨1, rw_ byteC (sumBytes (crc bs))⟩] := ⟨_, rfl⟩
  rw [← hQ]
  have hx := crc_lt bs
  refine awp_sr ?_
  simp only [go_sem, R120_0, v120, p120]
  refine awp_sr ?_
  simp only [go_sem, R120_1, v120, p120]
  refine run_see (implCrc_ok bs h) false (Views.refl rfl) rfl (fun j hj => by first | omega | ((have hj0 : j = 0 := by omega); subst hj0; first | rfl | (simp only [Nat.add_zero, app_get, app_getk, sapp_get, sapp_getk, Nat.add_assoc, Nat.reduceAdd, List.getElem?_cons_zero, List.getElem?_cons_succ]; done) | simp)) (fun h => by cases h) ?_
  simp only [go_sem, v120, p120]
  generalize crc bs = x at hx hQ
  refine awp_sr ?_
  simp only [go_sem, R120_2, v120, p120, wrap_u8]
  have f1 : (x : Int).fdiv (2 ^ min (Int.toNat 24) 64) = ((x / 16777216 : Nat) : Int) := fdiv_nat x 16777216
  have f2 : (x : Int).fdiv (2 ^ min (Int.toNat 16) 64) = ((x / 65536 : Nat) : Int) := fdiv_nat x 65536
  have f3 : (x : Int).fdiv (2 ^ min (Int.toNat 8) 64) = ((x / 256 : Nat) : Int) := fdiv_nat x 256
  rw [f1, f2, f3, and_255 (by omega), and_255 (by omega), and_255 (by omega), and_255 (by omega), u8_mod]
  refine awp_ret ?_
  try simp only [go_sem]
  rw [hQ]
  exact Ends.ownLast (.inl rfl) rfl (Last.mk [] _) rfl (bytes_ok (sumBytes x))
theorem specL10Sum_fz (bs : List UInt8) (h : bs.length ≤ lim) : FS Try.prog 114 [] [.fz 1 (rw_ byteC bs)] (.fz 1 (rw_ byteC (sumBytes (crc bs)))) [] := (specL10Sum_ok bs h).frz (bytes_ok _) rfl
theorem implCrcBytes_fz (bs : List UInt8) (h : bs.length ≤ lim) : FS Try.prog 120 [] [.fz 1 (rw_ byteC bs)] (.fz 1 (rw_ byteC (sumBytes (crc bs)))) [] := (implCrcBytes_ok bs h).frz (bytes_ok _) rfl
end Go.Proofs.Ytffigokicddekaa.Abs
/- Lists and states as bytes, walked in both texts. No condition. -/
set_option linter.unusedVariables false
set_option linter.unusedSimpArgs false
set_option maxRecDepth 10000
namespace Go.Proofs.Ytffigokicddekaa.Abs
open Go Go.Proofs
def R155_0 : List AR := [⟨(some 2), none, 0, (.mov (.k .nl))⟩]
def R155_1 : List AR := [⟨(some 5), none, 0, (.mov (.t 0))⟩, ⟨(some 6), none, 0, (.len (.t 5))⟩, ⟨(some 7), none, 0, (.call false 0 1 154 [(.t 6)])⟩, ⟨(some 3), none, 0, (.mov (.t 7))⟩]
def R155_2 : List AR := [⟨(some 4), none, 0, (.mov (.k (.int .i64 0)))⟩]
def R155_3 : List AR := [⟨(some 8), none, 0, (.mov (.t 4))⟩, ⟨(some 9), none, 0, (.mov (.t 0))⟩, ⟨(some 10), none, 0, (.len (.t 9))⟩, ⟨(some 11), none, 0, (.bin .lss (.t 8) (.t 10))⟩]
def R155_4 : List AR := [⟨(some 14), none, 0, (.mov (.t 3))⟩, ⟨(some 15), none, 0, (.mov (.t 0))⟩, ⟨(some 16), none, 0, (.mov (.t 4))⟩, ⟨(some 17), none, 0, (.iaddr 1 (.t 15) (.t 16))⟩, ⟨(some 18), none, 0, (.load 1 false (.t 17))⟩, ⟨(some 19), none, 0, (.call false 0 1 154 [(.t 18)])⟩, ⟨(some 20), none, 0, (.app 1 1 1 (.t 14) (.t 19))⟩, ⟨(some 3), none, 0, (.mov (.t 20))⟩]
def R155_5 : List AR := [⟨(some 12), none, 0, (.mov (.t 4))⟩, ⟨(some 13), none, 0, (.bin .add (.t 12) (.k (.int .i64 1)))⟩, ⟨(some 4), none, 0, (.mov (.t 13))⟩]
def A155_0 : AC := (.seq (.block 1 (.reg 2 R155_4)) (.reg 0 R155_5))
def L155_0 : AC := (.seq (.seq (.reg 0 R155_3) (.cond (.t 11) .skip (.exit 0))) A155_0)
def R155_6 : List AR := [⟨(some 21), none, 0, (.mov (.t 3))⟩, ⟨(some 2), none, 0, (.mov (.t 21))⟩]
def A155_1 : AC := (.seq (.reg 0 R155_6) .ret)
def A155_2 : AC := (.seq (.seq (.reg 0 R155_2) (.block 0 (.loop L155_0))) A155_1)
def A155_3 : AC := (.seq (.reg 1 R155_1) A155_2)
def A155 : AC := (.seq (.reg 0 R155_0) A155_3)
def O155 : List AO := [(.mov (.t 2))]
def G155 : Fns := ⟨fun f => false, fun f => if f = 154 then 1 else 0, false⟩
noncomputable def X155 : Cx := ⟨Try.prog, G155, drawD, 22, [0, 2, 3, 4, 11]⟩
theorem c155 : (Try.f155.body).bind (compC X155.P X155.Γ X155.D X155.nt) = some A155 := by kernel_rfl
theorem o155 : compRes X155.P Try.f155.results.toList = some O155 := by kernel_rfl
theorem v155 : X155.vs = [0, 2, 3, 4, 11] := rfl
theorem p155 : X155.P = Try.prog := rfl
def R119_0 : List AR := [⟨(some 2), none, 0, (.mov (.k .nl))⟩]
def R119_1 : List AR := [⟨(some 6), none, 0, (.mov (.t 0))⟩, ⟨(some 7), none, 0, (.len (.t 6))⟩, ⟨(some 8), none, 0, (.call false 0 1 118 [(.t 7)])⟩, ⟨(some 3), none, 0, (.mov (.t 8))⟩]
def R119_2 : List AR := [⟨(some 9), none, 0, (.mov (.t 0))⟩, ⟨(some 10), none, 0, (.len (.t 9))⟩, ⟨(some 11), none, 0, (.mov (.k (.int .i64 0)))⟩]
def R119_3 : List AR := [⟨(some 12), none, 0, (.bin .lss (.t 11) (.t 10))⟩]
def R119_4 : List AR := [⟨(some 13), none, 0, (.iaddr 1 (.t 9) (.t 11))⟩, ⟨(some 14), none, 0, (.load 1 false (.t 13))⟩, ⟨(some 5), none, 0, (.mov (.t 14))⟩]
def R119_5 : List AR := [⟨(some 15), none, 0, (.mov (.t 3))⟩, ⟨(some 16), none, 0, (.mov (.t 5))⟩, ⟨(some 17), none, 0, (.call false 0 1 118 [(.t 16)])⟩, ⟨(some 18), none, 0, (.bslice 1 1 2 [.nl] [(0, (.t 15)), (1, (.t 17))])⟩, ⟨(some 19), none, 0, (.call false 2 1 117 [(.t 18)])⟩, ⟨(some 3), none, 0, (.mov (.t 19))⟩]
def R119_6 : List AR := [⟨(some 20), none, 0, (.bin .add (.t 11) (.k (.int .i64 1)))⟩, ⟨(some 11), none, 0, (.mov (.t 20))⟩]
def A119_0 : AC := (.seq (.block 1 (.seq (.reg 0 R119_4) (.reg 3 R119_5))) (.reg 0 R119_6))
def A119_1 : AC := (.seq (.cond (.t 12) .skip (.exit 0)) A119_0)
def L119_0 : AC := (.seq (.reg 0 R119_3) A119_1)
def R119_7 : List AR := [⟨(some 21), none, 0, (.mov (.t 3))⟩, ⟨(some 2), none, 0, (.mov (.t 21))⟩]
def A119_2 : AC := (.seq (.reg 0 R119_7) .ret)
def A119_3 : AC := (.seq (.seq (.reg 0 R119_2) (.block 0 (.loop L119_0))) A119_2)
def A119_4 : AC := (.seq (.reg 1 R119_1) A119_3)
def A119 : AC := (.seq (.reg 0 R119_0) A119_4)
def O119 : List AO := [(.mov (.t 2))]
def G119 : Fns := ⟨fun f => false, fun f => if f = 118 then 1 else if f = 117 then 1 else 0, false⟩
noncomputable def X119 : Cx := ⟨Try.prog, G119, drawD, 22, [0, 2, 3, 5, 9, 10, 11, 12]⟩
theorem c119 : (Try.f119.body).bind (compC X119.P X119.Γ X119.D X119.nt) = some A119 := by kernel_rfl
theorem o119 : compRes X119.P Try.f119.results.toList = some O119 := by kernel_rfl
theorem v119 : X119.vs = [0, 2, 3, 5, 9, 10, 11, 12] := rfl
theorem p119 : X119.P = Try.prog := rfl
def fit (n : Int) : Prop := 0 ≤ n ∧ n ≤ 2147483647
def putI (n : Int) : List UInt8 := putNum n.toNat
theorem specPutI_fz {n : Int} (h : fit n) : FS Try.prog 154 [] [.int .i64 n] (.fz 1 (rw_ byteC (putI n))) [] := by
  have := specPutNum_fz n.toNat (by have := h.1; have := h.2; omega)
  rw [show ((n.toNat : Nat) : Int) = n by have := h.1; omega] at this
  exact this
theorem implPutI_fz {n : Int} (h : fit n) : FS Try.prog 118 [] [.int .i64 n] (.fz 1 (rw_ byteC (putI n))) [] := by
  have := implPutNum_fz n.toNat (by have := h.1; have := h.2; omega)
  rw [show ((n.toNat : Nat) : Int) = n by have := h.1; omega] at this
  exact this
theorem putI_5 {n : Int} (h : fit n) : (putI n).length ≤ 5 := putNum_5 (by have := h.2; omega)
def numsB (xs : List Int) : List UInt8 := (xs.map putI).flatten
def listB (xs : List Int) : List UInt8 := putNum xs.length ++ numsB xs
/-- parts laid one behind the other -/
def cat {α : Type} (f : α → List UInt8) (xs : List α) : List UInt8 := (xs.map f).flatten
theorem cat_take {α : Type} (f : α → List UInt8) {xs : List α} {i : Nat} (h : i < xs.length) : cat f (xs.take (i + 1)) = cat f (xs.take i) ++ f xs[i] := by
  unfold cat
  rw [List.take_succ_eq_append_getElem h, List.map_append, List.flatten_append]; simp
theorem cat_le {α : Type} (f : α → List UInt8) (xs : List α) (i : Nat) : (cat f (xs.take i)).length ≤ (cat f xs).length := by
  unfold cat
  conv => rhs; rw [← List.take_append_drop i xs, List.map_append, List.flatten_append, List.length_append]
  omega
theorem cat_len {α : Type} (f : α → List UInt8) {k : Nat} : ∀ {xs : List α}, (∀ a ∈ xs, (f a).length ≤ k) → (cat f xs).length ≤ xs.length * k
  | [], _ => by simp [cat]
  | x :: xs, h => by
    have h1 := h x (by simp)
    have h2 := cat_len f (xs := xs) fun a ha => h a (by simp [ha])
    unfold cat at *
    simp only [List.map_cons, List.flatten_cons, List.length_append, List.length_cons, Nat.add_mul]
    omega
theorem numsB_len {xs : List Int} (h : ∀ x ∈ xs, fit x) : (cat putI xs).length ≤ xs.length * 5 := cat_len putI fun a ha => putI_5 (h a ha)
theorem pair_fold (a b : List UInt8) : [rowB a, rowB b] = rw_ rowB [a, b] := rfl
theorem specL10List_ok (xs : List Int) (h : ∀ x ∈ xs, fit x) (h0 : xs.length ≤ 1048576) : FS Try.prog 155 [] [.fz 1 (rw_ intC xs)] (.sl 0 1 0 (listB xs).length) [⟨1, rw_ byteC (listB xs)⟩] := by
  refine FS.of (X := X155) (ac := A155) (os := O155) Try.func155 (by rfl) (by rfl) (by kernel_rfl) o155 (Nat.le_of_ble_eq_true rfl) ?_
  show AWP X155 A155 (Ends X155.vs O155 0 _ _) [.fz 1 (rw_ intC xs), .tup [], .tup [], .tup [], .tup []] []
  obtain ⟨Q, hQ⟩ : ∃ Q, Q = Ends X155.vs O155 0 (.sl 0 1 0 (listB xs).length) [⟨1, rw_ byteC (listB xs)⟩] := ⟨_, rfl⟩
  rw [← hQ]
  have h5 := putNum_5 (n := xs.length) (by omega)
  have hb := numsB_len h
  refine awp_sr ?_
  simp only [go_sem, R155_0, v155, p155]
  refine awp_sr ?_
  simp only [go_sem, R155_1, v155, p155]
  refine run_new (specPutNum_ok xs.length (by omega)) false (Views.refl rfl) (by first | rfl | (simp only [Nat.add_zero, app_get, app_getk, sapp_get, sapp_getk, Nat.add_assoc, Nat.reduceAdd, List.getElem?_cons_zero, List.getElem?_cons_succ]; done) | simp) (bytes_ok _) (by simp [V.ids]) (fun h => by cases h) ?_
  simp only [go_sem, v155, p155]
  refine awp_sr2 ?_
  simp only [go_sem, R155_2, v155, p155]
  obtain ⟨I, hI⟩ : ∃ I : Nat → List V → Store → Prop, I = fun mM L σ => ∃ i out r q τ y2 y11, xs.length - i = mM ∧ (i ≤ xs.length ∧ out = putNum xs.length ++ cat putI (xs.take i) ∧ q = out.length ∧ Last τ r (.live ⟨1, rw_ byteC out⟩)) ∧ L = [.fz 1 (rw_ intC xs), y2, .sl r 1 0 q, .int .i64 (i : Nat), y11] ∧ σ = τ := ⟨_, rfl⟩
  first | refine awp_for I (xs.length) ?_ ?_ | refine awp_seq (awp_for I (xs.length) ?_ ?_)
  · rw [hI]
    refine ⟨0, putNum xs.length, _, _, _, _, _, rfl, ?_, rfl, rfl⟩
    exact ⟨Nat.zero_le _, (List.append_nil _).symm, rfl, Last.mk [] _⟩
  intro mM L σ hIn
  rw [hI] at hIn
  obtain ⟨i, out, r, q, τ, y2, y11, rfl, hP, rfl, rfl⟩ := hIn
  obtain ⟨hi, ho, rfl, rest, rfl, rfl⟩ := hP
  refine awp_sr2 ?_
  simp only [go_sem, R155_3, v155, p155]
  refine awp_if rfl ?_ ?_
  · intro h1
    have h1 : i < xs.length := by omega
    have e1 := cat_take putI h1
    have e2 := cat_le putI xs (i + 1)
    have e3 := congrArg List.length e1
    have e4 := congrArg List.length ho
    rw [List.length_append] at e3 e4
    refine awp_skip ?_
    simp only [go_sem]
    first | refine awp_block ?_ | refine awp_seq (awp_block ?_)
    refine awp_reg ?_
    simp only [go_sem, R155_4, v155, p155, rw_at _ h1, intC]
    refine run_see (specPutI_fz (h _ (List.getElem_mem h1))) false (Views.refl rfl) rfl (fun j hj => by first | omega | ((have hj0 : j = 0 := by omega); subst hj0; first | rfl | (simp only [Nat.add_zero, app_get, app_getk, sapp_get, sapp_getk, Nat.add_assoc, Nat.reduceAdd, List.getElem?_cons_zero, List.getElem?_cons_succ]; done) | simp)) (fun h => by cases h) ?_
    simp only [go_sem, v155, p155]
    refine ⟨by omega, ?_⟩
    refine awp_reg ?_
    simp only [go_sem, R155_5, v155, p155, wrap_succ (i := i) (by omega)]
    refine ⟨xs.length - (i + 1), ?_, ?_⟩
    rotate_left
    rw [hI]
    refine ⟨i + 1, out ++ putI xs[i], _, _, _, _, _, rfl, ?_, rfl, rfl⟩
    · rw [e1, ← List.append_assoc, ← ho]; exact ⟨by omega, rfl, by simp, Last.mk2 _ _ _ _⟩
    · omega
  · intro h1
    refine awp_exit ?_
    simp only [go_sem]
    have : i = xs.length := by omega
    subst this
    rw [List.take_length] at ho
    subst ho
    refine awp_sr ?_
    simp only [go_sem, R155_6, v155, p155]
    refine awp_ret ?_
    try simp only [go_sem]
    rw [hQ]
    exact Ends.ownLast (.inl rfl) rfl (Last.mk _ _) List.length_append.symm (bytes_ok _)
theorem implPutNums_ok (xs : List Int) (h : ∀ x ∈ xs, fit x) (h0 : xs.length ≤ 1048576) : FS Try.prog 119 [] [.fz 1 (rw_ intC xs)] (.fz 1 (rw_ byteC (listB xs))) [] := by
  refine FS.of (X := X119) (ac := A119) (os := O119) Try.func119 (by rfl) (by rfl) (by kernel_rfl) o119 (Nat.le_of_ble_eq_true rfl) ?_
  show AWP X119 A119 (Ends X119.vs O119 0 _ _) [.fz 1 (rw_ intC xs), .tup [], .tup [], .tup [], .tup [], .tup [], .tup [], .tup []] []
  obtain ⟨Q, hQ⟩ : ∃ Q, Q = Ends X119.vs O119 0 (.fz 1 (rw_ byteC (listB xs))) [] := ⟨_, rfl⟩
  rw [← hQ]
  have h5 := putNum_5 (n := xs.length) (by omega)
  have hb := numsB_len h
  refine awp_sr ?_
  simp only [go_sem, R119_0, v119, p119]
  refine awp_sr ?_
  simp only [go_sem, R119_1, v119, p119]
  refine run_see (implPutNum_fz xs.length (by omega)) false (Views.refl rfl) rfl (fun j hj => by first | omega | ((have hj0 : j = 0 := by omega); subst hj0; first | rfl | (simp only [Nat.add_zero, app_get, app_getk, sapp_get, sapp_getk, Nat.add_assoc, Nat.reduceAdd, List.getElem?_cons_zero, List.getElem?_cons_succ]; done) | simp)) (fun h => by cases h) ?_
  simp only [go_sem, v119, p119]
  refine awp_sr2 ?_
  simp only [go_sem, R119_2, v119, p119]
  obtain ⟨I, hI⟩ : ∃ I : Nat → List V → Store → Prop, I = fun mM L σ => ∃ i out τ y0 y2 y5 y12, xs.length - i = mM ∧ (i ≤ xs.length ∧ out = putNum xs.length ++ cat putI (xs.take i)) ∧ L = [y0, y2, .fz 1 (rw_ byteC out), y5, .fz 1 (rw_ intC xs), .int .i64 (xs.length : Nat), .int .i64 (i : Nat), y12] ∧ σ = τ := ⟨_, rfl⟩
  first | refine awp_for I (xs.length) ?_ ?_ | refine awp_seq (awp_for I (xs.length) ?_ ?_)
  · rw [hI]
    refine ⟨0, _, _, _, _, _, _, rfl, ?_, rfl, rfl⟩
    exact ⟨Nat.zero_le _, (List.append_nil _).symm⟩
  intro mM L σ hIn
  rw [hI] at hIn
  obtain ⟨i, out, τ, y0, y2, y5, y12, rfl, hP, rfl, rfl⟩ := hIn
  obtain ⟨hi, ho⟩ := hP
  refine awp_sr ?_
  simp only [go_sem, R119_3, v119, p119]
  refine awp_seq ?_
  refine awp_if rfl ?_ ?_
  · intro h1
    have h1 : i < xs.length := by omega
    have e1 := cat_take putI h1
    have e2 := cat_le putI xs (i + 1)
    have e3 := congrArg List.length e1
    have e4 := congrArg List.length ho
    rw [List.length_append] at e3 e4
    refine awp_skip ?_
    simp only [go_sem]
    first | refine awp_block ?_ | refine awp_seq (awp_block ?_)
    refine awp_sr ?_
    simp only [go_sem, R119_4, v119, p119, rw_at _ h1, intC]
    refine awp_reg ?_
    simp only [go_sem, R119_5, v119, p119]
    refine run_see (implPutI_fz (h _ (List.getElem_mem h1))) false (Views.refl rfl) rfl (fun j hj => by first | omega | ((have hj0 : j = 0 := by omega); subst hj0; first | rfl | (simp only [Nat.add_zero, app_get, app_getk, sapp_get, sapp_getk, Nat.add_assoc, Nat.reduceAdd, List.getElem?_cons_zero, List.getElem?_cons_succ]; done) | simp)) (fun h => by cases h) ?_
    simp only [go_sem, v119, p119, fz_fold, pair_fold]
    have hj : [out, putI xs[i]].flatten.length ≤ lim := by simp [lim]; omega
    refine run_new (joined_ok [out, putI xs[i]] hj (by simp)) true (.cons (View.row (by simp) (by simp) rfl (brows_ok _)) (.nil)) (by first | rfl | (simp only [Nat.add_zero, app_get, app_getk, sapp_get, sapp_getk, Nat.add_assoc, Nat.reduceAdd, List.getElem?_cons_zero, List.getElem?_cons_succ]; done) | simp) (bytes_ok _) (by simp [V.ids]) (fun _ => ⟨rfl, bytes_flat _⟩) ?_
    simp only [go_sem, v119, p119]
    refine awp_freeze (o := σ.length + 2) (ob := ⟨1, rw_ byteC [out, putI xs[i]].flatten⟩) (by simp) (bytes_ok _) ?_
    simp only [go_sem, v119, p119]
    refine awp_reg ?_
    simp only [go_sem, R119_6, v119, p119, wrap_succ (i := i) (by omega)]
    refine ⟨xs.length - (i + 1), ?_, ?_⟩
    rotate_left
    rw [hI]
    refine ⟨i + 1, _, _, _, _, _, _, rfl, ?_, rfl, rfl⟩
    · rw [e1, ← List.append_assoc, ← ho]; exact ⟨by omega, by simp⟩
    · omega
  · intro h1
    refine awp_exit ?_
    simp only [go_sem]
    have : i = xs.length := by omega
    subst this
    rw [List.take_length] at ho
    subst ho
    refine awp_sr ?_
    simp only [go_sem, R119_7, v119, p119]
    refine awp_ret ?_
    try simp only [go_sem]
    rw [hQ]
    exact Ends.is (.inl rfl) rfl rfl rfl
end Go.Proofs.Ytffigokicddekaa.Abs
/- States as bytes, walked in both texts. No condition. -/
set_option linter.unusedVariables false
set_option linter.unusedSimpArgs false
set_option maxRecDepth 10000
namespace Go.Proofs.Ytffigokicddekaa.Abs
open Go Go.Proofs
def R128_0 : List AR := [⟨(some 1), none, 0, (.box 0 2 (.t 0))⟩, ⟨(some 2), none, 0, (.mov (.k .nl))⟩]
def R128_1 : List AR := [⟨(some 9), none, 0, (.faddr 0 (.t 1))⟩, ⟨(some 10), none, 0, (.load 1 false (.t 9))⟩, ⟨(some 11), none, 0, (.len (.t 10))⟩, ⟨(some 12), none, 0, (.call false 0 1 154 [(.t 11)])⟩, ⟨(some 3), none, 0, (.mov (.t 12))⟩]
def R128_2 : List AR := [⟨(some 4), none, 0, (.mov (.k (.int .i64 0)))⟩]
def R128_3 : List AR := [⟨(some 13), none, 0, (.mov (.t 4))⟩, ⟨(some 14), none, 0, (.faddr 0 (.t 1))⟩, ⟨(some 15), none, 0, (.load 1 false (.t 14))⟩, ⟨(some 16), none, 0, (.len (.t 15))⟩, ⟨(some 17), none, 0, (.bin .lss (.t 13) (.t 16))⟩]
def R128_4 : List AR := [⟨(some 20), none, 0, (.faddr 0 (.t 1))⟩, ⟨(some 21), none, 0, (.load 1 false (.t 20))⟩, ⟨(some 22), none, 0, (.mov (.t 4))⟩, ⟨(some 23), none, 0, (.iaddr 6 (.t 21) (.t 22))⟩, ⟨(some 24), none, 0, (.faddr 1 (.t 23))⟩, ⟨(some 25), none, 0, (.load 5 true (.t 24))⟩, ⟨(some 5), none, 0, (.alloc 0 5 [(.int .i64 0), (.int .i64 0), (.int .i64 0), (.int .i64 0), (.str ⟨⟨[]⟩⟩)])⟩, ⟨none, none, 0, (.store 5 (.t 5) (.t 25))⟩]
def R128_5 : List AR := [⟨(some 26), none, 0, (.faddr 0 (.t 1))⟩, ⟨(some 27), none, 0, (.load 1 false (.t 26))⟩, ⟨(some 28), none, 0, (.mov (.t 4))⟩, ⟨(some 29), none, 0, (.iaddr 6 (.t 27) (.t 28))⟩, ⟨(some 30), none, 0, (.faddr 0 (.t 29))⟩, ⟨(some 31), none, 0, (.load 1 false (.t 30))⟩, ⟨(some 32), none, 0, (.faddr 0 (.t 5))⟩, ⟨(some 33), none, 0, (.load 1 false (.t 32))⟩, ⟨(some 34), none, 0, (.faddr 1 (.t 5))⟩, ⟨(some 35), none, 0, (.load 1 false (.t 34))⟩, ⟨(some 36), none, 0, (.faddr 2 (.t 5))⟩, ⟨(some 37), none, 0, (.load 1 false (.t 36))⟩, ⟨(some 38), none, 0, (.faddr 3 (.t 5))⟩, ⟨(some 39), none, 0, (.load 1 false (.t 38))⟩, ⟨(some 40), none, 0, (.bslice 0 1 5 [(.int .i64 0)] [(0, (.t 31)), (1, (.t 33)), (2, (.t 35)), (3, (.t 37)), (4, (.t 39))])⟩, ⟨(some 6), none, 0, (.mov (.t 40))⟩]
def R128_6 : List AR := [⟨(some 7), none, 0, (.mov (.k (.int .i64 0)))⟩]
def R128_7 : List AR := [⟨(some 41), none, 0, (.mov (.t 7))⟩, ⟨(some 42), none, 0, (.mov (.t 6))⟩, ⟨(some 43), none, 0, (.len (.t 42))⟩, ⟨(some 44), none, 0, (.bin .lss (.t 41) (.t 43))⟩]
def R128_8 : List AR := [⟨(some 47), none, 0, (.mov (.t 3))⟩, ⟨(some 48), none, 0, (.mov (.t 6))⟩, ⟨(some 49), none, 0, (.mov (.t 7))⟩, ⟨(some 50), none, 0, (.iaddr 1 (.t 48) (.t 49))⟩, ⟨(some 51), none, 0, (.load 1 false (.t 50))⟩, ⟨(some 52), none, 0, (.call false 0 1 154 [(.t 51)])⟩, ⟨(some 53), none, 0, (.app 1 1 1 (.t 47) (.t 52))⟩, ⟨(some 3), none, 0, (.mov (.t 53))⟩]
def R128_9 : List AR := [⟨(some 45), none, 0, (.mov (.t 7))⟩, ⟨(some 46), none, 0, (.bin .add (.t 45) (.k (.int .i64 1)))⟩, ⟨(some 7), none, 0, (.mov (.t 46))⟩]
def A128_0 : AC := (.seq (.block 3 (.reg 2 R128_8)) (.reg 0 R128_9))
def L128_0 : AC := (.seq (.seq (.reg 0 R128_7) (.cond (.t 44) .skip (.exit 2))) A128_0)
def R128_10 : List AR := [⟨(some 54), none, 0, (.mov (.t 3))⟩, ⟨(some 55), none, 0, (.faddr 4 (.t 5))⟩, ⟨(some 56), none, 0, (.load 1 false (.t 55))⟩, ⟨(some 57), none, 0, (.call false 0 0 163 [(.t 56)])⟩, ⟨(some 58), none, 0, (.app 0 1 1 (.t 54) (.t 57))⟩, ⟨(some 3), none, 0, (.mov (.t 58))⟩]
def A128_1 : AC := (.seq (.seq (.reg 0 R128_6) (.block 2 (.loop L128_0))) (.reg 1 R128_10))
def A128_2 : AC := (.seq (.draw 1 R128_5) A128_1)
def R128_11 : List AR := [⟨(some 18), none, 0, (.mov (.t 4))⟩, ⟨(some 19), none, 0, (.bin .add (.t 18) (.k (.int .i64 1)))⟩, ⟨(some 4), none, 0, (.mov (.t 19))⟩]
def A128_3 : AC := (.seq (.block 1 (.seq (.reg 1 R128_4) A128_2)) (.reg 0 R128_11))
def L128_1 : AC := (.seq (.seq (.reg 0 R128_3) (.cond (.t 17) .skip (.exit 0))) A128_3)
def R128_12 : List AR := [⟨(some 59), none, 0, (.mov (.t 3))⟩, ⟨(some 60), none, 0, (.faddr 1 (.t 1))⟩, ⟨(some 61), none, 0, (.load 1 false (.t 60))⟩, ⟨(some 62), none, 0, (.len (.t 61))⟩, ⟨(some 63), none, 0, (.call false 0 1 154 [(.t 62)])⟩, ⟨(some 64), none, 0, (.app 1 1 1 (.t 59) (.t 63))⟩, ⟨(some 3), none, 0, (.mov (.t 64))⟩]
def R128_13 : List AR := [⟨(some 8), none, 0, (.mov (.k (.int .i64 0)))⟩]
def R128_14 : List AR := [⟨(some 65), none, 0, (.mov (.t 8))⟩, ⟨(some 66), none, 0, (.faddr 1 (.t 1))⟩, ⟨(some 67), none, 0, (.load 1 false (.t 66))⟩, ⟨(some 68), none, 0, (.len (.t 67))⟩, ⟨(some 69), none, 0, (.bin .lss (.t 65) (.t 68))⟩]
def R128_15 : List AR := [⟨(some 72), none, 0, (.mov (.t 3))⟩, ⟨(some 73), none, 0, (.faddr 1 (.t 1))⟩, ⟨(some 74), none, 0, (.load 1 false (.t 73))⟩, ⟨(some 75), none, 0, (.mov (.t 8))⟩, ⟨(some 76), none, 0, (.iaddr 2 (.t 74) (.t 75))⟩, ⟨(some 77), none, 0, (.faddr 0 (.t 76))⟩, ⟨(some 78), none, 0, (.load 1 false (.t 77))⟩, ⟨(some 79), none, 0, (.call false 0 1 154 [(.t 78)])⟩, ⟨(some 80), none, 0, (.app 1 1 1 (.t 72) (.t 79))⟩, ⟨(some 3), none, 0, (.mov (.t 80))⟩]
def R128_16 : List AR := [⟨(some 81), none, 0, (.mov (.t 3))⟩, ⟨(some 82), none, 0, (.faddr 1 (.t 1))⟩, ⟨(some 83), none, 0, (.load 1 false (.t 82))⟩, ⟨(some 84), none, 0, (.mov (.t 8))⟩, ⟨(some 85), none, 0, (.iaddr 2 (.t 83) (.t 84))⟩, ⟨(some 86), none, 0, (.faddr 1 (.t 85))⟩, ⟨(some 87), none, 0, (.load 1 false (.t 86))⟩, ⟨(some 88), none, 0, (.call false 0 1 154 [(.t 87)])⟩, ⟨(some 89), none, 0, (.app 1 1 1 (.t 81) (.t 88))⟩, ⟨(some 3), none, 0, (.mov (.t 89))⟩]
def R128_17 : List AR := [⟨(some 70), none, 0, (.mov (.t 8))⟩, ⟨(some 71), none, 0, (.bin .add (.t 70) (.k (.int .i64 1)))⟩, ⟨(some 8), none, 0, (.mov (.t 71))⟩]
def A128_4 : AC := (.seq (.block 5 (.seq (.reg 2 R128_15) (.reg 2 R128_16))) (.reg 0 R128_17))
def L128_2 : AC := (.seq (.seq (.reg 0 R128_14) (.cond (.t 69) .skip (.exit 4))) A128_4)
def R128_18 : List AR := [⟨(some 90), none, 0, (.mov (.t 3))⟩, ⟨(some 2), none, 0, (.mov (.t 90))⟩]
def A128_5 : AC := (.seq (.reg 0 R128_18) .ret)
def A128_6 : AC := (.seq (.seq (.reg 0 R128_13) (.block 4 (.loop L128_2))) A128_5)
def A128_7 : AC := (.seq (.reg 2 R128_12) A128_6)
def A128_8 : AC := (.seq (.seq (.reg 0 R128_2) (.block 0 (.loop L128_1))) A128_7)
def A128_9 : AC := (.seq (.reg 1 R128_1) A128_8)
def A128 : AC := (.seq (.reg 1 R128_0) A128_9)
def O128 : List AO := [(.mov (.t 2))]
def G128 : Fns := ⟨fun f => false, fun f => if f = 154 then 1 else 0, false⟩
noncomputable def X128 : Cx := ⟨Try.prog, G128, drawD, 91, [0, 1, 2, 3, 4, 5, 6, 7, 8, 17, 44, 69]⟩
theorem c128 : (Try.f128.body).bind (compC X128.P X128.Γ X128.D X128.nt) = some A128 := by kernel_rfl
theorem o128 : compRes X128.P Try.f128.results.toList = some O128 := by kernel_rfl
theorem v128 : X128.vs = [0, 1, 2, 3, 4, 5, 6, 7, 8, 17, 44, 69] := rfl
theorem p128 : X128.P = Try.prog := rfl
def R86_0 : List AR := [⟨(some 1), none, 0, (.box 0 2 (.t 0))⟩, ⟨(some 2), none, 0, (.mov (.k .nl))⟩]
def R86_1 : List AR := [⟨(some 9), none, 0, (.load 2 true (.t 1))⟩, ⟨(some 10), none, 0, (.call false 0 0 59 [(.t 9)])⟩, ⟨(some 11), none, 0, (.not (.t 10))⟩]
def R86_2 : List AR := [⟨(some 2), none, 0, (.mov (.k .nl))⟩]
def R86_3 : List AR := [⟨(some 12), none, 0, (.faddr 0 (.t 1))⟩, ⟨(some 13), none, 0, (.load 1 false (.t 12))⟩, ⟨(some 14), none, 0, (.len (.t 13))⟩, ⟨(some 15), none, 0, (.call false 0 0 118 [(.t 14)])⟩, ⟨(some 3), none, 0, (.mov (.t 15))⟩]
def R86_4 : List AR := [⟨(some 16), none, 0, (.faddr 0 (.t 1))⟩, ⟨(some 17), none, 0, (.load 1 false (.t 16))⟩, ⟨(some 18), none, 0, (.len (.t 17))⟩, ⟨(some 19), none, 0, (.mov (.k (.int .i64 0)))⟩]
def R86_5 : List AR := [⟨(some 20), none, 0, (.bin .lss (.t 19) (.t 18))⟩]
def R86_6 : List AR := [⟨(some 21), none, 0, (.iaddr 6 (.t 17) (.t 19))⟩, ⟨(some 22), none, 0, (.load 6 true (.t 21))⟩, ⟨(some 5), none, 0, (.alloc 0 6 [(.int .i64 0), (.int .i64 0), (.int .i64 0), (.int .i64 0), (.int .i64 0), (.str ⟨⟨[]⟩⟩)])⟩, ⟨none, none, 0, (.store 6 (.t 5) (.t 22))⟩]
def R86_7 : List AR := [⟨(some 23), none, 0, (.faddr 1 (.t 5))⟩, ⟨(some 24), none, 0, (.load 5 true (.t 23))⟩, ⟨(some 6), none, 0, (.alloc 0 5 [(.int .i64 0), (.int .i64 0), (.int .i64 0), (.int .i64 0), (.str ⟨⟨[]⟩⟩)])⟩, ⟨none, none, 0, (.store 5 (.t 6) (.t 24))⟩]
def R86_8 : List AR := [⟨(some 25), none, 0, (.mov (.t 3))⟩, ⟨(some 26), none, 0, (.faddr 0 (.t 5))⟩, ⟨(some 27), none, 0, (.load 1 false (.t 26))⟩, ⟨(some 28), none, 0, (.call false 0 0 118 [(.t 27)])⟩, ⟨(some 29), none, 0, (.faddr 0 (.t 6))⟩, ⟨(some 30), none, 0, (.load 1 false (.t 29))⟩, ⟨(some 31), none, 0, (.call false 0 0 118 [(.t 30)])⟩, ⟨(some 32), none, 0, (.faddr 1 (.t 6))⟩, ⟨(some 33), none, 0, (.load 1 false (.t 32))⟩, ⟨(some 34), none, 0, (.call false 0 0 118 [(.t 33)])⟩, ⟨(some 35), none, 0, (.faddr 2 (.t 6))⟩, ⟨(some 36), none, 0, (.load 1 false (.t 35))⟩, ⟨(some 37), none, 0, (.call false 0 0 118 [(.t 36)])⟩, ⟨(some 38), none, 0, (.faddr 3 (.t 6))⟩, ⟨(some 39), none, 0, (.load 1 false (.t 38))⟩, ⟨(some 40), none, 0, (.call false 0 0 118 [(.t 39)])⟩, ⟨(some 41), none, 0, (.faddr 4 (.t 6))⟩, ⟨(some 42), none, 0, (.load 1 false (.t 41))⟩, ⟨(some 43), none, 0, (.call false 0 0 139 [(.t 42)])⟩, ⟨(some 44), none, 0, (.bslice 0 1 7 [.nl] [(0, (.t 25)), (1, (.t 28)), (2, (.t 31)), (3, (.t 34)), (4, (.t 37)), (5, (.t 40)), (6, (.t 43))])⟩, ⟨(some 45), none, 0, (.call false 1 1 117 [(.t 44)])⟩, ⟨(some 3), none, 0, (.mov (.t 45))⟩]
def A86_0 : AC := (.seq (.reg 1 R86_7) (.draw 2 R86_8))
def R86_9 : List AR := [⟨(some 46), none, 0, (.bin .add (.t 19) (.k (.int .i64 1)))⟩, ⟨(some 19), none, 0, (.mov (.t 46))⟩]
def A86_1 : AC := (.seq (.block 1 (.seq (.reg 1 R86_6) A86_0)) (.reg 0 R86_9))
def A86_2 : AC := (.seq (.cond (.t 20) .skip (.exit 0)) A86_1)
def L86_0 : AC := (.seq (.reg 0 R86_5) A86_2)
def R86_10 : List AR := [⟨(some 47), none, 0, (.mov (.t 3))⟩, ⟨(some 48), none, 0, (.faddr 1 (.t 1))⟩, ⟨(some 49), none, 0, (.load 1 false (.t 48))⟩, ⟨(some 50), none, 0, (.len (.t 49))⟩, ⟨(some 51), none, 0, (.call false 0 0 118 [(.t 50)])⟩, ⟨(some 52), none, 0, (.bslice 0 1 2 [.nl] [(0, (.t 47)), (1, (.t 51))])⟩, ⟨(some 53), none, 0, (.call false 1 1 117 [(.t 52)])⟩, ⟨(some 3), none, 0, (.mov (.t 53))⟩]
def R86_11 : List AR := [⟨(some 54), none, 0, (.faddr 1 (.t 1))⟩, ⟨(some 55), none, 0, (.load 1 false (.t 54))⟩, ⟨(some 56), none, 0, (.len (.t 55))⟩, ⟨(some 57), none, 0, (.mov (.k (.int .i64 0)))⟩]
def R86_12 : List AR := [⟨(some 58), none, 0, (.bin .lss (.t 57) (.t 56))⟩]
def R86_13 : List AR := [⟨(some 59), none, 0, (.iaddr 2 (.t 55) (.t 57))⟩, ⟨(some 60), none, 0, (.load 2 true (.t 59))⟩, ⟨(some 8), none, 0, (.alloc 0 2 [(.int .i64 0), (.int .i64 0)])⟩, ⟨none, none, 0, (.store 2 (.t 8) (.t 60))⟩]
def R86_14 : List AR := [⟨(some 61), none, 0, (.mov (.t 3))⟩, ⟨(some 62), none, 0, (.faddr 0 (.t 8))⟩, ⟨(some 63), none, 0, (.load 1 false (.t 62))⟩, ⟨(some 64), none, 0, (.call false 0 0 118 [(.t 63)])⟩, ⟨(some 65), none, 0, (.faddr 1 (.t 8))⟩, ⟨(some 66), none, 0, (.load 1 false (.t 65))⟩, ⟨(some 67), none, 0, (.call false 0 0 118 [(.t 66)])⟩, ⟨(some 68), none, 0, (.bslice 0 1 3 [.nl] [(0, (.t 61)), (1, (.t 64)), (2, (.t 67))])⟩, ⟨(some 69), none, 0, (.call false 1 1 117 [(.t 68)])⟩, ⟨(some 3), none, 0, (.mov (.t 69))⟩]
def R86_15 : List AR := [⟨(some 70), none, 0, (.bin .add (.t 57) (.k (.int .i64 1)))⟩, ⟨(some 57), none, 0, (.mov (.t 70))⟩]
def A86_3 : AC := (.seq (.block 3 (.seq (.reg 1 R86_13) (.draw 2 R86_14))) (.reg 0 R86_15))
def A86_4 : AC := (.seq (.cond (.t 58) .skip (.exit 2)) A86_3)
def L86_1 : AC := (.seq (.reg 0 R86_12) A86_4)
def R86_16 : List AR := [⟨(some 71), none, 0, (.mov (.t 3))⟩, ⟨(some 2), none, 0, (.mov (.t 71))⟩]
def A86_5 : AC := (.seq (.reg 0 R86_16) .ret)
def A86_6 : AC := (.seq (.seq (.reg 0 R86_11) (.block 2 (.loop L86_1))) A86_5)
def A86_7 : AC := (.seq (.reg 2 R86_10) A86_6)
def A86_8 : AC := (.seq (.seq (.reg 0 R86_4) (.block 0 (.loop L86_0))) A86_7)
def A86_9 : AC := (.seq (.reg 0 R86_3) A86_8)
def A86_10 : AC := (.seq (.seq (.reg 0 R86_1) (.cond (.t 11) (.seq (.reg 0 R86_2) .ret) .skip)) A86_9)
def A86 : AC := (.seq (.reg 1 R86_0) A86_10)
def O86 : List AO := [(.mov (.t 2))]
def G86 : Fns := ⟨fun f => false, fun f => if f = 117 then 1 else 0, false⟩
noncomputable def X86 : Cx := ⟨Try.prog, G86, drawD, 72, [0, 1, 2, 3, 5, 6, 8, 11, 17, 18, 19, 20, 55, 56, 57, 58]⟩
theorem c86 : (Try.f86.body).bind (compC X86.P X86.Γ X86.D X86.nt) = some A86 := by kernel_rfl
theorem o86 : compRes X86.P Try.f86.results.toList = some O86 := by kernel_rfl
theorem v86 : X86.vs = [0, 1, 2, 3, 5, 6, 8, 11, 17, 18, 19, 20, 55, 56, 57, 58] := rfl
theorem p86 : X86.P = Try.prog := rfl
def R80_0 : List AR := [⟨(some 1), none, 0, (.box 0 2 (.t 0))⟩, ⟨(some 2), none, 0, (.mov (.k .nl))⟩]
def R80_1 : List AR := [⟨(some 3), none, 0, (.load 2 true (.t 1))⟩, ⟨(some 4), none, 0, (.call false 0 0 55 [(.t 3)])⟩, ⟨(some 5), none, 0, (.not (.t 4))⟩]
def R80_2 : List AR := [⟨(some 6), none, 0, (.bslice 0 1 0 [(.int .u8 0)] [])⟩, ⟨(some 2), none, 0, (.mov (.t 6))⟩]
def R80_3 : List AR := [⟨(some 7), none, 0, (.load 2 true (.t 1))⟩, ⟨(some 8), none, 0, (.call false 0 1 128 [(.t 7)])⟩, ⟨(some 2), none, 0, (.mov (.t 8))⟩]
def A80_0 : AC := (.seq (.reg 1 R80_3) .ret)
def A80_1 : AC := (.seq (.seq (.reg 0 R80_1) (.cond (.t 5) (.seq (.reg 1 R80_2) .ret) .skip)) A80_0)
def A80 : AC := (.seq (.reg 1 R80_0) A80_1)
def O80 : List AO := [(.mov (.t 2))]
def G80 : Fns := ⟨fun f => false, fun f => if f = 128 then 1 else 0, false⟩
noncomputable def X80 : Cx := ⟨Try.prog, G80, drawD, 9, [0, 1, 2, 5]⟩
theorem c80 : (Try.f80.body).bind (compC X80.P X80.Γ X80.D X80.nt) = some A80 := by kernel_rfl
theorem o80 : compRes X80.P Try.f80.results.toList = some O80 := by kernel_rfl
theorem v80 : X80.vs = [0, 1, 2, 5] := rfl
theorem p80 : X80.P = Try.prog := rfl
def Entry.nums (a : Entry) : List Int := [a.inc, a.rank, a.beat, a.ver]
def Item.nums (x : Item) : List Int := [x.id, x.entry.inc, x.entry.rank, x.entry.beat, x.entry.ver]
def itemB (x : Item) : List UInt8 := cat putI x.nums ++ putText x.entry.data
def floorB (x : Floor) : List UInt8 := putI x.id ++ putI x.inc
def stateB (s : State) : List UInt8 := putNum s.items.length ++ cat itemB s.items ++ putNum s.floors.length ++ cat floorB s.floors
def Item.Fit (x : Item) : Prop := (∀ n ∈ x.nums, fit n) ∧ x.entry.data.size ≤ 8
def Floor.Fit (x : Floor) : Prop := fit x.id ∧ fit x.inc
def State.Fit (s : State) : Prop := (∀ x ∈ s.items, x.Fit) ∧ (∀ x ∈ s.floors, x.Fit) ∧ s.items.length ≤ 1048576 ∧ s.floors.length ≤ 1048576
theorem itemB_len {x : Item} (h : x.Fit) : (itemB x).length ≤ 38 := by
  have h1 := cat_len putI (xs := x.nums) (k := 5) fun a ha => putI_5 (h.1 a ha)
  have h2 := putText_len (s := x.entry.data) (by have := h.2; omega)
  have h3 := h.2
  unfold itemB
  rw [List.length_append]
  simp only [Item.nums, List.length_cons, List.length_nil] at h1 ⊢
  omega
theorem floorB_len {x : Floor} (h : x.Fit) : (floorB x).length ≤ 10 := by
  have h1 := putI_5 h.1
  have h2 := putI_5 h.2
  unfold floorB
  rw [List.length_append]
  omega
theorem State.Right.fit {s : State} (h : s.Right) (hs : s.sz ≤ 1048576) : s.Fit := by
  have h1 := State.items_le s
  have h2 := State.floors_le s
  refine ⟨fun x hx => ?_, fun x hx => ?_, by omega, by omega⟩
  · obtain ⟨i, hi⟩ := List.mem_iff_getElem?.1 hx
    obtain ⟨g1, _, g2, _⟩ := h.1 i x hi
    obtain ⟨g3, g4, g5, g6, g7⟩ := g2
    refine ⟨fun n hn => ?_, by omega⟩
    simp only [Item.nums, List.mem_cons, List.not_mem_nil, or_false] at hn
    rcases hn with rfl | rfl | rfl | rfl | rfl <;> exact ⟨by omega, by omega⟩
  · obtain ⟨i, hi⟩ := List.mem_iff_getElem?.1 hx
    obtain ⟨g1, _, g2⟩ := h.2 i x hi
    exact ⟨⟨by omega, by omega⟩, ⟨by omega, by omega⟩⟩
theorem cat_mem {α : Type} (f : α → List UInt8) {k : Nat} {xs : List α} (h : ∀ a ∈ xs, (f a).length ≤ k) (i : Nat) : (cat f (xs.take i)).length ≤ xs.length * k :=
  Nat.le_trans (cat_le f xs i) (cat_len f h)
set_option maxHeartbeats 4000000 in
theorem specL6Bytes_ok (a : State) (h : a.Fit) : FS Try.prog 128 [] [.agg a.c] (.sl 0 1 0 (stateB a).length) [⟨1, rw_ byteC (stateB a)⟩] := by
  refine FS.of (X := X128) (ac := A128) (os := O128) Try.func128 (by rfl) (by rfl) (by kernel_rfl) o128 (Nat.le_of_ble_eq_true rfl) ?_
  show AWP X128 A128 (Ends X128.vs O128 0 _ _) [.agg a.c, .tup [], .tup [], .tup [], .tup [], .tup [], .tup [], .tup [], .tup [], .tup [], .tup [], .tup []] []
  obtain ⟨Q, hQ⟩ : ∃ Q, Q = Ends X128.vs O128 0 (.sl 0 1 0 (stateB a).length) [⟨1, rw_ byteC (stateB a)⟩] := ⟨_, rfl⟩
  rw [← hQ]
  obtain ⟨hf1, hf2, hl1, hl2⟩ := h
  have h5 := putNum_5 (n := a.items.length) (by omega)
  have h6 := putNum_5 (n := a.floors.length) (by omega)
  have hb1 := cat_len itemB (xs := a.items) fun x hx => itemB_len (hf1 x hx)
  have hb2 := cat_len floorB (xs := a.floors) fun x hx => floorB_len (hf2 x hx)
  refine awp_sr ?_
  simp only [go_sem, R128_0, v128, p128, State.c]
  refine awp_sr ?_
  simp only [go_sem, R128_1, v128, p128]
  refine run_new (specPutNum_ok a.items.length (by omega)) false (Views.refl rfl) (by first | rfl | (simp only [Nat.add_zero, app_get, app_getk, sapp_get, sapp_getk, Nat.add_assoc, Nat.reduceAdd, List.getElem?_cons_zero, List.getElem?_cons_succ]; done) | simp) (bytes_ok _) (by simp [V.ids]) (fun h => by cases h) ?_
  simp only [go_sem, v128, p128]
  refine awp_sr2 ?_
  simp only [go_sem, R128_2, v128, p128]
  obtain ⟨I, hI⟩ : ∃ I : Nat → List V → Store → Prop, I = fun mM L σ => ∃ i out r q τ y0 y2 y5 y6 y7 y8 y17 y44 y69, a.items.length - i = mM ∧ (i ≤ a.items.length ∧ out = putNum a.items.length ++ cat itemB (a.items.take i) ∧ q = out.length ∧ τ[0]? = some (.live ⟨2, [a.c]⟩) ∧ τ[r]? = some (.live ⟨1, rw_ byteC out⟩)) ∧ L = [y0, .ptr 0 2 0 0, y2, .sl r 1 0 q, .int .i64 (i : Nat), y5, y6, y7, y8, y17, y44, y69] ∧ σ = τ := ⟨_, rfl⟩
  first | refine awp_for I (a.items.length) ?_ ?_ | refine awp_seq (awp_for I (a.items.length) ?_ ?_)
  · rw [hI]
    refine ⟨0, putNum a.items.length, _, _, _, _, _, _, _, _, _, _, _, _, rfl, ?_, rfl, rfl⟩
    exact ⟨Nat.zero_le _, (List.append_nil _).symm, rfl, rfl, rfl⟩
  intro mM L σ hIn
  rw [hI] at hIn
  obtain ⟨i, out, r, q, τ, y0, y2, y5, y6, y7, y8, y17, y44, y69, rfl, hP, rfl, rfl⟩ := hIn
  obtain ⟨hi, ho, rfl, g0, gr⟩ := hP
  refine awp_sr2 ?_
  simp only [go_sem, R128_3, v128, p128, get_app g0, g0, State.c]
  refine awp_if rfl ?_ ?_
  · intro h1
    have h1 : i < a.items.length := by omega
    have hfit := hf1 _ (List.getElem_mem h1)
    have e1 := cat_take itemB h1
    have e2 := cat_le itemB a.items (i + 1)
    have e3 := congrArg List.length e1
    have e4 := congrArg List.length ho
    have e5 : (itemB a.items[i]).length = (cat putI a.items[i].nums).length + (putText a.items[i].entry.data).length := by unfold itemB; rw [List.length_append]
    rw [List.length_append] at e3 e4
    refine awp_skip ?_
    simp only [go_sem]
    refine awp_seq (awp_block ?_)
    refine awp_sr ?_
    simp only [go_sem, R128_4, v128, p128, get_app g0, State.c, rw_at _ h1, Item.c]
    refine awp_sd mixed rfl (by rfl) ?_
    simp only [go_sem, R128_5, v128, p128, get_app g0, State.c, rw_at _ h1, Item.c]
    have hp : σ.length = σ.length := rfl
    generalize hpp : σ.length = p at hp
    have hr0 := get_lt gr
    have hr1 := get_ne g0 gr (slot_ne (by omega))
    obtain ⟨τ0, hτ0⟩ : ∃ τ0, τ0 = σ ++ [.live ⟨5, [a.items[i].entry.c]⟩, .live ⟨1, rw_ intC a.items[i].nums⟩] := ⟨_, rfl⟩
    have k0 : τ0[0]? = some (.live ⟨2, [a.c]⟩) := by rw [hτ0]; exact get_app g0
    have ke : τ0[p]? = some (.live ⟨5, [a.items[i].entry.c]⟩) := by rw [hτ0, ← hpp, app_get]; rfl
    have kl : τ0[p + 1]? = some (.live ⟨1, rw_ intC a.items[i].nums⟩) := by rw [hτ0, ← hpp, app_getk]; rfl
    have kr : τ0[r]? = some (.live ⟨1, rw_ byteC out⟩) := by rw [hτ0]; exact get_app gr
    refine (fun G : AWP X128 _ _ _ τ0 => by rw [hτ0] at G; exact G) ?_
    have hfit1 := hfit.1
    have hn5 : a.items[i].nums.length = 5 := rfl
    refine awp_sr2 ?_
    simp only [go_sem, R128_6, v128, p128]
    have hrp : r < p := by omega
    clear hτ0 hpp hp
    obtain ⟨J, hJ⟩ : ∃ J : Nat → List V → Store → Prop, J = fun mM L σ => ∃ k out2 r2 q2 τ y0 y2 y8 y17 y44 y69, 5 - k = mM ∧ (k ≤ 5 ∧ out2 = out ++ cat putI (a.items[i].nums.take k) ∧ q2 = out2.length ∧ τ[0]? = some (.live ⟨2, [a.c]⟩) ∧ τ[p]? = some (.live ⟨5, [a.items[i].entry.c]⟩) ∧ τ[p + 1]? = some (.live ⟨1, rw_ intC a.items[i].nums⟩) ∧ τ[r2]? = some (.live ⟨1, rw_ byteC out2⟩) ∧ r2 ≠ p + 1) ∧ L = [y0, .ptr 0 2 0 0, y2, .sl r2 1 0 q2, .int .i64 (i : Nat), .ptr p 5 0 0, .sl (p + 1) 1 0 5, .int .i64 (k : Nat), y8, y17, y44, y69] ∧ σ = τ := ⟨_, rfl⟩
    first | refine awp_for J (5) ?_ ?_ | refine awp_seq (awp_for J (5) ?_ ?_)
    · rw [hJ]
      refine ⟨0, out, _, _, _, _, _, _, _, _, _, rfl, ?_, rfl, rfl⟩
      exact ⟨by omega, (List.append_nil _).symm, rfl, k0, ke, kl, kr, by omega⟩
    intro mM L σ hIn
    rw [hJ] at hIn
    obtain ⟨k, out2, r2, q2, τ, y0, y2, y8, y17, y44, y69, rfl, hP, rfl, rfl⟩ := hIn
    obtain ⟨hk, hk2, rfl, m0, me, ml, mr, mne⟩ := hP
    have c1 := cat_le putI a.items[i].nums k
    have c2 := congrArg List.length hk2
    rw [List.length_append] at c2
    refine awp_sr2 ?_
    simp only [go_sem, R128_7, v128, p128]
    refine awp_if rfl ?_ ?_
    · intro h2
      have h3 : k < a.items[i].nums.length := by omega
      have d1 := cat_take putI h3
      refine awp_skip ?_
      simp only [go_sem]
      first | refine awp_block ?_ | refine awp_seq (awp_block ?_)
      have d2 := putI_5 (hfit1 _ (List.getElem_mem h3))
      refine awp_reg ?_
      simp only [go_sem, R128_8, v128, p128, get_app ml, rw_at _ h3, intC, h2]
      refine run_see (specPutI_fz (hfit1 _ (List.getElem_mem h3))) false (Views.refl rfl) rfl (fun j hj => by first | omega | ((have hj0 : j = 0 := by omega); subst hj0; first | rfl | (simp only [Nat.add_zero, app_get, app_getk, sapp_get, sapp_getk, Nat.add_assoc, Nat.reduceAdd, List.getElem?_cons_zero, List.getElem?_cons_succ]; done) | simp)) (fun h => by cases h) ?_
      simp only [go_sem, v128, p128, get_app mr, set_app mr]
      refine ⟨by omega, ?_⟩
      refine awp_reg ?_
      simp only [go_sem, R128_9, v128, p128, wrap_succ (i := k) (by omega)]
      have z0 := get_ne m0 mr (slot_ne (by omega))
      have ze := get_ne me mr (slot_ne (by omega))
      have lt0 := get_lt ml
      refine ⟨5 - (k + 1), ?_, ?_⟩
      rotate_left
      rw [hJ]
      refine ⟨k + 1, out2 ++ putI a.items[i].nums[k], _, _, _, _, _, _, _, _, _, rfl, ?_, rfl, rfl⟩
      · refine ⟨by omega, by rw [hk2, d1, List.append_assoc], by simp, keep_get m0 z0, keep_get me ze, keep_get ml mne, ?_, by omega⟩
        first | (rw [sapp_getk]; rfl) | (rw [sapp_get]; rfl)
      · omega
    · intro h2
      refine awp_exit ?_
      simp only [go_sem]
      have : k = 5 := by omega
      subst this
      rw [List.take_of_length_le (by omega)] at hk2
      have dt := putText_len (s := a.items[i].entry.data) (by have := hfit.2; omega)
      refine awp_reg ?_
      simp only [go_sem, R128_10, v128, p128, get_app me, Entry.c]
      refine run_see (specPutText_fz a.items[i].entry.data (by have := hfit.2; omega)) false (Views.refl rfl) rfl (fun j hj => by first | omega | ((have hj0 : j = 0 := by omega); subst hj0; first | rfl | (simp only [Nat.add_zero, app_get, app_getk, sapp_get, sapp_getk, Nat.add_assoc, Nat.reduceAdd, List.getElem?_cons_zero, List.getElem?_cons_succ]; done) | simp)) (fun h => by cases h) ?_
      simp only [go_sem, v128, p128, get_app mr, set_app mr]
      refine ⟨by omega, ?_⟩
      refine awp_reg ?_
      simp only [go_sem, R128_11, v128, p128, wrap_succ (i := i) (by omega)]
      have z0 := get_ne m0 mr (slot_ne (by omega))
      refine ⟨a.items.length - (i + 1), ?_, ?_⟩
      rotate_left
      rw [hI]
      refine ⟨i + 1, out2 ++ putText a.items[i].entry.data, _, _, _, _, _, _, _, _, _, _, _, _, rfl, ?_, rfl, rfl⟩
      · refine ⟨by omega, by rw [hk2, e1, ho]; simp [itemB], by simp, keep_get m0 z0, ?_⟩
        first | (rw [sapp_getk]; rfl) | (rw [sapp_get]; rfl)
      · omega
  · intro h1
    refine awp_exit ?_
    simp only [go_sem]
    have : i = a.items.length := by omega
    subst this
    rw [List.take_length] at ho
    have e4 := congrArg List.length ho
    rw [List.length_append] at e4
    have z0 := get_ne g0 gr (slot_ne (by omega))
    refine awp_sr ?_
    simp only [go_sem, R128_12, v128, p128, get_app g0, State.c]
    refine run_see (specPutNum_fz a.floors.length (by omega)) false (Views.refl rfl) rfl (fun j hj => by first | omega | ((have hj0 : j = 0 := by omega); subst hj0; first | rfl | (simp only [Nat.add_zero, app_get, app_getk, sapp_get, sapp_getk, Nat.add_assoc, Nat.reduceAdd, List.getElem?_cons_zero, List.getElem?_cons_succ]; done) | simp)) (fun h => by cases h) ?_
    simp only [go_sem, v128, p128, get_app gr, set_app gr]
    refine ⟨by omega, ?_⟩
    refine awp_sr2 ?_
    simp only [go_sem, R128_13, v128, p128]
    clear hI
    generalize hq1 : out ++ putNum a.floors.length = out1
    have e6 := congrArg List.length hq1
    rw [List.length_append] at e6
    obtain ⟨J, hJ⟩ : ∃ J : Nat → List V → Store → Prop, J = fun mM L σ => ∃ i out r q τ y0 y2 y4 y5 y6 y7 y17 y44 y69, a.floors.length - i = mM ∧ (i ≤ a.floors.length ∧ out = out1 ++ cat floorB (a.floors.take i) ∧ q = out.length ∧ τ[0]? = some (.live ⟨2, [a.c]⟩) ∧ τ[r]? = some (.live ⟨1, rw_ byteC out⟩)) ∧ L = [y0, .ptr 0 2 0 0, y2, .sl r 1 0 q, y4, y5, y6, y7, .int .i64 (i : Nat), y17, y44, y69] ∧ σ = τ := ⟨_, rfl⟩
    first | refine awp_for J (a.floors.length) ?_ ?_ | refine awp_seq (awp_for J (a.floors.length) ?_ ?_)
    · rw [hJ]
      refine ⟨0, out1, _, _, _, _, _, _, _, _, _, _, _, _, rfl, ?_, rfl, rfl⟩
      refine ⟨Nat.zero_le _, (List.append_nil _).symm, by omega, keep_get g0 z0, ?_⟩
      first | (rw [sapp_getk]; rfl) | (rw [sapp_get]; rfl)
    intro mM L σ hIn
    rw [hJ] at hIn
    obtain ⟨i, out, r, q, τ, y0, y2, y4, y5, y6, y7, y17, y44, y69, rfl, hP, rfl, rfl⟩ := hIn
    obtain ⟨hi2, ho2, rfl, m0, mr⟩ := hP
    have zz := get_ne m0 mr (slot_ne (by omega))
    refine awp_sr2 ?_
    simp only [go_sem, R128_14, v128, p128, get_app m0, m0, State.c]
    refine awp_if rfl ?_ ?_
    · intro h2
      have h2 : i < a.floors.length := by omega
      have hfit := hf2 _ (List.getElem_mem h2)
      have c1 := cat_take floorB h2
      have c2 := cat_le floorB a.floors (i + 1)
      have c3 := congrArg List.length c1
      have c4 := congrArg List.length ho2
      have c5 : (floorB a.floors[i]).length = (putI a.floors[i].id).length + (putI a.floors[i].inc).length := by unfold floorB; rw [List.length_append]
      rw [List.length_append] at c3 c4
      refine awp_skip ?_
      simp only [go_sem]
      first | refine awp_block ?_ | refine awp_seq (awp_block ?_)
      refine awp_sr ?_
      simp only [go_sem, R128_15, v128, p128, get_app m0, State.c, rw_at _ h2, Floor.c]
      refine run_see (specPutI_fz hfit.1) false (Views.refl rfl) rfl (fun j hj => by first | omega | ((have hj0 : j = 0 := by omega); subst hj0; first | rfl | (simp only [Nat.add_zero, app_get, app_getk, sapp_get, sapp_getk, Nat.add_assoc, Nat.reduceAdd, List.getElem?_cons_zero, List.getElem?_cons_succ]; done) | simp)) (fun h => by cases h) ?_
      simp only [go_sem, v128, p128, get_app mr, set_app mr]
      refine ⟨by omega, ?_⟩
      generalize hq2 : out ++ putI a.floors[i].id = out2
      have c6 := congrArg List.length hq2
      rw [List.length_append] at c6
      rw [c6]
      refine awp_reg ?_
      simp only [go_sem, R128_16, v128, p128, keep_get m0 zz, State.c, rw_at _ h2, Floor.c]
      refine run_see (specPutI_fz hfit.2) false (Views.refl rfl) rfl (fun j hj => by first | omega | ((have hj0 : j = 0 := by omega); subst hj0; first | rfl | (simp only [Nat.add_zero, app_get, app_getk, sapp_get, sapp_getk, Nat.add_assoc, Nat.reduceAdd, List.getElem?_cons_zero, List.getElem?_cons_succ]; done) | simp)) (fun h => by cases h) ?_
      simp only [go_sem, v128, p128]
      refine ⟨by omega, ?_⟩
      refine awp_reg ?_
      simp only [go_sem, R128_17, v128, p128, wrap_succ (i := i) (by omega)]
      refine ⟨a.floors.length - (i + 1), ?_, ?_⟩
      rotate_left
      rw [hJ]
      refine ⟨i + 1, out2 ++ putI a.floors[i].inc, _, _, _, _, _, _, _, _, _, _, _, _, rfl, ?_, rfl, rfl⟩
      · refine ⟨by omega, by rw [← hq2, c1, ho2]; simp [floorB], by simp, keep_get m0 zz, ?_⟩
        first | (rw [sapp_getk]; rfl) | (rw [sapp_get]; rfl)
      · omega
    · intro h2
      refine awp_exit ?_
      simp only [go_sem]
      have : i = a.floors.length := by omega
      subst this
      rw [List.take_length] at ho2
      refine awp_sr ?_
      simp only [go_sem, R128_18, v128, p128]
      refine awp_ret ?_
      try simp only [go_sem]
      rw [hQ, show stateB a = out by rw [ho2, ← hq1, ho]; rfl]
      exact Ends.ownAt (.inl rfl) rfl mr rfl (bytes_ok _)
noncomputable def sBytes (a : State) : List UInt8 := if a.Right then stateB a else []
theorem sBytes_yes {a : State} (h : a.Right) : sBytes a = stateB a := if_pos h
theorem sBytes_no {a : State} (h : ¬ a.Right) : sBytes a = [] := if_neg h
theorem specStateBytes_ok (a : State) (h : a.sz ≤ 1048576) : FS Try.prog 80 [] [.agg a.c] (.sl 0 1 0 (sBytes a).length) [⟨1, rw_ byteC (sBytes a)⟩] := by
  refine FS.of (X := X80) (ac := A80) (os := O80) Try.func80 (by rfl) (by rfl) (by kernel_rfl) o80 (Nat.le_of_ble_eq_true rfl) ?_
  show AWP X80 A80 (Ends X80.vs O80 0 _ _) [.agg a.c, .tup [], .tup [], .tup []] []
  obtain ⟨Q, hQ⟩ : ∃ Q, Q = Ends X80.vs O80 0 (.sl 0 1 0 (sBytes a).length) [⟨1, rw_ byteC (sBytes a)⟩] := ⟨_, rfl⟩
  rw [← hQ]
  refine awp_sr ?_
  simp only [go_sem, R80_0, v80, p80, State.c]
  refine awp_sr2 ?_
  simp only [go_sem, R80_1, v80, p80]
  refine run_see (specStateOk_ok a h) false (Views.refl rfl) rfl (fun j hj => by first | omega | ((have hj0 : j = 0 := by omega); subst hj0; first | rfl | (simp only [Nat.add_zero, app_get, app_getk, sapp_get, sapp_getk, Nat.add_assoc, Nat.reduceAdd, List.getElem?_cons_zero, List.getElem?_cons_succ]; done) | simp)) (fun h => by cases h) ?_
  simp only [go_sem, v80, p80]
  refine awp_if' rfl ?_ ?_
  · intro h1
    refine awp_sr ?_
    simp only [go_sem, R80_2, v80, p80]
    refine awp_ret ?_
    try simp only [go_sem]
    rw [hQ, sBytes_no h1]
    exact Ends.ownLast (.inl rfl) rfl (Last.mk [.live ⟨2, [a.c]⟩] _) rfl (bytes_ok [])
  · intro h1
    refine awp_skip ?_
    simp only [go_sem]
    refine awp_sr ?_
    simp only [go_sem, R80_3, v80, p80, State.c]
    refine run_new (specL6Bytes_ok a (h1.fit h)) false (Views.refl rfl) (by first | rfl | (simp only [Nat.add_zero, app_get, app_getk, sapp_get, sapp_getk, Nat.add_assoc, Nat.reduceAdd, List.getElem?_cons_zero, List.getElem?_cons_succ]; done) | simp) (bytes_ok _) (by simp [V.ids]) (fun h => by cases h) ?_
    simp only [go_sem, v80, p80]
    refine awp_ret ?_
    try simp only [go_sem]
    rw [hQ, sBytes_yes h1]
    exact Ends.ownLast (.inl rfl) rfl (Last.mk1 [] _ _) rfl (bytes_ok _)
theorem specStateBytes_fz (a : State) (h : a.sz ≤ 1048576) : FS Try.prog 80 [] [.agg a.c] (.fz 1 (rw_ byteC (sBytes a))) [] := (specStateBytes_ok a h).frz (bytes_ok _) (rw_len _ _).symm
theorem specL6Bytes_fz (a : State) (h : a.Fit) : FS Try.prog 128 [] [.agg a.c] (.fz 1 (rw_ byteC (stateB a))) [] := (specL6Bytes_ok a h).frz (bytes_ok _) (rw_len _ _).symm
theorem seven_fold (a b c d e f g : List UInt8) : [rowB a, rowB b, rowB c, rowB d, rowB e, rowB f, rowB g] = rw_ rowB [a, b, c, d, e, f, g] := rfl
theorem three_fold (a b c : List UInt8) : [rowB a, rowB b, rowB c] = rw_ rowB [a, b, c] := rfl
set_option maxHeartbeats 4000000 in
theorem implStateBytes_ok (a : State) (h : a.sz ≤ 1048576) : FS Try.prog 86 [] [.agg a.c] (.fz 1 (rw_ byteC (sBytes a))) [] := by
  refine FS.of (X := X86) (ac := A86) (os := O86) Try.func86 (by rfl) (by rfl) (by kernel_rfl) o86 (Nat.le_of_ble_eq_true rfl) ?_
  show AWP X86 A86 (Ends X86.vs O86 0 _ _) [.agg a.c, .tup [], .tup [], .tup [], .tup [], .tup [], .tup [], .tup [], .tup [], .tup [], .tup [], .tup [], .tup [], .tup [], .tup [], .tup []] []
  obtain ⟨Q, hQ⟩ : ∃ Q, Q = Ends X86.vs O86 0 (.fz 1 (rw_ byteC (sBytes a))) [] := ⟨_, rfl⟩
  rw [← hQ]
  refine awp_sr ?_
  simp only [go_sem, R86_0, v86, p86, State.c]
  refine awp_sr2 ?_
  simp only [go_sem, R86_1, v86, p86]
  refine run_see (implStateOk_ok a h) false (Views.refl rfl) rfl (fun j hj => by first | omega | ((have hj0 : j = 0 := by omega); subst hj0; first | rfl | (simp only [Nat.add_zero, app_get, app_getk, sapp_get, sapp_getk, Nat.add_assoc, Nat.reduceAdd, List.getElem?_cons_zero, List.getElem?_cons_succ]; done) | simp)) (fun h => by cases h) ?_
  simp only [go_sem, v86, p86]
  refine awp_if' rfl ?_ ?_
  · intro h1
    refine awp_sr ?_
    simp only [go_sem, R86_2, v86, p86]
    refine awp_ret ?_
    try simp only [go_sem]
    rw [hQ, sBytes_no h1]
    exact Ends.plain (.inl rfl) rfl (.nl 1) rfl
  intro h1
  obtain ⟨hf1, hf2, hl1, hl2⟩ := h1.fit h
  have h5 := putNum_5 (n := a.items.length) (by omega)
  have h6 := putNum_5 (n := a.floors.length) (by omega)
  have hb1 := cat_len itemB (xs := a.items) fun x hx => itemB_len (hf1 x hx)
  have hb2 := cat_len floorB (xs := a.floors) fun x hx => floorB_len (hf2 x hx)
  rw [sBytes_yes h1] at hQ
  refine awp_skip ?_
  simp only [go_sem]
  refine awp_sr ?_
  simp only [go_sem, R86_3, v86, p86, State.c]
  refine run_see (implPutNum_fz a.items.length (by omega)) false (Views.refl rfl) rfl (fun j hj => by first | omega | ((have hj0 : j = 0 := by omega); subst hj0; first | rfl | (simp only [Nat.add_zero, app_get, app_getk, sapp_get, sapp_getk, Nat.add_assoc, Nat.reduceAdd, List.getElem?_cons_zero, List.getElem?_cons_succ]; done) | simp)) (fun h => by cases h) ?_
  simp only [go_sem, v86, p86]
  refine awp_sr2 ?_
  simp only [go_sem, R86_4, v86, p86]
  obtain ⟨I, hI⟩ : ∃ I : Nat → List V → Store → Prop, I = fun mM L σ => ∃ i out rest y0 y2 y5 y6 y8 y11 y20 y55 y56 y57 y58, a.items.length - i = mM ∧ (i ≤ a.items.length ∧ out = putNum a.items.length ++ cat itemB (a.items.take i)) ∧ L = [y0, .ptr 0 2 0 0, y2, .fz 1 (rw_ byteC out), y5, y6, y8, y11, .fz 6 (rw_ Item.c a.items), .int .i64 (a.items.length : Nat), .int .i64 (i : Nat), y20, y55, y56, y57, y58] ∧ σ = .live ⟨2, [a.c]⟩ :: rest := ⟨_, rfl⟩
  first | refine awp_for I (a.items.length) ?_ ?_ | refine awp_seq (awp_for I (a.items.length) ?_ ?_)
  · rw [hI]
    refine ⟨0, _, _, _, _, _, _, _, _, _, _, _, _, _, rfl, ?_, rfl, rfl⟩
    exact ⟨Nat.zero_le _, (List.append_nil _).symm⟩
  intro mM L σ hIn
  rw [hI] at hIn
  obtain ⟨i, out, rest, y0, y2, y5, y6, y8, y11, y20, y55, y56, y57, y58, rfl, hP, rfl, rfl⟩ := hIn
  obtain ⟨hi, ho⟩ := hP
  refine awp_sr ?_
  simp only [go_sem, R86_5, v86, p86]
  refine awp_seq ?_
  refine awp_if rfl ?_ ?_
  · intro h1
    have h1 : i < a.items.length := by omega
    have hfit := hf1 _ (List.getElem_mem h1)
    have f1 := hfit.1
    have dt := putText_len (s := a.items[i].entry.data) (by have := hfit.2; omega)
    have e1 := cat_take itemB h1
    have e2 := cat_le itemB a.items (i + 1)
    have e3 := congrArg List.length e1
    have e4 := congrArg List.length ho
    have e5 := itemB_len hfit
    rw [List.length_append] at e3 e4
    refine awp_skip ?_
    simp only [go_sem]
    refine awp_seq (awp_block ?_)
    refine awp_sr ?_
    simp only [go_sem, R86_6, v86, p86, rw_at _ h1, Item.c]
    refine awp_sr ?_
    simp only [go_sem, R86_7, v86, p86]
    refine awp_draw0 mixed rfl (by rfl) ?_
    simp only [go_sem, R86_8, v86, p86]
    refine run_see (implPutI_fz (f1 a.items[i].id (by simp [Item.nums]))) false (Views.refl rfl) rfl (fun j hj => by first | omega | ((have hj0 : j = 0 := by omega); subst hj0; first | rfl | (simp only [Nat.add_zero, app_get, app_getk, sapp_get, sapp_getk, Nat.add_assoc, Nat.reduceAdd, List.getElem?_cons_zero, List.getElem?_cons_succ]; done) | simp)) (fun h => by cases h) ?_
    simp only [go_sem, v86, p86]
    refine run_see (implPutI_fz (f1 a.items[i].entry.inc (by simp [Item.nums]))) false (Views.refl rfl) rfl (fun j hj => by first | omega | ((have hj0 : j = 0 := by omega); subst hj0; first | rfl | (simp only [Nat.add_zero, app_get, app_getk, sapp_get, sapp_getk, Nat.add_assoc, Nat.reduceAdd, List.getElem?_cons_zero, List.getElem?_cons_succ]; done) | simp)) (fun h => by cases h) ?_
    simp only [go_sem, v86, p86]
    refine run_see (implPutI_fz (f1 a.items[i].entry.rank (by simp [Item.nums]))) false (Views.refl rfl) rfl (fun j hj => by first | omega | ((have hj0 : j = 0 := by omega); subst hj0; first | rfl | (simp only [Nat.add_zero, app_get, app_getk, sapp_get, sapp_getk, Nat.add_assoc, Nat.reduceAdd, List.getElem?_cons_zero, List.getElem?_cons_succ]; done) | simp)) (fun h => by cases h) ?_
    simp only [go_sem, v86, p86]
    refine run_see (implPutI_fz (f1 a.items[i].entry.beat (by simp [Item.nums]))) false (Views.refl rfl) rfl (fun j hj => by first | omega | ((have hj0 : j = 0 := by omega); subst hj0; first | rfl | (simp only [Nat.add_zero, app_get, app_getk, sapp_get, sapp_getk, Nat.add_assoc, Nat.reduceAdd, List.getElem?_cons_zero, List.getElem?_cons_succ]; done) | simp)) (fun h => by cases h) ?_
    simp only [go_sem, v86, p86]
    refine run_see (implPutI_fz (f1 a.items[i].entry.ver (by simp [Item.nums]))) false (Views.refl rfl) rfl (fun j hj => by first | omega | ((have hj0 : j = 0 := by omega); subst hj0; first | rfl | (simp only [Nat.add_zero, app_get, app_getk, sapp_get, sapp_getk, Nat.add_assoc, Nat.reduceAdd, List.getElem?_cons_zero, List.getElem?_cons_succ]; done) | simp)) (fun h => by cases h) ?_
    simp only [go_sem, v86, p86]
    refine run_see (implPutText_fz a.items[i].entry.data (by have := hfit.2; omega)) false (Views.refl rfl) rfl (fun j hj => by first | omega | ((have hj0 : j = 0 := by omega); subst hj0; first | rfl | (simp only [Nat.add_zero, app_get, app_getk, sapp_get, sapp_getk, Nat.add_assoc, Nat.reduceAdd, List.getElem?_cons_zero, List.getElem?_cons_succ]; done) | simp)) (fun h => by cases h) ?_
    simp only [go_sem, v86, p86, fz_fold, seven_fold]
    obtain ⟨ls, hls⟩ : ∃ ls, ls = [out, putI a.items[i].id, putI a.items[i].entry.inc, putI a.items[i].entry.rank, putI a.items[i].entry.beat, putI a.items[i].entry.ver, putText a.items[i].entry.data] := ⟨_, rfl⟩
    have hl7 : ls.length = 7 := by rw [hls]; rfl
    have hfl : ls.flatten = out ++ itemB a.items[i] := by rw [hls]; simp [itemB, cat, Item.nums]
    rw [← hls]
    have hj : ls.flatten.length ≤ lim := by rw [hfl, List.length_append]; simp [lim]; omega
    refine run_new (joined_ok ls hj (by omega)) true (.cons (View.row (by simp) (by simp) (by rw [rw_len, hl7]) (brows_ok _)) (.nil)) (by first | rfl | (simp only [Nat.add_zero, app_get, app_getk, sapp_get, sapp_getk, Nat.add_assoc, Nat.reduceAdd, List.getElem?_cons_zero, List.getElem?_cons_succ]; done) | simp) (bytes_ok _) (by simp [V.ids]) (fun _ => ⟨rfl, bytes_flat _⟩) ?_
    simp only [go_sem, v86, p86]
    refine awp_freeze (o := rest.length + 4) (ob := ⟨1, rw_ byteC ls.flatten⟩) (by simp) (bytes_ok _) ?_
    rw [hfl]
    have np : (0 : Nat) ≠ rest.length + 4 := by omega
    generalize hq : out ++ itemB a.items[i] = out2
    simp only [go_sem, v86, p86, frz_ptr _ _ _ _ _ np]
    refine awp_reg ?_
    simp only [go_sem, R86_9, v86, p86, wrap_succ (i := i) (by omega)]
    refine ⟨a.items.length - (i + 1), ?_, ?_⟩
    rotate_left
    rw [hI]
    refine ⟨i + 1, _, _, _, _, _, _, _, _, _, _, _, _, _, rfl, ?_, rfl, rfl⟩
    · exact ⟨by omega, by rw [e1, ← hq, ho, List.append_assoc]⟩
    · omega
  · intro h1
    refine awp_exit ?_
    simp only [go_sem]
    have : i = a.items.length := by omega
    subst this
    rw [List.take_length] at ho
    have e4 := congrArg List.length ho
    rw [List.length_append] at e4
    clear hI
    refine awp_sr ?_
    simp only [go_sem, R86_10, v86, p86, State.c]
    refine run_see (implPutNum_fz a.floors.length (by omega)) false (Views.refl rfl) rfl (fun j hj => by first | omega | ((have hj0 : j = 0 := by omega); subst hj0; first | rfl | (simp only [Nat.add_zero, app_get, app_getk, sapp_get, sapp_getk, Nat.add_assoc, Nat.reduceAdd, List.getElem?_cons_zero, List.getElem?_cons_succ]; done) | simp)) (fun h => by cases h) ?_
    simp only [go_sem, v86, p86, fz_fold, pair_fold]
    have hj : [out, putNum a.floors.length].flatten.length ≤ lim := by simp [lim]; omega
    refine run_new (joined_ok [out, putNum a.floors.length] hj (by simp)) true (.cons (View.row (by simp) (by simp) rfl (brows_ok _)) (.nil)) (by first | rfl | (simp only [Nat.add_zero, app_get, app_getk, sapp_get, sapp_getk, Nat.add_assoc, Nat.reduceAdd, List.getElem?_cons_zero, List.getElem?_cons_succ]; done) | simp) (bytes_ok _) (by simp [V.ids]) (fun _ => ⟨rfl, bytes_flat _⟩) ?_
    simp only [go_sem, v86, p86]
    refine awp_freeze (o := rest.length + 2) (ob := ⟨1, rw_ byteC [out, putNum a.floors.length].flatten⟩) (by simp) (bytes_ok _) ?_
    have np : (0 : Nat) ≠ rest.length + 2 := by omega
    generalize hq1 : [out, putNum a.floors.length].flatten = out1
    have hq1 : out ++ putNum a.floors.length = out1 := by rw [← hq1]; simp
    have e6 := congrArg List.length hq1
    rw [List.length_append] at e6
    simp only [go_sem, v86, p86, frz_ptr _ _ _ _ _ np]
    refine awp_sr2 ?_
    simp only [go_sem, R86_11, v86, p86, State.c]
    obtain ⟨J, hJ⟩ : ∃ J : Nat → List V → Store → Prop, J = fun mM L σ => ∃ i out rest y0 y1 y2 y5 y6 y8 y11 y17 y18 y19 y20 y58, a.floors.length - i = mM ∧ (i ≤ a.floors.length ∧ out = out1 ++ cat floorB (a.floors.take i)) ∧ L = [y0, y1, y2, .fz 1 (rw_ byteC out), y5, y6, y8, y11, y17, y18, y19, y20, .fz 2 (rw_ Floor.c a.floors), .int .i64 (a.floors.length : Nat), .int .i64 (i : Nat), y58] ∧ σ = .live ⟨2, [a.c]⟩ :: rest := ⟨_, rfl⟩
    first | refine awp_for J (a.floors.length) ?_ ?_ | refine awp_seq (awp_for J (a.floors.length) ?_ ?_)
    · rw [hJ]
      refine ⟨0, _, _, _, _, _, _, _, _, _, _, _, _, _, _, rfl, ?_, rfl, rfl⟩
      exact ⟨Nat.zero_le _, (List.append_nil _).symm⟩
    intro mM L σ hIn
    rw [hJ] at hIn
    obtain ⟨i, out, rest, y0, y1, y2, y5, y6, y8, y11, y17, y18, y19, y20, y58, rfl, hP, rfl, rfl⟩ := hIn
    obtain ⟨hi2, ho2⟩ := hP
    refine awp_sr ?_
    simp only [go_sem, R86_12, v86, p86]
    refine awp_seq ?_
    refine awp_if rfl ?_ ?_
    · intro h2
      have h2 : i < a.floors.length := by omega
      have hfit := hf2 _ (List.getElem_mem h2)
      have c1 := cat_take floorB h2
      have c2 := cat_le floorB a.floors (i + 1)
      have c3 := congrArg List.length c1
      have c4 := congrArg List.length ho2
      have c5 := floorB_len hfit
      rw [List.length_append] at c3 c4
      refine awp_skip ?_
      simp only [go_sem]
      refine awp_seq (awp_block ?_)
      refine awp_sr ?_
      simp only [go_sem, R86_13, v86, p86, rw_at _ h2, Floor.c]
      refine awp_draw0 mixed rfl (by rfl) ?_
      simp only [go_sem, R86_14, v86, p86]
      refine run_see (implPutI_fz hfit.1) false (Views.refl rfl) rfl (fun j hj => by first | omega | ((have hj0 : j = 0 := by omega); subst hj0; first | rfl | (simp only [Nat.add_zero, app_get, app_getk, sapp_get, sapp_getk, Nat.add_assoc, Nat.reduceAdd, List.getElem?_cons_zero, List.getElem?_cons_succ]; done) | simp)) (fun h => by cases h) ?_
      simp only [go_sem, v86, p86]
      refine run_see (implPutI_fz hfit.2) false (Views.refl rfl) rfl (fun j hj => by first | omega | ((have hj0 : j = 0 := by omega); subst hj0; first | rfl | (simp only [Nat.add_zero, app_get, app_getk, sapp_get, sapp_getk, Nat.add_assoc, Nat.reduceAdd, List.getElem?_cons_zero, List.getElem?_cons_succ]; done) | simp)) (fun h => by cases h) ?_
      simp only [go_sem, v86, p86, fz_fold, three_fold]
      have hfl : [out, putI a.floors[i].id, putI a.floors[i].inc].flatten = out ++ floorB a.floors[i] := by simp [floorB]
      have hj : [out, putI a.floors[i].id, putI a.floors[i].inc].flatten.length ≤ lim := by rw [hfl, List.length_append]; simp [lim]; omega
      refine run_new (joined_ok _ hj (by simp)) true (.cons (View.row (by simp) (by simp) rfl (brows_ok _)) (.nil)) (by first | rfl | (simp only [Nat.add_zero, app_get, app_getk, sapp_get, sapp_getk, Nat.add_assoc, Nat.reduceAdd, List.getElem?_cons_zero, List.getElem?_cons_succ]; done) | simp) (bytes_ok _) (by simp [V.ids]) (fun _ => ⟨rfl, bytes_flat _⟩) ?_
      simp only [go_sem, v86, p86]
      refine awp_freeze (o := rest.length + 3) (ob := ⟨1, rw_ byteC [out, putI a.floors[i].id, putI a.floors[i].inc].flatten⟩) (by simp) (bytes_ok _) ?_
      rw [hfl]
      have np : (0 : Nat) ≠ rest.length + 3 := by omega
      generalize hq : out ++ floorB a.floors[i] = out2
      simp only [go_sem, v86, p86, frz_ptr _ _ _ _ _ np]
      refine awp_reg ?_
      simp only [go_sem, R86_15, v86, p86, wrap_succ (i := i) (by omega)]
      refine ⟨a.floors.length - (i + 1), ?_, ?_⟩
      rotate_left
      rw [hJ]
      refine ⟨i + 1, _, _, _, _, _, _, _, _, _, _, _, _, _, _, rfl, ?_, rfl, rfl⟩
      · exact ⟨by omega, by rw [c1, ← hq, ho2, List.append_assoc]⟩
      · omega
    · intro h2
      refine awp_exit ?_
      simp only [go_sem]
      have : i = a.floors.length := by omega
      subst this
      rw [List.take_length] at ho2
      refine awp_sr ?_
      simp only [go_sem, R86_16, v86, p86]
      refine awp_ret ?_
      try simp only [go_sem]
      rw [hQ, show stateB a = out by rw [ho2, ← hq1, ho]; rfl]
      exact Ends.is (.inl rfl) rfl rfl rfl
end Go.Proofs.Ytffigokicddekaa.Abs
/- Rows of whole numbers looked through and compared; leaves; walked in both texts. No condition. -/
set_option linter.unusedVariables false
set_option linter.unusedSimpArgs false
set_option maxRecDepth 10000
namespace Go.Proofs.Ytffigokicddekaa.Abs
open Go Go.Proofs
def R52_0 : List AR := [⟨(some 4), none, 0, (.mov (.k (.bool false)))⟩]
def R52_1 : List AR := [⟨(some 5), none, 0, (.mov (.k (.int .i64 0)))⟩]
def R52_2 : List AR := [⟨(some 6), none, 0, (.mov (.t 5))⟩, ⟨(some 7), none, 0, (.mov (.t 0))⟩, ⟨(some 8), none, 0, (.len (.t 7))⟩, ⟨(some 9), none, 0, (.bin .lss (.t 6) (.t 8))⟩]
def R52_3 : List AR := [⟨(some 12), none, 0, (.mov (.t 0))⟩, ⟨(some 13), none, 0, (.mov (.t 5))⟩, ⟨(some 14), none, 0, (.iaddr 1 (.t 12) (.t 13))⟩, ⟨(some 15), none, 0, (.load 1 false (.t 14))⟩, ⟨(some 16), none, 0, (.mov (.t 1))⟩, ⟨(some 17), none, 0, (.bin .eql (.t 15) (.t 16))⟩]
def R52_4 : List AR := [⟨(some 4), none, 0, (.mov (.k (.bool true)))⟩]
def R52_5 : List AR := [⟨(some 10), none, 0, (.mov (.t 5))⟩, ⟨(some 11), none, 0, (.bin .add (.t 10) (.k (.int .i64 1)))⟩, ⟨(some 5), none, 0, (.mov (.t 11))⟩]
def A52_0 : AC := (.seq (.block 1 (.seq (.reg 0 R52_3) (.cond (.t 17) (.seq (.reg 0 R52_4) .ret) .skip))) (.reg 0 R52_5))
def L52_0 : AC := (.seq (.seq (.reg 0 R52_2) (.cond (.t 9) .skip (.exit 0))) A52_0)
def R52_6 : List AR := [⟨(some 4), none, 0, (.mov (.k (.bool false)))⟩]
def A52_1 : AC := (.seq (.reg 0 R52_6) .ret)
def A52_2 : AC := (.seq (.seq (.reg 0 R52_1) (.block 0 (.loop L52_0))) A52_1)
def A52 : AC := (.seq (.reg 0 R52_0) A52_2)
def O52 : List AO := [(.mov (.t 4))]
def G52 : Fns := ⟨fun f => false, fun f => 0, false⟩
noncomputable def X52 : Cx := ⟨Try.prog, G52, drawD, 18, [0, 1, 4, 5, 9, 17]⟩
theorem c52 : (Try.f52.body).bind (compC X52.P X52.Γ X52.D X52.nt) = some A52 := by kernel_rfl
theorem o52 : compRes X52.P Try.f52.results.toList = some O52 := by kernel_rfl
theorem v52 : X52.vs = [0, 1, 4, 5, 9, 17] := rfl
theorem p52 : X52.P = Try.prog := rfl
def R95_0 : List AR := [⟨(some 4), none, 0, (.mov (.k (.int .i64 0)))⟩]
def R95_1 : List AR := [⟨(some 6), none, 0, (.mov (.t 0))⟩, ⟨(some 7), none, 0, (.len (.t 6))⟩, ⟨(some 8), none, 0, (.mov (.k (.int .i64 0)))⟩]
def R95_2 : List AR := [⟨(some 9), none, 0, (.bin .lss (.t 8) (.t 7))⟩]
def R95_3 : List AR := [⟨(some 10), none, 0, (.mov (.t 8))⟩, ⟨(some 5), none, 0, (.mov (.t 10))⟩]
def R95_4 : List AR := [⟨(some 11), none, 0, (.mov (.t 1))⟩, ⟨(some 12), none, 0, (.mov (.t 0))⟩, ⟨(some 13), none, 0, (.mov (.t 5))⟩, ⟨(some 14), none, 0, (.iaddr 1 (.t 12) (.t 13))⟩, ⟨(some 15), none, 0, (.load 1 false (.t 14))⟩, ⟨(some 16), none, 0, (.bin .eql (.t 11) (.t 15))⟩]
def R95_5 : List AR := [⟨(some 17), none, 0, (.mov (.t 5))⟩, ⟨(some 4), none, 0, (.mov (.t 17))⟩]
def A95_0 : AC := (.seq (.reg 0 R95_4) (.cond (.t 16) (.seq (.reg 0 R95_5) .ret) .skip))
def R95_6 : List AR := [⟨(some 18), none, 0, (.bin .add (.t 8) (.k (.int .i64 1)))⟩, ⟨(some 8), none, 0, (.mov (.t 18))⟩]
def A95_1 : AC := (.seq (.block 1 (.seq (.reg 0 R95_3) A95_0)) (.reg 0 R95_6))
def A95_2 : AC := (.seq (.cond (.t 9) .skip (.exit 0)) A95_1)
def L95_0 : AC := (.seq (.reg 0 R95_2) A95_2)
def R95_7 : List AR := [⟨(some 4), none, 0, (.mov (.k (.int .i64 (-1))))⟩]
def A95_3 : AC := (.seq (.reg 0 R95_7) .ret)
def A95_4 : AC := (.seq (.seq (.reg 0 R95_1) (.block 0 (.loop L95_0))) A95_3)
def A95 : AC := (.seq (.reg 0 R95_0) A95_4)
def O95 : List AO := [(.mov (.t 4))]
def G95 : Fns := ⟨fun f => false, fun f => 0, false⟩
noncomputable def X95 : Cx := ⟨Try.prog, G95, drawD, 19, [0, 1, 4, 5, 7, 8, 9, 16]⟩
theorem c95 : (Try.f95.body).bind (compC X95.P X95.Γ X95.D X95.nt) = some A95 := by kernel_rfl
theorem o95 : compRes X95.P Try.f95.results.toList = some O95 := by kernel_rfl
theorem v95 : X95.vs = [0, 1, 4, 5, 7, 8, 9, 16] := rfl
theorem p95 : X95.P = Try.prog := rfl
def R51_0 : List AR := [⟨(some 4), none, 0, (.mov (.k (.bool false)))⟩]
def R51_1 : List AR := [⟨(some 5), none, 0, (.mov (.t 0))⟩, ⟨(some 6), none, 0, (.mov (.t 1))⟩, ⟨(some 7), none, 0, (.call false 0 0 95 [(.t 5), (.t 6)])⟩, ⟨(some 8), none, 0, (.bin .geq (.t 7) (.k (.int .i64 0)))⟩, ⟨(some 4), none, 0, (.mov (.t 8))⟩]
def A51_0 : AC := (.seq (.reg 0 R51_1) .ret)
def A51 : AC := (.seq (.reg 0 R51_0) A51_0)
def O51 : List AO := [(.mov (.t 4))]
def G51 : Fns := ⟨fun f => false, fun f => 0, false⟩
noncomputable def X51 : Cx := ⟨Try.prog, G51, drawD, 9, [0, 1, 4]⟩
theorem c51 : (Try.f51.body).bind (compC X51.P X51.Γ X51.D X51.nt) = some A51 := by kernel_rfl
theorem o51 : compRes X51.P Try.f51.results.toList = some O51 := by kernel_rfl
theorem v51 : X51.vs = [0, 1, 4] := rfl
theorem p51 : X51.P = Try.prog := rfl
def R160_0 : List AR := [⟨(some 4), none, 0, (.mov (.k (.bool false)))⟩]
def R160_1 : List AR := [⟨(some 6), none, 0, (.mov (.t 0))⟩, ⟨(some 7), none, 0, (.len (.t 6))⟩, ⟨(some 8), none, 0, (.mov (.t 1))⟩, ⟨(some 9), none, 0, (.len (.t 8))⟩, ⟨(some 10), none, 0, (.bin .neq (.t 7) (.t 9))⟩]
def R160_2 : List AR := [⟨(some 4), none, 0, (.mov (.k (.bool false)))⟩]
def R160_3 : List AR := [⟨(some 5), none, 0, (.mov (.k (.int .i64 0)))⟩]
def R160_4 : List AR := [⟨(some 11), none, 0, (.mov (.t 5))⟩, ⟨(some 12), none, 0, (.mov (.t 0))⟩, ⟨(some 13), none, 0, (.len (.t 12))⟩, ⟨(some 14), none, 0, (.bin .lss (.t 11) (.t 13))⟩]
def R160_5 : List AR := [⟨(some 17), none, 0, (.mov (.t 0))⟩, ⟨(some 18), none, 0, (.mov (.t 5))⟩, ⟨(some 19), none, 0, (.iaddr 1 (.t 17) (.t 18))⟩, ⟨(some 20), none, 0, (.load 1 false (.t 19))⟩, ⟨(some 21), none, 0, (.mov (.t 1))⟩, ⟨(some 22), none, 0, (.mov (.t 5))⟩, ⟨(some 23), none, 0, (.iaddr 1 (.t 21) (.t 22))⟩, ⟨(some 24), none, 0, (.load 1 false (.t 23))⟩, ⟨(some 25), none, 0, (.bin .neq (.t 20) (.t 24))⟩]
def R160_6 : List AR := [⟨(some 4), none, 0, (.mov (.k (.bool false)))⟩]
def R160_7 : List AR := [⟨(some 15), none, 0, (.mov (.t 5))⟩, ⟨(some 16), none, 0, (.bin .add (.t 15) (.k (.int .i64 1)))⟩, ⟨(some 5), none, 0, (.mov (.t 16))⟩]
def A160_0 : AC := (.seq (.block 1 (.seq (.draw 0 R160_5) (.cond (.t 25) (.seq (.reg 0 R160_6) .ret) .skip))) (.reg 0 R160_7))
def L160_0 : AC := (.seq (.seq (.reg 0 R160_4) (.cond (.t 14) .skip (.exit 0))) A160_0)
def R160_8 : List AR := [⟨(some 4), none, 0, (.mov (.k (.bool true)))⟩]
def A160_1 : AC := (.seq (.reg 0 R160_8) .ret)
def A160_2 : AC := (.seq (.seq (.reg 0 R160_3) (.block 0 (.loop L160_0))) A160_1)
def A160_3 : AC := (.seq (.seq (.reg 0 R160_1) (.cond (.t 10) (.seq (.reg 0 R160_2) .ret) .skip)) A160_2)
def A160 : AC := (.seq (.reg 0 R160_0) A160_3)
def O160 : List AO := [(.mov (.t 4))]
def G160 : Fns := ⟨fun f => false, fun f => 0, false⟩
noncomputable def X160 : Cx := ⟨Try.prog, G160, drawD, 26, [0, 1, 4, 5, 10, 14, 25]⟩
theorem c160 : (Try.f160.body).bind (compC X160.P X160.Γ X160.D X160.nt) = some A160 := by kernel_rfl
theorem o160 : compRes X160.P Try.f160.results.toList = some O160 := by kernel_rfl
theorem v160 : X160.vs = [0, 1, 4, 5, 10, 14, 25] := rfl
theorem p160 : X160.P = Try.prog := rfl
def R164_0 : List AR := [⟨(some 4), none, 0, (.mov (.k (.bool false)))⟩]
def R164_1 : List AR := [⟨(some 6), none, 0, (.mov (.t 0))⟩, ⟨(some 7), none, 0, (.len (.t 6))⟩, ⟨(some 8), none, 0, (.mov (.t 1))⟩, ⟨(some 9), none, 0, (.len (.t 8))⟩, ⟨(some 10), none, 0, (.bin .neq (.t 7) (.t 9))⟩]
def R164_2 : List AR := [⟨(some 4), none, 0, (.mov (.k (.bool false)))⟩]
def R164_3 : List AR := [⟨(some 11), none, 0, (.mov (.t 0))⟩, ⟨(some 12), none, 0, (.len (.t 11))⟩, ⟨(some 13), none, 0, (.mov (.k (.int .i64 0)))⟩]
def R164_4 : List AR := [⟨(some 14), none, 0, (.bin .lss (.t 13) (.t 12))⟩]
def R164_5 : List AR := [⟨(some 15), none, 0, (.mov (.t 13))⟩, ⟨(some 5), none, 0, (.mov (.t 15))⟩]
def R164_6 : List AR := [⟨(some 16), none, 0, (.mov (.t 0))⟩, ⟨(some 17), none, 0, (.mov (.t 5))⟩, ⟨(some 18), none, 0, (.iaddr 1 (.t 16) (.t 17))⟩, ⟨(some 19), none, 0, (.load 1 false (.t 18))⟩, ⟨(some 20), none, 0, (.mov (.t 1))⟩, ⟨(some 21), none, 0, (.mov (.t 5))⟩, ⟨(some 22), none, 0, (.iaddr 1 (.t 20) (.t 21))⟩, ⟨(some 23), none, 0, (.load 1 false (.t 22))⟩, ⟨(some 24), none, 0, (.bin .neq (.t 19) (.t 23))⟩]
def R164_7 : List AR := [⟨(some 4), none, 0, (.mov (.k (.bool false)))⟩]
def A164_0 : AC := (.seq (.draw 0 R164_6) (.cond (.t 24) (.seq (.reg 0 R164_7) .ret) .skip))
def R164_8 : List AR := [⟨(some 25), none, 0, (.bin .add (.t 13) (.k (.int .i64 1)))⟩, ⟨(some 13), none, 0, (.mov (.t 25))⟩]
def A164_1 : AC := (.seq (.block 1 (.seq (.reg 0 R164_5) A164_0)) (.reg 0 R164_8))
def A164_2 : AC := (.seq (.cond (.t 14) .skip (.exit 0)) A164_1)
def L164_0 : AC := (.seq (.reg 0 R164_4) A164_2)
def R164_9 : List AR := [⟨(some 4), none, 0, (.mov (.k (.bool true)))⟩]
def A164_3 : AC := (.seq (.reg 0 R164_9) .ret)
def A164_4 : AC := (.seq (.seq (.reg 0 R164_3) (.block 0 (.loop L164_0))) A164_3)
def A164_5 : AC := (.seq (.seq (.reg 0 R164_1) (.cond (.t 10) (.seq (.reg 0 R164_2) .ret) .skip)) A164_4)
def A164 : AC := (.seq (.reg 0 R164_0) A164_5)
def O164 : List AO := [(.mov (.t 4))]
def G164 : Fns := ⟨fun f => false, fun f => 0, false⟩
noncomputable def X164 : Cx := ⟨Try.prog, G164, drawD, 26, [0, 1, 4, 5, 10, 12, 13, 14, 24]⟩
theorem c164 : (Try.f164.body).bind (compC X164.P X164.Γ X164.D X164.nt) = some A164 := by kernel_rfl
theorem o164 : compRes X164.P Try.f164.results.toList = some O164 := by kernel_rfl
theorem v164 : X164.vs = [0, 1, 4, 5, 10, 12, 13, 14, 24] := rfl
theorem p164 : X164.P = Try.prog := rfl
def R176_0 : List AR := [⟨(some 2), none, 0, (.mov (.k (.int .i64 0)))⟩]
def R176_1 : List AR := [⟨(some 3), none, 0, (.mov (.t 0))⟩, ⟨(some 4), none, 0, (.call false 0 0 98 [(.t 3)])⟩, ⟨(some 5), none, 0, (.not (.t 4))⟩]
def R176_2 : List AR := [⟨(some 2), none, 0, (.mov (.k (.int .i64 (-1))))⟩]
def R176_3 : List AR := [⟨(some 6), none, 0, (.mov (.t 0))⟩, ⟨(some 7), none, 0, (.call false 0 0 154 [(.t 6)])⟩, ⟨(some 8), none, 0, (.call false 0 0 156 [(.t 7)])⟩, ⟨(some 9), none, 0, (.bin .rem (.t 8) (.k (.int .i64 4)))⟩, ⟨(some 2), none, 0, (.mov (.t 9))⟩]
def A176_0 : AC := (.seq (.reg 0 R176_3) .ret)
def A176_1 : AC := (.seq (.seq (.reg 0 R176_1) (.cond (.t 5) (.seq (.reg 0 R176_2) .ret) .skip)) A176_0)
def A176 : AC := (.seq (.reg 0 R176_0) A176_1)
def O176 : List AO := [(.mov (.t 2))]
def G176 : Fns := ⟨fun f => false, fun f => 0, false⟩
noncomputable def X176 : Cx := ⟨Try.prog, G176, drawD, 10, [0, 2, 5]⟩
theorem c176 : (Try.f176.body).bind (compC X176.P X176.Γ X176.D X176.nt) = some A176 := by kernel_rfl
theorem o176 : compRes X176.P Try.f176.results.toList = some O176 := by kernel_rfl
theorem v176 : X176.vs = [0, 2, 5] := rfl
theorem p176 : X176.P = Try.prog := rfl
def R177_0 : List AR := [⟨(some 2), none, 0, (.mov (.k (.int .i64 0)))⟩]
def R177_1 : List AR := [⟨(some 3), none, 0, (.mov (.t 0))⟩, ⟨(some 4), none, 0, (.call false 0 0 104 [(.t 3)])⟩, ⟨(some 5), none, 0, (.not (.t 4))⟩]
def R177_2 : List AR := [⟨(some 2), none, 0, (.mov (.k (.int .i64 (-1))))⟩]
def R177_3 : List AR := [⟨(some 6), none, 0, (.mov (.t 0))⟩, ⟨(some 7), none, 0, (.call false 0 0 118 [(.t 6)])⟩, ⟨(some 8), none, 0, (.call false 0 0 159 [(.t 7)])⟩, ⟨(some 9), none, 0, (.bin .rem (.t 8) (.k (.int .i64 4)))⟩, ⟨(some 2), none, 0, (.mov (.t 9))⟩]
def A177_0 : AC := (.seq (.reg 0 R177_3) .ret)
def A177_1 : AC := (.seq (.seq (.reg 0 R177_1) (.cond (.t 5) (.seq (.reg 0 R177_2) .ret) .skip)) A177_0)
def A177 : AC := (.seq (.reg 0 R177_0) A177_1)
def O177 : List AO := [(.mov (.t 2))]
def G177 : Fns := ⟨fun f => false, fun f => 0, false⟩
noncomputable def X177 : Cx := ⟨Try.prog, G177, drawD, 10, [0, 2, 5]⟩
theorem c177 : (Try.f177.body).bind (compC X177.P X177.Γ X177.D X177.nt) = some A177 := by kernel_rfl
theorem o177 : compRes X177.P Try.f177.results.toList = some O177 := by kernel_rfl
theorem v177 : X177.vs = [0, 2, 5] := rfl
theorem p177 : X177.P = Try.prog := rfl
def R122_0 : List AR := [⟨(some 2), none, 0, (.box 0 2 (.t 0))⟩, ⟨(some 3), none, 0, (.box 1 2 (.t 1))⟩, ⟨(some 4), none, 0, (.mov (.k (.bool false)))⟩]
def R122_1 : List AR := [⟨(some 5), none, 0, (.faddr 0 (.t 2))⟩, ⟨(some 6), none, 0, (.load 1 false (.t 5))⟩, ⟨(some 7), none, 0, (.faddr 0 (.t 3))⟩, ⟨(some 8), none, 0, (.load 1 false (.t 7))⟩, ⟨(some 9), none, 0, (.call false 0 0 160 [(.t 6), (.t 8)])⟩, ⟨(some 10), none, 0, (.mov (.t 9))⟩, ⟨(some 11), (some (10, true)), 0, (.faddr 1 (.t 2))⟩, ⟨(some 12), (some (10, true)), 0, (.load 1 false (.t 11))⟩, ⟨(some 13), (some (10, true)), 0, (.faddr 1 (.t 3))⟩, ⟨(some 14), (some (10, true)), 0, (.load 1 false (.t 13))⟩, ⟨(some 15), (some (10, true)), 0, (.bin .eql (.t 12) (.t 14))⟩, ⟨(some 16), none, 0, (.pick (.t 10) (.t 15) (.k (.bool false)))⟩, ⟨(some 4), none, 0, (.mov (.t 16))⟩]
def A122_0 : AC := (.seq (.reg 0 R122_1) .ret)
def A122 : AC := (.seq (.reg 2 R122_0) A122_0)
def O122 : List AO := [(.mov (.t 4))]
def G122 : Fns := ⟨fun f => false, fun f => 0, false⟩
noncomputable def X122 : Cx := ⟨Try.prog, G122, drawD, 17, [0, 1, 2, 3, 4]⟩
theorem c122 : (Try.f122.body).bind (compC X122.P X122.Γ X122.D X122.nt) = some A122 := by kernel_rfl
theorem o122 : compRes X122.P Try.f122.results.toList = some O122 := by kernel_rfl
theorem v122 : X122.vs = [0, 1, 2, 3, 4] := rfl
theorem p122 : X122.P = Try.prog := rfl
def R131_0 : List AR := [⟨(some 2), none, 0, (.box 0 2 (.t 0))⟩, ⟨(some 3), none, 0, (.box 1 2 (.t 1))⟩, ⟨(some 4), none, 0, (.mov (.k (.bool false)))⟩]
def R131_1 : List AR := [⟨(some 5), none, 0, (.faddr 0 (.t 2))⟩, ⟨(some 6), none, 0, (.load 1 false (.t 5))⟩, ⟨(some 7), none, 0, (.faddr 0 (.t 3))⟩, ⟨(some 8), none, 0, (.load 1 false (.t 7))⟩, ⟨(some 9), none, 0, (.call false 0 0 164 [(.t 6), (.t 8)])⟩, ⟨(some 10), none, 0, (.mov (.t 9))⟩, ⟨(some 11), (some (10, true)), 0, (.faddr 1 (.t 2))⟩, ⟨(some 12), (some (10, true)), 0, (.load 1 false (.t 11))⟩, ⟨(some 13), (some (10, true)), 0, (.faddr 1 (.t 3))⟩, ⟨(some 14), (some (10, true)), 0, (.load 1 false (.t 13))⟩, ⟨(some 15), (some (10, true)), 0, (.bin .eql (.t 12) (.t 14))⟩, ⟨(some 16), none, 0, (.pick (.t 10) (.t 15) (.k (.bool false)))⟩, ⟨(some 4), none, 0, (.mov (.t 16))⟩]
def A131_0 : AC := (.seq (.reg 0 R131_1) .ret)
def A131 : AC := (.seq (.reg 2 R131_0) A131_0)
def O131 : List AO := [(.mov (.t 4))]
def G131 : Fns := ⟨fun f => false, fun f => 0, false⟩
noncomputable def X131 : Cx := ⟨Try.prog, G131, drawD, 17, [0, 1, 2, 3, 4]⟩
theorem c131 : (Try.f131.body).bind (compC X131.P X131.Γ X131.D X131.nt) = some A131 := by kernel_rfl
theorem o131 : compRes X131.P Try.f131.results.toList = some O131 := by kernel_rfl
theorem v131 : X131.vs = [0, 1, 2, 3, 4] := rfl
theorem p131 : X131.P = Try.prog := rfl
theorem specL1Has_ok (xs : List Int) (x : Int) (h : xs.length ≤ 1048576) : FS Try.prog 52 [] [.fz 1 (rw_ intC xs), .int .i64 x] (.bool (decide (x ∈ xs))) [] := by
  refine FS.of (X := X52) (ac := A52) (os := O52) Try.func52 (by rfl) (by rfl) (by kernel_rfl) o52 (Nat.le_of_ble_eq_true rfl) ?_
  show AWP X52 A52 (Ends X52.vs O52 0 _ _) [.fz 1 (rw_ intC xs), .int .i64 x, .tup [], .tup [], .tup [], .tup []] []
  obtain ⟨Q, hQ⟩ : ∃ Q, Q = Ends X52.vs O52 0 (.bool (decide (x ∈ xs))) [] := ⟨_, rfl⟩
  rw [← hQ]
  have fin : ∀ L σ vV, resVs O52 (look X52.vs L) σ = some [vV] → vV = (.bool (decide (x ∈ xs))) → Q .ret L σ := by
    intro L σ vV h1 h2
    rw [hQ]
    exact Ends.is (.inl rfl) h1 (by simp only [packV, h2]) rfl
  refine awp_sr ?_
  simp only [go_sem, R52_0, v52, p52]
  refine awp_sr2 ?_
  simp only [go_sem, R52_1, v52, p52]
  obtain ⟨I, hI⟩ : ∃ I : Nat → List V → Store → Prop, I = fun mM L σ => ∃ i rest y4 y9 y17, mM = xs.length - i ∧ i ≤ xs.length ∧ (∀ j y, j < i → xs[j]? = some y → y ≠ x) ∧ L = [.fz 1 (rw_ intC xs), .int .i64 x, y4, .int .i64 (i : Nat), y9, y17] ∧ σ = rest := ⟨_, rfl⟩
  first | refine awp_for I xs.length ?_ ?_ | refine awp_seq (awp_for I xs.length ?_ ?_)
  · rw [hI]; refine ⟨0, _, _, _, _, rfl, Nat.zero_le _, ?_, rfl, rfl⟩
    intro j y h; omega
  intro mM L σ hIn
  rw [hI] at hIn
  obtain ⟨i, rest, y4, y9, y17, rfl, hi, hP, rfl, rfl⟩ := hIn
  refine awp_sr2 ?_
  simp only [go_sem, R52_2, v52, p52]
  refine awp_if rfl ?_ ?_
  · intro h1
    have h1 : i < xs.length := by omega
    refine awp_skip ?_
    simp only [go_sem]
    refine awp_seq (awp_block ?_)
    refine awp_sr ?_
    simp only [go_sem, R52_3, v52, p52, rw_at _ h1, intC]
    refine awp_if rfl ?_ ?_
    · intro h2
      refine awp_sr ?_
      simp only [go_sem, R52_4, v52, p52]
      refine awp_ret ?_
      try simp only [go_sem]
      exact fin _ _ (.bool true) rfl (congrArg V.bool (decide_eq_true (h2 ▸ List.getElem_mem h1)).symm)
    · intro h2
      refine awp_skip ?_
      simp only [go_sem]
      refine awp_reg ?_
      simp only [go_sem, R52_5, v52, p52, wrap_succ (i := i) (by omega)]
      refine ⟨xs.length - (i + 1), by omega, ?_⟩
      rw [hI]
      refine ⟨i + 1, _, _, _, _, rfl, by omega, ?_, rfl, rfl⟩
      exact upto_succ (p := fun _ y => y ≠ x) hP h1 h2
  · intro h1
    refine awp_exit ?_
    simp only [go_sem]
    have hall := upto_all (p := fun _ y => y ≠ x) hP (by omega)
    refine awp_sr ?_
    simp only [go_sem, R52_6, v52, p52]
    refine awp_ret ?_
    try simp only [go_sem]
    refine fin _ _ (.bool false) rfl (congrArg V.bool (decide_eq_false fun e => ?_)).symm
    obtain ⟨j, hj⟩ := List.mem_iff_getElem?.1 e
    exact hall j x hj rfl
/-- the first place of x, counted from k -/
def idxL : List Int → Nat → Int → Int
  | [], _, _ => -1
  | y :: ys, k, x => if x = y then (k : Int) else idxL ys (k + 1) x
theorem idxL_at {xs : List Int} {i : Nat} (h : i < xs.length) (k : Nat) (x : Int) : idxL (xs.drop i) k x = if x = xs[i] then (k : Int) else idxL (xs.drop (i + 1)) (k + 1) x := by
  rw [List.drop_eq_getElem_cons h]; rfl
theorem idxL_has : ∀ (xs : List Int) (k : Nat) (x : Int), 0 ≤ idxL xs k x ↔ x ∈ xs
  | [], k, x => by simp [idxL]
  | y :: ys, k, x => by
    unfold idxL
    split
    · rename_i h; simp [h]
    · rename_i h; rw [idxL_has ys (k + 1) x]; simp [h]
theorem index_ok (xs : List Int) (x : Int) (h : xs.length ≤ 1048576) : FS Try.prog 95 [] [.fz 1 (rw_ intC xs), .int .i64 x] (.int .i64 (idxL xs 0 x)) [] := by
  refine FS.of (X := X95) (ac := A95) (os := O95) Try.func95 (by rfl) (by rfl) (by kernel_rfl) o95 (Nat.le_of_ble_eq_true rfl) ?_
  show AWP X95 A95 (Ends X95.vs O95 0 _ _) [.fz 1 (rw_ intC xs), .int .i64 x, .tup [], .tup [], .tup [], .tup [], .tup [], .tup []] []
  obtain ⟨Q, hQ⟩ : ∃ Q, Q = Ends X95.vs O95 0 (.int .i64 (idxL xs 0 x)) [] := ⟨_, rfl⟩
  rw [← hQ]
  have fin : ∀ L σ vV, resVs O95 (look X95.vs L) σ = some [vV] → vV = (.int .i64 (idxL xs 0 x)) → Q .ret L σ := by
    intro L σ vV h1 h2
    rw [hQ]
    exact Ends.is (.inl rfl) h1 (by simp only [packV, h2]) rfl
  refine awp_sr ?_
  simp only [go_sem, R95_0, v95, p95]
  refine awp_sr2 ?_
  simp only [go_sem, R95_1, v95, p95]
  obtain ⟨I, hI⟩ : ∃ I : Nat → List V → Store → Prop, I = fun mM L σ => ∃ i rest y4 y5 y9 y16, mM = xs.length - i ∧ i ≤ xs.length ∧ (idxL xs 0 x = idxL (xs.drop i) i x) ∧ L = [.fz 1 (rw_ intC xs), .int .i64 x, y4, y5, .int .i64 (xs.length : Nat), .int .i64 (i : Nat), y9, y16] ∧ σ = rest := ⟨_, rfl⟩
  first | refine awp_for I xs.length ?_ ?_ | refine awp_seq (awp_for I xs.length ?_ ?_)
  · rw [hI]; refine ⟨0, _, _, _, _, _, rfl, Nat.zero_le _, ?_, rfl, rfl⟩
    rfl
  intro mM L σ hIn
  rw [hI] at hIn
  obtain ⟨i, rest, y4, y5, y9, y16, rfl, hi, hP, rfl, rfl⟩ := hIn
  refine awp_sr ?_
  simp only [go_sem, R95_2, v95, p95]
  refine awp_seq ?_
  refine awp_if rfl ?_ ?_
  · intro h1
    have h1 : i < xs.length := by omega
    have e1 := idxL_at h1 i x
    refine awp_skip ?_
    simp only [go_sem]
    refine awp_seq (awp_block ?_)
    refine awp_sr ?_
    simp only [go_sem, R95_3, v95, p95]
    refine awp_sr ?_
    simp only [go_sem, R95_4, v95, p95, rw_at _ h1, intC]
    refine awp_if rfl ?_ ?_
    · intro h2
      refine awp_sr ?_
      simp only [go_sem, R95_5, v95, p95]
      refine awp_ret ?_
      try simp only [go_sem]
      exact fin _ _ _ rfl (congrArg (V.int .i64) (by rw [hP, e1, if_pos h2]))
    · intro h2
      refine awp_skip ?_
      simp only [go_sem]
      refine awp_reg ?_
      simp only [go_sem, R95_6, v95, p95, wrap_succ (i := i) (by omega)]
      refine ⟨xs.length - (i + 1), by omega, ?_⟩
      rw [hI]
      refine ⟨i + 1, _, _, _, _, _, rfl, by omega, ?_, rfl, rfl⟩
      rw [hP, e1, if_neg h2]
  · intro h1
    refine awp_exit ?_
    simp only [go_sem]
    refine awp_sr ?_
    simp only [go_sem, R95_7, v95, p95]
    refine awp_ret ?_
    try simp only [go_sem]
    exact fin _ _ _ rfl (congrArg (V.int .i64) (by rw [hP, List.drop_eq_nil_of_le (by omega)]; rfl))
theorem contains_ok (xs : List Int) (x : Int) (h : xs.length ≤ 1048576) : FS Try.prog 51 [] [.fz 1 (rw_ intC xs), .int .i64 x] (.bool (decide (x ∈ xs))) [] := by
  refine FS.of (X := X51) (ac := A51) (os := O51) Try.func51 (by rfl) (by rfl) (by kernel_rfl) o51 (Nat.le_of_ble_eq_true rfl) ?_
  show AWP X51 A51 (Ends X51.vs O51 0 _ _) [.fz 1 (rw_ intC xs), .int .i64 x, .tup []] []
  obtain ⟨Q, hQ⟩ : ∃ Q, Q = Ends X51.vs O51 0 (.bool (decide (x ∈ xs))) [] := ⟨_, rfl⟩
  rw [← hQ]
  have fin : ∀ L σ vV, resVs O51 (look X51.vs L) σ = some [vV] → vV = (.bool (decide (x ∈ xs))) → Q .ret L σ := by
    intro L σ vV h1 h2
    rw [hQ]
    exact Ends.is (.inl rfl) h1 (by simp only [packV, h2]) rfl
  refine awp_sr ?_
  simp only [go_sem, R51_0, v51, p51]
  refine awp_sr ?_
  simp only [go_sem, R51_1, v51, p51]
  refine run_see (index_ok xs x h) false (Views.refl rfl) rfl (fun j hj => by first | omega | ((have hj0 : j = 0 := by omega); subst hj0; first | rfl | (simp only [Nat.add_zero, app_get, app_getk, sapp_get, sapp_getk, Nat.add_assoc, Nat.reduceAdd, List.getElem?_cons_zero, List.getElem?_cons_succ]; done) | simp)) (fun h => by cases h) ?_
  simp only [go_sem, v51, p51]
  refine awp_ret ?_
  try simp only [go_sem]
  refine fin _ _ _ rfl (congrArg V.bool ?_)
  have := idxL_has xs 0 x
  simp only [this]
theorem specL1Same_ok (xs ys : List Int) (h : xs.length ≤ 1048576) : FS Try.prog 160 [] [.fz 1 (rw_ intC xs), .fz 1 (rw_ intC ys)] (.bool (decide (xs = ys))) [] := by
  refine FS.of (X := X160) (ac := A160) (os := O160) Try.func160 (by rfl) (by rfl) (by kernel_rfl) o160 (Nat.le_of_ble_eq_true rfl) ?_
  show AWP X160 A160 (Ends X160.vs O160 0 _ _) [.fz 1 (rw_ intC xs), .fz 1 (rw_ intC ys), .tup [], .tup [], .tup [], .tup [], .tup []] []
  obtain ⟨Q, hQ⟩ : ∃ Q, Q = Ends X160.vs O160 0 (.bool (decide (xs = ys))) [] := ⟨_, rfl⟩
  rw [← hQ]
  have fin : ∀ L σ vV, resVs O160 (look X160.vs L) σ = some [vV] → vV = (.bool (decide (xs = ys))) → Q .ret L σ := by
    intro L σ vV h1 h2
    rw [hQ]
    exact Ends.is (.inl rfl) h1 (by simp only [packV, h2]) rfl
  refine awp_sr ?_
  simp only [go_sem, R160_0, v160, p160]
  refine awp_sr2 ?_
  simp only [go_sem, R160_1, v160, p160]
  refine awp_if rfl ?_ ?_
  · intro h1
    refine awp_sr ?_
    simp only [go_sem, R160_2, v160, p160]
    refine awp_ret ?_
    try simp only [go_sem]
    exact fin _ _ (.bool false) rfl (congrArg V.bool (decide_eq_false fun e => h1 (by rw [e]))).symm
  intro h1
  have hl : xs.length = ys.length := by omega
  refine awp_skip ?_
  simp only [go_sem]
  refine awp_sr2 ?_
  simp only [go_sem, R160_3, v160, p160]
  obtain ⟨I, hI⟩ : ∃ I : Nat → List V → Store → Prop, I = fun mM L σ => ∃ i rest y4 y10 y14 y25, mM = xs.length - i ∧ i ≤ xs.length ∧ (xs.take i = ys.take i) ∧ L = [.fz 1 (rw_ intC xs), .fz 1 (rw_ intC ys), y4, .int .i64 (i : Nat), y10, y14, y25] ∧ σ = rest := ⟨_, rfl⟩
  first | refine awp_for I xs.length ?_ ?_ | refine awp_seq (awp_for I xs.length ?_ ?_)
  · rw [hI]; refine ⟨0, _, _, _, _, _, rfl, Nat.zero_le _, ?_, rfl, rfl⟩
    simp
  intro mM L σ hIn
  rw [hI] at hIn
  obtain ⟨i, rest, y4, y10, y14, y25, rfl, hi, hP, rfl, rfl⟩ := hIn
  refine awp_sr2 ?_
  simp only [go_sem, R160_4, v160, p160]
  refine awp_if rfl ?_ ?_
  · intro h2
    have h2 : i < xs.length := by omega
    have h3 : i < ys.length := by omega
    refine awp_skip ?_
    simp only [go_sem]
    refine awp_seq (awp_block ?_)
    refine awp_sd mixed rfl (by rfl) ?_
    simp only [go_sem, R160_5, v160, p160, rw_at _ h2, rw_at _ h3, intC]
    refine awp_if rfl ?_ ?_
    · intro h4
      refine awp_sr ?_
      simp only [go_sem, R160_6, v160, p160]
      refine awp_ret ?_
      try simp only [go_sem]
      exact fin _ _ (.bool false) rfl (congrArg V.bool (decide_eq_false fun e => h4 (by subst e; rfl))).symm
    · intro h4
      have h4 : xs[i] = ys[i] := by simpa using h4
      refine awp_skip ?_
      simp only [go_sem]
      refine awp_reg ?_
      simp only [go_sem, R160_7, v160, p160, wrap_succ (i := i) (by omega)]
      refine ⟨xs.length - (i + 1), by omega, ?_⟩
      rw [hI]
      refine ⟨i + 1, _, _, _, _, _, rfl, by omega, ?_, rfl, rfl⟩
      rw [List.take_succ_eq_append_getElem h2, List.take_succ_eq_append_getElem h3, hP, h4]
  · intro h2
    refine awp_exit ?_
    simp only [go_sem]
    refine awp_sr ?_
    simp only [go_sem, R160_8, v160, p160]
    refine awp_ret ?_
    try simp only [go_sem]
    have : i = xs.length := by omega
    subst this
    rw [List.take_length, hl, List.take_length] at hP
    exact fin _ _ (.bool true) rfl (congrArg V.bool (decide_eq_true hP).symm)
theorem equal_ok (xs ys : List Int) (h : xs.length ≤ 1048576) : FS Try.prog 164 [] [.fz 1 (rw_ intC xs), .fz 1 (rw_ intC ys)] (.bool (decide (xs = ys))) [] := by
  refine FS.of (X := X164) (ac := A164) (os := O164) Try.func164 (by rfl) (by rfl) (by kernel_rfl) o164 (Nat.le_of_ble_eq_true rfl) ?_
  show AWP X164 A164 (Ends X164.vs O164 0 _ _) [.fz 1 (rw_ intC xs), .fz 1 (rw_ intC ys), .tup [], .tup [], .tup [], .tup [], .tup [], .tup [], .tup []] []
  obtain ⟨Q, hQ⟩ : ∃ Q, Q = Ends X164.vs O164 0 (.bool (decide (xs = ys))) [] := ⟨_, rfl⟩
  rw [← hQ]
  have fin : ∀ L σ vV, resVs O164 (look X164.vs L) σ = some [vV] → vV = (.bool (decide (xs = ys))) → Q .ret L σ := by
    intro L σ vV h1 h2
    rw [hQ]
    exact Ends.is (.inl rfl) h1 (by simp only [packV, h2]) rfl
  refine awp_sr ?_
  simp only [go_sem, R164_0, v164, p164]
  refine awp_sr2 ?_
  simp only [go_sem, R164_1, v164, p164]
  refine awp_if rfl ?_ ?_
  · intro h1
    refine awp_sr ?_
    simp only [go_sem, R164_2, v164, p164]
    refine awp_ret ?_
    try simp only [go_sem]
    exact fin _ _ (.bool false) rfl (congrArg V.bool (decide_eq_false fun e => h1 (by rw [e]))).symm
  intro h1
  have hl : xs.length = ys.length := by omega
  refine awp_skip ?_
  simp only [go_sem]
  refine awp_sr2 ?_
  simp only [go_sem, R164_3, v164, p164]
  obtain ⟨I, hI⟩ : ∃ I : Nat → List V → Store → Prop, I = fun mM L σ => ∃ i rest y4 y5 y10 y14 y24, mM = xs.length - i ∧ i ≤ xs.length ∧ (xs.take i = ys.take i) ∧ L = [.fz 1 (rw_ intC xs), .fz 1 (rw_ intC ys), y4, y5, y10, .int .i64 (xs.length : Nat), .int .i64 (i : Nat), y14, y24] ∧ σ = rest := ⟨_, rfl⟩
  first | refine awp_for I xs.length ?_ ?_ | refine awp_seq (awp_for I xs.length ?_ ?_)
  · rw [hI]; refine ⟨0, _, _, _, _, _, _, rfl, Nat.zero_le _, ?_, rfl, rfl⟩
    simp
  intro mM L σ hIn
  rw [hI] at hIn
  obtain ⟨i, rest, y4, y5, y10, y14, y24, rfl, hi, hP, rfl, rfl⟩ := hIn
  refine awp_sr ?_
  simp only [go_sem, R164_4, v164, p164]
  refine awp_seq ?_
  refine awp_if rfl ?_ ?_
  · intro h2
    have h2 : i < xs.length := by omega
    have h3 : i < ys.length := by omega
    refine awp_skip ?_
    simp only [go_sem]
    refine awp_seq (awp_block ?_)
    refine awp_sr ?_
    simp only [go_sem, R164_5, v164, p164]
    refine awp_sd mixed rfl (by rfl) ?_
    simp only [go_sem, R164_6, v164, p164, rw_at _ h2, rw_at _ h3, intC]
    refine awp_if rfl ?_ ?_
    · intro h4
      refine awp_sr ?_
      simp only [go_sem, R164_7, v164, p164]
      refine awp_ret ?_
      try simp only [go_sem]
      exact fin _ _ (.bool false) rfl (congrArg V.bool (decide_eq_false fun e => h4 (by subst e; rfl))).symm
    · intro h4
      have h4 : xs[i] = ys[i] := by simpa using h4
      refine awp_skip ?_
      simp only [go_sem]
      refine awp_reg ?_
      simp only [go_sem, R164_8, v164, p164, wrap_succ (i := i) (by omega)]
      refine ⟨xs.length - (i + 1), by omega, ?_⟩
      rw [hI]
      refine ⟨i + 1, _, _, _, _, _, _, rfl, by omega, ?_, rfl, rfl⟩
      rw [List.take_succ_eq_append_getElem h2, List.take_succ_eq_append_getElem h3, hP, h4]
  · intro h2
    refine awp_exit ?_
    simp only [go_sem]
    refine awp_sr ?_
    simp only [go_sem, R164_9, v164, p164]
    refine awp_ret ?_
    try simp only [go_sem]
    have : i = xs.length := by omega
    subst this
    rw [List.take_length, hl, List.take_length] at hP
    exact fin _ _ (.bool true) rfl (congrArg V.bool (decide_eq_true hP).symm)
/-- a node's leaf -/
def leafOf (id : Int) : Int := if 0 ≤ id ∧ id ≤ 4 then ((crc (putI id) % 4 : Nat) : Int) else -1
theorem specLeafOf_ok (id : Int) : FS Try.prog 176 [] [.int .i64 id] (.int .i64 (leafOf id)) [] := by
  refine FS.of (X := X176) (ac := A176) (os := O176) Try.func176 (by rfl) (by rfl) (by kernel_rfl) o176 (Nat.le_of_ble_eq_true rfl) ?_
  show AWP X176 A176 (Ends X176.vs O176 0 _ _) [.int .i64 id, .tup [], .tup []] []
  obtain ⟨Q, hQ⟩ : ∃ Q, Q = Ends X176.vs O176 0 (.int .i64 (leafOf id)) [] := ⟨_, rfl⟩
  rw [← hQ]
  have fin : ∀ L σ vV, resVs O176 (look X176.vs L) σ = some [vV] → vV = (.int .i64 (leafOf id)) → Q .ret L σ := by
    intro L σ vV h1 h2
    rw [hQ]
    exact Ends.is (.inl rfl) h1 (by simp only [packV, h2]) rfl
  refine awp_sr ?_
  simp only [go_sem, R176_0, v176, p176]
  refine awp_sr2 ?_
  simp only [go_sem, R176_1, v176, p176]
  refine run_see (l3Node_ok _) false (Views.refl rfl) rfl (fun j hj => by first | omega | ((have hj0 : j = 0 := by omega); subst hj0; first | rfl | (simp only [Nat.add_zero, app_get, app_getk, sapp_get, sapp_getk, Nat.add_assoc, Nat.reduceAdd, List.getElem?_cons_zero, List.getElem?_cons_succ]; done) | simp)) (fun h => by cases h) ?_
  simp only [go_sem, v176, p176]
  refine awp_if' rfl ?_ ?_
  · intro h1
    refine awp_sr ?_
    simp only [go_sem, R176_2, v176, p176]
    refine awp_ret ?_
    try simp only [go_sem]
    exact fin _ _ (.int .i64 (-1)) rfl (congrArg (V.int .i64) (if_neg h1).symm)
  intro h1
  have hf : fit id := ⟨h1.1, by omega⟩
  have h5 := putI_5 hf
  refine awp_skip ?_
  simp only [go_sem]
  refine awp_sr ?_
  simp only [go_sem, R176_3, v176, p176]
  refine run_see (specPutI_fz hf) false (Views.refl rfl) rfl (fun j hj => by first | omega | ((have hj0 : j = 0 := by omega); subst hj0; first | rfl | (simp only [Nat.add_zero, app_get, app_getk, sapp_get, sapp_getk, Nat.add_assoc, Nat.reduceAdd, List.getElem?_cons_zero, List.getElem?_cons_succ]; done) | simp)) (fun h => by cases h) ?_
  simp only [go_sem, v176, p176]
  refine run_see (specCrc_ok (putI id) (by simp only [lim]; omega)) false (Views.refl rfl) rfl (fun j hj => by first | omega | ((have hj0 : j = 0 := by omega); subst hj0; first | rfl | (simp only [Nat.add_zero, app_get, app_getk, sapp_get, sapp_getk, Nat.add_assoc, Nat.reduceAdd, List.getElem?_cons_zero, List.getElem?_cons_succ]; done) | simp)) (fun h => by cases h) ?_
  simp only [go_sem, v176, p176, show ((crc (putI id) : Int).tmod 4) = ((crc (putI id) % 4 : Nat) : Int) from tmod_nat _ 4]
  refine awp_ret ?_
  try simp only [go_sem]
  exact fin _ _ _ rfl (congrArg (V.int .i64) (if_pos h1).symm)
theorem implLeafOf_ok (id : Int) : FS Try.prog 177 [] [.int .i64 id] (.int .i64 (leafOf id)) [] := by
  refine FS.of (X := X177) (ac := A177) (os := O177) Try.func177 (by rfl) (by rfl) (by kernel_rfl) o177 (Nat.le_of_ble_eq_true rfl) ?_
  show AWP X177 A177 (Ends X177.vs O177 0 _ _) [.int .i64 id, .tup [], .tup []] []
  obtain ⟨Q, hQ⟩ : ∃ Q, Q = Ends X177.vs O177 0 (.int .i64 (leafOf id)) [] := ⟨_, rfl⟩
  rw [← hQ]
  have fin : ∀ L σ vV, resVs O177 (look X177.vs L) σ = some [vV] → vV = (.int .i64 (leafOf id)) → Q .ret L σ := by
    intro L σ vV h1 h2
    rw [hQ]
    exact Ends.is (.inl rfl) h1 (by simp only [packV, h2]) rfl
  refine awp_sr ?_
  simp only [go_sem, R177_0, v177, p177]
  refine awp_sr2 ?_
  simp only [go_sem, R177_1, v177, p177]
  refine run_see (isNode_ok _) false (Views.refl rfl) rfl (fun j hj => by first | omega | ((have hj0 : j = 0 := by omega); subst hj0; first | rfl | (simp only [Nat.add_zero, app_get, app_getk, sapp_get, sapp_getk, Nat.add_assoc, Nat.reduceAdd, List.getElem?_cons_zero, List.getElem?_cons_succ]; done) | simp)) (fun h => by cases h) ?_
  simp only [go_sem, v177, p177]
  refine awp_if' rfl ?_ ?_
  · intro h1
    refine awp_sr ?_
    simp only [go_sem, R177_2, v177, p177]
    refine awp_ret ?_
    try simp only [go_sem]
    exact fin _ _ (.int .i64 (-1)) rfl (congrArg (V.int .i64) (if_neg h1).symm)
  intro h1
  have hf : fit id := ⟨h1.1, by omega⟩
  have h5 := putI_5 hf
  refine awp_skip ?_
  simp only [go_sem]
  refine awp_sr ?_
  simp only [go_sem, R177_3, v177, p177]
  refine run_see (implPutI_fz hf) false (Views.refl rfl) rfl (fun j hj => by first | omega | ((have hj0 : j = 0 := by omega); subst hj0; first | rfl | (simp only [Nat.add_zero, app_get, app_getk, sapp_get, sapp_getk, Nat.add_assoc, Nat.reduceAdd, List.getElem?_cons_zero, List.getElem?_cons_succ]; done) | simp)) (fun h => by cases h) ?_
  simp only [go_sem, v177, p177]
  refine run_see (implCrc_ok (putI id) (by simp only [lim]; omega)) false (Views.refl rfl) rfl (fun j hj => by first | omega | ((have hj0 : j = 0 := by omega); subst hj0; first | rfl | (simp only [Nat.add_zero, app_get, app_getk, sapp_get, sapp_getk, Nat.add_assoc, Nat.reduceAdd, List.getElem?_cons_zero, List.getElem?_cons_succ]; done) | simp)) (fun h => by cases h) ?_
  simp only [go_sem, v177, p177, show ((crc (putI id) : Int).tmod 4) = ((crc (putI id) % 4 : Nat) : Int) from tmod_nat _ 4]
  refine awp_ret ?_
  try simp only [go_sem]
  exact fin _ _ _ rfl (congrArg (V.int .i64) (if_pos h1).symm)
theorem Tree.ext' {a b : Tree} : (a.leaves = b.leaves ∧ a.root = b.root) ↔ a = b := by
  cases a; cases b; simp
theorem specL11Tree_ok (a b : Tree) (h : a.leaves.length ≤ 1048576) : FS Try.prog 122 [] [.agg a.c, .agg b.c] (.bool (decide (a = b))) [] := by
  refine FS.of (X := X122) (ac := A122) (os := O122) Try.func122 (by rfl) (by rfl) (by kernel_rfl) o122 (Nat.le_of_ble_eq_true rfl) ?_
  show AWP X122 A122 (Ends X122.vs O122 0 _ _) [.agg a.c, .agg b.c, .tup [], .tup [], .tup []] []
  obtain ⟨Q, hQ⟩ : ∃ Q, Q = Ends X122.vs O122 0 (.bool (decide (a = b))) [] := ⟨_, rfl⟩
  rw [← hQ]
  have fin : ∀ L σ vV, resVs O122 (look X122.vs L) σ = some [vV] → vV = (.bool (decide (a = b))) → Q .ret L σ := by
    intro L σ vV h1 h2
    rw [hQ]
    exact Ends.is (.inl rfl) h1 (by simp only [packV, h2]) rfl
  refine awp_sr ?_
  simp only [go_sem, R122_0, v122, p122, Tree.c]
  obtain ⟨K1, hK1⟩ : ∃ K : List V → Store → Prop, K = fun L σ => ∃ q y0 y1 y2 y3, L = [y0, y1, y2, y3, .bool q] ∧ σ = [.live ⟨2, [a.c]⟩, .live ⟨2, [b.c]⟩] ∧ q = decide (a = b) := ⟨_, rfl⟩
  refine awp_srK (K1) ?_ ?_
  · simp only [go_sem, R122_1, v122, p122, Tree.c]
    repeat' first
      | (refine selP_if rfl (fun hG => ?_) (fun hG => ?_) <;> first | simp only [go_sem, v122, p122, eq_false hG, Tree.c] | simp only [go_sem, v122, p122, eq_true hG, Tree.c])
      | (refine selP_ifn rfl (fun hG => ?_) (fun hG => ?_) <;> first | simp only [go_sem, v122, p122, eq_false hG, Tree.c] | simp only [go_sem, v122, p122, eq_true hG, Tree.c])
      | (refine selN_if rfl (fun hG => ?_) (fun hG => ?_) <;> first | simp only [go_sem, v122, p122, eq_false hG, Tree.c] | simp only [go_sem, v122, p122, eq_true hG, Tree.c])
      | (refine selN_ifn rfl (fun hG => ?_) (fun hG => ?_) <;> first | simp only [go_sem, v122, p122, eq_false hG, Tree.c] | simp only [go_sem, v122, p122, eq_true hG, Tree.c])
      | (refine selB_if rfl (fun hG => ?_) (fun hG => ?_) <;> simp only [go_sem, v122, p122, hG, Tree.c])
      | (refine selB_ifn rfl (fun hG => ?_) (fun hG => ?_) <;> simp only [go_sem, v122, p122, hG, Tree.c])
      | (refine run_see (specL1Same_ok a.leaves b.leaves h) false (Views.refl rfl) rfl (fun j hj => by omega) (fun h => by cases h) ?_; simp only [go_sem, v122, p122, Tree.c])
    all_goals rw [hK1]
    all_goals refine ⟨_, _, _, _, _, rfl, rfl, ?_⟩
    all_goals have key := @Tree.ext' a b
    all_goals grind
  intro L σ hq
  rw [hK1] at hq
  obtain ⟨q, y0, y1, y2, y3, rfl, rfl, hq⟩ := hq
  subst hq
  refine awp_ret ?_
  try simp only [go_sem]
  exact fin _ _ _ rfl rfl
theorem implTreeSame_ok (a b : Tree) (h : a.leaves.length ≤ 1048576) : FS Try.prog 131 [] [.agg a.c, .agg b.c] (.bool (decide (a = b))) [] := by
  refine FS.of (X := X131) (ac := A131) (os := O131) Try.func131 (by rfl) (by rfl) (by kernel_rfl) o131 (Nat.le_of_ble_eq_true rfl) ?_
  show AWP X131 A131 (Ends X131.vs O131 0 _ _) [.agg a.c, .agg b.c, .tup [], .tup [], .tup []] []
  obtain ⟨Q, hQ⟩ : ∃ Q, Q = Ends X131.vs O131 0 (.bool (decide (a = b))) [] := ⟨_, rfl⟩
  rw [← hQ]
  have fin : ∀ L σ vV, resVs O131 (look X131.vs L) σ = some [vV] → vV = (.bool (decide (a = b))) → Q .ret L σ := by
    intro L σ vV h1 h2
    rw [hQ]
    exact Ends.is (.inl rfl) h1 (by simp only [packV, h2]) rfl
  refine awp_sr ?_
  simp only [go_sem, R131_0, v131, p131, Tree.c]
  obtain ⟨K2, hK2⟩ : ∃ K : List V → Store → Prop, K = fun L σ => ∃ q y0 y1 y2 y3, L = [y0, y1, y2, y3, .bool q] ∧ σ = [.live ⟨2, [a.c]⟩, .live ⟨2, [b.c]⟩] ∧ q = decide (a = b) := ⟨_, rfl⟩
  refine awp_srK (K2) ?_ ?_
  · simp only [go_sem, R131_1, v131, p131, Tree.c]
    repeat' first
      | (refine selP_if rfl (fun hG => ?_) (fun hG => ?_) <;> first | simp only [go_sem, v131, p131, eq_false hG, Tree.c] | simp only [go_sem, v131, p131, eq_true hG, Tree.c])
      | (refine selP_ifn rfl (fun hG => ?_) (fun hG => ?_) <;> first | simp only [go_sem, v131, p131, eq_false hG, Tree.c] | simp only [go_sem, v131, p131, eq_true hG, Tree.c])
      | (refine selN_if rfl (fun hG => ?_) (fun hG => ?_) <;> first | simp only [go_sem, v131, p131, eq_false hG, Tree.c] | simp only [go_sem, v131, p131, eq_true hG, Tree.c])
      | (refine selN_ifn rfl (fun hG => ?_) (fun hG => ?_) <;> first | simp only [go_sem, v131, p131, eq_false hG, Tree.c] | simp only [go_sem, v131, p131, eq_true hG, Tree.c])
      | (refine selB_if rfl (fun hG => ?_) (fun hG => ?_) <;> simp only [go_sem, v131, p131, hG, Tree.c])
      | (refine selB_ifn rfl (fun hG => ?_) (fun hG => ?_) <;> simp only [go_sem, v131, p131, hG, Tree.c])
      | (refine run_see (equal_ok a.leaves b.leaves h) false (Views.refl rfl) rfl (fun j hj => by omega) (fun h => by cases h) ?_; simp only [go_sem, v131, p131, Tree.c])
    all_goals rw [hK2]
    all_goals refine ⟨_, _, _, _, _, rfl, rfl, ?_⟩
    all_goals have key := @Tree.ext' a b
    all_goals grind
  intro L σ hq
  rw [hK2] at hq
  obtain ⟨q, y0, y1, y2, y3, rfl, rfl, hq⟩ := hq
  subst hq
  refine awp_ret ?_
  try simp only [go_sem]
  exact fin _ _ _ rfl rfl
end Go.Proofs.Ytffigokicddekaa.Abs
