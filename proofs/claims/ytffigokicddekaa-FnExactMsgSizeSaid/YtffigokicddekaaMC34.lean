/- What a right message is, walked in both texts. No condition. -/
import Derived.Test.YtffigokicddekaaMC33
set_option linter.unusedVariables false
set_option linter.unusedSimpArgs false
set_option maxRecDepth 10000
namespace Go.Proofs.Ytffigokicddekaa.Abs
open Go Go.Proofs
def R152_0 : List AR := [⟨(some 6), none, 0, (.mov (.k (.bool false)))⟩]
def R152_1 : List AR := [⟨(some 8), none, 0, (.mov (.t 0))⟩, ⟨(some 9), none, 0, (.len (.t 8))⟩, ⟨(some 10), none, 0, (.mov (.t 1))⟩, ⟨(some 11), none, 0, (.bin .gtr (.t 9) (.t 10))⟩]
def R152_2 : List AR := [⟨(some 6), none, 0, (.mov (.k (.bool false)))⟩]
def R152_3 : List AR := [⟨(some 7), none, 0, (.mov (.k (.int .i64 0)))⟩]
def R152_4 : List AR := [⟨(some 12), none, 0, (.mov (.t 7))⟩, ⟨(some 13), none, 0, (.mov (.t 0))⟩, ⟨(some 14), none, 0, (.len (.t 13))⟩, ⟨(some 15), none, 0, (.bin .lss (.t 12) (.t 14))⟩]
def R152_5 : List AR := [⟨(some 18), none, 0, (.mov (.t 0))⟩, ⟨(some 19), none, 0, (.mov (.t 7))⟩, ⟨(some 20), none, 0, (.iaddr 1 (.t 18) (.t 19))⟩, ⟨(some 21), none, 0, (.load 1 false (.t 20))⟩, ⟨(some 22), none, 0, (.mov (.t 2))⟩, ⟨(some 23), none, 0, (.call false 0 0 101 [(.t 21), (.k (.int .i64 0)), (.t 22)])⟩, ⟨(some 24), none, 0, (.not (.t 23))⟩]
def R152_6 : List AR := [⟨(some 6), none, 0, (.mov (.k (.bool false)))⟩]
def R152_7 : List AR := [⟨(some 16), none, 0, (.mov (.t 7))⟩, ⟨(some 17), none, 0, (.bin .add (.t 16) (.k (.int .i64 1)))⟩, ⟨(some 7), none, 0, (.mov (.t 17))⟩]
def A152_0 : AC := (.seq (.block 1 (.seq (.reg 0 R152_5) (.cond (.t 24) (.seq (.reg 0 R152_6) .ret) .skip))) (.reg 0 R152_7))
def L152_0 : AC := (.seq (.seq (.reg 0 R152_4) (.cond (.t 15) .skip (.exit 0))) A152_0)
def R152_8 : List AR := [⟨(some 6), none, 0, (.mov (.k (.bool true)))⟩]
def A152_1 : AC := (.seq (.reg 0 R152_8) .ret)
def A152_2 : AC := (.seq (.seq (.reg 0 R152_3) (.block 0 (.loop L152_0))) A152_1)
def A152_3 : AC := (.seq (.seq (.reg 0 R152_1) (.cond (.t 11) (.seq (.reg 0 R152_2) .ret) .skip)) A152_2)
def A152 : AC := (.seq (.reg 0 R152_0) A152_3)
def O152 : List AO := [(.mov (.t 6))]
def G152 : Fns := ⟨fun f => false, fun f => 0, false⟩
noncomputable def X152 : Cx := ⟨Try.prog, G152, drawD, 25, [0, 1, 2, 6, 7, 11, 15, 24]⟩
theorem c152 : (Try.f152.body).bind (compC X152.P X152.Γ X152.D X152.nt) = some A152 := by kernel_rfl
theorem o152 : compRes X152.P Try.f152.results.toList = some O152 := by kernel_rfl
theorem v152 : X152.vs = [0, 1, 2, 6, 7, 11, 15, 24] := rfl
theorem p152 : X152.P = Try.prog := rfl
def R153_0 : List AR := [⟨(some 2), none, 0, (.mov (.k (.bool false)))⟩]
def R153_1 : List AR := [⟨(some 3), none, 0, (.mov (.k (.int .i64 0)))⟩]
def R153_2 : List AR := [⟨(some 4), none, 0, (.mov (.t 3))⟩, ⟨(some 5), none, 0, (.mov (.t 0))⟩, ⟨(some 6), none, 0, (.len (.t 5))⟩, ⟨(some 7), none, 0, (.bin .lss (.t 4) (.t 6))⟩]
def R153_3 : List AR := [⟨(some 10), none, 0, (.mov (.t 0))⟩, ⟨(some 11), none, 0, (.mov (.t 3))⟩, ⟨(some 12), none, 0, (.iaddr 2 (.t 10) (.t 11))⟩, ⟨(some 13), none, 0, (.faddr 0 (.t 12))⟩, ⟨(some 14), none, 0, (.load 1 false (.t 13))⟩, ⟨(some 15), none, 0, (.call false 0 0 98 [(.t 14)])⟩, ⟨(some 16), none, 0, (.not (.t 15))⟩, ⟨(some 17), none, 0, (.mov (.t 16))⟩, ⟨(some 18), (some (17, false)), 0, (.mov (.t 3))⟩, ⟨(some 19), (some (17, false)), 0, (.bin .gtr (.t 18) (.k (.int .i64 0)))⟩, ⟨(some 20), (some (17, false)), 0, (.mov (.t 19))⟩, ⟨(some 21), (some (20, true)), 0, (.mov (.t 0))⟩, ⟨(some 22), (some (20, true)), 0, (.mov (.t 3))⟩, ⟨(some 23), (some (20, true)), 0, (.iaddr 2 (.t 21) (.t 22))⟩, ⟨(some 24), (some (20, true)), 0, (.faddr 0 (.t 23))⟩, ⟨(some 25), (some (20, true)), 0, (.load 1 false (.t 24))⟩, ⟨(some 26), (some (20, true)), 0, (.mov (.t 0))⟩, ⟨(some 27), (some (20, true)), 0, (.mov (.t 3))⟩, ⟨(some 28), (some (20, true)), 0, (.bin .sub (.t 27) (.k (.int .i64 1)))⟩, ⟨(some 29), (some (20, true)), 0, (.iaddr 2 (.t 26) (.t 28))⟩, ⟨(some 30), (some (20, true)), 0, (.faddr 0 (.t 29))⟩, ⟨(some 31), (some (20, true)), 0, (.load 1 false (.t 30))⟩, ⟨(some 32), (some (20, true)), 0, (.bin .leq (.t 25) (.t 31))⟩, ⟨(some 33), (some (17, false)), 0, (.pick (.t 20) (.t 32) (.k (.bool false)))⟩, ⟨(some 34), none, 0, (.pick (.t 17) (.k (.bool true)) (.t 33))⟩, ⟨(some 35), none, 0, (.mov (.t 34))⟩, ⟨(some 36), (some (35, false)), 0, (.mov (.t 0))⟩, ⟨(some 37), (some (35, false)), 0, (.mov (.t 3))⟩, ⟨(some 38), (some (35, false)), 0, (.iaddr 2 (.t 36) (.t 37))⟩, ⟨(some 39), (some (35, false)), 0, (.faddr 1 (.t 38))⟩, ⟨(some 40), (some (35, false)), 0, (.load 1 false (.t 39))⟩, ⟨(some 41), (some (35, false)), 0, (.call false 0 0 101 [(.t 40), (.k (.int .i64 1)), (.k (.int .i64 1000))])⟩, ⟨(some 42), (some (35, false)), 0, (.not (.t 41))⟩, ⟨(some 43), none, 0, (.pick (.t 35) (.k (.bool true)) (.t 42))⟩]
def R153_4 : List AR := [⟨(some 2), none, 0, (.mov (.k (.bool false)))⟩]
def R153_5 : List AR := [⟨(some 8), none, 0, (.mov (.t 3))⟩, ⟨(some 9), none, 0, (.bin .add (.t 8) (.k (.int .i64 1)))⟩, ⟨(some 3), none, 0, (.mov (.t 9))⟩]
def A153_0 : AC := (.seq (.block 1 (.seq (.draw 0 R153_3) (.cond (.t 43) (.seq (.reg 0 R153_4) .ret) .skip))) (.reg 0 R153_5))
def L153_0 : AC := (.seq (.seq (.reg 0 R153_2) (.cond (.t 7) .skip (.exit 0))) A153_0)
def R153_6 : List AR := [⟨(some 2), none, 0, (.mov (.k (.bool true)))⟩]
def A153_1 : AC := (.seq (.reg 0 R153_6) .ret)
def A153_2 : AC := (.seq (.seq (.reg 0 R153_1) (.block 0 (.loop L153_0))) A153_1)
def A153 : AC := (.seq (.reg 0 R153_0) A153_2)
def O153 : List AO := [(.mov (.t 2))]
def G153 : Fns := ⟨fun f => false, fun f => 0, false⟩
noncomputable def X153 : Cx := ⟨Try.prog, G153, drawD, 44, [0, 2, 3, 7, 43]⟩
theorem c153 : (Try.f153.body).bind (compC X153.P X153.Γ X153.D X153.nt) = some A153 := by kernel_rfl
theorem o153 : compRes X153.P Try.f153.results.toList = some O153 := by kernel_rfl
theorem v153 : X153.vs = [0, 2, 3, 7, 43] := rfl
theorem p153 : X153.P = Try.prog := rfl
def R158_0 : List AR := [⟨(some 2), none, 0, (.mov (.k (.bool false)))⟩]
def R158_1 : List AR := [⟨(some 5), none, 0, (.mov (.t 0))⟩, ⟨(some 6), none, 0, (.len (.t 5))⟩, ⟨(some 7), none, 0, (.mov (.k (.int .i64 0)))⟩]
def R158_2 : List AR := [⟨(some 8), none, 0, (.bin .lss (.t 7) (.t 6))⟩]
def R158_3 : List AR := [⟨(some 9), none, 0, (.mov (.t 7))⟩, ⟨(some 10), none, 0, (.iaddr 2 (.t 5) (.t 7))⟩, ⟨(some 11), none, 0, (.load 2 true (.t 10))⟩, ⟨(some 4), none, 0, (.alloc 0 2 [(.int .i64 0), (.int .i64 0)])⟩, ⟨(some 3), none, 0, (.mov (.t 9))⟩, ⟨none, none, 0, (.store 2 (.t 4) (.t 11))⟩]
def R158_4 : List AR := [⟨(some 12), none, 0, (.faddr 0 (.t 4))⟩, ⟨(some 13), none, 0, (.load 1 false (.t 12))⟩, ⟨(some 14), none, 0, (.call false 0 0 104 [(.t 13)])⟩, ⟨(some 15), none, 0, (.not (.t 14))⟩, ⟨(some 16), none, 0, (.mov (.t 15))⟩, ⟨(some 17), (some (16, false)), 0, (.faddr 1 (.t 4))⟩, ⟨(some 18), (some (16, false)), 0, (.load 1 false (.t 17))⟩, ⟨(some 19), (some (16, false)), 0, (.call false 0 0 105 [(.t 18), (.k (.int .i64 1)), (.k (.int .i64 1000))])⟩, ⟨(some 20), (some (16, false)), 0, (.not (.t 19))⟩, ⟨(some 21), none, 0, (.pick (.t 16) (.k (.bool true)) (.t 20))⟩, ⟨(some 22), none, 0, (.mov (.t 21))⟩, ⟨(some 23), (some (22, false)), 0, (.mov (.t 3))⟩, ⟨(some 24), (some (22, false)), 0, (.bin .gtr (.t 23) (.k (.int .i64 0)))⟩, ⟨(some 25), (some (22, false)), 0, (.mov (.t 24))⟩, ⟨(some 26), (some (25, true)), 0, (.mov (.t 0))⟩, ⟨(some 27), (some (25, true)), 0, (.mov (.t 3))⟩, ⟨(some 28), (some (25, true)), 0, (.bin .sub (.t 27) (.k (.int .i64 1)))⟩, ⟨(some 29), (some (25, true)), 0, (.iaddr 2 (.t 26) (.t 28))⟩, ⟨(some 30), (some (25, true)), 0, (.faddr 0 (.t 29))⟩, ⟨(some 31), (some (25, true)), 0, (.load 1 false (.t 30))⟩, ⟨(some 32), (some (25, true)), 0, (.faddr 0 (.t 4))⟩, ⟨(some 33), (some (25, true)), 0, (.load 1 false (.t 32))⟩, ⟨(some 34), (some (25, true)), 0, (.bin .geq (.t 31) (.t 33))⟩, ⟨(some 35), (some (22, false)), 0, (.pick (.t 25) (.t 34) (.k (.bool false)))⟩, ⟨(some 36), none, 0, (.pick (.t 22) (.k (.bool true)) (.t 35))⟩]
def R158_5 : List AR := [⟨(some 2), none, 0, (.mov (.k (.bool false)))⟩]
def A158_0 : AC := (.seq (.draw 0 R158_4) (.cond (.t 36) (.seq (.reg 0 R158_5) .ret) .skip))
def R158_6 : List AR := [⟨(some 37), none, 0, (.bin .add (.t 7) (.k (.int .i64 1)))⟩, ⟨(some 7), none, 0, (.mov (.t 37))⟩]
def A158_1 : AC := (.seq (.block 1 (.seq (.reg 1 R158_3) A158_0)) (.reg 0 R158_6))
def A158_2 : AC := (.seq (.cond (.t 8) .skip (.exit 0)) A158_1)
def L158_0 : AC := (.seq (.reg 0 R158_2) A158_2)
def R158_7 : List AR := [⟨(some 2), none, 0, (.mov (.k (.bool true)))⟩]
def A158_3 : AC := (.seq (.reg 0 R158_7) .ret)
def A158_4 : AC := (.seq (.seq (.reg 0 R158_1) (.block 0 (.loop L158_0))) A158_3)
def A158 : AC := (.seq (.reg 0 R158_0) A158_4)
def O158 : List AO := [(.mov (.t 2))]
def G158 : Fns := ⟨fun f => false, fun f => 0, false⟩
noncomputable def X158 : Cx := ⟨Try.prog, G158, drawD, 38, [0, 2, 3, 4, 5, 6, 7, 8, 36]⟩
theorem c158 : (Try.f158.body).bind (compC X158.P X158.Γ X158.D X158.nt) = some A158 := by kernel_rfl
theorem o158 : compRes X158.P Try.f158.results.toList = some O158 := by kernel_rfl
theorem v158 : X158.vs = [0, 2, 3, 4, 5, 6, 7, 8, 36] := rfl
theorem p158 : X158.P = Try.prog := rfl
def R151_0 : List AR := [⟨(some 1), none, 0, (.box 0 2 (.t 0))⟩, ⟨(some 2), none, 0, (.mov (.k (.bool false)))⟩]
def R151_1 : List AR := [⟨(some 3), none, 0, (.faddr 0 (.t 1))⟩, ⟨(some 4), none, 0, (.load 1 false (.t 3))⟩, ⟨(some 5), none, 0, (.len (.t 4))⟩, ⟨(some 6), none, 0, (.bin .eql (.t 5) (.k (.int .i64 0)))⟩]
def R151_2 : List AR := [⟨(some 7), none, 0, (.faddr 1 (.t 1))⟩, ⟨(some 8), none, 0, (.load 1 false (.t 7))⟩, ⟨(some 9), none, 0, (.bin .eql (.t 8) (.k (.int .i64 0)))⟩, ⟨(some 2), none, 0, (.mov (.t 9))⟩]
def R151_3 : List AR := [⟨(some 10), none, 0, (.faddr 0 (.t 1))⟩, ⟨(some 11), none, 0, (.load 1 false (.t 10))⟩, ⟨(some 12), none, 0, (.len (.t 11))⟩, ⟨(some 13), none, 0, (.bin .eql (.t 12) (.k (.int .i64 4)))⟩, ⟨(some 14), none, 0, (.mov (.t 13))⟩, ⟨(some 15), (some (14, true)), 0, (.faddr 0 (.t 1))⟩, ⟨(some 16), (some (14, true)), 0, (.load 1 false (.t 15))⟩, ⟨(some 17), (some (14, true)), 0, (.call false 0 0 152 [(.t 16), (.k (.int .i64 4)), (.k (.int .i64 1023))])⟩, ⟨(some 18), none, 0, (.pick (.t 14) (.t 17) (.k (.bool false)))⟩, ⟨(some 19), none, 0, (.mov (.t 18))⟩, ⟨(some 20), (some (19, true)), 0, (.faddr 1 (.t 1))⟩, ⟨(some 21), (some (19, true)), 0, (.load 1 false (.t 20))⟩, ⟨(some 22), (some (19, true)), 0, (.call false 0 0 101 [(.t 21), (.k (.int .i64 0)), (.k (.int .i64 1023))])⟩, ⟨(some 23), none, 0, (.pick (.t 19) (.t 22) (.k (.bool false)))⟩, ⟨(some 2), none, 0, (.mov (.t 23))⟩]
def A151_0 : AC := (.seq (.reg 0 R151_3) .ret)
def A151_1 : AC := (.seq (.seq (.reg 0 R151_1) (.cond (.t 6) (.seq (.reg 0 R151_2) .ret) .skip)) A151_0)
def A151 : AC := (.seq (.reg 1 R151_0) A151_1)
def O151 : List AO := [(.mov (.t 2))]
def G151 : Fns := ⟨fun f => false, fun f => 0, false⟩
noncomputable def X151 : Cx := ⟨Try.prog, G151, drawD, 24, [0, 1, 2, 6]⟩
theorem c151 : (Try.f151.body).bind (compC X151.P X151.Γ X151.D X151.nt) = some A151 := by kernel_rfl
theorem o151 : compRes X151.P Try.f151.results.toList = some O151 := by kernel_rfl
theorem v151 : X151.vs = [0, 1, 2, 6] := rfl
theorem p151 : X151.P = Try.prog := rfl
def R157_0 : List AR := [⟨(some 1), none, 0, (.box 0 2 (.t 0))⟩, ⟨(some 2), none, 0, (.mov (.k (.bool false)))⟩]
def R157_1 : List AR := [⟨(some 5), none, 0, (.faddr 0 (.t 1))⟩, ⟨(some 6), none, 0, (.load 1 false (.t 5))⟩, ⟨(some 7), none, 0, (.len (.t 6))⟩, ⟨(some 8), none, 0, (.bin .eql (.t 7) (.k (.int .i64 0)))⟩]
def R157_2 : List AR := [⟨(some 9), none, 0, (.faddr 1 (.t 1))⟩, ⟨(some 10), none, 0, (.load 1 false (.t 9))⟩, ⟨(some 11), none, 0, (.bin .eql (.t 10) (.k (.int .i64 0)))⟩, ⟨(some 2), none, 0, (.mov (.t 11))⟩]
def R157_3 : List AR := [⟨(some 12), none, 0, (.faddr 0 (.t 1))⟩, ⟨(some 13), none, 0, (.load 1 false (.t 12))⟩, ⟨(some 14), none, 0, (.len (.t 13))⟩, ⟨(some 15), none, 0, (.mov (.k (.int .i64 0)))⟩]
def R157_4 : List AR := [⟨(some 16), none, 0, (.bin .lss (.t 15) (.t 14))⟩]
def R157_5 : List AR := [⟨(some 17), none, 0, (.iaddr 1 (.t 13) (.t 15))⟩, ⟨(some 18), none, 0, (.load 1 false (.t 17))⟩, ⟨(some 4), none, 0, (.mov (.t 18))⟩]
def R157_6 : List AR := [⟨(some 19), none, 0, (.mov (.t 4))⟩, ⟨(some 20), none, 0, (.call false 0 0 105 [(.t 19), (.k (.int .i64 0)), (.k (.int .i64 1023))])⟩, ⟨(some 21), none, 0, (.not (.t 20))⟩]
def R157_7 : List AR := [⟨(some 2), none, 0, (.mov (.k (.bool false)))⟩]
def A157_0 : AC := (.seq (.reg 0 R157_6) (.cond (.t 21) (.seq (.reg 0 R157_7) .ret) .skip))
def R157_8 : List AR := [⟨(some 22), none, 0, (.bin .add (.t 15) (.k (.int .i64 1)))⟩, ⟨(some 15), none, 0, (.mov (.t 22))⟩]
def A157_1 : AC := (.seq (.block 1 (.seq (.reg 0 R157_5) A157_0)) (.reg 0 R157_8))
def A157_2 : AC := (.seq (.cond (.t 16) .skip (.exit 0)) A157_1)
def L157_0 : AC := (.seq (.reg 0 R157_4) A157_2)
def R157_9 : List AR := [⟨(some 23), none, 0, (.faddr 0 (.t 1))⟩, ⟨(some 24), none, 0, (.load 1 false (.t 23))⟩, ⟨(some 25), none, 0, (.len (.t 24))⟩, ⟨(some 26), none, 0, (.bin .eql (.t 25) (.k (.int .i64 4)))⟩, ⟨(some 27), none, 0, (.mov (.t 26))⟩, ⟨(some 28), (some (27, true)), 0, (.faddr 1 (.t 1))⟩, ⟨(some 29), (some (27, true)), 0, (.load 1 false (.t 28))⟩, ⟨(some 30), (some (27, true)), 0, (.call false 0 0 105 [(.t 29), (.k (.int .i64 0)), (.k (.int .i64 1023))])⟩, ⟨(some 31), none, 0, (.pick (.t 27) (.t 30) (.k (.bool false)))⟩, ⟨(some 2), none, 0, (.mov (.t 31))⟩]
def A157_3 : AC := (.seq (.reg 0 R157_9) .ret)
def A157_4 : AC := (.seq (.seq (.reg 0 R157_3) (.block 0 (.loop L157_0))) A157_3)
def A157_5 : AC := (.seq (.seq (.reg 0 R157_1) (.cond (.t 8) (.seq (.reg 0 R157_2) .ret) .skip)) A157_4)
def A157 : AC := (.seq (.reg 1 R157_0) A157_5)
def O157 : List AO := [(.mov (.t 2))]
def G157 : Fns := ⟨fun f => false, fun f => 0, false⟩
noncomputable def X157 : Cx := ⟨Try.prog, G157, drawD, 32, [0, 1, 2, 4, 8, 13, 14, 15, 16, 21]⟩
theorem c157 : (Try.f157.body).bind (compC X157.P X157.Γ X157.D X157.nt) = some A157 := by kernel_rfl
theorem o157 : compRes X157.P Try.f157.results.toList = some O157 := by kernel_rfl
theorem v157 : X157.vs = [0, 1, 2, 4, 8, 13, 14, 15, 16, 21] := rfl
theorem p157 : X157.P = Try.prog := rfl
def inTop (top : Int) (j : Nat) (x : Int) : Prop := 0 ≤ x ∧ x ≤ top
instance (top : Int) (j : Nat) (x : Int) : Decidable (inTop top j x) := by unfold inTop; exact inferInstance
def numsR (xs : List Int) (most top : Int) : Prop := (xs.length : Int) ≤ most ∧ ∀ j x, xs[j]? = some x → inTop top j x
noncomputable instance (xs : List Int) (most top : Int) : Decidable (numsR xs most top) := Classical.propDecidable _
theorem int_at (n : Int) : intC n = [V.int .i64 n] := rfl
theorem specL10Nums_ok (xs : List Int) (most top : Int) (h : xs.length ≤ 1048576) : FS Try.prog 152 [] [.fz 1 (rw_ intC xs), .int .i64 most, .int .i64 top] (.bool (decide (numsR xs most top))) [] := by
  refine FS.of (X := X152) (ac := A152) (os := O152) Try.func152 (by rfl) (by rfl) (by kernel_rfl) o152 (Nat.le_of_ble_eq_true rfl) ?_
  show AWP X152 A152 (Ends X152.vs O152 0 _ _) [.fz 1 (rw_ intC xs), .int .i64 most, .int .i64 top, .tup [], .tup [], .tup [], .tup [], .tup []] []
  obtain ⟨Q, hQ⟩ : ∃ Q, Q = Ends X152.vs O152 0 (.bool (decide (numsR xs most top))) [] := ⟨_, rfl⟩
  rw [← hQ]
  have fin : ∀ L σ v, resVs O152 (look X152.vs L) σ = some [v] → v = (.bool (decide (numsR xs most top))) → Q .ret L σ := by
    intro L σ v h1 h2
    rw [hQ]
    exact Ends.is (.inl rfl) h1 (by simp only [packV, h2]) rfl
  refine awp_sr ?_
  simp only [go_sem, R152_0, v152, p152]
  refine awp_sr2 ?_
  simp only [go_sem, R152_1, v152, p152]
  refine awp_if rfl ?_ ?_
  · intro h1
    refine awp_sr ?_
    simp only [go_sem, R152_2, v152, p152]
    refine awp_ret ?_
    try simp only [go_sem]
    exact fin _ _ (.bool false) rfl (congrArg V.bool (decide_eq_false fun e => by have := e.1; omega)).symm
  intro h1
  refine awp_skip ?_
  simp only [go_sem]
  refine awp_sr2 ?_
  simp only [go_sem, R152_3, v152, p152]
  obtain ⟨I, hI⟩ : ∃ I : Nat → List V → Store → Prop, I = fun mM L σ => ∃ i rest y1 y6 y11 y15 y24, mM = xs.length - i ∧ i ≤ xs.length ∧ (∀ j x, j < i → xs[j]? = some x → inTop top j x) ∧ L = [.fz 1 (rw_ intC xs), y1, .int .i64 top, y6, .int .i64 (i : Nat), y11, y15, y24] ∧ σ = rest := ⟨_, rfl⟩
  first | refine awp_for I xs.length ?_ ?_ | refine awp_seq (awp_for I xs.length ?_ ?_)
  · rw [hI]; refine ⟨0, _, _, _, _, _, _, rfl, Nat.zero_le _, ?_, rfl, rfl⟩
    intro j x h; omega
  intro mM L σ hIn
  rw [hI] at hIn
  obtain ⟨i, rest, y1, y6, y11, y15, y24, rfl, hi, hP, rfl, rfl⟩ := hIn
  refine awp_sr2 ?_
  simp only [go_sem, R152_4, v152, p152]
  refine awp_if rfl ?_ ?_
  · intro h2
    have h2 : i < xs.length := by omega
    refine awp_skip ?_
    simp only [go_sem]
    refine awp_seq (awp_block ?_)
    refine awp_sr ?_
    simp only [go_sem, R152_5, v152, p152, rw_at _ h2, intC]
    refine run_see (l1In_ok _ _ _) false (Views.refl rfl) rfl (fun j hj => by first | omega | ((have hj0 : j = 0 := by omega); subst hj0; first | rfl | (simp only [Nat.add_zero, app_get, app_getk, sapp_get, sapp_getk, Nat.add_assoc, Nat.reduceAdd, List.getElem?_cons_zero, List.getElem?_cons_succ]; done) | simp)) (fun h => by cases h) ?_
    simp only [go_sem, v152, p152]
    refine awp_if' rfl ?_ ?_
    · intro h3
      refine awp_sr ?_
      simp only [go_sem, R152_6, v152, p152]
      refine awp_ret ?_
      try simp only [go_sem]
      exact fin _ _ (.bool false) rfl (congrArg V.bool (decide_eq_false fun e => h3 (e.2 i _ (List.getElem?_eq_getElem h2)))).symm
    · intro h3
      refine awp_skip ?_
      simp only [go_sem]
      refine awp_reg ?_
      simp only [go_sem, R152_7, v152, p152, wrap_succ (i := i) (by omega)]
      refine ⟨xs.length - (i + 1), by omega, ?_⟩
      rw [hI]
      refine ⟨i + 1, _, _, _, _, _, _, rfl, by omega, ?_, rfl, rfl⟩
      exact upto_succ hP h2 h3
  · intro h2
    refine awp_exit ?_
    simp only [go_sem]
    refine awp_sr ?_
    simp only [go_sem, R152_8, v152, p152]
    refine awp_ret ?_
    try simp only [go_sem]
    exact fin _ _ (.bool true) rfl (congrArg V.bool (decide_eq_true (show numsR xs most top from ⟨by omega, upto_all hP (by omega)⟩)).symm)
def markR (ms : List Mark) (i : Nat) (x : Mark) : Prop := (0 ≤ x.id ∧ x.id ≤ 4) ∧ (∀ y, 0 < i → ms[i - 1]? = some y → y.id < x.id) ∧ (1 ≤ x.inc ∧ x.inc ≤ 1000)
def marksR (ms : List Mark) : Prop := ∀ i x, ms[i]? = some x → markR ms i x
noncomputable instance (ms : List Mark) : Decidable (marksR ms) := Classical.propDecidable _
noncomputable instance (ms : List Mark) (i : Nat) (x : Mark) : Decidable (markR ms i x) := Classical.propDecidable _
theorem markR_iff (ms : List Mark) {i : Nat} (h1 : i < ms.length) (h3 : i - 1 < ms.length) : markR ms i ms[i] ↔ (0 ≤ ms[i].id ∧ ms[i].id ≤ 4) ∧ (0 < i → ms[i - 1].id < ms[i].id) ∧ (1 ≤ ms[i].inc ∧ ms[i].inc ≤ 1000) := by
  unfold markR
  simp only [List.getElem?_eq_getElem h3, Option.some.injEq]
  grind
theorem specMarksOk_ok (ms : List Mark) (h : ms.length ≤ 1048576) : FS Try.prog 153 [] [.fz 2 (rw_ Mark.c ms)] (.bool (decide (marksR ms))) [] := by
  refine FS.of (X := X153) (ac := A153) (os := O153) Try.func153 (by rfl) (by rfl) (by kernel_rfl) o153 (Nat.le_of_ble_eq_true rfl) ?_
  show AWP X153 A153 (Ends X153.vs O153 0 _ _) [.fz 2 (rw_ Mark.c ms), .tup [], .tup [], .tup [], .tup []] []
  obtain ⟨Q, hQ⟩ : ∃ Q, Q = Ends X153.vs O153 0 (.bool (decide (marksR ms))) [] := ⟨_, rfl⟩
  rw [← hQ]
  have fin : ∀ L σ v, resVs O153 (look X153.vs L) σ = some [v] → v = (.bool (decide (marksR ms))) → Q .ret L σ := by
    intro L σ v h1 h2
    rw [hQ]
    exact Ends.is (.inl rfl) h1 (by simp only [packV, h2]) rfl
  refine awp_sr ?_
  simp only [go_sem, R153_0, v153, p153]
  refine awp_sr2 ?_
  simp only [go_sem, R153_1, v153, p153]
  obtain ⟨I, hI⟩ : ∃ I : Nat → List V → Store → Prop, I = fun mM L σ => ∃ i rest y2 y7 y43, mM = ms.length - i ∧ i ≤ ms.length ∧ (∀ j x, j < i → ms[j]? = some x → markR ms j x) ∧ L = [.fz 2 (rw_ Mark.c ms), y2, .int .i64 (i : Nat), y7, y43] ∧ σ = rest := ⟨_, rfl⟩
  first | refine awp_for I ms.length ?_ ?_ | refine awp_seq (awp_for I ms.length ?_ ?_)
  · rw [hI]; refine ⟨0, _, _, _, _, rfl, Nat.zero_le _, ?_, rfl, rfl⟩
    intro j x h; omega
  intro mM L σ hIn
  rw [hI] at hIn
  obtain ⟨i, rest, y2, y7, y43, rfl, hi, hP, rfl, rfl⟩ := hIn
  refine awp_sr2 ?_
  simp only [go_sem, R153_2, v153, p153]
  refine awp_if rfl ?_ ?_
  · intro h1
    have h1 : i < ms.length := by omega
    have h3 : i - 1 < ms.length := by omega
    refine awp_skip ?_
    simp only [go_sem]
    refine awp_seq (awp_block ?_)
    obtain ⟨K1, hK1⟩ : ∃ K : List V → Store → Prop, K = fun L σ => ∃ q rest y2 y7, L = [.fz 2 (rw_ Mark.c ms), y2, .int .i64 (i : Nat), y7, .bool q] ∧ σ = rest ∧ q = !decide (markR ms i ms[i]) := ⟨_, rfl⟩
    refine awp_sdK (K1) mixed rfl (by rfl) ?_ ?_
    · simp only [go_sem, R153_3, v153, p153, rw_at _ h1, Mark.c]
      repeat' first
        | (refine selP_if rfl (fun hG => ?_) (fun hG => ?_) <;> first | simp only [go_sem, v153, p153, eq_false hG, Mark.c, rw_at _ h1, rw_at _ h3, wrap_pred, show i < 9223372036854775807 by omega] | simp only [go_sem, v153, p153, eq_true hG, Mark.c, rw_at _ h1, rw_at _ h3, wrap_pred, show i < 9223372036854775807 by omega])
        | (refine selP_ifn rfl (fun hG => ?_) (fun hG => ?_) <;> first | simp only [go_sem, v153, p153, eq_false hG, Mark.c, rw_at _ h1, rw_at _ h3, wrap_pred, show i < 9223372036854775807 by omega] | simp only [go_sem, v153, p153, eq_true hG, Mark.c, rw_at _ h1, rw_at _ h3, wrap_pred, show i < 9223372036854775807 by omega])
        | (refine selN_if rfl (fun hG => ?_) (fun hG => ?_) <;> first | simp only [go_sem, v153, p153, eq_false hG, Mark.c, rw_at _ h1, rw_at _ h3, wrap_pred, show i < 9223372036854775807 by omega] | simp only [go_sem, v153, p153, eq_true hG, Mark.c, rw_at _ h1, rw_at _ h3, wrap_pred, show i < 9223372036854775807 by omega])
        | (refine selN_ifn rfl (fun hG => ?_) (fun hG => ?_) <;> first | simp only [go_sem, v153, p153, eq_false hG, Mark.c, rw_at _ h1, rw_at _ h3, wrap_pred, show i < 9223372036854775807 by omega] | simp only [go_sem, v153, p153, eq_true hG, Mark.c, rw_at _ h1, rw_at _ h3, wrap_pred, show i < 9223372036854775807 by omega])
        | (refine selB_if rfl (fun hG => ?_) (fun hG => ?_) <;> simp only [go_sem, v153, p153, hG, Mark.c, rw_at _ h1, rw_at _ h3, wrap_pred, show i < 9223372036854775807 by omega])
        | (refine selB_ifn rfl (fun hG => ?_) (fun hG => ?_) <;> simp only [go_sem, v153, p153, hG, Mark.c, rw_at _ h1, rw_at _ h3, wrap_pred, show i < 9223372036854775807 by omega])
        | (refine run_see (l3Node_ok _) false (Views.refl rfl) rfl (fun j hj => by omega) (fun h => by cases h) ?_; simp only [go_sem, v153, p153, Mark.c, rw_at _ h1, rw_at _ h3, wrap_pred, show i < 9223372036854775807 by omega])
        | (refine run_see (l1In_ok _ _ _) false (Views.refl rfl) rfl (fun j hj => by omega) (fun h => by cases h) ?_; simp only [go_sem, v153, p153, Mark.c, rw_at _ h1, rw_at _ h3, wrap_pred, show i < 9223372036854775807 by omega])
      all_goals rw [hK1]
      all_goals refine ⟨_, _, _, _, rfl, rfl, ?_⟩
      all_goals have key := markR_iff ms h1 h3
      all_goals grind
    intro L σ hq
    rw [hK1] at hq
    obtain ⟨q, rest, y2, y7, rfl, rfl, hq⟩ := hq
    subst hq
    refine awp_if' rfl ?_ ?_
    · intro h2
      refine awp_sr ?_
      simp only [go_sem, R153_4, v153, p153]
      refine awp_ret ?_
      try simp only [go_sem]
      exact fin _ _ (.bool false) rfl (congrArg V.bool (decide_eq_false fun e => h2 (e i _ (List.getElem?_eq_getElem h1)))).symm
    · intro h2
      refine awp_skip ?_
      simp only [go_sem]
      refine awp_reg ?_
      simp only [go_sem, R153_5, v153, p153, wrap_succ (i := i) (by omega)]
      refine ⟨ms.length - (i + 1), by omega, ?_⟩
      rw [hI]
      refine ⟨i + 1, _, _, _, _, rfl, by omega, ?_, rfl, rfl⟩
      exact upto_succ hP h1 h2
  · intro h1
    refine awp_exit ?_
    simp only [go_sem]
    refine awp_sr ?_
    simp only [go_sem, R153_6, v153, p153]
    refine awp_ret ?_
    try simp only [go_sem]
    exact fin _ _ (.bool true) rfl (congrArg V.bool (decide_eq_true (show marksR ms from upto_all hP (by omega))).symm)
theorem implMarksOk_ok (ms : List Mark) (h : ms.length ≤ 1048576) : FS Try.prog 158 [] [.fz 2 (rw_ Mark.c ms)] (.bool (decide (marksR ms))) [] := by
  refine FS.of (X := X158) (ac := A158) (os := O158) Try.func158 (by rfl) (by rfl) (by kernel_rfl) o158 (Nat.le_of_ble_eq_true rfl) ?_
  show AWP X158 A158 (Ends X158.vs O158 0 _ _) [.fz 2 (rw_ Mark.c ms), .tup [], .tup [], .tup [], .tup [], .tup [], .tup [], .tup [], .tup []] []
  obtain ⟨Q, hQ⟩ : ∃ Q, Q = Ends X158.vs O158 0 (.bool (decide (marksR ms))) [] := ⟨_, rfl⟩
  rw [← hQ]
  have fin : ∀ L σ v, resVs O158 (look X158.vs L) σ = some [v] → v = (.bool (decide (marksR ms))) → Q .ret L σ := by
    intro L σ v h1 h2
    rw [hQ]
    exact Ends.is (.inl rfl) h1 (by simp only [packV, h2]) rfl
  refine awp_sr ?_
  simp only [go_sem, R158_0, v158, p158]
  refine awp_sr2 ?_
  simp only [go_sem, R158_1, v158, p158]
  obtain ⟨I, hI⟩ : ∃ I : Nat → List V → Store → Prop, I = fun mM L σ => ∃ i rest y2 y3 y4 y8 y36, mM = ms.length - i ∧ i ≤ ms.length ∧ (∀ j x, j < i → ms[j]? = some x → markR ms j x) ∧ L = [.fz 2 (rw_ Mark.c ms), y2, y3, y4, .fz 2 (rw_ Mark.c ms), .int .i64 (ms.length : Nat), .int .i64 (i : Nat), y8, y36] ∧ σ = rest := ⟨_, rfl⟩
  first | refine awp_for I ms.length ?_ ?_ | refine awp_seq (awp_for I ms.length ?_ ?_)
  · rw [hI]; refine ⟨0, _, _, _, _, _, _, rfl, Nat.zero_le _, ?_, rfl, rfl⟩
    intro j x h; omega
  intro mM L σ hIn
  rw [hI] at hIn
  obtain ⟨i, rest, y2, y3, y4, y8, y36, rfl, hi, hP, rfl, rfl⟩ := hIn
  refine awp_sr ?_
  simp only [go_sem, R158_2, v158, p158]
  refine awp_seq ?_
  refine awp_if rfl ?_ ?_
  · intro h1
    have h1 : i < ms.length := by omega
    have h3 : i - 1 < ms.length := by omega
    refine awp_skip ?_
    simp only [go_sem]
    refine awp_seq (awp_block ?_)
    refine awp_sr ?_
    simp only [go_sem, R158_3, v158, p158, rw_at _ h1, Mark.c]
    obtain ⟨K2, hK2⟩ : ∃ K : List V → Store → Prop, K = fun L σ => ∃ q rest y2 y3 y4 y8, L = [.fz 2 (rw_ Mark.c ms), y2, y3, y4, .fz 2 (rw_ Mark.c ms), .int .i64 (ms.length : Nat), .int .i64 (i : Nat), y8, .bool q] ∧ σ = rest ∧ q = !decide (markR ms i ms[i]) := ⟨_, rfl⟩
    refine awp_sdK (K2) mixed rfl (by rfl) ?_ ?_
    · simp only [go_sem, R158_4, v158, p158, rw_at _ h1, Mark.c]
      repeat' first
        | (refine selP_if rfl (fun hG => ?_) (fun hG => ?_) <;> first | simp only [go_sem, v158, p158, eq_false hG, Mark.c, rw_at _ h1, rw_at _ h3, wrap_pred, show i < 9223372036854775807 by omega] | simp only [go_sem, v158, p158, eq_true hG, Mark.c, rw_at _ h1, rw_at _ h3, wrap_pred, show i < 9223372036854775807 by omega])
        | (refine selP_ifn rfl (fun hG => ?_) (fun hG => ?_) <;> first | simp only [go_sem, v158, p158, eq_false hG, Mark.c, rw_at _ h1, rw_at _ h3, wrap_pred, show i < 9223372036854775807 by omega] | simp only [go_sem, v158, p158, eq_true hG, Mark.c, rw_at _ h1, rw_at _ h3, wrap_pred, show i < 9223372036854775807 by omega])
        | (refine selN_if rfl (fun hG => ?_) (fun hG => ?_) <;> first | simp only [go_sem, v158, p158, eq_false hG, Mark.c, rw_at _ h1, rw_at _ h3, wrap_pred, show i < 9223372036854775807 by omega] | simp only [go_sem, v158, p158, eq_true hG, Mark.c, rw_at _ h1, rw_at _ h3, wrap_pred, show i < 9223372036854775807 by omega])
        | (refine selN_ifn rfl (fun hG => ?_) (fun hG => ?_) <;> first | simp only [go_sem, v158, p158, eq_false hG, Mark.c, rw_at _ h1, rw_at _ h3, wrap_pred, show i < 9223372036854775807 by omega] | simp only [go_sem, v158, p158, eq_true hG, Mark.c, rw_at _ h1, rw_at _ h3, wrap_pred, show i < 9223372036854775807 by omega])
        | (refine selB_if rfl (fun hG => ?_) (fun hG => ?_) <;> simp only [go_sem, v158, p158, hG, Mark.c, rw_at _ h1, rw_at _ h3, wrap_pred, show i < 9223372036854775807 by omega])
        | (refine selB_ifn rfl (fun hG => ?_) (fun hG => ?_) <;> simp only [go_sem, v158, p158, hG, Mark.c, rw_at _ h1, rw_at _ h3, wrap_pred, show i < 9223372036854775807 by omega])
        | (refine run_see (isNode_ok _) false (Views.refl rfl) rfl (fun j hj => by omega) (fun h => by cases h) ?_; simp only [go_sem, v158, p158, Mark.c, rw_at _ h1, rw_at _ h3, wrap_pred, show i < 9223372036854775807 by omega])
        | (refine run_see (within_ok _ _ _) false (Views.refl rfl) rfl (fun j hj => by omega) (fun h => by cases h) ?_; simp only [go_sem, v158, p158, Mark.c, rw_at _ h1, rw_at _ h3, wrap_pred, show i < 9223372036854775807 by omega])
      all_goals rw [hK2]
      all_goals refine ⟨_, _, _, _, _, _, rfl, rfl, ?_⟩
      all_goals have key := markR_iff ms h1 h3
      all_goals grind
    intro L σ hq
    rw [hK2] at hq
    obtain ⟨q, rest, y2, y3, y4, y8, rfl, rfl, hq⟩ := hq
    subst hq
    refine awp_if' rfl ?_ ?_
    · intro h2
      refine awp_sr ?_
      simp only [go_sem, R158_5, v158, p158]
      refine awp_ret ?_
      try simp only [go_sem]
      exact fin _ _ (.bool false) rfl (congrArg V.bool (decide_eq_false fun e => h2 (e i _ (List.getElem?_eq_getElem h1)))).symm
    · intro h2
      refine awp_skip ?_
      simp only [go_sem]
      refine awp_reg ?_
      simp only [go_sem, R158_6, v158, p158, wrap_succ (i := i) (by omega)]
      refine ⟨ms.length - (i + 1), by omega, ?_⟩
      rw [hI]
      refine ⟨i + 1, _, _, _, _, _, _, rfl, by omega, ?_, rfl, rfl⟩
      exact upto_succ hP h1 h2
  · intro h1
    refine awp_exit ?_
    simp only [go_sem]
    refine awp_sr ?_
    simp only [go_sem, R158_7, v158, p158]
    refine awp_ret ?_
    try simp only [go_sem]
    exact fin _ _ (.bool true) rfl (congrArg V.bool (decide_eq_true (show marksR ms from upto_all hP (by omega))).symm)
/-- a right tree -/
def Tree.Right (t : Tree) : Prop := (t.leaves.length = 0 → t.root = 0) ∧ (t.leaves.length ≠ 0 → t.leaves.length = 4 ∧ (∀ j x, t.leaves[j]? = some x → inTop 1023 j x) ∧ 0 ≤ t.root ∧ t.root ≤ 1023)
noncomputable instance (t : Tree) : Decidable t.Right := Classical.propDecidable _
theorem specL10Tree_ok (t : Tree) (h : t.leaves.length ≤ 1048576) : FS Try.prog 151 [] [.agg t.c] (.bool (decide t.Right)) [] := by
  refine FS.of (X := X151) (ac := A151) (os := O151) Try.func151 (by rfl) (by rfl) (by kernel_rfl) o151 (Nat.le_of_ble_eq_true rfl) ?_
  show AWP X151 A151 (Ends X151.vs O151 0 _ _) [.agg t.c, .tup [], .tup [], .tup []] []
  obtain ⟨Q, hQ⟩ : ∃ Q, Q = Ends X151.vs O151 0 (.bool (decide t.Right)) [] := ⟨_, rfl⟩
  rw [← hQ]
  have fin : ∀ L σ v, resVs O151 (look X151.vs L) σ = some [v] → v = (.bool (decide t.Right)) → Q .ret L σ := by
    intro L σ v h1 h2
    rw [hQ]
    exact Ends.is (.inl rfl) h1 (by simp only [packV, h2]) rfl
  refine awp_sr ?_
  simp only [go_sem, R151_0, v151, p151, Tree.c]
  refine awp_sr2 ?_
  simp only [go_sem, R151_1, v151, p151]
  refine awp_if rfl ?_ ?_
  · intro h1
    refine awp_sr ?_
    simp only [go_sem, R151_2, v151, p151]
    refine awp_ret ?_
    try simp only [go_sem]
    refine fin _ _ _ rfl (congrArg V.bool ?_)
    grind [Tree.Right]
  intro h1
  refine awp_skip ?_
  simp only [go_sem]
  obtain ⟨K3, hK3⟩ : ∃ K : List V → Store → Prop, K = fun L σ => ∃ q y0 y1 y6, L = [y0, y1, .bool q, y6] ∧ σ = [.live ⟨2, [t.c]⟩] ∧ q = decide t.Right := ⟨_, rfl⟩
  refine awp_srK (K3) ?_ ?_
  · simp only [go_sem, R151_3, v151, p151, Tree.c]
    repeat' first
      | (refine selP_if rfl (fun hG => ?_) (fun hG => ?_) <;> first | simp only [go_sem, v151, p151, eq_false hG, Tree.c] | simp only [go_sem, v151, p151, eq_true hG, Tree.c])
      | (refine selP_ifn rfl (fun hG => ?_) (fun hG => ?_) <;> first | simp only [go_sem, v151, p151, eq_false hG, Tree.c] | simp only [go_sem, v151, p151, eq_true hG, Tree.c])
      | (refine selN_if rfl (fun hG => ?_) (fun hG => ?_) <;> first | simp only [go_sem, v151, p151, eq_false hG, Tree.c] | simp only [go_sem, v151, p151, eq_true hG, Tree.c])
      | (refine selN_ifn rfl (fun hG => ?_) (fun hG => ?_) <;> first | simp only [go_sem, v151, p151, eq_false hG, Tree.c] | simp only [go_sem, v151, p151, eq_true hG, Tree.c])
      | (refine selB_if rfl (fun hG => ?_) (fun hG => ?_) <;> simp only [go_sem, v151, p151, hG, Tree.c])
      | (refine selB_ifn rfl (fun hG => ?_) (fun hG => ?_) <;> simp only [go_sem, v151, p151, hG, Tree.c])
      | (refine run_see (specL10Nums_ok t.leaves _ _ h) false (Views.refl rfl) rfl (fun j hj => by omega) (fun h => by cases h) ?_; simp only [go_sem, v151, p151, Tree.c])
      | (refine run_see (l1In_ok _ _ _) false (Views.refl rfl) rfl (fun j hj => by omega) (fun h => by cases h) ?_; simp only [go_sem, v151, p151, Tree.c])
    all_goals rw [hK3]
    all_goals refine ⟨_, _, _, _, rfl, rfl, ?_⟩
    all_goals grind [Tree.Right, numsR]
  intro L σ hq
  rw [hK3] at hq
  obtain ⟨q, y0, y1, y6, rfl, rfl, hq⟩ := hq
  subst hq
  refine awp_ret ?_
  try simp only [go_sem]
  exact fin _ _ _ rfl rfl
theorem implTreeOk_ok (t : Tree) (h : t.leaves.length ≤ 1048576) : FS Try.prog 157 [] [.agg t.c] (.bool (decide t.Right)) [] := by
  refine FS.of (X := X157) (ac := A157) (os := O157) Try.func157 (by rfl) (by rfl) (by kernel_rfl) o157 (Nat.le_of_ble_eq_true rfl) ?_
  show AWP X157 A157 (Ends X157.vs O157 0 _ _) [.agg t.c, .tup [], .tup [], .tup [], .tup [], .tup [], .tup [], .tup [], .tup [], .tup []] []
  obtain ⟨Q, hQ⟩ : ∃ Q, Q = Ends X157.vs O157 0 (.bool (decide t.Right)) [] := ⟨_, rfl⟩
  rw [← hQ]
  have fin : ∀ L σ v, resVs O157 (look X157.vs L) σ = some [v] → v = (.bool (decide t.Right)) → Q .ret L σ := by
    intro L σ v h1 h2
    rw [hQ]
    exact Ends.is (.inl rfl) h1 (by simp only [packV, h2]) rfl
  refine awp_sr ?_
  simp only [go_sem, R157_0, v157, p157, Tree.c]
  refine awp_sr2 ?_
  simp only [go_sem, R157_1, v157, p157]
  refine awp_if rfl ?_ ?_
  · intro h1
    refine awp_sr ?_
    simp only [go_sem, R157_2, v157, p157]
    refine awp_ret ?_
    try simp only [go_sem]
    refine fin _ _ _ rfl (congrArg V.bool ?_)
    grind [Tree.Right]
  intro h1
  refine awp_skip ?_
  simp only [go_sem]
  refine awp_sr2 ?_
  simp only [go_sem, R157_3, v157, p157, Tree.c]
  obtain ⟨I, hI⟩ : ∃ I : Nat → List V → Store → Prop, I = fun mM L σ => ∃ i rest y0 y2 y4 y8 y16 y21, mM = t.leaves.length - i ∧ i ≤ t.leaves.length ∧ (∀ j x, j < i → t.leaves[j]? = some x → inTop 1023 j x) ∧ L = [y0, .ptr 0 2 0 0, y2, y4, y8, .fz 1 (rw_ intC t.leaves), .int .i64 (t.leaves.length : Nat), .int .i64 (i : Nat), y16, y21] ∧ σ = .live ⟨2, [t.c]⟩ :: rest := ⟨_, rfl⟩
  first | refine awp_for I t.leaves.length ?_ ?_ | refine awp_seq (awp_for I t.leaves.length ?_ ?_)
  · rw [hI]; refine ⟨0, _, _, _, _, _, _, _, rfl, Nat.zero_le _, ?_, rfl, rfl⟩
    intro j x h; omega
  intro mM L σ hIn
  rw [hI] at hIn
  obtain ⟨i, rest, y0, y2, y4, y8, y16, y21, rfl, hi, hP, rfl, rfl⟩ := hIn
  refine awp_sr ?_
  simp only [go_sem, R157_4, v157, p157]
  refine awp_seq ?_
  refine awp_if rfl ?_ ?_
  · intro h2
    have h2 : i < t.leaves.length := by omega
    refine awp_skip ?_
    simp only [go_sem]
    refine awp_seq (awp_block ?_)
    refine awp_sr ?_
    simp only [go_sem, R157_5, v157, p157, rw_at _ h2, intC]
    refine awp_sr ?_
    simp only [go_sem, R157_6, v157, p157]
    refine run_see (within_ok _ _ _) false (Views.refl rfl) rfl (fun j hj => by first | omega | ((have hj0 : j = 0 := by omega); subst hj0; first | rfl | (simp only [Nat.add_zero, app_get, app_getk, sapp_get, sapp_getk, Nat.add_assoc, Nat.reduceAdd, List.getElem?_cons_zero, List.getElem?_cons_succ]; done) | simp)) (fun h => by cases h) ?_
    simp only [go_sem, v157, p157]
    refine awp_if' rfl ?_ ?_
    · intro h3
      refine awp_sr ?_
      simp only [go_sem, R157_7, v157, p157]
      refine awp_ret ?_
      try simp only [go_sem]
      exact fin _ _ (.bool false) rfl (congrArg V.bool (decide_eq_false fun e => h3 ((e.2 (by omega)).2.1 i _ (List.getElem?_eq_getElem h2)))).symm
    · intro h3
      refine awp_skip ?_
      simp only [go_sem]
      refine awp_reg ?_
      simp only [go_sem, R157_8, v157, p157, wrap_succ (i := i) (by omega)]
      refine ⟨t.leaves.length - (i + 1), by omega, ?_⟩
      rw [hI]
      refine ⟨i + 1, _, _, _, _, _, _, _, rfl, by omega, ?_, rfl, rfl⟩
      exact upto_succ hP h2 h3
  · intro h2
    refine awp_exit ?_
    simp only [go_sem]
    have hall := upto_all hP (by omega)
    obtain ⟨K4, hK4⟩ : ∃ K : List V → Store → Prop, K = fun L σ => ∃ q rest y0 y1 y4 y8 y13 y14 y15 y16 y21, L = [y0, y1, .bool q, y4, y8, y13, y14, y15, y16, y21] ∧ σ = .live ⟨2, [t.c]⟩ :: rest ∧ q = decide t.Right := ⟨_, rfl⟩
    refine awp_srK (K4) ?_ ?_
    · simp only [go_sem, R157_9, v157, p157, Tree.c]
      repeat' first
        | (refine selP_if rfl (fun hG => ?_) (fun hG => ?_) <;> first | simp only [go_sem, v157, p157, eq_false hG, Tree.c] | simp only [go_sem, v157, p157, eq_true hG, Tree.c])
        | (refine selP_ifn rfl (fun hG => ?_) (fun hG => ?_) <;> first | simp only [go_sem, v157, p157, eq_false hG, Tree.c] | simp only [go_sem, v157, p157, eq_true hG, Tree.c])
        | (refine selN_if rfl (fun hG => ?_) (fun hG => ?_) <;> first | simp only [go_sem, v157, p157, eq_false hG, Tree.c] | simp only [go_sem, v157, p157, eq_true hG, Tree.c])
        | (refine selN_ifn rfl (fun hG => ?_) (fun hG => ?_) <;> first | simp only [go_sem, v157, p157, eq_false hG, Tree.c] | simp only [go_sem, v157, p157, eq_true hG, Tree.c])
        | (refine selB_if rfl (fun hG => ?_) (fun hG => ?_) <;> simp only [go_sem, v157, p157, hG, Tree.c])
        | (refine selB_ifn rfl (fun hG => ?_) (fun hG => ?_) <;> simp only [go_sem, v157, p157, hG, Tree.c])
        | (refine run_see (within_ok _ _ _) false (Views.refl rfl) rfl (fun j hj => by omega) (fun h => by cases h) ?_; simp only [go_sem, v157, p157, Tree.c])
      all_goals rw [hK4]
      all_goals refine ⟨_, _, _, _, _, _, _, _, _, _, _, rfl, rfl, ?_⟩
      all_goals grind [Tree.Right]
    intro L σ hq
    rw [hK4] at hq
    obtain ⟨q, rest, y0, y1, y4, y8, y13, y14, y15, y16, y21, rfl, rfl, hq⟩ := hq
    subst hq
    refine awp_ret ?_
    try simp only [go_sem]
    exact fin _ _ _ rfl rfl
end Go.Proofs.Ytffigokicddekaa.Abs
/- What a right message is, walked in both texts: the whole. No condition. -/
set_option linter.unusedVariables false
set_option linter.unusedSimpArgs false
set_option maxRecDepth 10000
namespace Go.Proofs.Ytffigokicddekaa.Abs
open Go Go.Proofs
def R112_0 : List AR := [⟨(some 1), none, 0, (.box 0 12 (.t 0))⟩, ⟨(some 2), none, 0, (.mov (.k (.bool false)))⟩]
def R112_1 : List AR := [⟨(some 4), none, 0, (.faddr 0 (.t 1))⟩, ⟨(some 5), none, 0, (.load 1 false (.t 4))⟩, ⟨(some 6), none, 0, (.call false 0 0 101 [(.t 5), (.k (.int .i64 0)), (.k (.int .i64 5))])⟩, ⟨(some 7), none, 0, (.not (.t 6))⟩, ⟨(some 8), none, 0, (.mov (.t 7))⟩, ⟨(some 9), (some (8, false)), 0, (.faddr 1 (.t 1))⟩, ⟨(some 10), (some (8, false)), 0, (.load 1 false (.t 9))⟩, ⟨(some 11), (some (8, false)), 0, (.call false 0 0 98 [(.t 10)])⟩, ⟨(some 12), (some (8, false)), 0, (.not (.t 11))⟩, ⟨(some 13), none, 0, (.pick (.t 8) (.k (.bool true)) (.t 12))⟩, ⟨(some 14), none, 0, (.mov (.t 13))⟩, ⟨(some 15), (some (14, false)), 0, (.faddr 2 (.t 1))⟩, ⟨(some 16), (some (14, false)), 0, (.load 1 false (.t 15))⟩, ⟨(some 17), (some (14, false)), 0, (.call false 0 0 98 [(.t 16)])⟩, ⟨(some 18), (some (14, false)), 0, (.not (.t 17))⟩, ⟨(some 19), none, 0, (.pick (.t 14) (.k (.bool true)) (.t 18))⟩, ⟨(some 20), none, 0, (.mov (.t 19))⟩, ⟨(some 21), (some (20, false)), 0, (.faddr 1 (.t 1))⟩, ⟨(some 22), (some (20, false)), 0, (.load 1 false (.t 21))⟩, ⟨(some 23), (some (20, false)), 0, (.faddr 2 (.t 1))⟩, ⟨(some 24), (some (20, false)), 0, (.load 1 false (.t 23))⟩, ⟨(some 25), (some (20, false)), 0, (.bin .eql (.t 22) (.t 24))⟩, ⟨(some 26), none, 0, (.pick (.t 20) (.k (.bool true)) (.t 25))⟩, ⟨(some 27), none, 0, (.mov (.t 26))⟩, ⟨(some 28), (some (27, false)), 0, (.faddr 3 (.t 1))⟩, ⟨(some 29), (some (27, false)), 0, (.load 1 false (.t 28))⟩, ⟨(some 30), (some (27, false)), 0, (.call false 0 0 101 [(.t 29), (.k (.int .i64 0)), (.k (.int .i64 100000))])⟩, ⟨(some 31), (some (27, false)), 0, (.not (.t 30))⟩, ⟨(some 32), none, 0, (.pick (.t 27) (.k (.bool true)) (.t 31))⟩, ⟨(some 33), none, 0, (.mov (.t 32))⟩, ⟨(some 34), (some (33, false)), 0, (.faddr 4 (.t 1))⟩, ⟨(some 35), (some (33, false)), 0, (.load 1 false (.t 34))⟩, ⟨(some 36), (some (33, false)), 0, (.call false 0 0 101 [(.t 35), (.k (.int .i64 0)), (.k (.int .i64 100000))])⟩, ⟨(some 37), (some (33, false)), 0, (.not (.t 36))⟩, ⟨(some 38), none, 0, (.pick (.t 33) (.k (.bool true)) (.t 37))⟩]
def R112_2 : List AR := [⟨(some 2), none, 0, (.mov (.k (.bool false)))⟩]
def R112_3 : List AR := [⟨(some 39), none, 0, (.faddr 5 (.t 1))⟩, ⟨(some 40), none, 0, (.load 2 true (.t 39))⟩, ⟨(some 41), none, 0, (.call false 0 0 151 [(.t 40)])⟩, ⟨(some 42), none, 0, (.not (.t 41))⟩, ⟨(some 43), none, 0, (.mov (.t 42))⟩, ⟨(some 44), (some (43, false)), 0, (.faddr 7 (.t 1))⟩, ⟨(some 45), (some (43, false)), 0, (.load 1 false (.t 44))⟩, ⟨(some 46), (some (43, false)), 0, (.call false 0 0 152 [(.t 45), (.k (.int .i64 5)), (.k (.int .i64 100000))])⟩, ⟨(some 47), (some (43, false)), 0, (.not (.t 46))⟩, ⟨(some 48), none, 0, (.pick (.t 43) (.k (.bool true)) (.t 47))⟩, ⟨(some 49), none, 0, (.mov (.t 48))⟩, ⟨(some 50), (some (49, false)), 0, (.faddr 8 (.t 1))⟩, ⟨(some 51), (some (49, false)), 0, (.load 1 false (.t 50))⟩, ⟨(some 52), (some (49, false)), 0, (.call false 0 0 152 [(.t 51), (.k (.int .i64 4)), (.k (.int .i64 3))])⟩, ⟨(some 53), (some (49, false)), 0, (.not (.t 52))⟩, ⟨(some 54), none, 0, (.pick (.t 49) (.k (.bool true)) (.t 53))⟩, ⟨(some 55), none, 0, (.mov (.t 54))⟩, ⟨(some 56), (some (55, false)), 0, (.faddr 9 (.t 1))⟩, ⟨(some 57), (some (55, false)), 0, (.load 2 true (.t 56))⟩, ⟨(some 58), (some (55, false)), 0, (.call false 0 0 55 [(.t 57)])⟩, ⟨(some 59), (some (55, false)), 0, (.not (.t 58))⟩, ⟨(some 60), none, 0, (.pick (.t 55) (.k (.bool true)) (.t 59))⟩, ⟨(some 61), none, 0, (.mov (.t 60))⟩, ⟨(some 62), (some (61, false)), 0, (.faddr 11 (.t 1))⟩, ⟨(some 63), (some (61, false)), 0, (.load 1 false (.t 62))⟩, ⟨(some 64), (some (61, false)), 0, (.call false 0 0 153 [(.t 63)])⟩, ⟨(some 65), (some (61, false)), 0, (.not (.t 64))⟩, ⟨(some 66), none, 0, (.pick (.t 61) (.k (.bool true)) (.t 65))⟩]
def R112_4 : List AR := [⟨(some 2), none, 0, (.mov (.k (.bool false)))⟩]
def R112_5 : List AR := [⟨(some 3), none, 0, (.mov (.k (.int .i64 1)))⟩]
def R112_6 : List AR := [⟨(some 67), none, 0, (.mov (.t 3))⟩, ⟨(some 68), none, 0, (.faddr 8 (.t 1))⟩, ⟨(some 69), none, 0, (.load 1 false (.t 68))⟩, ⟨(some 70), none, 0, (.len (.t 69))⟩, ⟨(some 71), none, 0, (.bin .lss (.t 67) (.t 70))⟩]
def R112_7 : List AR := [⟨(some 74), none, 0, (.faddr 8 (.t 1))⟩, ⟨(some 75), none, 0, (.load 1 false (.t 74))⟩, ⟨(some 76), none, 0, (.mov (.t 3))⟩, ⟨(some 77), none, 0, (.iaddr 1 (.t 75) (.t 76))⟩, ⟨(some 78), none, 0, (.load 1 false (.t 77))⟩, ⟨(some 79), none, 0, (.faddr 8 (.t 1))⟩, ⟨(some 80), none, 0, (.load 1 false (.t 79))⟩, ⟨(some 81), none, 0, (.mov (.t 3))⟩, ⟨(some 82), none, 0, (.bin .sub (.t 81) (.k (.int .i64 1)))⟩, ⟨(some 83), none, 0, (.iaddr 1 (.t 80) (.t 82))⟩, ⟨(some 84), none, 0, (.load 1 false (.t 83))⟩, ⟨(some 85), none, 0, (.bin .leq (.t 78) (.t 84))⟩]
def R112_8 : List AR := [⟨(some 2), none, 0, (.mov (.k (.bool false)))⟩]
def R112_9 : List AR := [⟨(some 72), none, 0, (.mov (.t 3))⟩, ⟨(some 73), none, 0, (.bin .add (.t 72) (.k (.int .i64 1)))⟩, ⟨(some 3), none, 0, (.mov (.t 73))⟩]
def A112_0 : AC := (.seq (.block 1 (.seq (.draw 0 R112_7) (.cond (.t 85) (.seq (.reg 0 R112_8) .ret) .skip))) (.reg 0 R112_9))
def L112_0 : AC := (.seq (.seq (.reg 0 R112_6) (.cond (.t 71) .skip (.exit 0))) A112_0)
def R112_10 : List AR := [⟨(some 2), none, 0, (.mov (.k (.bool true)))⟩]
def A112_1 : AC := (.seq (.reg 0 R112_10) .ret)
def A112_2 : AC := (.seq (.seq (.reg 0 R112_5) (.block 0 (.loop L112_0))) A112_1)
def A112_3 : AC := (.seq (.seq (.reg 0 R112_3) (.cond (.t 66) (.seq (.reg 0 R112_4) .ret) .skip)) A112_2)
def A112_4 : AC := (.seq (.seq (.reg 0 R112_1) (.cond (.t 38) (.seq (.reg 0 R112_2) .ret) .skip)) A112_3)
def A112 : AC := (.seq (.reg 1 R112_0) A112_4)
def O112 : List AO := [(.mov (.t 2))]
def G112 : Fns := ⟨fun f => false, fun f => 0, false⟩
noncomputable def X112 : Cx := ⟨Try.prog, G112, drawD, 86, [0, 1, 2, 3, 38, 66, 71, 85]⟩
theorem c112 : (Try.f112.body).bind (compC X112.P X112.Γ X112.D X112.nt) = some A112 := by kernel_rfl
theorem o112 : compRes X112.P Try.f112.results.toList = some O112 := by kernel_rfl
theorem v112 : X112.vs = [0, 1, 2, 3, 38, 66, 71, 85] := rfl
theorem p112 : X112.P = Try.prog := rfl
def R116_0 : List AR := [⟨(some 1), none, 0, (.box 0 12 (.t 0))⟩, ⟨(some 2), none, 0, (.mov (.k (.bool false)))⟩]
def R116_1 : List AR := [⟨(some 7), none, 0, (.faddr 0 (.t 1))⟩, ⟨(some 8), none, 0, (.load 1 false (.t 7))⟩, ⟨(some 9), none, 0, (.call false 0 0 105 [(.t 8), (.k (.int .i64 0)), (.k (.int .i64 5))])⟩, ⟨(some 10), none, 0, (.not (.t 9))⟩, ⟨(some 11), none, 0, (.mov (.t 10))⟩, ⟨(some 12), (some (11, false)), 0, (.faddr 1 (.t 1))⟩, ⟨(some 13), (some (11, false)), 0, (.load 1 false (.t 12))⟩, ⟨(some 14), (some (11, false)), 0, (.call false 0 0 104 [(.t 13)])⟩, ⟨(some 15), (some (11, false)), 0, (.not (.t 14))⟩, ⟨(some 16), none, 0, (.pick (.t 11) (.k (.bool true)) (.t 15))⟩, ⟨(some 17), none, 0, (.mov (.t 16))⟩, ⟨(some 18), (some (17, false)), 0, (.faddr 2 (.t 1))⟩, ⟨(some 19), (some (17, false)), 0, (.load 1 false (.t 18))⟩, ⟨(some 20), (some (17, false)), 0, (.call false 0 0 104 [(.t 19)])⟩, ⟨(some 21), (some (17, false)), 0, (.not (.t 20))⟩, ⟨(some 22), none, 0, (.pick (.t 17) (.k (.bool true)) (.t 21))⟩, ⟨(some 23), none, 0, (.mov (.t 22))⟩, ⟨(some 24), (some (23, false)), 0, (.faddr 1 (.t 1))⟩, ⟨(some 25), (some (23, false)), 0, (.load 1 false (.t 24))⟩, ⟨(some 26), (some (23, false)), 0, (.faddr 2 (.t 1))⟩, ⟨(some 27), (some (23, false)), 0, (.load 1 false (.t 26))⟩, ⟨(some 28), (some (23, false)), 0, (.bin .eql (.t 25) (.t 27))⟩, ⟨(some 29), none, 0, (.pick (.t 23) (.k (.bool true)) (.t 28))⟩]
def R116_2 : List AR := [⟨(some 2), none, 0, (.mov (.k (.bool false)))⟩]
def R116_3 : List AR := [⟨(some 30), none, 0, (.faddr 8 (.t 1))⟩, ⟨(some 31), none, 0, (.load 1 false (.t 30))⟩, ⟨(some 32), none, 0, (.len (.t 31))⟩, ⟨(some 33), none, 0, (.mov (.k (.int .i64 0)))⟩]
def R116_4 : List AR := [⟨(some 34), none, 0, (.bin .lss (.t 33) (.t 32))⟩]
def R116_5 : List AR := [⟨(some 35), none, 0, (.mov (.t 33))⟩, ⟨(some 36), none, 0, (.iaddr 1 (.t 31) (.t 33))⟩, ⟨(some 37), none, 0, (.load 1 false (.t 36))⟩, ⟨(some 3), none, 0, (.mov (.t 35))⟩, ⟨(some 4), none, 0, (.mov (.t 37))⟩]
def R116_6 : List AR := [⟨(some 38), none, 0, (.mov (.t 4))⟩, ⟨(some 39), none, 0, (.call false 0 0 105 [(.t 38), (.k (.int .i64 0)), (.k (.int .i64 3))])⟩, ⟨(some 40), none, 0, (.not (.t 39))⟩, ⟨(some 41), none, 0, (.mov (.t 40))⟩, ⟨(some 42), (some (41, false)), 0, (.mov (.t 3))⟩, ⟨(some 43), (some (41, false)), 0, (.bin .gtr (.t 42) (.k (.int .i64 0)))⟩, ⟨(some 44), (some (41, false)), 0, (.mov (.t 43))⟩, ⟨(some 45), (some (44, true)), 0, (.faddr 8 (.t 1))⟩, ⟨(some 46), (some (44, true)), 0, (.load 1 false (.t 45))⟩, ⟨(some 47), (some (44, true)), 0, (.mov (.t 3))⟩, ⟨(some 48), (some (44, true)), 0, (.bin .sub (.t 47) (.k (.int .i64 1)))⟩, ⟨(some 49), (some (44, true)), 0, (.iaddr 1 (.t 46) (.t 48))⟩, ⟨(some 50), (some (44, true)), 0, (.load 1 false (.t 49))⟩, ⟨(some 51), (some (44, true)), 0, (.mov (.t 4))⟩, ⟨(some 52), (some (44, true)), 0, (.bin .geq (.t 50) (.t 51))⟩, ⟨(some 53), (some (41, false)), 0, (.pick (.t 44) (.t 52) (.k (.bool false)))⟩, ⟨(some 54), none, 0, (.pick (.t 41) (.k (.bool true)) (.t 53))⟩]
def R116_7 : List AR := [⟨(some 2), none, 0, (.mov (.k (.bool false)))⟩]
def A116_0 : AC := (.seq (.reg 0 R116_6) (.cond (.t 54) (.seq (.reg 0 R116_7) .ret) .skip))
def R116_8 : List AR := [⟨(some 55), none, 0, (.bin .add (.t 33) (.k (.int .i64 1)))⟩, ⟨(some 33), none, 0, (.mov (.t 55))⟩]
def A116_1 : AC := (.seq (.block 1 (.seq (.reg 0 R116_5) A116_0)) (.reg 0 R116_8))
def A116_2 : AC := (.seq (.cond (.t 34) .skip (.exit 0)) A116_1)
def L116_0 : AC := (.seq (.reg 0 R116_4) A116_2)
def R116_9 : List AR := [⟨(some 56), none, 0, (.faddr 7 (.t 1))⟩, ⟨(some 57), none, 0, (.load 1 false (.t 56))⟩, ⟨(some 58), none, 0, (.len (.t 57))⟩, ⟨(some 59), none, 0, (.mov (.k (.int .i64 0)))⟩]
def R116_10 : List AR := [⟨(some 60), none, 0, (.bin .lss (.t 59) (.t 58))⟩]
def R116_11 : List AR := [⟨(some 61), none, 0, (.iaddr 1 (.t 57) (.t 59))⟩, ⟨(some 62), none, 0, (.load 1 false (.t 61))⟩, ⟨(some 6), none, 0, (.mov (.t 62))⟩]
def R116_12 : List AR := [⟨(some 63), none, 0, (.mov (.t 6))⟩, ⟨(some 64), none, 0, (.call false 0 0 105 [(.t 63), (.k (.int .i64 0)), (.k (.int .i64 100000))])⟩, ⟨(some 65), none, 0, (.not (.t 64))⟩]
def R116_13 : List AR := [⟨(some 2), none, 0, (.mov (.k (.bool false)))⟩]
def A116_3 : AC := (.seq (.reg 0 R116_12) (.cond (.t 65) (.seq (.reg 0 R116_13) .ret) .skip))
def R116_14 : List AR := [⟨(some 66), none, 0, (.bin .add (.t 59) (.k (.int .i64 1)))⟩, ⟨(some 59), none, 0, (.mov (.t 66))⟩]
def A116_4 : AC := (.seq (.block 3 (.seq (.reg 0 R116_11) A116_3)) (.reg 0 R116_14))
def A116_5 : AC := (.seq (.cond (.t 60) .skip (.exit 2)) A116_4)
def L116_1 : AC := (.seq (.reg 0 R116_10) A116_5)
def R116_15 : List AR := [⟨(some 67), none, 0, (.faddr 3 (.t 1))⟩, ⟨(some 68), none, 0, (.load 1 false (.t 67))⟩, ⟨(some 69), none, 0, (.call false 0 0 105 [(.t 68), (.k (.int .i64 0)), (.k (.int .i64 100000))])⟩, ⟨(some 70), none, 0, (.mov (.t 69))⟩, ⟨(some 71), (some (70, true)), 0, (.faddr 4 (.t 1))⟩, ⟨(some 72), (some (70, true)), 0, (.load 1 false (.t 71))⟩, ⟨(some 73), (some (70, true)), 0, (.call false 0 0 105 [(.t 72), (.k (.int .i64 0)), (.k (.int .i64 100000))])⟩, ⟨(some 74), none, 0, (.pick (.t 70) (.t 73) (.k (.bool false)))⟩, ⟨(some 75), none, 0, (.mov (.t 74))⟩, ⟨(some 76), (some (75, true)), 0, (.faddr 5 (.t 1))⟩, ⟨(some 77), (some (75, true)), 0, (.load 2 true (.t 76))⟩, ⟨(some 78), (some (75, true)), 0, (.call false 0 0 157 [(.t 77)])⟩, ⟨(some 79), none, 0, (.pick (.t 75) (.t 78) (.k (.bool false)))⟩, ⟨(some 80), none, 0, (.mov (.t 79))⟩, ⟨(some 81), (some (80, true)), 0, (.faddr 7 (.t 1))⟩, ⟨(some 82), (some (80, true)), 0, (.load 1 false (.t 81))⟩, ⟨(some 83), (some (80, true)), 0, (.len (.t 82))⟩, ⟨(some 84), (some (80, true)), 0, (.bin .leq (.t 83) (.k (.int .i64 5)))⟩, ⟨(some 85), none, 0, (.pick (.t 80) (.t 84) (.k (.bool false)))⟩, ⟨(some 86), none, 0, (.mov (.t 85))⟩, ⟨(some 87), (some (86, true)), 0, (.faddr 9 (.t 1))⟩, ⟨(some 88), (some (86, true)), 0, (.load 2 true (.t 87))⟩, ⟨(some 89), (some (86, true)), 0, (.call false 0 0 59 [(.t 88)])⟩, ⟨(some 90), none, 0, (.pick (.t 86) (.t 89) (.k (.bool false)))⟩, ⟨(some 91), none, 0, (.mov (.t 90))⟩, ⟨(some 92), (some (91, true)), 0, (.faddr 11 (.t 1))⟩, ⟨(some 93), (some (91, true)), 0, (.load 1 false (.t 92))⟩, ⟨(some 94), (some (91, true)), 0, (.call false 0 0 158 [(.t 93)])⟩, ⟨(some 95), none, 0, (.pick (.t 91) (.t 94) (.k (.bool false)))⟩, ⟨(some 2), none, 0, (.mov (.t 95))⟩]
def A116_6 : AC := (.seq (.reg 0 R116_15) .ret)
def A116_7 : AC := (.seq (.seq (.reg 0 R116_9) (.block 2 (.loop L116_1))) A116_6)
def A116_8 : AC := (.seq (.seq (.reg 0 R116_3) (.block 0 (.loop L116_0))) A116_7)
def A116_9 : AC := (.seq (.seq (.reg 0 R116_1) (.cond (.t 29) (.seq (.reg 0 R116_2) .ret) .skip)) A116_8)
def A116 : AC := (.seq (.reg 1 R116_0) A116_9)
def O116 : List AO := [(.mov (.t 2))]
def G116 : Fns := ⟨fun f => false, fun f => 0, false⟩
noncomputable def X116 : Cx := ⟨Try.prog, G116, drawD, 96, [0, 1, 2, 3, 4, 6, 29, 31, 32, 33, 34, 54, 57, 58, 59, 60, 65]⟩
theorem c116 : (Try.f116.body).bind (compC X116.P X116.Γ X116.D X116.nt) = some A116 := by kernel_rfl
theorem o116 : compRes X116.P Try.f116.results.toList = some O116 := by kernel_rfl
theorem v116 : X116.vs = [0, 1, 2, 3, 4, 6, 29, 31, 32, 33, 34, 54, 57, 58, 59, 60, 65] := rfl
theorem p116 : X116.P = Try.prog := rfl
def leafP (ls : List Int) (j : Nat) (x : Int) : Prop := inTop 3 j x ∧ ∀ y, 0 < j → ls[j - 1]? = some y → y < x
def leafR (ls : List Int) : Prop := ∀ j x, ls[j]? = some x → leafP ls j x
theorem leafR_ge {ls : List Int} (h : leafR ls) : ∀ (j : Nat) x, ls[j]? = some x → (j : Int) ≤ x
  | 0, x, hx => by have := (h 0 x hx).1.1; omega
  | j + 1, x, hx => by
    have hl := (List.getElem?_eq_some_iff.1 hx).1
    have h1 := leafR_ge h j ls[j] (List.getElem?_eq_getElem (by omega))
    have h2 := (h (j + 1) x hx).2 ls[j] (by omega) (List.getElem?_eq_getElem (by omega))
    omega
theorem leafR_len {ls : List Int} (h : leafR ls) : ls.length ≤ 4 := by
  rcases Nat.lt_or_ge 4 ls.length with h1 | h1
  · have h2 := leafR_ge h 4 ls[4] (List.getElem?_eq_getElem h1)
    have h3 := (h 4 ls[4] (List.getElem?_eq_getElem h1)).1.2
    omega
  · exact h1
theorem leafP_iff (ls : List Int) {i : Nat} (h1 : i < ls.length) (h3 : i - 1 < ls.length) : leafP ls i ls[i] ↔ (0 ≤ ls[i] ∧ ls[i] ≤ 3) ∧ (0 < i → ls[i - 1] < ls[i]) := by
  unfold leafP inTop
  simp only [List.getElem?_eq_getElem h3, Option.some.injEq]
  grind
noncomputable instance (ls : List Int) (i : Nat) (x : Int) : Decidable (leafP ls i x) := Classical.propDecidable _
def Msg.H1 (m : Msg) : Prop := (0 ≤ m.kind ∧ m.kind ≤ 5) ∧ (0 ≤ m.from_ ∧ m.from_ ≤ 4) ∧ (0 ≤ m.to ∧ m.to ≤ 4) ∧ m.from_ ≠ m.to
def Msg.H2 (m : Msg) : Prop := (0 ≤ m.num ∧ m.num ≤ 100000) ∧ (0 ≤ m.hi ∧ m.hi ≤ 100000)
def Msg.H3 (m : Msg) : Prop := m.tree.Right ∧ numsR m.vec 5 100000 ∧ m.part.Right ∧ marksR m.marks
def Msg.Right (m : Msg) : Prop := m.H1 ∧ m.H2 ∧ m.H3 ∧ leafR m.leaves
noncomputable instance (m : Msg) : Decidable m.Right := Classical.propDecidable _
noncomputable instance (m : Msg) : Decidable (m.H1 ∧ m.H2) := Classical.propDecidable _
noncomputable instance (m : Msg) : Decidable m.H1 := Classical.propDecidable _
noncomputable instance (m : Msg) : Decidable (m.H3 ∧ numsR m.leaves 4 3) := Classical.propDecidable _
set_option maxHeartbeats 4000000 in
theorem specMsgOk_ok (m : Msg) (h : m.sz ≤ 1048576) : FS Try.prog 112 [] [.agg m.c] (.bool (decide m.Right)) [] := by
  refine FS.of (X := X112) (ac := A112) (os := O112) Try.func112 (by rfl) (by rfl) (by kernel_rfl) o112 (Nat.le_of_ble_eq_true rfl) ?_
  show AWP X112 A112 (Ends X112.vs O112 0 _ _) [.agg m.c, .tup [], .tup [], .tup [], .tup [], .tup [], .tup [], .tup []] []
  obtain ⟨Q, hQ⟩ : ∃ Q, Q = Ends X112.vs O112 0 (.bool (decide m.Right)) [] := ⟨_, rfl⟩
  rw [← hQ]
  have hl : m.tree.leaves.length + m.vec.length + m.leaves.length + m.part.sz + m.marks.length ≤ 1048576 := h
  have fin : ∀ L σ v, resVs O112 (look X112.vs L) σ = some [v] → v = (.bool (decide m.Right)) → Q .ret L σ := by
    intro L σ v h1 h2
    rw [hQ]
    exact Ends.is (.inl rfl) h1 (by simp only [packV, h2]) rfl
  refine awp_sr ?_
  simp only [go_sem, R112_0, v112, p112, Msg.c]
  obtain ⟨K1, hK1⟩ : ∃ K : List V → Store → Prop, K = fun L σ => ∃ q y0 y2 y3 y66 y71 y85, L = [y0, .ptr 0 12 0 0, y2, y3, .bool q, y66, y71, y85] ∧ σ = [.live ⟨12, [m.c]⟩] ∧ q = !decide (m.H1 ∧ m.H2) := ⟨_, rfl⟩
  refine awp_sr2K (K1) ?_ ?_
  · simp only [go_sem, R112_1, v112, p112]
    repeat' first
      | (refine selP_if rfl (fun hG => ?_) (fun hG => ?_) <;> first | simp only [go_sem, v112, p112, eq_false hG, Msg.c] | simp only [go_sem, v112, p112, eq_true hG, Msg.c])
      | (refine selP_ifn rfl (fun hG => ?_) (fun hG => ?_) <;> first | simp only [go_sem, v112, p112, eq_false hG, Msg.c] | simp only [go_sem, v112, p112, eq_true hG, Msg.c])
      | (refine selN_if rfl (fun hG => ?_) (fun hG => ?_) <;> first | simp only [go_sem, v112, p112, eq_false hG, Msg.c] | simp only [go_sem, v112, p112, eq_true hG, Msg.c])
      | (refine selN_ifn rfl (fun hG => ?_) (fun hG => ?_) <;> first | simp only [go_sem, v112, p112, eq_false hG, Msg.c] | simp only [go_sem, v112, p112, eq_true hG, Msg.c])
      | (refine selB_if rfl (fun hG => ?_) (fun hG => ?_) <;> simp only [go_sem, v112, p112, hG, Msg.c])
      | (refine selB_ifn rfl (fun hG => ?_) (fun hG => ?_) <;> simp only [go_sem, v112, p112, hG, Msg.c])
      | (refine run_see (l3Node_ok _) false (Views.refl rfl) rfl (fun j hj => by omega) (fun h => by cases h) ?_; simp only [go_sem, v112, p112, Msg.c])
      | (refine run_see (l1In_ok _ _ _) false (Views.refl rfl) rfl (fun j hj => by omega) (fun h => by cases h) ?_; simp only [go_sem, v112, p112, Msg.c])
    all_goals rw [hK1]
    all_goals refine ⟨_, _, _, _, _, _, _, rfl, rfl, ?_⟩
    all_goals grind [Msg.H1, Msg.H2]
  intro L σ hq
  rw [hK1] at hq
  obtain ⟨q, y0, y2, y3, y66, y71, y85, rfl, rfl, hq⟩ := hq
  subst hq
  refine awp_if' rfl ?_ ?_
  · intro h1
    refine awp_sr ?_
    simp only [go_sem, R112_2, v112, p112]
    refine awp_ret ?_
    try simp only [go_sem]
    exact fin _ _ (.bool false) rfl (congrArg V.bool (decide_eq_false fun e => h1 ⟨e.1, e.2.1⟩)).symm
  intro h1
  refine awp_skip ?_
  simp only [go_sem]
  obtain ⟨K2, hK2⟩ : ∃ K : List V → Store → Prop, K = fun L σ => ∃ q y0 y2 y3 y38 y71 y85, L = [y0, .ptr 0 12 0 0, y2, y3, y38, .bool q, y71, y85] ∧ σ = [.live ⟨12, [m.c]⟩] ∧ q = !decide (m.H3 ∧ numsR m.leaves 4 3) := ⟨_, rfl⟩
  refine awp_sr2K (K2) ?_ ?_
  · simp only [go_sem, R112_3, v112, p112, Msg.c]
    repeat' first
      | (refine selP_if rfl (fun hG => ?_) (fun hG => ?_) <;> first | simp only [go_sem, v112, p112, eq_false hG, Msg.c] | simp only [go_sem, v112, p112, eq_true hG, Msg.c])
      | (refine selP_ifn rfl (fun hG => ?_) (fun hG => ?_) <;> first | simp only [go_sem, v112, p112, eq_false hG, Msg.c] | simp only [go_sem, v112, p112, eq_true hG, Msg.c])
      | (refine selN_if rfl (fun hG => ?_) (fun hG => ?_) <;> first | simp only [go_sem, v112, p112, eq_false hG, Msg.c] | simp only [go_sem, v112, p112, eq_true hG, Msg.c])
      | (refine selN_ifn rfl (fun hG => ?_) (fun hG => ?_) <;> first | simp only [go_sem, v112, p112, eq_false hG, Msg.c] | simp only [go_sem, v112, p112, eq_true hG, Msg.c])
      | (refine selB_if rfl (fun hG => ?_) (fun hG => ?_) <;> simp only [go_sem, v112, p112, hG, Msg.c])
      | (refine selB_ifn rfl (fun hG => ?_) (fun hG => ?_) <;> simp only [go_sem, v112, p112, hG, Msg.c])
      | (refine run_see (specL10Tree_ok m.tree (by omega)) false (Views.refl rfl) rfl (fun j hj => by omega) (fun h => by cases h) ?_; simp only [go_sem, v112, p112, Msg.c])
      | (refine run_see (specL10Nums_ok m.vec _ _ (by omega)) false (Views.refl rfl) rfl (fun j hj => by omega) (fun h => by cases h) ?_; simp only [go_sem, v112, p112, Msg.c])
      | (refine run_see (specL10Nums_ok m.leaves _ _ (by omega)) false (Views.refl rfl) rfl (fun j hj => by omega) (fun h => by cases h) ?_; simp only [go_sem, v112, p112, Msg.c])
      | (refine run_see (specStateOk_ok m.part (by omega)) false (Views.refl rfl) rfl (fun j hj => by omega) (fun h => by cases h) ?_; simp only [go_sem, v112, p112, Msg.c])
      | (refine run_see (specMarksOk_ok m.marks (by omega)) false (Views.refl rfl) rfl (fun j hj => by omega) (fun h => by cases h) ?_; simp only [go_sem, v112, p112, Msg.c])
    all_goals rw [hK2]
    all_goals refine ⟨_, _, _, _, _, _, _, rfl, rfl, ?_⟩
    all_goals grind [Msg.H3]
  intro L σ hq
  rw [hK2] at hq
  obtain ⟨q, y0, y2, y3, y38, y71, y85, rfl, rfl, hq⟩ := hq
  subst hq
  refine awp_if' rfl ?_ ?_
  · intro h2
    refine awp_sr ?_
    simp only [go_sem, R112_4, v112, p112]
    refine awp_ret ?_
    try simp only [go_sem]
    exact fin _ _ (.bool false) rfl (congrArg V.bool (decide_eq_false fun e => h2 ⟨e.2.2.1, by have := leafR_len e.2.2.2; omega, fun j x hx => (e.2.2.2 j x hx).1⟩)).symm
  intro h2
  refine awp_skip ?_
  simp only [go_sem]
  refine awp_sr2 ?_
  simp only [go_sem, R112_5, v112, p112]
  obtain ⟨I, hI⟩ : ∃ I : Nat → List V → Store → Prop, I = fun mM L σ => ∃ i rest y0 y2 y38 y66 y71 y85, m.leaves.length + 1 - i = mM ∧ (1 ≤ i ∧ i ≤ m.leaves.length + 1 ∧ ∀ j x, 1 ≤ j → j < i → m.leaves[j]? = some x → leafP m.leaves j x) ∧ L = [y0, .ptr 0 12 0 0, y2, .int .i64 (i : Nat), y38, y66, y71, y85] ∧ σ = .live ⟨12, [m.c]⟩ :: rest := ⟨_, rfl⟩
  first | refine awp_for I (m.leaves.length) ?_ ?_ | refine awp_seq (awp_for I (m.leaves.length) ?_ ?_)
  · rw [hI]
    refine ⟨1, _, _, _, _, _, _, _, rfl, ?_, rfl, rfl⟩
    exact ⟨by omega, by omega, fun j x h1 h2 => by omega⟩
  intro mM L σ hIn
  rw [hI] at hIn
  obtain ⟨i, rest, y0, y2, y38, y66, y71, y85, rfl, hP, rfl, rfl⟩ := hIn
  obtain ⟨hi1, hi2, hP⟩ := hP
  refine awp_sr2 ?_
  simp only [go_sem, R112_6, v112, p112, Msg.c]
  refine awp_if rfl ?_ ?_
  · intro h3
    have h3 : i < m.leaves.length := by omega
    have h4 : i - 1 < m.leaves.length := by omega
    refine awp_skip ?_
    simp only [go_sem]
    first | refine awp_block ?_ | refine awp_seq (awp_block ?_)
    refine awp_sd mixed rfl (by rfl) ?_
    simp only [go_sem, R112_7, v112, p112, Msg.c, rw_at _ h3, rw_at _ h4, intC, wrap_pred (i := i) (by omega) (by omega)]
    refine awp_if rfl ?_ ?_
    · intro h5
      refine awp_sr ?_
      simp only [go_sem, R112_8, v112, p112]
      refine awp_ret ?_
      try simp only [go_sem]
      exact fin _ _ (.bool false) rfl (congrArg V.bool (decide_eq_false fun e => by have := (leafP_iff m.leaves h3 h4).1 (e.2.2.2 i _ (List.getElem?_eq_getElem h3)); omega)).symm
    · intro h5
      refine awp_skip ?_
      simp only [go_sem]
      refine awp_reg ?_
      simp only [go_sem, R112_9, v112, p112, wrap_succ (i := i) (by omega)]
      refine ⟨m.leaves.length + 1 - (i + 1), ?_, ?_⟩
      rotate_left
      rw [hI]
      refine ⟨i + 1, _, _, _, _, _, _, _, rfl, ?_, rfl, rfl⟩
      · refine ⟨by omega, by omega, fun j x hj1 hj2 hx => ?_⟩
        rcases Nat.lt_or_ge j i with h6 | h6
        · exact hP j x hj1 h6 hx
        · have : j = i := by omega
          subst this
          rw [List.getElem?_eq_getElem h3] at hx
          cases hx
          exact (leafP_iff m.leaves h3 h4).2 ⟨h2.2.2 j _ (List.getElem?_eq_getElem h3), fun _ => by omega⟩
      · omega
  · intro h3
    refine awp_exit ?_
    simp only [go_sem]
    refine awp_sr ?_
    simp only [go_sem, R112_10, v112, p112]
    refine awp_ret ?_
    try simp only [go_sem]
    refine fin _ _ (.bool true) rfl (congrArg V.bool (decide_eq_true (show m.Right from ⟨h1.1, h1.2, h2.1, fun j x hx => ?_⟩)).symm)
    rcases Nat.eq_zero_or_pos j with h6 | h6
    · subst h6
      exact ⟨h2.2.2 0 x hx, fun y h => by omega⟩
    · exact hP j x h6 (by have := (List.getElem?_eq_some_iff.1 hx).1; omega) hx
set_option maxHeartbeats 4000000 in
theorem implMsgOk_ok (m : Msg) (h : m.sz ≤ 1048576) : FS Try.prog 116 [] [.agg m.c] (.bool (decide m.Right)) [] := by
  refine FS.of (X := X116) (ac := A116) (os := O116) Try.func116 (by rfl) (by rfl) (by kernel_rfl) o116 (Nat.le_of_ble_eq_true rfl) ?_
  show AWP X116 A116 (Ends X116.vs O116 0 _ _) [.agg m.c, .tup [], .tup [], .tup [], .tup [], .tup [], .tup [], .tup [], .tup [], .tup [], .tup [], .tup [], .tup [], .tup [], .tup [], .tup [], .tup []] []
  obtain ⟨Q, hQ⟩ : ∃ Q, Q = Ends X116.vs O116 0 (.bool (decide m.Right)) [] := ⟨_, rfl⟩
  rw [← hQ]
  have hl : m.tree.leaves.length + m.vec.length + m.leaves.length + m.part.sz + m.marks.length ≤ 1048576 := h
  have fin : ∀ L σ v, resVs O116 (look X116.vs L) σ = some [v] → v = (.bool (decide m.Right)) → Q .ret L σ := by
    intro L σ v h1 h2
    rw [hQ]
    exact Ends.is (.inl rfl) h1 (by simp only [packV, h2]) rfl
  refine awp_sr ?_
  simp only [go_sem, R116_0, v116, p116, Msg.c]
  obtain ⟨K3, hK3⟩ : ∃ K : List V → Store → Prop, K = fun L σ => ∃ q y0 y2 y3 y4 y6 y31 y32 y33 y34 y54 y57 y58 y59 y60 y65, L = [y0, .ptr 0 12 0 0, y2, y3, y4, y6, .bool q, y31, y32, y33, y34, y54, y57, y58, y59, y60, y65] ∧ σ = [.live ⟨12, [m.c]⟩] ∧ q = !decide m.H1 := ⟨_, rfl⟩
  refine awp_sr2K (K3) ?_ ?_
  · simp only [go_sem, R116_1, v116, p116]
    repeat' first
      | (refine selP_if rfl (fun hG => ?_) (fun hG => ?_) <;> first | simp only [go_sem, v116, p116, eq_false hG, Msg.c] | simp only [go_sem, v116, p116, eq_true hG, Msg.c])
      | (refine selP_ifn rfl (fun hG => ?_) (fun hG => ?_) <;> first | simp only [go_sem, v116, p116, eq_false hG, Msg.c] | simp only [go_sem, v116, p116, eq_true hG, Msg.c])
      | (refine selN_if rfl (fun hG => ?_) (fun hG => ?_) <;> first | simp only [go_sem, v116, p116, eq_false hG, Msg.c] | simp only [go_sem, v116, p116, eq_true hG, Msg.c])
      | (refine selN_ifn rfl (fun hG => ?_) (fun hG => ?_) <;> first | simp only [go_sem, v116, p116, eq_false hG, Msg.c] | simp only [go_sem, v116, p116, eq_true hG, Msg.c])
      | (refine selB_if rfl (fun hG => ?_) (fun hG => ?_) <;> simp only [go_sem, v116, p116, hG, Msg.c])
      | (refine selB_ifn rfl (fun hG => ?_) (fun hG => ?_) <;> simp only [go_sem, v116, p116, hG, Msg.c])
      | (refine run_see (isNode_ok _) false (Views.refl rfl) rfl (fun j hj => by omega) (fun h => by cases h) ?_; simp only [go_sem, v116, p116, Msg.c])
      | (refine run_see (within_ok _ _ _) false (Views.refl rfl) rfl (fun j hj => by omega) (fun h => by cases h) ?_; simp only [go_sem, v116, p116, Msg.c])
    all_goals rw [hK3]
    all_goals refine ⟨_, _, _, _, _, _, _, _, _, _, _, _, _, _, _, _, rfl, rfl, ?_⟩
    all_goals grind [Msg.H1]
  intro L σ hq
  rw [hK3] at hq
  obtain ⟨q, y0, y2, y3, y4, y6, y31, y32, y33, y34, y54, y57, y58, y59, y60, y65, rfl, rfl, hq⟩ := hq
  subst hq
  refine awp_if' rfl ?_ ?_
  · intro h1
    refine awp_sr ?_
    simp only [go_sem, R116_2, v116, p116]
    refine awp_ret ?_
    try simp only [go_sem]
    exact fin _ _ (.bool false) rfl (congrArg V.bool (decide_eq_false fun e => h1 e.1)).symm
  intro h1
  refine awp_skip ?_
  simp only [go_sem]
  refine awp_sr2 ?_
  simp only [go_sem, R116_3, v116, p116, Msg.c]
  obtain ⟨I, hI⟩ : ∃ I : Nat → List V → Store → Prop, I = fun mM L σ => ∃ i rest y0 y2 y3 y4 y6 y29 y34 y54 y57 y58 y59 y60 y65, mM = m.leaves.length - i ∧ i ≤ m.leaves.length ∧ (∀ j x, j < i → m.leaves[j]? = some x → leafP m.leaves j x) ∧ L = [y0, .ptr 0 12 0 0, y2, y3, y4, y6, y29, .fz 1 (rw_ intC m.leaves), .int .i64 (m.leaves.length : Nat), .int .i64 (i : Nat), y34, y54, y57, y58, y59, y60, y65] ∧ σ = .live ⟨12, [m.c]⟩ :: rest := ⟨_, rfl⟩
  first | refine awp_for I m.leaves.length ?_ ?_ | refine awp_seq (awp_for I m.leaves.length ?_ ?_)
  · rw [hI]; refine ⟨0, _, _, _, _, _, _, _, _, _, _, _, _, _, _, rfl, Nat.zero_le _, ?_, rfl, rfl⟩
    intro j x h; omega
  intro mM L σ hIn
  rw [hI] at hIn
  obtain ⟨i, rest, y0, y2, y3, y4, y6, y29, y34, y54, y57, y58, y59, y60, y65, rfl, hi, hP, rfl, rfl⟩ := hIn
  refine awp_sr ?_
  simp only [go_sem, R116_4, v116, p116]
  refine awp_seq ?_
  refine awp_if rfl ?_ ?_
  · intro h3
    have h3 : i < m.leaves.length := by omega
    have h4 : i - 1 < m.leaves.length := by omega
    refine awp_skip ?_
    simp only [go_sem]
    refine awp_seq (awp_block ?_)
    refine awp_sr ?_
    simp only [go_sem, R116_5, v116, p116, rw_at _ h3, intC]
    obtain ⟨K4, hK4⟩ : ∃ K : List V → Store → Prop, K = fun L σ => ∃ q rest y0 y2 y3 y4 y6 y29 y34 y57 y58 y59 y60 y65, L = [y0, .ptr 0 12 0 0, y2, y3, y4, y6, y29, .fz 1 (rw_ intC m.leaves), .int .i64 (m.leaves.length : Nat), .int .i64 (i : Nat), y34, .bool q, y57, y58, y59, y60, y65] ∧ σ = .live ⟨12, [m.c]⟩ :: rest ∧ q = !decide (leafP m.leaves i m.leaves[i]) := ⟨_, rfl⟩
    refine awp_srK (K4) ?_ ?_
    · simp only [go_sem, R116_6, v116, p116]
      repeat' first
        | (refine selP_if rfl (fun hG => ?_) (fun hG => ?_) <;> first | simp only [go_sem, v116, p116, eq_false hG, Msg.c, rw_at _ h4, intC, wrap_pred, show i < 9223372036854775807 by omega] | simp only [go_sem, v116, p116, eq_true hG, Msg.c, rw_at _ h4, intC, wrap_pred, show i < 9223372036854775807 by omega])
        | (refine selP_ifn rfl (fun hG => ?_) (fun hG => ?_) <;> first | simp only [go_sem, v116, p116, eq_false hG, Msg.c, rw_at _ h4, intC, wrap_pred, show i < 9223372036854775807 by omega] | simp only [go_sem, v116, p116, eq_true hG, Msg.c, rw_at _ h4, intC, wrap_pred, show i < 9223372036854775807 by omega])
        | (refine selN_if rfl (fun hG => ?_) (fun hG => ?_) <;> first | simp only [go_sem, v116, p116, eq_false hG, Msg.c, rw_at _ h4, intC, wrap_pred, show i < 9223372036854775807 by omega] | simp only [go_sem, v116, p116, eq_true hG, Msg.c, rw_at _ h4, intC, wrap_pred, show i < 9223372036854775807 by omega])
        | (refine selN_ifn rfl (fun hG => ?_) (fun hG => ?_) <;> first | simp only [go_sem, v116, p116, eq_false hG, Msg.c, rw_at _ h4, intC, wrap_pred, show i < 9223372036854775807 by omega] | simp only [go_sem, v116, p116, eq_true hG, Msg.c, rw_at _ h4, intC, wrap_pred, show i < 9223372036854775807 by omega])
        | (refine selB_if rfl (fun hG => ?_) (fun hG => ?_) <;> simp only [go_sem, v116, p116, hG, Msg.c, rw_at _ h4, intC, wrap_pred, show i < 9223372036854775807 by omega])
        | (refine selB_ifn rfl (fun hG => ?_) (fun hG => ?_) <;> simp only [go_sem, v116, p116, hG, Msg.c, rw_at _ h4, intC, wrap_pred, show i < 9223372036854775807 by omega])
        | (refine run_see (within_ok _ _ _) false (Views.refl rfl) rfl (fun j hj => by omega) (fun h => by cases h) ?_; simp only [go_sem, v116, p116, Msg.c, rw_at _ h4, intC, wrap_pred, show i < 9223372036854775807 by omega])
      all_goals rw [hK4]
      all_goals refine ⟨_, _, _, _, _, _, _, _, _, _, _, _, _, _, rfl, rfl, ?_⟩
      all_goals have key := leafP_iff m.leaves h3 h4
      all_goals grind
    intro L σ hq
    rw [hK4] at hq
    obtain ⟨q, rest, y0, y2, y3, y4, y6, y29, y34, y57, y58, y59, y60, y65, rfl, rfl, hq⟩ := hq
    subst hq
    refine awp_if' rfl ?_ ?_
    · intro h5
      refine awp_sr ?_
      simp only [go_sem, R116_7, v116, p116]
      refine awp_ret ?_
      try simp only [go_sem]
      exact fin _ _ (.bool false) rfl (congrArg V.bool (decide_eq_false fun e => h5 (e.2.2.2 i _ (List.getElem?_eq_getElem h3)))).symm
    · intro h5
      refine awp_skip ?_
      simp only [go_sem]
      refine awp_reg ?_
      simp only [go_sem, R116_8, v116, p116, wrap_succ (i := i) (by omega)]
      refine ⟨m.leaves.length - (i + 1), by omega, ?_⟩
      rw [hI]
      refine ⟨i + 1, _, _, _, _, _, _, _, _, _, _, _, _, _, _, rfl, by omega, ?_, rfl, rfl⟩
      exact upto_succ hP h3 h5
  · intro h3
    refine awp_exit ?_
    simp only [go_sem]
    have hb := upto_all hP (by omega)
    clear hP hi hI
    refine awp_sr2 ?_
    simp only [go_sem, R116_9, v116, p116, Msg.c]
    obtain ⟨J, hJ⟩ : ∃ J : Nat → List V → Store → Prop, J = fun mM L σ => ∃ i rest y0 y2 y3 y4 y6 y29 y31 y32 y33 y34 y54 y60 y65, mM = m.vec.length - i ∧ i ≤ m.vec.length ∧ (∀ j x, j < i → m.vec[j]? = some x → inTop 100000 j x) ∧ L = [y0, .ptr 0 12 0 0, y2, y3, y4, y6, y29, y31, y32, y33, y34, y54, .fz 1 (rw_ intC m.vec), .int .i64 (m.vec.length : Nat), .int .i64 (i : Nat), y60, y65] ∧ σ = .live ⟨12, [m.c]⟩ :: rest := ⟨_, rfl⟩
    first | refine awp_for J m.vec.length ?_ ?_ | refine awp_seq (awp_for J m.vec.length ?_ ?_)
    · rw [hJ]; refine ⟨0, _, _, _, _, _, _, _, _, _, _, _, _, _, _, rfl, Nat.zero_le _, ?_, rfl, rfl⟩
      intro j x h; omega
    intro mM L σ hIn
    rw [hJ] at hIn
    obtain ⟨i, rest, y0, y2, y3, y4, y6, y29, y31, y32, y33, y34, y54, y60, y65, rfl, hi, hP, rfl, rfl⟩ := hIn
    refine awp_sr ?_
    simp only [go_sem, R116_10, v116, p116]
    refine awp_seq ?_
    refine awp_if rfl ?_ ?_
    · intro h4
      have h4 : i < m.vec.length := by omega
      refine awp_skip ?_
      simp only [go_sem]
      refine awp_seq (awp_block ?_)
      refine awp_sr ?_
      simp only [go_sem, R116_11, v116, p116, rw_at _ h4, intC]
      refine awp_sr ?_
      simp only [go_sem, R116_12, v116, p116]
      refine run_see (within_ok _ _ _) false (Views.refl rfl) rfl (fun j hj => by first | omega | ((have hj0 : j = 0 := by omega); subst hj0; first | rfl | (simp only [Nat.add_zero, app_get, app_getk, sapp_get, sapp_getk, Nat.add_assoc, Nat.reduceAdd, List.getElem?_cons_zero, List.getElem?_cons_succ]; done) | simp)) (fun h => by cases h) ?_
      simp only [go_sem, v116, p116]
      refine awp_if' rfl ?_ ?_
      · intro h5
        refine awp_sr ?_
        simp only [go_sem, R116_13, v116, p116]
        refine awp_ret ?_
        try simp only [go_sem]
        exact fin _ _ (.bool false) rfl (congrArg V.bool (decide_eq_false fun e => h5 (e.2.2.1.2.1.2 i _ (List.getElem?_eq_getElem h4)))).symm
      · intro h5
        refine awp_skip ?_
        simp only [go_sem]
        refine awp_reg ?_
        simp only [go_sem, R116_14, v116, p116, wrap_succ (i := i) (by omega)]
        refine ⟨m.vec.length - (i + 1), by omega, ?_⟩
        rw [hJ]
        refine ⟨i + 1, _, _, _, _, _, _, _, _, _, _, _, _, _, _, rfl, by omega, ?_, rfl, rfl⟩
        exact upto_succ hP h4 h5
    · intro h4
      refine awp_exit ?_
      simp only [go_sem]
      have hv := upto_all hP (by omega)
      clear hP hi hJ
      have key : m.Right ↔ m.H2 ∧ m.tree.Right ∧ (m.vec.length : Int) ≤ 5 ∧ m.part.Right ∧ marksR m.marks := by
        unfold Msg.Right Msg.H3 numsR
        exact ⟨fun e => ⟨e.2.1, e.2.2.1.1, e.2.2.1.2.1.1, e.2.2.1.2.2.1, e.2.2.1.2.2.2⟩, fun e => ⟨h1, e.1, ⟨e.2.1, ⟨e.2.2.1, hv⟩, e.2.2.2⟩, hb⟩⟩
      obtain ⟨K5, hK5⟩ : ∃ K : List V → Store → Prop, K = fun L σ => ∃ q rest y0 y1 y3 y4 y6 y29 y31 y32 y33 y34 y54 y57 y58 y59 y60 y65, L = [y0, y1, .bool q, y3, y4, y6, y29, y31, y32, y33, y34, y54, y57, y58, y59, y60, y65] ∧ σ = .live ⟨12, [m.c]⟩ :: rest ∧ q = decide m.Right := ⟨_, rfl⟩
      refine awp_srK (K5) ?_ ?_
      · simp only [go_sem, R116_15, v116, p116, Msg.c]
        repeat' first
          | (refine selP_if rfl (fun hG => ?_) (fun hG => ?_) <;> first | simp only [go_sem, v116, p116, eq_false hG, Msg.c] | simp only [go_sem, v116, p116, eq_true hG, Msg.c])
          | (refine selP_ifn rfl (fun hG => ?_) (fun hG => ?_) <;> first | simp only [go_sem, v116, p116, eq_false hG, Msg.c] | simp only [go_sem, v116, p116, eq_true hG, Msg.c])
          | (refine selN_if rfl (fun hG => ?_) (fun hG => ?_) <;> first | simp only [go_sem, v116, p116, eq_false hG, Msg.c] | simp only [go_sem, v116, p116, eq_true hG, Msg.c])
          | (refine selN_ifn rfl (fun hG => ?_) (fun hG => ?_) <;> first | simp only [go_sem, v116, p116, eq_false hG, Msg.c] | simp only [go_sem, v116, p116, eq_true hG, Msg.c])
          | (refine selB_if rfl (fun hG => ?_) (fun hG => ?_) <;> simp only [go_sem, v116, p116, hG, Msg.c])
          | (refine selB_ifn rfl (fun hG => ?_) (fun hG => ?_) <;> simp only [go_sem, v116, p116, hG, Msg.c])
          | (refine run_see (within_ok _ _ _) false (Views.refl rfl) rfl (fun j hj => by omega) (fun h => by cases h) ?_; simp only [go_sem, v116, p116, Msg.c])
          | (refine run_see (implTreeOk_ok m.tree (by omega)) false (Views.refl rfl) rfl (fun j hj => by omega) (fun h => by cases h) ?_; simp only [go_sem, v116, p116, Msg.c])
          | (refine run_see (implStateOk_ok m.part (by omega)) false (Views.refl rfl) rfl (fun j hj => by omega) (fun h => by cases h) ?_; simp only [go_sem, v116, p116, Msg.c])
          | (refine run_see (implMarksOk_ok m.marks (by omega)) false (Views.refl rfl) rfl (fun j hj => by omega) (fun h => by cases h) ?_; simp only [go_sem, v116, p116, Msg.c])
        all_goals rw [hK5]
        all_goals refine ⟨_, _, _, _, _, _, _, _, _, _, _, _, _, _, _, _, _, _, rfl, rfl, ?_⟩
        all_goals grind [Msg.H2]
      intro L σ hq
      rw [hK5] at hq
      obtain ⟨q, rest, y0, y1, y3, y4, y6, y29, y31, y32, y33, y34, y54, y57, y58, y59, y60, y65, rfl, rfl, hq⟩ := hq
      subst hq
      refine awp_ret ?_
      try simp only [go_sem]
      exact fin _ _ _ rfl rfl
end Go.Proofs.Ytffigokicddekaa.Abs
/- A message as bytes, walked in both texts. No condition. -/
set_option linter.unusedVariables false
set_option linter.unusedSimpArgs false
set_option maxRecDepth 10000
namespace Go.Proofs.Ytffigokicddekaa.Abs
open Go Go.Proofs
def R113_0 : List AR := [⟨(some 1), none, 0, (.box 0 12 (.t 0))⟩, ⟨(some 2), none, 0, (.mov (.k .nl))⟩]
def R113_1 : List AR := [⟨(some 8), none, 0, (.bslice 0 1 2 [(.int .u8 0)] [(0, (.k (.int .u8 82))), (1, (.k (.int .u8 75)))])⟩, ⟨(some 3), none, 0, (.mov (.t 8))⟩]
def R113_2 : List AR := [⟨(some 9), none, 0, (.faddr 0 (.t 1))⟩, ⟨(some 10), none, 0, (.load 1 false (.t 9))⟩, ⟨(some 11), none, 0, (.faddr 1 (.t 1))⟩, ⟨(some 12), none, 0, (.load 1 false (.t 11))⟩, ⟨(some 13), none, 0, (.faddr 2 (.t 1))⟩, ⟨(some 14), none, 0, (.load 1 false (.t 13))⟩, ⟨(some 15), none, 0, (.faddr 3 (.t 1))⟩, ⟨(some 16), none, 0, (.load 1 false (.t 15))⟩, ⟨(some 17), none, 0, (.faddr 4 (.t 1))⟩, ⟨(some 18), none, 0, (.load 1 false (.t 17))⟩, ⟨(some 19), none, 0, (.bslice 0 1 5 [(.int .i64 0)] [(0, (.t 10)), (1, (.t 12)), (2, (.t 14)), (3, (.t 16)), (4, (.t 18))])⟩, ⟨(some 4), none, 0, (.mov (.t 19))⟩]
def R113_3 : List AR := [⟨(some 5), none, 0, (.mov (.k (.int .i64 0)))⟩]
def R113_4 : List AR := [⟨(some 20), none, 0, (.mov (.t 5))⟩, ⟨(some 21), none, 0, (.mov (.t 4))⟩, ⟨(some 22), none, 0, (.len (.t 21))⟩, ⟨(some 23), none, 0, (.bin .lss (.t 20) (.t 22))⟩]
def R113_5 : List AR := [⟨(some 26), none, 0, (.mov (.t 3))⟩, ⟨(some 27), none, 0, (.mov (.t 4))⟩, ⟨(some 28), none, 0, (.mov (.t 5))⟩, ⟨(some 29), none, 0, (.iaddr 1 (.t 27) (.t 28))⟩, ⟨(some 30), none, 0, (.load 1 false (.t 29))⟩, ⟨(some 31), none, 0, (.call false 0 0 154 [(.t 30)])⟩, ⟨(some 32), none, 0, (.app 0 1 1 (.t 26) (.t 31))⟩, ⟨(some 3), none, 0, (.mov (.t 32))⟩]
def R113_6 : List AR := [⟨(some 24), none, 0, (.mov (.t 5))⟩, ⟨(some 25), none, 0, (.bin .add (.t 24) (.k (.int .i64 1)))⟩, ⟨(some 5), none, 0, (.mov (.t 25))⟩]
def A113_0 : AC := (.seq (.block 1 (.reg 1 R113_5)) (.reg 0 R113_6))
def L113_0 : AC := (.seq (.seq (.reg 0 R113_4) (.cond (.t 23) .skip (.exit 0))) A113_0)
def R113_7 : List AR := [⟨(some 33), none, 0, (.mov (.t 3))⟩, ⟨(some 34), none, 0, (.faddr 5 (.t 1))⟩, ⟨(some 35), none, 0, (.faddr 0 (.t 34))⟩, ⟨(some 36), none, 0, (.load 1 false (.t 35))⟩, ⟨(some 37), none, 0, (.call false 0 0 155 [(.t 36)])⟩, ⟨(some 38), none, 0, (.app 0 1 1 (.t 33) (.t 37))⟩, ⟨(some 3), none, 0, (.mov (.t 38))⟩]
def R113_8 : List AR := [⟨(some 39), none, 0, (.mov (.t 3))⟩, ⟨(some 40), none, 0, (.faddr 5 (.t 1))⟩, ⟨(some 41), none, 0, (.faddr 1 (.t 40))⟩, ⟨(some 42), none, 0, (.load 1 false (.t 41))⟩, ⟨(some 43), none, 0, (.call false 0 0 154 [(.t 42)])⟩, ⟨(some 44), none, 0, (.app 0 1 1 (.t 39) (.t 43))⟩, ⟨(some 3), none, 0, (.mov (.t 44))⟩]
def R113_9 : List AR := [⟨(some 45), none, 0, (.mov (.t 3))⟩, ⟨(some 46), none, 0, (.faddr 7 (.t 1))⟩, ⟨(some 47), none, 0, (.load 1 false (.t 46))⟩, ⟨(some 48), none, 0, (.call false 0 0 155 [(.t 47)])⟩, ⟨(some 49), none, 0, (.app 0 1 1 (.t 45) (.t 48))⟩, ⟨(some 3), none, 0, (.mov (.t 49))⟩]
def R113_10 : List AR := [⟨(some 50), none, 0, (.mov (.t 3))⟩, ⟨(some 51), none, 0, (.faddr 8 (.t 1))⟩, ⟨(some 52), none, 0, (.load 1 false (.t 51))⟩, ⟨(some 53), none, 0, (.call false 0 0 155 [(.t 52)])⟩, ⟨(some 54), none, 0, (.app 0 1 1 (.t 50) (.t 53))⟩, ⟨(some 3), none, 0, (.mov (.t 54))⟩]
def R113_11 : List AR := [⟨(some 55), none, 0, (.faddr 9 (.t 1))⟩, ⟨(some 56), none, 0, (.load 2 true (.t 55))⟩, ⟨(some 57), none, 0, (.call false 0 0 128 [(.t 56)])⟩, ⟨(some 6), none, 0, (.mov (.t 57))⟩]
def R113_12 : List AR := [⟨(some 58), none, 0, (.mov (.t 3))⟩, ⟨(some 59), none, 0, (.mov (.t 6))⟩, ⟨(some 60), none, 0, (.len (.t 59))⟩, ⟨(some 61), none, 0, (.call false 0 0 154 [(.t 60)])⟩, ⟨(some 62), none, 0, (.app 0 1 1 (.t 58) (.t 61))⟩, ⟨(some 3), none, 0, (.mov (.t 62))⟩]
def R113_13 : List AR := [⟨(some 63), none, 0, (.mov (.t 3))⟩, ⟨(some 64), none, 0, (.mov (.t 6))⟩, ⟨(some 65), none, 0, (.app 0 1 1 (.t 63) (.t 64))⟩, ⟨(some 3), none, 0, (.mov (.t 65))⟩]
def R113_14 : List AR := [⟨(some 66), none, 0, (.mov (.t 3))⟩, ⟨(some 67), none, 0, (.faddr 11 (.t 1))⟩, ⟨(some 68), none, 0, (.load 1 false (.t 67))⟩, ⟨(some 69), none, 0, (.len (.t 68))⟩, ⟨(some 70), none, 0, (.call false 0 0 154 [(.t 69)])⟩, ⟨(some 71), none, 0, (.app 0 1 1 (.t 66) (.t 70))⟩, ⟨(some 3), none, 0, (.mov (.t 71))⟩]
def R113_15 : List AR := [⟨(some 7), none, 0, (.mov (.k (.int .i64 0)))⟩]
def R113_16 : List AR := [⟨(some 72), none, 0, (.mov (.t 7))⟩, ⟨(some 73), none, 0, (.faddr 11 (.t 1))⟩, ⟨(some 74), none, 0, (.load 1 false (.t 73))⟩, ⟨(some 75), none, 0, (.len (.t 74))⟩, ⟨(some 76), none, 0, (.bin .lss (.t 72) (.t 75))⟩]
def R113_17 : List AR := [⟨(some 79), none, 0, (.mov (.t 3))⟩, ⟨(some 80), none, 0, (.faddr 11 (.t 1))⟩, ⟨(some 81), none, 0, (.load 1 false (.t 80))⟩, ⟨(some 82), none, 0, (.mov (.t 7))⟩, ⟨(some 83), none, 0, (.iaddr 2 (.t 81) (.t 82))⟩, ⟨(some 84), none, 0, (.faddr 0 (.t 83))⟩, ⟨(some 85), none, 0, (.load 1 false (.t 84))⟩, ⟨(some 86), none, 0, (.call false 0 0 154 [(.t 85)])⟩, ⟨(some 87), none, 0, (.app 0 1 1 (.t 79) (.t 86))⟩, ⟨(some 3), none, 0, (.mov (.t 87))⟩]
def R113_18 : List AR := [⟨(some 88), none, 0, (.mov (.t 3))⟩, ⟨(some 89), none, 0, (.faddr 11 (.t 1))⟩, ⟨(some 90), none, 0, (.load 1 false (.t 89))⟩, ⟨(some 91), none, 0, (.mov (.t 7))⟩, ⟨(some 92), none, 0, (.iaddr 2 (.t 90) (.t 91))⟩, ⟨(some 93), none, 0, (.faddr 1 (.t 92))⟩, ⟨(some 94), none, 0, (.load 1 false (.t 93))⟩, ⟨(some 95), none, 0, (.call false 0 0 154 [(.t 94)])⟩, ⟨(some 96), none, 0, (.app 0 1 1 (.t 88) (.t 95))⟩, ⟨(some 3), none, 0, (.mov (.t 96))⟩]
def R113_19 : List AR := [⟨(some 77), none, 0, (.mov (.t 7))⟩, ⟨(some 78), none, 0, (.bin .add (.t 77) (.k (.int .i64 1)))⟩, ⟨(some 7), none, 0, (.mov (.t 78))⟩]
def A113_1 : AC := (.seq (.block 3 (.seq (.reg 1 R113_17) (.reg 1 R113_18))) (.reg 0 R113_19))
def L113_1 : AC := (.seq (.seq (.reg 0 R113_16) (.cond (.t 76) .skip (.exit 2))) A113_1)
def R113_20 : List AR := [⟨(some 97), none, 0, (.mov (.t 3))⟩, ⟨(some 2), none, 0, (.mov (.t 97))⟩]
def A113_2 : AC := (.seq (.reg 0 R113_20) .ret)
def A113_3 : AC := (.seq (.seq (.reg 0 R113_15) (.block 2 (.loop L113_1))) A113_2)
def A113_4 : AC := (.seq (.reg 1 R113_14) A113_3)
def A113_5 : AC := (.seq (.reg 1 R113_13) A113_4)
def A113_6 : AC := (.seq (.reg 1 R113_12) A113_5)
def A113_7 : AC := (.seq (.reg 0 R113_11) A113_6)
def A113_8 : AC := (.seq (.reg 1 R113_10) A113_7)
def A113_9 : AC := (.seq (.reg 1 R113_9) A113_8)
def A113_10 : AC := (.seq (.reg 1 R113_8) A113_9)
def A113_11 : AC := (.seq (.reg 1 R113_7) A113_10)
def A113_12 : AC := (.seq (.seq (.reg 0 R113_3) (.block 0 (.loop L113_0))) A113_11)
def A113_13 : AC := (.seq (.reg 1 R113_2) A113_12)
def A113_14 : AC := (.seq (.reg 1 R113_1) A113_13)
def A113 : AC := (.seq (.reg 1 R113_0) A113_14)
def O113 : List AO := [(.mov (.t 2))]
def G113 : Fns := ⟨fun f => false, fun f => 0, false⟩
noncomputable def X113 : Cx := ⟨Try.prog, G113, drawD, 98, [0, 1, 2, 3, 4, 5, 6, 7, 23, 76]⟩
theorem c113 : (Try.f113.body).bind (compC X113.P X113.Γ X113.D X113.nt) = some A113 := by kernel_rfl
theorem o113 : compRes X113.P Try.f113.results.toList = some O113 := by kernel_rfl
theorem v113 : X113.vs = [0, 1, 2, 3, 4, 5, 6, 7, 23, 76] := rfl
theorem p113 : X113.P = Try.prog := rfl
def markB (x : Mark) : List UInt8 := putI x.id ++ putI x.inc
def Msg.nums (m : Msg) : List Int := [m.kind, m.from_, m.to, m.num, m.hi]
def Mark.Fit (x : Mark) : Prop := fit x.id ∧ fit x.inc
def bodyB (m : Msg) : List UInt8 := [82, 75] ++ cat putI m.nums ++ listB m.tree.leaves ++ putI m.tree.root ++ listB m.vec ++ listB m.leaves ++ putNum (stateB m.part).length ++ stateB m.part ++ putNum m.marks.length ++ cat markB m.marks
structure Msg.Fit (m : Msg) : Prop where
  nums : ∀ n ∈ m.nums, fit n
  leaves : ∀ n ∈ m.tree.leaves, fit n
  root : fit m.tree.root
  vec : ∀ n ∈ m.vec, fit n
  ls : ∀ n ∈ m.leaves, fit n
  part : m.part.Fit
  marks : ∀ x ∈ m.marks, x.Fit
  l1 : m.tree.leaves.length ≤ 1048576
  l2 : m.vec.length ≤ 1048576
  l3 : m.leaves.length ≤ 1048576
  l4 : m.marks.length ≤ 1048576
theorem inTop_fit {top : Int} (ht : top ≤ 2147483647) {xs : List Int} (h : ∀ j x, xs[j]? = some x → inTop top j x) : ∀ n ∈ xs, fit n := by
  intro n hn
  obtain ⟨j, hj⟩ := List.mem_iff_getElem?.1 hn
  obtain ⟨h1, h2⟩ := h j n hj
  exact ⟨h1, by omega⟩
theorem marksR_fit {ms : List Mark} (h : marksR ms) : ∀ x ∈ ms, x.Fit := by
  intro x hx
  obtain ⟨j, hj⟩ := List.mem_iff_getElem?.1 hx
  obtain ⟨h1, _, h2⟩ := h j x hj
  exact ⟨⟨by omega, by omega⟩, ⟨by omega, by omega⟩⟩
theorem Msg.Right.fit {m : Msg} (h : m.Right) (hs : m.sz ≤ 1048576) : m.Fit := by
  have hl : m.tree.leaves.length + m.vec.length + m.leaves.length + m.part.sz + m.marks.length ≤ 1048576 := hs
  obtain ⟨⟨a1, a2, a3, _⟩, ⟨a4, a5⟩, ⟨b1, b2, b3, b4⟩, c⟩ := h
  refine ⟨fun n hn => ?_, ?_, ?_, inTop_fit (top := 100000) (by omega) b2.2, inTop_fit (top := 3) (by omega) (fun j x hx => (c j x hx).1), b3.fit (by omega), marksR_fit b4, by omega, by omega, by omega, by omega⟩
  · simp only [Msg.nums, List.mem_cons, List.not_mem_nil, or_false] at hn
    rcases hn with rfl | rfl | rfl | rfl | rfl <;> exact ⟨by omega, by omega⟩
  · rcases Nat.eq_zero_or_pos m.tree.leaves.length with h0 | h0
    · intro n hn
      rw [List.length_eq_zero_iff.1 h0] at hn
      simp at hn
    · exact inTop_fit (top := 1023) (by omega) (b1.2 (by omega)).2.1
  · rcases Nat.eq_zero_or_pos m.tree.leaves.length with h0 | h0
    · rw [b1.1 h0]; exact ⟨by omega, by omega⟩
    · have := (b1.2 (by omega)).2.2
      exact ⟨by omega, by omega⟩
theorem listB_len {xs : List Int} (h : ∀ n ∈ xs, fit n) (h0 : xs.length ≤ 1048576) : (listB xs).length ≤ 5 + xs.length * 5 := by
  have h5 := putNum_5 (n := xs.length) (by omega)
  have := numsB_len h
  unfold listB
  rw [List.length_append]
  show _ + (cat putI xs).length ≤ _
  omega
theorem stateB_len {s : State} (h : s.Fit) : (stateB s).length ≤ 100000000 := by
  obtain ⟨hf1, hf2, hl1, hl2⟩ := h
  have h5 := putNum_5 (n := s.items.length) (by omega)
  have h6 := putNum_5 (n := s.floors.length) (by omega)
  have hb1 := cat_len itemB (xs := s.items) fun x hx => itemB_len (hf1 x hx)
  have hb2 := cat_len floorB (xs := s.floors) fun x hx => floorB_len (hf2 x hx)
  unfold stateB
  simp only [List.length_append]
  omega
theorem markB_len {x : Mark} (h : x.Fit) : (markB x).length ≤ 10 := by
  have h1 := putI_5 h.1
  have h2 := putI_5 h.2
  unfold markB
  rw [List.length_append]
  omega
theorem specL10List_fz (xs : List Int) (h : ∀ x ∈ xs, fit x) (h0 : xs.length ≤ 1048576) : FS Try.prog 155 [] [.fz 1 (rw_ intC xs)] (.fz 1 (rw_ byteC (listB xs))) [] := (specL10List_ok xs h h0).frz (bytes_ok _) (rw_len _ _).symm
set_option maxHeartbeats 4000000 in
theorem specL10Body_ok (m : Msg) (h : m.Fit) : FS Try.prog 113 [] [.agg m.c] (.sl 0 1 0 (bodyB m).length) [⟨1, rw_ byteC (bodyB m)⟩] := by
  refine FS.of (X := X113) (ac := A113) (os := O113) Try.func113 (by rfl) (by rfl) (by kernel_rfl) o113 (Nat.le_of_ble_eq_true rfl) ?_
  show AWP X113 A113 (Ends X113.vs O113 0 _ _) [.agg m.c, .tup [], .tup [], .tup [], .tup [], .tup [], .tup [], .tup [], .tup [], .tup []] []
  obtain ⟨Q, hQ⟩ : ∃ Q, Q = Ends X113.vs O113 0 (.sl 0 1 0 (bodyB m).length) [⟨1, rw_ byteC (bodyB m)⟩] := ⟨_, rfl⟩
  rw [← hQ]
  have k1 := listB_len h.leaves h.l1
  have k2 := listB_len h.vec h.l2
  have k3 := listB_len h.ls h.l3
  have k4 := stateB_len h.part
  have k5 := putNum_5 (n := (stateB m.part).length) (by omega)
  have k6 := putNum_5 (n := m.marks.length) (by have := h.l4; omega)
  have k7 := putI_5 h.root
  have k8 := cat_len markB (xs := m.marks) fun x hx => markB_len (h.marks x hx)
  have q1 := h.l1
  have q2 := h.l2
  have q3 := h.l3
  have q4 := h.l4
  have hn5 : m.nums.length = 5 := rfl
  refine awp_sr ?_
  simp only [go_sem, R113_0, v113, p113, Msg.c]
  refine awp_sr ?_
  simp only [go_sem, R113_1, v113, p113]
  refine awp_sr ?_
  simp only [go_sem, R113_2, v113, p113]
  refine awp_sr2 ?_
  simp only [go_sem, R113_3, v113, p113]
  refine (fun G : AWP X113 _ _ _ [.live ⟨12, [m.c]⟩, .live ⟨1, rw_ byteC [82, 75]⟩, .live ⟨1, rw_ intC m.nums⟩] => G) ?_
  obtain ⟨I, hI⟩ : ∃ I : Nat → List V → Store → Prop, I = fun mM L σ => ∃ k out r q τ y0 y2 y6 y7 y23 y76, 5 - k = mM ∧ (k ≤ 5 ∧ out = [82, 75] ++ cat putI (m.nums.take k) ∧ q = out.length ∧ τ[0]? = some (.live ⟨12, [m.c]⟩) ∧ τ[2]? = some (.live ⟨1, rw_ intC m.nums⟩) ∧ τ[r]? = some (.live ⟨1, rw_ byteC out⟩) ∧ r ≠ 2) ∧ L = [y0, .ptr 0 12 0 0, y2, .sl r 1 0 q, .sl 2 1 0 5, .int .i64 (k : Nat), y6, y7, y23, y76] ∧ σ = τ := ⟨_, rfl⟩
  first | refine awp_for I (5) ?_ ?_ | refine awp_seq (awp_for I (5) ?_ ?_)
  · rw [hI]
    refine ⟨0, [82, 75], _, _, _, _, _, _, _, _, _, rfl, ?_, rfl, rfl⟩
    exact ⟨by omega, rfl, rfl, rfl, rfl, rfl, by omega⟩
  intro mM L σ hIn
  rw [hI] at hIn
  obtain ⟨k, out, r, q, τ, y0, y2, y6, y7, y23, y76, rfl, hP, rfl, rfl⟩ := hIn
  obtain ⟨hk, ho, rfl, m0, ml, mr, mne⟩ := hP
  have z0 := get_ne m0 mr (slot_ne (by omega))
  have lt0 := get_lt ml
  have c1 := cat_le putI m.nums k
  have c2 := congrArg List.length ho
  have c3 := cat_len putI (xs := m.nums) fun a ha => putI_5 (h.nums a ha)
  rw [List.length_append, show ([82, 75] : List UInt8).length = 2 from rfl] at c2
  refine awp_sr2 ?_
  simp only [go_sem, R113_4, v113, p113]
  refine awp_if rfl ?_ ?_
  · intro h2
    have h3 : k < m.nums.length := by omega
    have d1 := cat_take putI h3
    have d2 := putI_5 (h.nums _ (List.getElem_mem h3))
    refine awp_skip ?_
    simp only [go_sem]
    first | refine awp_block ?_ | refine awp_seq (awp_block ?_)
    refine awp_reg ?_
    simp only [go_sem, R113_5, v113, p113, get_app ml, rw_at _ h3, intC, h2]
    refine run_see (specPutI_fz (h.nums _ (List.getElem_mem h3))) false (Views.refl rfl) rfl (fun j hj => by first | omega | ((have hj0 : j = 0 := by omega); subst hj0; first | rfl | (simp only [Nat.add_zero, app_get, app_getk, sapp_get, sapp_getk, Nat.add_assoc, Nat.reduceAdd, List.getElem?_cons_zero, List.getElem?_cons_succ]; done) | simp)) (fun h => by cases h) ?_
    simp only [go_sem, v113, p113, get_app mr, set_app mr]
    refine ⟨by omega, ?_⟩
    refine awp_reg ?_
    simp only [go_sem, R113_6, v113, p113, wrap_succ (i := k) (by omega)]
    refine ⟨5 - (k + 1), ?_, ?_⟩
    rotate_left
    rw [hI]
    refine ⟨k + 1, out ++ putI m.nums[k], _, _, _, _, _, _, _, _, _, rfl, ?_, rfl, rfl⟩
    · refine ⟨by omega, by rw [ho, d1, List.append_assoc], by simp, keep_get m0 z0, keep_get ml mne, ?_, by omega⟩
      first | (rw [sapp_getk]; rfl) | (rw [sapp_get]; rfl)
    · omega
  · intro h2
    refine awp_exit ?_
    simp only [go_sem]
    have : k = 5 := by omega
    subst this
    rw [List.take_of_length_le (by omega)] at ho c1 c2
    refine awp_sr ?_
    simp only [go_sem, R113_7, v113, p113, get_app m0, Msg.c]
    refine run_see (specL10List_fz m.tree.leaves h.leaves h.l1) false (Views.refl rfl) rfl (fun j hj => by first | omega | ((have hj0 : j = 0 := by omega); subst hj0; first | rfl | (simp only [Nat.add_zero, app_get, app_getk, sapp_get, sapp_getk, Nat.add_assoc, Nat.reduceAdd, List.getElem?_cons_zero, List.getElem?_cons_succ]; done) | simp)) (fun h => by cases h) ?_
    simp only [go_sem, v113, p113, get_app mr, set_app mr]
    refine ⟨by omega, ?_⟩
    generalize g1 : out ++ listB m.tree.leaves = out1
    have lg1 := congrArg List.length g1
    rw [List.length_append] at lg1
    rw [lg1]
    refine awp_sr ?_
    simp only [go_sem, R113_8, v113, p113, keep_get m0 z0, Msg.c]
    refine run_see (specPutI_fz h.root) false (Views.refl rfl) rfl (fun j hj => by first | omega | ((have hj0 : j = 0 := by omega); subst hj0; first | rfl | (simp only [Nat.add_zero, app_get, app_getk, sapp_get, sapp_getk, Nat.add_assoc, Nat.reduceAdd, List.getElem?_cons_zero, List.getElem?_cons_succ]; done) | simp)) (fun h => by cases h) ?_
    simp only [go_sem, v113, p113]
    refine ⟨by omega, ?_⟩
    generalize g2 : out1 ++ putI m.tree.root = out2
    have lg2 := congrArg List.length g2
    rw [List.length_append] at lg2
    rw [lg2]
    refine awp_sr ?_
    simp only [go_sem, R113_9, v113, p113, keep_get m0 z0, Msg.c]
    refine run_see (specL10List_fz m.vec h.vec h.l2) false (Views.refl rfl) rfl (fun j hj => by first | omega | ((have hj0 : j = 0 := by omega); subst hj0; first | rfl | (simp only [Nat.add_zero, app_get, app_getk, sapp_get, sapp_getk, Nat.add_assoc, Nat.reduceAdd, List.getElem?_cons_zero, List.getElem?_cons_succ]; done) | simp)) (fun h => by cases h) ?_
    simp only [go_sem, v113, p113]
    refine ⟨by omega, ?_⟩
    generalize g3 : out2 ++ listB m.vec = out3
    have lg3 := congrArg List.length g3
    rw [List.length_append] at lg3
    rw [lg3]
    refine awp_sr ?_
    simp only [go_sem, R113_10, v113, p113, keep_get m0 z0, Msg.c]
    refine run_see (specL10List_fz m.leaves h.ls h.l3) false (Views.refl rfl) rfl (fun j hj => by first | omega | ((have hj0 : j = 0 := by omega); subst hj0; first | rfl | (simp only [Nat.add_zero, app_get, app_getk, sapp_get, sapp_getk, Nat.add_assoc, Nat.reduceAdd, List.getElem?_cons_zero, List.getElem?_cons_succ]; done) | simp)) (fun h => by cases h) ?_
    simp only [go_sem, v113, p113]
    refine ⟨by omega, ?_⟩
    generalize g4 : out3 ++ listB m.leaves = out4
    have lg4 := congrArg List.length g4
    rw [List.length_append] at lg4
    rw [lg4]
    refine awp_sr ?_
    simp only [go_sem, R113_11, v113, p113, keep_get m0 z0, Msg.c]
    refine run_see (specL6Bytes_fz m.part h.part) false (Views.refl rfl) rfl (fun j hj => by first | omega | ((have hj0 : j = 0 := by omega); subst hj0; first | rfl | (simp only [Nat.add_zero, app_get, app_getk, sapp_get, sapp_getk, Nat.add_assoc, Nat.reduceAdd, List.getElem?_cons_zero, List.getElem?_cons_succ]; done) | simp)) (fun h => by cases h) ?_
    simp only [go_sem, v113, p113]
    refine awp_sr ?_
    simp only [go_sem, R113_12, v113, p113]
    refine run_see (specPutNum_fz (stateB m.part).length (by omega)) false (Views.refl rfl) rfl (fun j hj => by first | omega | ((have hj0 : j = 0 := by omega); subst hj0; first | rfl | (simp only [Nat.add_zero, app_get, app_getk, sapp_get, sapp_getk, Nat.add_assoc, Nat.reduceAdd, List.getElem?_cons_zero, List.getElem?_cons_succ]; done) | simp)) (fun h => by cases h) ?_
    simp only [go_sem, v113, p113]
    refine ⟨by omega, ?_⟩
    generalize g5 : out4 ++ putNum (stateB m.part).length = out5
    have lg5 := congrArg List.length g5
    rw [List.length_append] at lg5
    rw [lg5]
    refine awp_sr ?_
    simp only [go_sem, R113_13, v113, p113]
    refine ⟨by omega, ?_⟩
    generalize g6 : out5 ++ stateB m.part = out6
    have lg6 := congrArg List.length g6
    rw [List.length_append] at lg6
    rw [lg6]
    refine awp_sr ?_
    simp only [go_sem, R113_14, v113, p113, keep_get m0 z0, Msg.c]
    refine run_see (specPutNum_fz m.marks.length (by omega)) false (Views.refl rfl) rfl (fun j hj => by first | omega | ((have hj0 : j = 0 := by omega); subst hj0; first | rfl | (simp only [Nat.add_zero, app_get, app_getk, sapp_get, sapp_getk, Nat.add_assoc, Nat.reduceAdd, List.getElem?_cons_zero, List.getElem?_cons_succ]; done) | simp)) (fun h => by cases h) ?_
    simp only [go_sem, v113, p113]
    refine ⟨by omega, ?_⟩
    generalize g7 : out6 ++ putNum m.marks.length = out7
    have lg7 := congrArg List.length g7
    rw [List.length_append] at lg7
    rw [lg7]
    clear hI
    refine awp_sr2 ?_
    simp only [go_sem, R113_15, v113, p113]
    obtain ⟨J, hJ⟩ : ∃ J : Nat → List V → Store → Prop, J = fun mM L σ => ∃ i out r q τ y0 y2 y4 y5 y6 y23 y76, m.marks.length - i = mM ∧ (i ≤ m.marks.length ∧ out = out7 ++ cat markB (m.marks.take i) ∧ q = out.length ∧ τ[0]? = some (.live ⟨12, [m.c]⟩) ∧ τ[r]? = some (.live ⟨1, rw_ byteC out⟩)) ∧ L = [y0, .ptr 0 12 0 0, y2, .sl r 1 0 q, y4, y5, y6, .int .i64 (i : Nat), y23, y76] ∧ σ = τ := ⟨_, rfl⟩
    first | refine awp_for J (m.marks.length) ?_ ?_ | refine awp_seq (awp_for J (m.marks.length) ?_ ?_)
    · rw [hJ]
      refine ⟨0, out7, _, _, _, _, _, _, _, _, _, _, rfl, ?_, rfl, rfl⟩
      refine ⟨Nat.zero_le _, (List.append_nil _).symm, by omega, keep_get m0 z0, ?_⟩
      first | (rw [sapp_getk]; rfl) | (rw [sapp_get]; rfl)
    intro mM L σ hIn
    rw [hJ] at hIn
    obtain ⟨i, out, r, q, τ, y0, y2, y4, y5, y6, y23, y76, rfl, hP, rfl, rfl⟩ := hIn
    obtain ⟨hi2, ho2, rfl, m0, mr⟩ := hP
    have zz := get_ne m0 mr (slot_ne (by omega))
    refine awp_sr2 ?_
    simp only [go_sem, R113_16, v113, p113, get_app m0, m0, Msg.c]
    refine awp_if rfl ?_ ?_
    · intro h2
      have h2 : i < m.marks.length := by omega
      have hfit := h.marks _ (List.getElem_mem h2)
      have c1 := cat_take markB h2
      have c2 := cat_le markB m.marks (i + 1)
      have c3 := congrArg List.length c1
      have c4 := congrArg List.length ho2
      have c5 : (markB m.marks[i]).length = (putI m.marks[i].id).length + (putI m.marks[i].inc).length := by unfold markB; rw [List.length_append]
      rw [List.length_append] at c3 c4
      refine awp_skip ?_
      simp only [go_sem]
      first | refine awp_block ?_ | refine awp_seq (awp_block ?_)
      refine awp_sr ?_
      simp only [go_sem, R113_17, v113, p113, get_app m0, Msg.c, rw_at _ h2, Mark.c]
      refine run_see (specPutI_fz hfit.1) false (Views.refl rfl) rfl (fun j hj => by first | omega | ((have hj0 : j = 0 := by omega); subst hj0; first | rfl | (simp only [Nat.add_zero, app_get, app_getk, sapp_get, sapp_getk, Nat.add_assoc, Nat.reduceAdd, List.getElem?_cons_zero, List.getElem?_cons_succ]; done) | simp)) (fun h => by cases h) ?_
      simp only [go_sem, v113, p113, get_app mr, set_app mr]
      refine ⟨by omega, ?_⟩
      generalize g8 : out ++ putI m.marks[i].id = out8
      have lg8 := congrArg List.length g8
      rw [List.length_append] at lg8
      rw [lg8]
      refine awp_reg ?_
      simp only [go_sem, R113_18, v113, p113, keep_get m0 zz, Msg.c, rw_at _ h2, Mark.c]
      refine run_see (specPutI_fz hfit.2) false (Views.refl rfl) rfl (fun j hj => by first | omega | ((have hj0 : j = 0 := by omega); subst hj0; first | rfl | (simp only [Nat.add_zero, app_get, app_getk, sapp_get, sapp_getk, Nat.add_assoc, Nat.reduceAdd, List.getElem?_cons_zero, List.getElem?_cons_succ]; done) | simp)) (fun h => by cases h) ?_
      simp only [go_sem, v113, p113]
      refine ⟨by omega, ?_⟩
      refine awp_reg ?_
      simp only [go_sem, R113_19, v113, p113, wrap_succ (i := i) (by omega)]
      refine ⟨m.marks.length - (i + 1), ?_, ?_⟩
      rotate_left
      rw [hJ]
      refine ⟨i + 1, out8 ++ putI m.marks[i].inc, _, _, _, _, _, _, _, _, _, _, rfl, ?_, rfl, rfl⟩
      · refine ⟨by omega, by rw [← g8, c1, ho2]; simp [markB], by simp, keep_get m0 zz, ?_⟩
        first | (rw [sapp_getk]; rfl) | (rw [sapp_get]; rfl)
      · omega
    · intro h2
      refine awp_exit ?_
      simp only [go_sem]
      have : i = m.marks.length := by omega
      subst this
      rw [List.take_length] at ho2
      refine awp_sr ?_
      simp only [go_sem, R113_20, v113, p113]
      refine awp_ret ?_
      try simp only [go_sem]
      rw [hQ, show bodyB m = out by rw [ho2, ← g7, ← g6, ← g5, ← g4, ← g3, ← g2, ← g1, ho]; simp [bodyB]]
      exact Ends.ownAt (.inl rfl) rfl mr rfl (bytes_ok _)
def R69_0 : List AR := [⟨(some 1), none, 0, (.box 0 12 (.t 0))⟩, ⟨(some 2), none, 0, (.mov (.k .nl))⟩]
def R69_1 : List AR := [⟨(some 4), none, 0, (.load 12 true (.t 1))⟩, ⟨(some 5), none, 0, (.call false 0 0 112 [(.t 4)])⟩, ⟨(some 6), none, 0, (.not (.t 5))⟩]
def R69_2 : List AR := [⟨(some 7), none, 0, (.bslice 0 1 0 [(.int .u8 0)] [])⟩, ⟨(some 2), none, 0, (.mov (.t 7))⟩]
def R69_3 : List AR := [⟨(some 8), none, 0, (.load 12 true (.t 1))⟩, ⟨(some 9), none, 0, (.call false 0 1 113 [(.t 8)])⟩, ⟨(some 3), none, 0, (.mov (.t 9))⟩]
def R69_4 : List AR := [⟨(some 10), none, 0, (.mov (.t 3))⟩, ⟨(some 11), none, 0, (.mov (.t 3))⟩, ⟨(some 12), none, 0, (.call false 0 1 114 [(.t 11)])⟩, ⟨(some 13), none, 0, (.app 1 1 1 (.t 10) (.t 12))⟩, ⟨(some 2), none, 0, (.mov (.t 13))⟩]
def A69_0 : AC := (.seq (.reg 2 R69_4) .ret)
def A69_1 : AC := (.seq (.reg 1 R69_3) A69_0)
def A69_2 : AC := (.seq (.seq (.reg 0 R69_1) (.cond (.t 6) (.seq (.reg 1 R69_2) .ret) .skip)) A69_1)
def A69 : AC := (.seq (.reg 1 R69_0) A69_2)
def O69 : List AO := [(.mov (.t 2))]
def G69 : Fns := ⟨fun f => false, fun f => if f = 113 then 1 else if f = 114 then 1 else 0, false⟩
noncomputable def X69 : Cx := ⟨Try.prog, G69, drawD, 14, [0, 1, 2, 3, 6]⟩
theorem c69 : (Try.f69.body).bind (compC X69.P X69.Γ X69.D X69.nt) = some A69 := by kernel_rfl
theorem o69 : compRes X69.P Try.f69.results.toList = some O69 := by kernel_rfl
theorem v69 : X69.vs = [0, 1, 2, 3, 6] := rfl
theorem p69 : X69.P = Try.prog := rfl
def R72_0 : List AR := [⟨(some 1), none, 0, (.box 0 12 (.t 0))⟩, ⟨(some 2), none, 0, (.mov (.k .nl))⟩]
def R72_1 : List AR := [⟨(some 7), none, 0, (.load 12 true (.t 1))⟩, ⟨(some 8), none, 0, (.call false 0 0 116 [(.t 7)])⟩, ⟨(some 9), none, 0, (.not (.t 8))⟩]
def R72_2 : List AR := [⟨(some 2), none, 0, (.mov (.k .nl))⟩]
def R72_3 : List AR := [⟨(some 10), none, 0, (.faddr 9 (.t 1))⟩, ⟨(some 11), none, 0, (.load 2 true (.t 10))⟩, ⟨(some 12), none, 0, (.call false 0 0 86 [(.t 11)])⟩, ⟨(some 3), none, 0, (.mov (.t 12))⟩]
def R72_4 : List AR := [⟨(some 13), none, 0, (.bslice 0 1 2 [(.int .u8 0)] [(0, (.k (.int .u8 82))), (1, (.k (.int .u8 75)))])⟩, ⟨(some 14), none, 4, (.mkf (.t 13))⟩, ⟨(some 15), none, 0, (.faddr 0 (.t 1))⟩, ⟨(some 16), none, 3, (.load 1 false (.t 15))⟩, ⟨(some 17), none, 3, (.call false 1 0 118 [(.t 16)])⟩, ⟨(some 18), none, 0, (.faddr 1 (.t 1))⟩, ⟨(some 19), none, 3, (.load 1 false (.t 18))⟩, ⟨(some 20), none, 3, (.call false 1 0 118 [(.t 19)])⟩, ⟨(some 21), none, 0, (.faddr 2 (.t 1))⟩, ⟨(some 22), none, 3, (.load 1 false (.t 21))⟩, ⟨(some 23), none, 3, (.call false 1 0 118 [(.t 22)])⟩, ⟨(some 24), none, 0, (.faddr 3 (.t 1))⟩, ⟨(some 25), none, 3, (.load 1 false (.t 24))⟩, ⟨(some 26), none, 3, (.call false 1 0 118 [(.t 25)])⟩, ⟨(some 27), none, 0, (.faddr 4 (.t 1))⟩, ⟨(some 28), none, 3, (.load 1 false (.t 27))⟩, ⟨(some 29), none, 3, (.call false 1 0 118 [(.t 28)])⟩, ⟨(some 30), none, 0, (.faddr 5 (.t 1))⟩, ⟨(some 31), none, 0, (.faddr 0 (.t 30))⟩, ⟨(some 32), none, 3, (.load 1 false (.t 31))⟩, ⟨(some 33), none, 3, (.call false 1 0 119 [(.t 32)])⟩, ⟨(some 34), none, 0, (.faddr 5 (.t 1))⟩, ⟨(some 35), none, 0, (.faddr 1 (.t 34))⟩, ⟨(some 36), none, 3, (.load 1 false (.t 35))⟩, ⟨(some 37), none, 3, (.call false 1 0 118 [(.t 36)])⟩, ⟨(some 38), none, 0, (.faddr 7 (.t 1))⟩, ⟨(some 39), none, 3, (.load 1 false (.t 38))⟩, ⟨(some 40), none, 3, (.call false 1 0 119 [(.t 39)])⟩, ⟨(some 41), none, 0, (.faddr 8 (.t 1))⟩, ⟨(some 42), none, 3, (.load 1 false (.t 41))⟩, ⟨(some 43), none, 3, (.call false 1 0 119 [(.t 42)])⟩, ⟨(some 44), none, 0, (.mov (.t 3))⟩, ⟨(some 45), none, 0, (.len (.t 44))⟩, ⟨(some 46), none, 3, (.call false 1 0 118 [(.t 45)])⟩, ⟨(some 47), none, 0, (.mov (.t 3))⟩, ⟨(some 48), none, 0, (.faddr 11 (.t 1))⟩, ⟨(some 49), none, 3, (.load 1 false (.t 48))⟩, ⟨(some 50), none, 0, (.len (.t 49))⟩, ⟨(some 51), none, 3, (.call false 1 0 118 [(.t 50)])⟩, ⟨(some 52), none, 0, (.bslice 1 1 13 [.nl] [(0, (.t 14)), (1, (.t 17)), (2, (.t 20)), (3, (.t 23)), (4, (.t 26)), (5, (.t 29)), (6, (.t 33)), (7, (.t 37)), (8, (.t 40)), (9, (.t 43)), (10, (.t 46)), (11, (.t 47)), (12, (.t 51))])⟩, ⟨(some 53), none, 0, (.call false 2 1 117 [(.t 52)])⟩, ⟨(some 4), none, 0, (.mov (.t 53))⟩]
def R72_5 : List AR := [⟨(some 54), none, 0, (.faddr 11 (.t 1))⟩, ⟨(some 55), none, 0, (.load 1 false (.t 54))⟩, ⟨(some 56), none, 0, (.len (.t 55))⟩, ⟨(some 57), none, 0, (.mov (.k (.int .i64 0)))⟩]
def R72_6 : List AR := [⟨(some 58), none, 0, (.bin .lss (.t 57) (.t 56))⟩]
def R72_7 : List AR := [⟨(some 59), none, 0, (.iaddr 2 (.t 55) (.t 57))⟩, ⟨(some 60), none, 0, (.load 2 true (.t 59))⟩, ⟨(some 6), none, 0, (.alloc 0 2 [(.int .i64 0), (.int .i64 0)])⟩, ⟨none, none, 0, (.store 2 (.t 6) (.t 60))⟩]
def R72_8 : List AR := [⟨(some 61), none, 0, (.mov (.t 4))⟩, ⟨(some 62), none, 0, (.faddr 0 (.t 6))⟩, ⟨(some 63), none, 0, (.load 1 false (.t 62))⟩, ⟨(some 64), none, 0, (.call false 0 0 118 [(.t 63)])⟩, ⟨(some 65), none, 0, (.faddr 1 (.t 6))⟩, ⟨(some 66), none, 0, (.load 1 false (.t 65))⟩, ⟨(some 67), none, 0, (.call false 0 0 118 [(.t 66)])⟩, ⟨(some 68), none, 0, (.bslice 0 1 3 [.nl] [(0, (.t 61)), (1, (.t 64)), (2, (.t 67))])⟩, ⟨(some 69), none, 0, (.call false 1 1 117 [(.t 68)])⟩, ⟨(some 4), none, 0, (.mov (.t 69))⟩]
def R72_9 : List AR := [⟨(some 70), none, 0, (.bin .add (.t 57) (.k (.int .i64 1)))⟩, ⟨(some 57), none, 0, (.mov (.t 70))⟩]
def A72_0 : AC := (.seq (.block 1 (.seq (.reg 1 R72_7) (.draw 2 R72_8))) (.reg 0 R72_9))
def A72_1 : AC := (.seq (.cond (.t 58) .skip (.exit 0)) A72_0)
def L72_0 : AC := (.seq (.reg 0 R72_6) A72_1)
def R72_10 : List AR := [⟨(some 71), none, 0, (.mov (.t 4))⟩, ⟨(some 72), none, 0, (.mov (.t 4))⟩, ⟨(some 73), none, 0, (.call false 0 0 120 [(.t 72)])⟩, ⟨(some 74), none, 0, (.bslice 0 1 2 [.nl] [(0, (.t 71)), (1, (.t 73))])⟩, ⟨(some 75), none, 0, (.call false 1 1 117 [(.t 74)])⟩, ⟨(some 2), none, 0, (.mov (.t 75))⟩]
def A72_2 : AC := (.seq (.reg 2 R72_10) .ret)
def A72_3 : AC := (.seq (.seq (.reg 0 R72_5) (.block 0 (.loop L72_0))) A72_2)
def A72_4 : AC := (.seq (.draw 3 R72_4) A72_3)
def A72_5 : AC := (.seq (.reg 0 R72_3) A72_4)
def A72_6 : AC := (.seq (.seq (.reg 0 R72_1) (.cond (.t 9) (.seq (.reg 0 R72_2) .ret) .skip)) A72_5)
def A72 : AC := (.seq (.reg 1 R72_0) A72_6)
def O72 : List AO := [(.mov (.t 2))]
def G72 : Fns := ⟨fun f => false, fun f => if f = 117 then 1 else 0, false⟩
noncomputable def X72 : Cx := ⟨Try.prog, G72, drawD, 76, [0, 1, 2, 3, 4, 6, 9, 55, 56, 57, 58]⟩
theorem c72 : (Try.f72.body).bind (compC X72.P X72.Γ X72.D X72.nt) = some A72 := by kernel_rfl
theorem o72 : compRes X72.P Try.f72.results.toList = some O72 := by kernel_rfl
theorem v72 : X72.vs = [0, 1, 2, 3, 4, 6, 9, 55, 56, 57, 58] := rfl
theorem p72 : X72.P = Try.prog := rfl
def R35_0 : List AR := [⟨(some 1), none, 0, (.box 0 12 (.t 0))⟩, ⟨(some 2), none, 0, (.mov (.k (.int .i64 0)))⟩]
def R35_1 : List AR := [⟨(some 3), none, 0, (.load 12 true (.t 1))⟩, ⟨(some 4), none, 0, (.call false 0 0 69 [(.t 3)])⟩, ⟨(some 5), none, 0, (.len (.t 4))⟩, ⟨(some 2), none, 0, (.mov (.t 5))⟩]
def A35_0 : AC := (.seq (.reg 0 R35_1) .ret)
def A35 : AC := (.seq (.reg 1 R35_0) A35_0)
def O35 : List AO := [(.mov (.t 2))]
def G35 : Fns := ⟨fun f => false, fun f => 0, false⟩
noncomputable def X35 : Cx := ⟨Try.prog, G35, drawD, 6, [0, 1, 2]⟩
theorem c35 : (Try.f35.body).bind (compC X35.P X35.Γ X35.D X35.nt) = some A35 := by kernel_rfl
theorem o35 : compRes X35.P Try.f35.results.toList = some O35 := by kernel_rfl
theorem v35 : X35.vs = [0, 1, 2] := rfl
theorem p35 : X35.P = Try.prog := rfl
def R37_0 : List AR := [⟨(some 1), none, 0, (.box 0 12 (.t 0))⟩, ⟨(some 2), none, 0, (.mov (.k (.int .i64 0)))⟩]
def R37_1 : List AR := [⟨(some 3), none, 0, (.load 12 true (.t 1))⟩, ⟨(some 4), none, 0, (.call false 0 0 72 [(.t 3)])⟩, ⟨(some 5), none, 0, (.len (.t 4))⟩, ⟨(some 2), none, 0, (.mov (.t 5))⟩]
def A37_0 : AC := (.seq (.reg 0 R37_1) .ret)
def A37 : AC := (.seq (.reg 1 R37_0) A37_0)
def O37 : List AO := [(.mov (.t 2))]
def G37 : Fns := ⟨fun f => false, fun f => 0, false⟩
noncomputable def X37 : Cx := ⟨Try.prog, G37, drawD, 6, [0, 1, 2]⟩
theorem c37 : (Try.f37.body).bind (compC X37.P X37.Γ X37.D X37.nt) = some A37 := by kernel_rfl
theorem o37 : compRes X37.P Try.f37.results.toList = some O37 := by kernel_rfl
theorem v37 : X37.vs = [0, 1, 2] := rfl
theorem p37 : X37.P = Try.prog := rfl
noncomputable def mBytes (m : Msg) : List UInt8 := if m.Right then bodyB m ++ sumBytes (crc (bodyB m)) else []
theorem mBytes_yes {m : Msg} (h : m.Right) : mBytes m = bodyB m ++ sumBytes (crc (bodyB m)) := if_pos h
theorem mBytes_no {m : Msg} (h : ¬ m.Right) : mBytes m = [] := if_neg h
theorem bodyB_len {m : Msg} (h : m.Fit) : (bodyB m).length ≤ 1000000000 := by
  have k1 := listB_len h.leaves h.l1
  have k2 := listB_len h.vec h.l2
  have k3 := listB_len h.ls h.l3
  have k4 := stateB_len h.part
  have k5 := putNum_5 (n := (stateB m.part).length) (by omega)
  have k6 := putNum_5 (n := m.marks.length) (by have := h.l4; omega)
  have k7 := putI_5 h.root
  have k8 := cat_len markB (xs := m.marks) fun x hx => markB_len (h.marks x hx)
  have k9 := cat_len putI (xs := m.nums) fun a ha => putI_5 (h.nums a ha)
  have q1 := h.l1
  have q2 := h.l2
  have q3 := h.l3
  have q4 := h.l4
  have hn5 : m.nums.length = 5 := rfl
  unfold bodyB
  simp only [List.length_append, List.length_cons, List.length_nil]
  omega
theorem sum_len (x : Nat) : (sumBytes x).length = 4 := rfl
theorem sum_take (x : Nat) : (sumBytes x).take 4 = sumBytes x := rfl
theorem specMsgBytes_ok (m : Msg) (h : m.sz ≤ 1048576) : FS Try.prog 69 [] [.agg m.c] (.sl 0 1 0 (mBytes m).length) [⟨1, rw_ byteC (mBytes m)⟩] := by
  refine FS.of (X := X69) (ac := A69) (os := O69) Try.func69 (by rfl) (by rfl) (by kernel_rfl) o69 (Nat.le_of_ble_eq_true rfl) ?_
  show AWP X69 A69 (Ends X69.vs O69 0 _ _) [.agg m.c, .tup [], .tup [], .tup [], .tup []] []
  obtain ⟨Q, hQ⟩ : ∃ Q, Q = Ends X69.vs O69 0 (.sl 0 1 0 (mBytes m).length) [⟨1, rw_ byteC (mBytes m)⟩] := ⟨_, rfl⟩
  rw [← hQ]
  refine awp_sr ?_
  simp only [go_sem, R69_0, v69, p69, Msg.c]
  refine awp_sr2 ?_
  simp only [go_sem, R69_1, v69, p69]
  refine run_see (specMsgOk_ok m h) false (Views.refl rfl) rfl (fun j hj => by first | omega | ((have hj0 : j = 0 := by omega); subst hj0; first | rfl | (simp only [Nat.add_zero, app_get, app_getk, sapp_get, sapp_getk, Nat.add_assoc, Nat.reduceAdd, List.getElem?_cons_zero, List.getElem?_cons_succ]; done) | simp)) (fun h => by cases h) ?_
  simp only [go_sem, v69, p69]
  refine awp_if' rfl ?_ ?_
  · intro h1
    refine awp_sr ?_
    simp only [go_sem, R69_2, v69, p69]
    refine awp_ret ?_
    try simp only [go_sem]
    rw [hQ, mBytes_no h1]
    exact Ends.ownLast (.inl rfl) rfl (Last.mk [.live ⟨12, [m.c]⟩] _) rfl (bytes_ok [])
  · intro h1
    have hb := bodyB_len (h1.fit h)
    refine awp_skip ?_
    simp only [go_sem]
    refine awp_sr ?_
    simp only [go_sem, R69_3, v69, p69, Msg.c]
    refine run_new (specL10Body_ok m (h1.fit h)) false (Views.refl rfl) (by first | rfl | (simp only [Nat.add_zero, app_get, app_getk, sapp_get, sapp_getk, Nat.add_assoc, Nat.reduceAdd, List.getElem?_cons_zero, List.getElem?_cons_succ]; done) | simp) (bytes_ok _) (by simp [V.ids]) (fun h => by cases h) ?_
    simp only [go_sem, v69, p69]
    refine awp_sr ?_
    simp only [go_sem, R69_4, v69, p69]
    refine run_new (specL10Sum_ok (bodyB m) (by simp [lim]; omega)) true (.cons (View.row (by simp) rfl (rw_len _ _).symm (bytes_ok _)) (.nil)) (by first | rfl | (simp only [Nat.add_zero, app_get, app_getk, sapp_get, sapp_getk, Nat.add_assoc, Nat.reduceAdd, List.getElem?_cons_zero, List.getElem?_cons_succ]; done) | simp) (bytes_ok _) (by simp [V.ids]) (fun _ => ⟨rfl, bytes_flat _⟩) ?_
    simp only [go_sem, v69, p69, sum_len, sum_take]
    refine ⟨by omega, ?_⟩
    refine awp_ret ?_
    try simp only [go_sem]
    rw [hQ, mBytes_yes h1]
    exact Ends.ownLast (.inl rfl) rfl (Last.mk3 [] _ _ _ _) (by simp [sumBytes]) (bytes_ok _)
theorem specMsgBytes_fz (m : Msg) (h : m.sz ≤ 1048576) : FS Try.prog 69 [] [.agg m.c] (.fz 1 (rw_ byteC (mBytes m))) [] := (specMsgBytes_ok m h).frz (bytes_ok _) (rw_len _ _).symm
set_option maxHeartbeats 4000000 in
theorem implMsgBytes_ok (m : Msg) (h : m.sz ≤ 1048576) : FS Try.prog 72 [] [.agg m.c] (.fz 1 (rw_ byteC (mBytes m))) [] := by
  refine FS.of (X := X72) (ac := A72) (os := O72) Try.func72 (by rfl) (by rfl) (by kernel_rfl) o72 (Nat.le_of_ble_eq_true rfl) ?_
  show AWP X72 A72 (Ends X72.vs O72 0 _ _) [.agg m.c, .tup [], .tup [], .tup [], .tup [], .tup [], .tup [], .tup [], .tup [], .tup [], .tup []] []
  obtain ⟨Q, hQ⟩ : ∃ Q, Q = Ends X72.vs O72 0 (.fz 1 (rw_ byteC (mBytes m))) [] := ⟨_, rfl⟩
  rw [← hQ]
  have hl : m.tree.leaves.length + m.vec.length + m.leaves.length + m.part.sz + m.marks.length ≤ 1048576 := h
  refine awp_sr ?_
  simp only [go_sem, R72_0, v72, p72, Msg.c]
  refine awp_sr2 ?_
  simp only [go_sem, R72_1, v72, p72]
  refine run_see (implMsgOk_ok m h) false (Views.refl rfl) rfl (fun j hj => by first | omega | ((have hj0 : j = 0 := by omega); subst hj0; first | rfl | (simp only [Nat.add_zero, app_get, app_getk, sapp_get, sapp_getk, Nat.add_assoc, Nat.reduceAdd, List.getElem?_cons_zero, List.getElem?_cons_succ]; done) | simp)) (fun h => by cases h) ?_
  simp only [go_sem, v72, p72]
  refine awp_if' rfl ?_ ?_
  · intro h1
    refine awp_sr ?_
    simp only [go_sem, R72_2, v72, p72]
    refine awp_ret ?_
    try simp only [go_sem]
    rw [hQ, mBytes_no h1]
    exact Ends.plain (.inl rfl) rfl (.nl 1) rfl
  intro h1
  have hb := bodyB_len (h1.fit h)
  have hr : m.part.Right := h1.2.2.1.2.2.1
  have hf := h1.fit h
  rw [mBytes_yes h1] at hQ
  have k1 := listB_len hf.leaves hf.l1
  have k2 := listB_len hf.vec hf.l2
  have k3 := listB_len hf.ls hf.l3
  have k4 := stateB_len hf.part
  have k8 := cat_len markB (xs := m.marks) fun x hx => markB_len (hf.marks x hx)
  have q4 := hf.l4
  refine awp_skip ?_
  simp only [go_sem]
  refine awp_sr ?_
  simp only [go_sem, R72_3, v72, p72, Msg.c]
  refine run_see (implStateBytes_ok m.part (by omega)) false (Views.refl rfl) rfl (fun j hj => by first | omega | ((have hj0 : j = 0 := by omega); subst hj0; first | rfl | (simp only [Nat.add_zero, app_get, app_getk, sapp_get, sapp_getk, Nat.add_assoc, Nat.reduceAdd, List.getElem?_cons_zero, List.getElem?_cons_succ]; done) | simp)) (fun h => by cases h) ?_
  simp only [go_sem, v72, p72]
  rw [sBytes_yes hr]
  refine awp_sdw [1] mixed rfl ?_
  simp only [go_sem, R72_4, v72, p72, labOk_2, labOk_3, labOk_4, labOk_5, AO.touch, AO.sh, AR.sh, V.ids, V.idsL, List.mem_singleton, forall_eq, List.not_mem_nil, false_implies, implies_true, List.mem_cons, or_false, Nat.reduceLT, Nat.zero_lt_one, Nat.zero_ne_one, Msg.c, bytesV]
  refine run_see (implPutI_fz (hf.nums m.kind (by simp [Msg.nums]))) false (Views.refl rfl) rfl (fun j hj => by first | omega | ((have hj0 : j = 0 := by omega); subst hj0; first | rfl | (simp only [Nat.add_zero, app_get, app_getk, sapp_get, sapp_getk, Nat.add_assoc, Nat.reduceAdd, List.getElem?_cons_zero, List.getElem?_cons_succ]; done) | simp)) (fun h => by cases h) ?_
  simp only [go_sem, v72, p72, labOk_2, labOk_3, labOk_4, labOk_5, AO.touch, AO.sh, AR.sh, V.ids, V.idsL, List.mem_singleton, forall_eq, List.not_mem_nil, false_implies, implies_true, List.mem_cons, or_false, Nat.reduceLT, Nat.zero_lt_one, Nat.zero_ne_one, not_false_eq_true]
  refine run_see (implPutI_fz (hf.nums m.from_ (by simp [Msg.nums]))) false (Views.refl rfl) rfl (fun j hj => by first | omega | ((have hj0 : j = 0 := by omega); subst hj0; first | rfl | (simp only [Nat.add_zero, app_get, app_getk, sapp_get, sapp_getk, Nat.add_assoc, Nat.reduceAdd, List.getElem?_cons_zero, List.getElem?_cons_succ]; done) | simp)) (fun h => by cases h) ?_
  simp only [go_sem, v72, p72, labOk_2, labOk_3, labOk_4, labOk_5, AO.touch, AO.sh, AR.sh, V.ids, V.idsL, List.mem_singleton, forall_eq, List.not_mem_nil, false_implies, implies_true, List.mem_cons, or_false, Nat.reduceLT, Nat.zero_lt_one, Nat.zero_ne_one, not_false_eq_true]
  refine run_see (implPutI_fz (hf.nums m.to (by simp [Msg.nums]))) false (Views.refl rfl) rfl (fun j hj => by first | omega | ((have hj0 : j = 0 := by omega); subst hj0; first | rfl | (simp only [Nat.add_zero, app_get, app_getk, sapp_get, sapp_getk, Nat.add_assoc, Nat.reduceAdd, List.getElem?_cons_zero, List.getElem?_cons_succ]; done) | simp)) (fun h => by cases h) ?_
  simp only [go_sem, v72, p72, labOk_2, labOk_3, labOk_4, labOk_5, AO.touch, AO.sh, AR.sh, V.ids, V.idsL, List.mem_singleton, forall_eq, List.not_mem_nil, false_implies, implies_true, List.mem_cons, or_false, Nat.reduceLT, Nat.zero_lt_one, Nat.zero_ne_one, not_false_eq_true]
  refine run_see (implPutI_fz (hf.nums m.num (by simp [Msg.nums]))) false (Views.refl rfl) rfl (fun j hj => by first | omega | ((have hj0 : j = 0 := by omega); subst hj0; first | rfl | (simp only [Nat.add_zero, app_get, app_getk, sapp_get, sapp_getk, Nat.add_assoc, Nat.reduceAdd, List.getElem?_cons_zero, List.getElem?_cons_succ]; done) | simp)) (fun h => by cases h) ?_
  simp only [go_sem, v72, p72, labOk_2, labOk_3, labOk_4, labOk_5, AO.touch, AO.sh, AR.sh, V.ids, V.idsL, List.mem_singleton, forall_eq, List.not_mem_nil, false_implies, implies_true, List.mem_cons, or_false, Nat.reduceLT, Nat.zero_lt_one, Nat.zero_ne_one, not_false_eq_true]
  refine run_see (implPutI_fz (hf.nums m.hi (by simp [Msg.nums]))) false (Views.refl rfl) rfl (fun j hj => by first | omega | ((have hj0 : j = 0 := by omega); subst hj0; first | rfl | (simp only [Nat.add_zero, app_get, app_getk, sapp_get, sapp_getk, Nat.add_assoc, Nat.reduceAdd, List.getElem?_cons_zero, List.getElem?_cons_succ]; done) | simp)) (fun h => by cases h) ?_
  simp only [go_sem, v72, p72, labOk_2, labOk_3, labOk_4, labOk_5, AO.touch, AO.sh, AR.sh, V.ids, V.idsL, List.mem_singleton, forall_eq, List.not_mem_nil, false_implies, implies_true, List.mem_cons, or_false, Nat.reduceLT, Nat.zero_lt_one, Nat.zero_ne_one, not_false_eq_true]
  refine run_see (implPutNums_ok m.tree.leaves hf.leaves hf.l1) false (Views.refl rfl) rfl (fun j hj => by first | omega | ((have hj0 : j = 0 := by omega); subst hj0; first | rfl | (simp only [Nat.add_zero, app_get, app_getk, sapp_get, sapp_getk, Nat.add_assoc, Nat.reduceAdd, List.getElem?_cons_zero, List.getElem?_cons_succ]; done) | simp)) (fun h => by cases h) ?_
  simp only [go_sem, v72, p72, labOk_2, labOk_3, labOk_4, labOk_5, AO.touch, AO.sh, AR.sh, V.ids, V.idsL, List.mem_singleton, forall_eq, List.not_mem_nil, false_implies, implies_true, List.mem_cons, or_false, Nat.reduceLT, Nat.zero_lt_one, Nat.zero_ne_one, not_false_eq_true]
  refine run_see (implPutI_fz hf.root) false (Views.refl rfl) rfl (fun j hj => by first | omega | ((have hj0 : j = 0 := by omega); subst hj0; first | rfl | (simp only [Nat.add_zero, app_get, app_getk, sapp_get, sapp_getk, Nat.add_assoc, Nat.reduceAdd, List.getElem?_cons_zero, List.getElem?_cons_succ]; done) | simp)) (fun h => by cases h) ?_
  simp only [go_sem, v72, p72, labOk_2, labOk_3, labOk_4, labOk_5, AO.touch, AO.sh, AR.sh, V.ids, V.idsL, List.mem_singleton, forall_eq, List.not_mem_nil, false_implies, implies_true, List.mem_cons, or_false, Nat.reduceLT, Nat.zero_lt_one, Nat.zero_ne_one, not_false_eq_true]
  refine run_see (implPutNums_ok m.vec hf.vec hf.l2) false (Views.refl rfl) rfl (fun j hj => by first | omega | ((have hj0 : j = 0 := by omega); subst hj0; first | rfl | (simp only [Nat.add_zero, app_get, app_getk, sapp_get, sapp_getk, Nat.add_assoc, Nat.reduceAdd, List.getElem?_cons_zero, List.getElem?_cons_succ]; done) | simp)) (fun h => by cases h) ?_
  simp only [go_sem, v72, p72, labOk_2, labOk_3, labOk_4, labOk_5, AO.touch, AO.sh, AR.sh, V.ids, V.idsL, List.mem_singleton, forall_eq, List.not_mem_nil, false_implies, implies_true, List.mem_cons, or_false, Nat.reduceLT, Nat.zero_lt_one, Nat.zero_ne_one, not_false_eq_true]
  refine run_see (implPutNums_ok m.leaves hf.ls hf.l3) false (Views.refl rfl) rfl (fun j hj => by first | omega | ((have hj0 : j = 0 := by omega); subst hj0; first | rfl | (simp only [Nat.add_zero, app_get, app_getk, sapp_get, sapp_getk, Nat.add_assoc, Nat.reduceAdd, List.getElem?_cons_zero, List.getElem?_cons_succ]; done) | simp)) (fun h => by cases h) ?_
  simp only [go_sem, v72, p72, labOk_2, labOk_3, labOk_4, labOk_5, AO.touch, AO.sh, AR.sh, V.ids, V.idsL, List.mem_singleton, forall_eq, List.not_mem_nil, false_implies, implies_true, List.mem_cons, or_false, Nat.reduceLT, Nat.zero_lt_one, Nat.zero_ne_one, not_false_eq_true]
  refine run_see (implPutNum_fz (stateB m.part).length (by omega)) false (Views.refl rfl) rfl (fun j hj => by first | omega | ((have hj0 : j = 0 := by omega); subst hj0; first | rfl | (simp only [Nat.add_zero, app_get, app_getk, sapp_get, sapp_getk, Nat.add_assoc, Nat.reduceAdd, List.getElem?_cons_zero, List.getElem?_cons_succ]; done) | simp)) (fun h => by cases h) ?_
  simp only [go_sem, v72, p72, labOk_2, labOk_3, labOk_4, labOk_5, AO.touch, AO.sh, AR.sh, V.ids, V.idsL, List.mem_singleton, forall_eq, List.not_mem_nil, false_implies, implies_true, List.mem_cons, or_false, Nat.reduceLT, Nat.zero_lt_one, Nat.zero_ne_one, not_false_eq_true]
  refine run_see (implPutNum_fz m.marks.length (by omega)) false (Views.refl rfl) rfl (fun j hj => by first | omega | ((have hj0 : j = 0 := by omega); subst hj0; first | rfl | (simp only [Nat.add_zero, app_get, app_getk, sapp_get, sapp_getk, Nat.add_assoc, Nat.reduceAdd, List.getElem?_cons_zero, List.getElem?_cons_succ]; done) | simp)) (fun h => by cases h) ?_
  simp only [go_sem, v72, p72, labOk_2, labOk_3, labOk_4, labOk_5, AO.touch, AO.sh, AR.sh, V.ids, V.idsL, List.mem_singleton, forall_eq, List.not_mem_nil, false_implies, implies_true, List.mem_cons, or_false, Nat.reduceLT, Nat.zero_lt_one, Nat.zero_ne_one, not_false_eq_true]
  obtain ⟨ls, hls⟩ : ∃ ls, ls = [[82, 75], putI m.kind, putI m.from_, putI m.to, putI m.num, putI m.hi, listB m.tree.leaves, putI m.tree.root, listB m.vec, listB m.leaves, putNum (stateB m.part).length, stateB m.part, putNum m.marks.length] := ⟨_, rfl⟩
  have hl13 : ls.length = 13 := by rw [hls]; rfl
  have hbd : bodyB m = ls.flatten ++ cat markB m.marks := by rw [hls]; simp [bodyB, cat, Msg.nums]
  have hlen := congrArg List.length hbd
  rw [List.length_append] at hlen
  have hj : ls.flatten.length ≤ lim := by simp only [lim]; omega
  refine run_new (joined_ok ls hj (by omega)) true (.cons (View.row (by simp) (by rw [hls]; rfl) (by rw [rw_len, hl13]) (brows_ok _)) (.nil)) (by first | rfl | (simp only [Nat.add_zero, app_get, app_getk, sapp_get, sapp_getk, Nat.add_assoc, Nat.reduceAdd, List.getElem?_cons_zero, List.getElem?_cons_succ]; done) | simp) (bytes_ok _) (by simp [V.ids]) (fun _ => ⟨rfl, bytes_flat _⟩) ?_
  simp only [go_sem, v72, p72, labOk_2, labOk_3, labOk_4, labOk_5, AO.touch, AO.sh, AR.sh, V.ids, V.idsL, List.mem_singleton, forall_eq, List.not_mem_nil, false_implies, implies_true, List.mem_cons, or_false, Nat.reduceLT, Nat.zero_lt_one, Nat.zero_ne_one, not_false_eq_true]
  refine awp_freeze (o := 3) (ob := ⟨1, rw_ byteC ls.flatten⟩) (by simp) (bytes_ok _) ?_
  generalize hfl : ls.flatten = out0 at hlen hbd
  simp only [go_sem, v72, p72, frz_ptr _ _ _ _ _ (show (0 : Nat) ≠ 3 by omega)]
  clear hls hj
  refine awp_sr2 ?_
  simp only [go_sem, R72_5, v72, p72, Msg.c]
  obtain ⟨I, hI⟩ : ∃ I : Nat → List V → Store → Prop, I = fun mM L σ => ∃ i out rest y0 y1 y2 y3 y6 y9 y58, m.marks.length - i = mM ∧ (i ≤ m.marks.length ∧ out = out0 ++ cat markB (m.marks.take i)) ∧ L = [y0, y1, y2, y3, .fz 1 (rw_ byteC out), y6, y9, .fz 2 (rw_ Mark.c m.marks), .int .i64 (m.marks.length : Nat), .int .i64 (i : Nat), y58] ∧ σ = rest := ⟨_, rfl⟩
  first | refine awp_for I (m.marks.length) ?_ ?_ | refine awp_seq (awp_for I (m.marks.length) ?_ ?_)
  · rw [hI]
    refine ⟨0, _, _, _, _, _, _, _, _, _, rfl, ?_, rfl, rfl⟩
    exact ⟨Nat.zero_le _, (List.append_nil _).symm⟩
  intro mM L σ hIn
  rw [hI] at hIn
  obtain ⟨i, out, rest, y0, y1, y2, y3, y6, y9, y58, rfl, hP, rfl, rfl⟩ := hIn
  obtain ⟨hi, ho⟩ := hP
  refine awp_sr ?_
  simp only [go_sem, R72_6, v72, p72]
  refine awp_seq ?_
  refine awp_if rfl ?_ ?_
  · intro h2
    have h2 : i < m.marks.length := by omega
    have hfit := hf.marks _ (List.getElem_mem h2)
    have c1 := cat_take markB h2
    have c2 := cat_le markB m.marks (i + 1)
    have c3 := congrArg List.length c1
    have c4 := congrArg List.length ho
    have c5 := markB_len hfit
    rw [List.length_append] at c3 c4
    refine awp_skip ?_
    simp only [go_sem]
    refine awp_seq (awp_block ?_)
    refine awp_sr ?_
    simp only [go_sem, R72_7, v72, p72, rw_at _ h2, Mark.c]
    refine awp_draw0 mixed rfl (by rfl) ?_
    simp only [go_sem, R72_8, v72, p72]
    refine run_see (implPutI_fz hfit.1) false (Views.refl rfl) rfl (fun j hj => by first | omega | ((have hj0 : j = 0 := by omega); subst hj0; first | rfl | (simp only [Nat.add_zero, app_get, app_getk, sapp_get, sapp_getk, Nat.add_assoc, Nat.reduceAdd, List.getElem?_cons_zero, List.getElem?_cons_succ]; done) | simp)) (fun h => by cases h) ?_
    simp only [go_sem, v72, p72]
    refine run_see (implPutI_fz hfit.2) false (Views.refl rfl) rfl (fun j hj => by first | omega | ((have hj0 : j = 0 := by omega); subst hj0; first | rfl | (simp only [Nat.add_zero, app_get, app_getk, sapp_get, sapp_getk, Nat.add_assoc, Nat.reduceAdd, List.getElem?_cons_zero, List.getElem?_cons_succ]; done) | simp)) (fun h => by cases h) ?_
    simp only [go_sem, v72, p72, fz_fold, three_fold]
    have hfl2 : [out, putI m.marks[i].id, putI m.marks[i].inc].flatten = out ++ markB m.marks[i] := by simp [markB]
    have hj : [out, putI m.marks[i].id, putI m.marks[i].inc].flatten.length ≤ lim := by rw [hfl2, List.length_append]; simp only [lim]; omega
    refine run_new (joined_ok _ hj (by simp)) true (.cons (View.row (by simp) (by simp) rfl (brows_ok _)) (.nil)) (by first | rfl | (simp only [Nat.add_zero, app_get, app_getk, sapp_get, sapp_getk, Nat.add_assoc, Nat.reduceAdd, List.getElem?_cons_zero, List.getElem?_cons_succ]; done) | simp) (bytes_ok _) (by simp [V.ids]) (fun _ => ⟨rfl, bytes_flat _⟩) ?_
    simp only [go_sem, v72, p72]
    refine awp_freeze (o := σ.length + 2) (ob := ⟨1, rw_ byteC [out, putI m.marks[i].id, putI m.marks[i].inc].flatten⟩) (by simp) (bytes_ok _) ?_
    rw [hfl2]
    generalize hq : out ++ markB m.marks[i] = out2
    simp only [go_sem, v72, p72]
    refine awp_reg ?_
    simp only [go_sem, R72_9, v72, p72, wrap_succ (i := i) (by omega)]
    refine ⟨m.marks.length - (i + 1), ?_, ?_⟩
    rotate_left
    rw [hI]
    refine ⟨i + 1, _, _, _, _, _, _, _, _, _, rfl, ?_, rfl, rfl⟩
    · exact ⟨by omega, by rw [c1, ← hq, ho, List.append_assoc]⟩
    · omega
  · intro h2
    refine awp_exit ?_
    simp only [go_sem]
    have : i = m.marks.length := by omega
    subst this
    rw [List.take_length] at ho
    have hob : out = bodyB m := by rw [ho, hbd]
    subst hob
    refine awp_sr ?_
    simp only [go_sem, R72_10, v72, p72]
    refine run_see (implCrcBytes_fz (bodyB m) (by simp only [lim]; omega)) false (Views.refl rfl) rfl (fun j hj => by first | omega | ((have hj0 : j = 0 := by omega); subst hj0; first | rfl | (simp only [Nat.add_zero, app_get, app_getk, sapp_get, sapp_getk, Nat.add_assoc, Nat.reduceAdd, List.getElem?_cons_zero, List.getElem?_cons_succ]; done) | simp)) (fun h => by cases h) ?_
    simp only [go_sem, v72, p72, fz_fold, pair_fold]
    have hj : [bodyB m, sumBytes (crc (bodyB m))].flatten.length ≤ lim := by simp [lim, sum_len]; omega
    refine run_new (joined_ok _ hj (by simp)) true (.cons (View.row (by simp) (by simp) rfl (brows_ok _)) (.nil)) (by first | rfl | (simp only [Nat.add_zero, app_get, app_getk, sapp_get, sapp_getk, Nat.add_assoc, Nat.reduceAdd, List.getElem?_cons_zero, List.getElem?_cons_succ]; done) | simp) (bytes_ok _) (by simp [V.ids]) (fun _ => ⟨rfl, bytes_flat _⟩) ?_
    simp only [go_sem, v72, p72]
    refine awp_ret ?_
    try simp only [go_sem]
    rw [hQ, show bodyB m ++ sumBytes (crc (bodyB m)) = [bodyB m, sumBytes (crc (bodyB m))].flatten by simp]
    exact Ends.frzSl (.inl rfl) rfl (by simp) (rw_len _ _).symm (bytes_ok _)
theorem specMsgSize_ok (m : Msg) (h : m.sz ≤ 1048576) : FS Try.prog 35 [] [.agg m.c] (.int .i64 ((mBytes m).length : Nat)) [] := by
  refine FS.of (X := X35) (ac := A35) (os := O35) Try.func35 (by rfl) (by rfl) (by kernel_rfl) o35 (Nat.le_of_ble_eq_true rfl) ?_
  show AWP X35 A35 (Ends X35.vs O35 0 _ _) [.agg m.c, .tup [], .tup []] []
  obtain ⟨Q, hQ⟩ : ∃ Q, Q = Ends X35.vs O35 0 (.int .i64 ((mBytes m).length : Nat)) [] := ⟨_, rfl⟩
  rw [← hQ]
  have fin : ∀ L σ v, resVs O35 (look X35.vs L) σ = some [v] → v = (.int .i64 ((mBytes m).length : Nat)) → Q .ret L σ := by
    intro L σ v h1 h2
    rw [hQ]
    exact Ends.is (.inl rfl) h1 (by simp only [packV, h2]) rfl
  refine awp_sr ?_
  simp only [go_sem, R35_0, v35, p35, Msg.c]
  refine awp_sr ?_
  simp only [go_sem, R35_1, v35, p35]
  refine run_see (specMsgBytes_fz m h) false (Views.refl rfl) rfl (fun j hj => by first | omega | ((have hj0 : j = 0 := by omega); subst hj0; first | rfl | (simp only [Nat.add_zero, app_get, app_getk, sapp_get, sapp_getk, Nat.add_assoc, Nat.reduceAdd, List.getElem?_cons_zero, List.getElem?_cons_succ]; done) | simp)) (fun h => by cases h) ?_
  simp only [go_sem, v35, p35]
  refine awp_ret ?_
  try simp only [go_sem]
  exact fin _ _ _ rfl rfl
theorem implMsgSize_ok (m : Msg) (h : m.sz ≤ 1048576) : FS Try.prog 37 [] [.agg m.c] (.int .i64 ((mBytes m).length : Nat)) [] := by
  refine FS.of (X := X37) (ac := A37) (os := O37) Try.func37 (by rfl) (by rfl) (by kernel_rfl) o37 (Nat.le_of_ble_eq_true rfl) ?_
  show AWP X37 A37 (Ends X37.vs O37 0 _ _) [.agg m.c, .tup [], .tup []] []
  obtain ⟨Q, hQ⟩ : ∃ Q, Q = Ends X37.vs O37 0 (.int .i64 ((mBytes m).length : Nat)) [] := ⟨_, rfl⟩
  rw [← hQ]
  have fin : ∀ L σ v, resVs O37 (look X37.vs L) σ = some [v] → v = (.int .i64 ((mBytes m).length : Nat)) → Q .ret L σ := by
    intro L σ v h1 h2
    rw [hQ]
    exact Ends.is (.inl rfl) h1 (by simp only [packV, h2]) rfl
  refine awp_sr ?_
  simp only [go_sem, R37_0, v37, p37, Msg.c]
  refine awp_sr ?_
  simp only [go_sem, R37_1, v37, p37]
  refine run_see (implMsgBytes_ok m h) false (Views.refl rfl) rfl (fun j hj => by first | omega | ((have hj0 : j = 0 := by omega); subst hj0; first | rfl | (simp only [Nat.add_zero, app_get, app_getk, sapp_get, sapp_getk, Nat.add_assoc, Nat.reduceAdd, List.getElem?_cons_zero, List.getElem?_cons_succ]; done) | simp)) (fun h => by cases h) ?_
  simp only [go_sem, v37, p37]
  refine awp_ret ?_
  try simp only [go_sem]
  exact fin _ _ _ rfl rfl
end Go.Proofs.Ytffigokicddekaa.Abs
/- The law of a message's size, walked. No condition. -/
set_option linter.unusedVariables false
set_option linter.unusedSimpArgs false
set_option maxRecDepth 10000
namespace Go.Proofs.Ytffigokicddekaa.Abs
open Go Go.Proofs
def R7_0 : List AR := [⟨(some 1), none, 0, (.box 0 12 (.t 0))⟩, ⟨(some 2), none, 0, (.mov (.k (.bool false)))⟩]
def R7_1 : List AR := [⟨(some 3), none, 0, (.mov (.k (.int .i64 1048576)))⟩]
def R7_2 : List AR := [⟨(some 7), none, 0, (.load 12 true (.t 1))⟩, ⟨(some 8), none, 0, (.mov (.t 3))⟩, ⟨(some 9), none, 0, (.call false 0 0 34 [(.t 7), (.t 8)])⟩, ⟨(some 3), none, 0, (.mov (.t 9))⟩]
def R7_3 : List AR := [⟨(some 10), none, 0, (.mov (.t 3))⟩, ⟨(some 11), none, 0, (.bin .lss (.t 10) (.k (.int .i64 0)))⟩]
def R7_4 : List AR := [⟨(some 2), none, 0, (.mov (.k (.bool true)))⟩]
def R7_5 : List AR := [⟨(some 12), none, 0, (.load 12 true (.t 1))⟩, ⟨(some 13), none, 0, (.call false 0 0 36 [(.t 12)])⟩, ⟨(some 14), none, 0, (.call false 0 0 35 [(.t 13)])⟩, ⟨(some 4), none, 0, (.mov (.t 14))⟩]
def R7_6 : List AR := [⟨(some 15), none, 0, (.load 12 true (.t 1))⟩, ⟨(some 16), none, 0, (.call false 0 0 36 [(.t 15)])⟩, ⟨(some 5), none, 0, (.alloc 0 12 [(.int .i64 0), (.int .i64 0), (.int .i64 0), (.int .i64 0), (.int .i64 0), .nl, (.int .i64 0), .nl, .nl, .nl, .nl, .nl])⟩, ⟨none, none, 0, (.store 12 (.t 5) (.t 16))⟩]
def R7_7 : List AR := [⟨(some 17), none, 0, (.load 12 true (.t 5))⟩, ⟨(some 18), none, 0, (.call false 0 0 37 [(.t 17)])⟩, ⟨(some 6), none, 0, (.mov (.t 18))⟩]
def R7_8 : List AR := [⟨(some 19), none, 0, (.mov (.t 6))⟩, ⟨(some 20), none, 0, (.mov (.t 4))⟩, ⟨(some 21), none, 0, (.bin .neq (.t 19) (.t 20))⟩]
def R7_9 : List AR := [⟨(some 2), none, 0, (.mov (.k (.bool false)))⟩]
def R7_10 : List AR := [⟨(some 22), none, 0, (.load 12 true (.t 5))⟩, ⟨(some 23), none, 0, (.load 12 true (.t 1))⟩, ⟨(some 24), none, 0, (.call false 0 0 36 [(.t 23)])⟩, ⟨(some 25), none, 0, (.call false 0 0 38 [(.t 22), (.t 24)])⟩, ⟨(some 26), none, 0, (.not (.t 25))⟩]
def R7_11 : List AR := [⟨(some 2), none, 0, (.mov (.k (.bool false)))⟩]
def R7_12 : List AR := [⟨(some 2), none, 0, (.mov (.k (.bool true)))⟩]
def A7_0 : AC := (.seq (.reg 0 R7_12) .ret)
def A7_1 : AC := (.seq (.seq (.draw 0 R7_10) (.cond (.t 26) (.seq (.reg 0 R7_11) .ret) .skip)) A7_0)
def A7_2 : AC := (.seq (.seq (.reg 0 R7_8) (.cond (.t 21) (.seq (.reg 0 R7_9) .ret) .skip)) A7_1)
def A7_3 : AC := (.seq (.reg 0 R7_7) A7_2)
def A7_4 : AC := (.seq (.reg 1 R7_6) A7_3)
def A7_5 : AC := (.seq (.reg 0 R7_5) A7_4)
def A7_6 : AC := (.seq (.seq (.reg 0 R7_3) (.cond (.t 11) (.seq (.reg 0 R7_4) .ret) .skip)) A7_5)
def A7_7 : AC := (.seq (.reg 0 R7_2) A7_6)
def A7_8 : AC := (.seq (.reg 0 R7_1) A7_7)
def A7 : AC := (.seq (.reg 1 R7_0) A7_8)
def O7 : List AO := [(.mov (.t 2))]
def G7 : Fns := ⟨fun f => false, fun f => 0, false⟩
noncomputable def X7 : Cx := ⟨Try.prog, G7, drawD, 27, [0, 1, 2, 3, 4, 5, 6, 11, 21, 26]⟩
theorem c7 : (Try.f7.body).bind (compC X7.P X7.Γ X7.D X7.nt) = some A7 := by kernel_rfl
theorem o7 : compRes X7.P Try.f7.results.toList = some O7 := by kernel_rfl
theorem v7 : X7.vs = [0, 1, 2, 3, 4, 5, 6, 11, 21, 26] := rfl
theorem p7 : X7.P = Try.prog := rfl
theorem exactMsgSize_ok (a : Msg) (ha : a.ok) : FS Try.prog 7 [] [.agg a.c] (.bool true) [] := by
  refine FS.of (X := X7) (ac := A7) (os := O7) Try.func7 (by rfl) (by rfl) (by kernel_rfl) o7 (Nat.le_of_ble_eq_true rfl) ?_
  show AWP X7 A7 (Ends X7.vs O7 0 _ _) [.agg a.c, .tup [], .tup [], .tup [], .tup [], .tup [], .tup [], .tup [], .tup [], .tup []] []
  obtain ⟨Q, hQ⟩ : ∃ Q, Q = Ends X7.vs O7 0 (.bool true) [] := ⟨_, rfl⟩
  rw [← hQ]
  have fin : ∀ L σ v, resVs O7 (look X7.vs L) σ = some [v] → v = (.bool true) → Q .ret L σ := by
    intro L σ v h1 h2
    rw [hQ]
    exact Ends.is (.inl rfl) h1 (by simp only [packV, h2]) rfl
  refine awp_sr ?_
  simp only [go_sem, R7_0, v7, p7, Msg.c]
  refine awp_sr ?_
  simp only [go_sem, R7_1, v7, p7]
  refine awp_sr ?_
  simp only [go_sem, R7_2, v7, p7, Msg.c]
  refine run_see (szMsg_ok a 1048576 (Nat.le_refl _) ha) false (Views.refl rfl) rfl (fun j hj => by first | omega | ((have hj0 : j = 0 := by omega); subst hj0; first | rfl | (simp only [Nat.add_zero, app_get, app_getk, sapp_get, sapp_getk, Nat.add_assoc, Nat.reduceAdd, List.getElem?_cons_zero, List.getElem?_cons_succ]; done) | simp)) (fun h => by cases h) ?_
  simp only [go_sem, v7, p7]
  refine awp_sr2 ?_
  simp only [go_sem, R7_3, v7, p7]
  refine awp_if rfl ?_ ?_
  · intro h1
    refine awp_sr ?_
    simp only [go_sem, R7_4, v7, p7]
    refine awp_ret ?_
    try simp only [go_sem]
    exact fin _ _ _ rfl rfl
  intro h1
  obtain ⟨-, h⟩ := left_pos h1
  refine awp_skip ?_
  simp only [go_sem]
  refine awp_sr ?_
  simp only [go_sem, R7_5, v7, p7, Msg.c]
  refine run_see (toMsg_ok a h) false (Views.refl rfl) rfl (fun j hj => by first | omega | ((have hj0 : j = 0 := by omega); subst hj0; first | rfl | (simp only [Nat.add_zero, app_get, app_getk, sapp_get, sapp_getk, Nat.add_assoc, Nat.reduceAdd, List.getElem?_cons_zero, List.getElem?_cons_succ]; done) | simp)) (fun h => by cases h) ?_
  simp only [go_sem, v7, p7]
  refine run_see (specMsgSize_ok a  h) false (Views.refl rfl) rfl (fun j hj => by first | omega | ((have hj0 : j = 0 := by omega); subst hj0; first | rfl | (simp only [Nat.add_zero, app_get, app_getk, sapp_get, sapp_getk, Nat.add_assoc, Nat.reduceAdd, List.getElem?_cons_zero, List.getElem?_cons_succ]; done) | simp)) (fun h => by cases h) ?_
  simp only [go_sem, v7, p7]
  refine awp_sr ?_
  simp only [go_sem, R7_6, v7, p7, Msg.c]
  refine run_see (toMsg_ok a h) false (Views.refl rfl) rfl (fun j hj => by first | omega | ((have hj0 : j = 0 := by omega); subst hj0; first | rfl | (simp only [Nat.add_zero, app_get, app_getk, sapp_get, sapp_getk, Nat.add_assoc, Nat.reduceAdd, List.getElem?_cons_zero, List.getElem?_cons_succ]; done) | simp)) (fun h => by cases h) ?_
  simp only [go_sem, v7, p7, Msg.c]
  refine awp_sr ?_
  simp only [go_sem, R7_7, v7, p7, Msg.c]
  refine run_see (implMsgSize_ok a  h) false (Views.refl rfl) rfl (fun j hj => by first | omega | ((have hj0 : j = 0 := by omega); subst hj0; first | rfl | (simp only [Nat.add_zero, app_get, app_getk, sapp_get, sapp_getk, Nat.add_assoc, Nat.reduceAdd, List.getElem?_cons_zero, List.getElem?_cons_succ]; done) | simp)) (fun h => by cases h) ?_
  simp only [go_sem, v7, p7]
  refine awp_sr2 ?_
  simp only [go_sem, R7_8, v7, p7]
  refine awp_if rfl ?_ ?_
  · intro h3; exact absurd rfl h3
  intro h3
  refine awp_skip ?_
  simp only [go_sem]
  refine awp_sd2 mixed rfl (by rfl) ?_
  simp only [go_sem, R7_10, v7, p7, Msg.c]
  refine run_see (toMsg_ok a h) false (Views.refl rfl) rfl (fun j hj => by first | omega | ((have hj0 : j = 0 := by omega); subst hj0; first | rfl | (simp only [Nat.add_zero, app_get, app_getk, sapp_get, sapp_getk, Nat.add_assoc, Nat.reduceAdd, List.getElem?_cons_zero, List.getElem?_cons_succ]; done) | simp)) (fun h => by cases h) ?_
  simp only [go_sem, v7, p7, Msg.c]
  refine run_see (eqMsg_ok a a h) false (Views.refl rfl) rfl (fun j hj => by first | omega | ((have hj0 : j = 0 := by omega); subst hj0; first | rfl | (simp only [Nat.add_zero, app_get, app_getk, sapp_get, sapp_getk, Nat.add_assoc, Nat.reduceAdd, List.getElem?_cons_zero, List.getElem?_cons_succ]; done) | simp)) (fun h => by cases h) ?_
  simp only [go_sem, v7, p7]
  refine awp_no rfl ?_
  refine awp_skip ?_
  simp only [go_sem]
  refine awp_sr ?_
  simp only [go_sem, R7_12, v7, p7]
  refine awp_ret ?_
  try simp only [go_sem]
  exact fin _ _ _ rfl rfl
end Go.Proofs.Ytffigokicddekaa.Abs
