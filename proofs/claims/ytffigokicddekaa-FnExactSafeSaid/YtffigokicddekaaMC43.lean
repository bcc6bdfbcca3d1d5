/- Copies, sizes and equality, walked: Log, Sess, SessS, Rise, RiseS, IntSS, Node. No condition. -/
import Derived.Test.YtffigokicddekaaMC42
set_option linter.unusedVariables false
set_option linter.unusedSimpArgs false
set_option maxRecDepth 10000
namespace Go.Proofs.Ytffigokicddekaa.Abs
open Go Go.Proofs
def R81_0 : List AR := [⟨(some 1), none, 0, (.box 0 3 (.t 0))⟩, ⟨(some 2), none, 0, (.alloc 1 3 [(.int .i64 0), (.int .i64 0), .nl])⟩]
def R81_1 : List AR := [⟨(some 3), none, 0, (.alloc 0 3 [(.int .i64 0), (.int .i64 0), .nl])⟩]
def R81_2 : List AR := [⟨(some 4), none, 0, (.faddr 0 (.t 1))⟩, ⟨(some 5), none, 0, (.load 1 false (.t 4))⟩, ⟨(some 6), none, 0, (.faddr 0 (.t 3))⟩, ⟨none, none, 0, (.store 1 (.t 6) (.t 5))⟩]
def R81_3 : List AR := [⟨(some 7), none, 0, (.faddr 1 (.t 1))⟩, ⟨(some 8), none, 0, (.load 1 false (.t 7))⟩, ⟨(some 9), none, 0, (.faddr 1 (.t 3))⟩, ⟨none, none, 0, (.store 1 (.t 9) (.t 8))⟩]
def R81_4 : List AR := [⟨(some 10), none, 0, (.faddr 2 (.t 1))⟩, ⟨(some 11), none, 0, (.load 1 false (.t 10))⟩, ⟨(some 12), none, 0, (.call false 0 0 25 [(.t 11)])⟩, ⟨(some 13), none, 0, (.faddr 2 (.t 3))⟩, ⟨none, none, 0, (.store 1 (.t 13) (.t 12))⟩]
def R81_5 : List AR := [⟨(some 14), none, 0, (.load 3 true (.t 3))⟩, ⟨none, none, 0, (.store 3 (.t 2) (.t 14))⟩]
def A81_0 : AC := (.seq (.reg 0 R81_5) .ret)
def A81_1 : AC := (.seq (.reg 0 R81_4) A81_0)
def A81_2 : AC := (.seq (.reg 0 R81_3) A81_1)
def A81_3 : AC := (.seq (.reg 0 R81_2) A81_2)
def A81_4 : AC := (.seq (.reg 1 R81_1) A81_3)
def A81 : AC := (.seq (.reg 2 R81_0) A81_4)
def O81 : List AO := [(.load 3 true (.t 2))]
def G81 : Fns := ⟨fun f => false, fun f => 0, false⟩
noncomputable def X81 : Cx := ⟨Try.prog, G81, drawD, 15, [0, 1, 2, 3]⟩
theorem c81 : (Try.f81.body).bind (compC X81.P X81.Γ X81.D X81.nt) = some A81 := by kernel_rfl
theorem o81 : compRes X81.P Try.f81.results.toList = some O81 := by kernel_rfl
theorem v81 : X81.vs = [0, 1, 2, 3] := rfl
theorem p81 : X81.P = Try.prog := rfl
def R87_0 : List AR := [⟨(some 2), none, 0, (.box 0 3 (.t 0))⟩, ⟨(some 3), none, 0, (.box 1 3 (.t 1))⟩, ⟨(some 4), none, 0, (.mov (.k (.bool false)))⟩]
def R87_1 : List AR := [⟨(some 5), none, 0, (.faddr 0 (.t 2))⟩, ⟨(some 6), none, 0, (.load 1 false (.t 5))⟩, ⟨(some 7), none, 0, (.faddr 0 (.t 3))⟩, ⟨(some 8), none, 0, (.load 1 false (.t 7))⟩, ⟨(some 9), none, 0, (.bin .neq (.t 6) (.t 8))⟩]
def R87_2 : List AR := [⟨(some 4), none, 0, (.mov (.k (.bool false)))⟩]
def R87_3 : List AR := [⟨(some 10), none, 0, (.faddr 1 (.t 2))⟩, ⟨(some 11), none, 0, (.load 1 false (.t 10))⟩, ⟨(some 12), none, 0, (.faddr 1 (.t 3))⟩, ⟨(some 13), none, 0, (.load 1 false (.t 12))⟩, ⟨(some 14), none, 0, (.bin .neq (.t 11) (.t 13))⟩]
def R87_4 : List AR := [⟨(some 4), none, 0, (.mov (.k (.bool false)))⟩]
def R87_5 : List AR := [⟨(some 15), none, 0, (.faddr 2 (.t 2))⟩, ⟨(some 16), none, 0, (.load 1 false (.t 15))⟩, ⟨(some 17), none, 0, (.faddr 2 (.t 3))⟩, ⟨(some 18), none, 0, (.load 1 false (.t 17))⟩, ⟨(some 19), none, 0, (.call false 0 0 27 [(.t 16), (.t 18)])⟩, ⟨(some 20), none, 0, (.not (.t 19))⟩]
def R87_6 : List AR := [⟨(some 4), none, 0, (.mov (.k (.bool false)))⟩]
def R87_7 : List AR := [⟨(some 4), none, 0, (.mov (.k (.bool true)))⟩]
def A87_0 : AC := (.seq (.reg 0 R87_7) .ret)
def A87_1 : AC := (.seq (.seq (.reg 0 R87_5) (.cond (.t 20) (.seq (.reg 0 R87_6) .ret) .skip)) A87_0)
def A87_2 : AC := (.seq (.seq (.reg 0 R87_3) (.cond (.t 14) (.seq (.reg 0 R87_4) .ret) .skip)) A87_1)
def A87_3 : AC := (.seq (.seq (.reg 0 R87_1) (.cond (.t 9) (.seq (.reg 0 R87_2) .ret) .skip)) A87_2)
def A87 : AC := (.seq (.reg 2 R87_0) A87_3)
def O87 : List AO := [(.mov (.t 4))]
def G87 : Fns := ⟨fun f => false, fun f => 0, false⟩
noncomputable def X87 : Cx := ⟨Try.prog, G87, drawD, 21, [0, 1, 2, 3, 4, 9, 14, 20]⟩
theorem c87 : (Try.f87.body).bind (compC X87.P X87.Γ X87.D X87.nt) = some A87 := by kernel_rfl
theorem o87 : compRes X87.P Try.f87.results.toList = some O87 := by kernel_rfl
theorem v87 : X87.vs = [0, 1, 2, 3, 4, 9, 14, 20] := rfl
theorem p87 : X87.P = Try.prog := rfl
def R75_0 : List AR := [⟨(some 2), none, 0, (.box 0 3 (.t 0))⟩, ⟨(some 4), none, 0, (.mov (.k (.int .i64 0)))⟩]
def R75_1 : List AR := [⟨(some 5), none, 0, (.faddr 2 (.t 2))⟩, ⟨(some 6), none, 0, (.load 1 false (.t 5))⟩, ⟨(some 7), none, 0, (.mov (.t 1))⟩, ⟨(some 8), none, 0, (.call false 0 0 23 [(.t 6), (.t 7)])⟩, ⟨(some 1), none, 0, (.mov (.t 8))⟩]
def R75_2 : List AR := [⟨(some 9), none, 0, (.mov (.t 1))⟩, ⟨(some 10), none, 0, (.bin .lss (.t 9) (.k (.int .i64 0)))⟩]
def R75_3 : List AR := [⟨(some 4), none, 0, (.mov (.k (.int .i64 (-1))))⟩]
def R75_4 : List AR := [⟨(some 11), none, 0, (.mov (.t 1))⟩, ⟨(some 4), none, 0, (.mov (.t 11))⟩]
def A75_0 : AC := (.seq (.reg 0 R75_4) .ret)
def A75_1 : AC := (.seq (.seq (.reg 0 R75_2) (.cond (.t 10) (.seq (.reg 0 R75_3) .ret) .skip)) A75_0)
def A75_2 : AC := (.seq (.reg 0 R75_1) A75_1)
def A75 : AC := (.seq (.reg 1 R75_0) A75_2)
def O75 : List AO := [(.mov (.t 4))]
def G75 : Fns := ⟨fun f => false, fun f => 0, false⟩
noncomputable def X75 : Cx := ⟨Try.prog, G75, drawD, 12, [0, 1, 2, 4, 10]⟩
theorem c75 : (Try.f75.body).bind (compC X75.P X75.Γ X75.D X75.nt) = some A75 := by kernel_rfl
theorem o75 : compRes X75.P Try.f75.results.toList = some O75 := by kernel_rfl
theorem v75 : X75.vs = [0, 1, 2, 4, 10] := rfl
theorem p75 : X75.P = Try.prog := rfl
def R129_0 : List AR := [⟨(some 1), none, 0, (.box 0 4 (.t 0))⟩, ⟨(some 2), none, 0, (.alloc 1 4 [(.int .i64 0), (.int .i64 0), (.bool false), (.int .i64 0)])⟩]
def R129_1 : List AR := [⟨(some 3), none, 0, (.alloc 0 4 [(.int .i64 0), (.int .i64 0), (.bool false), (.int .i64 0)])⟩]
def R129_2 : List AR := [⟨(some 4), none, 0, (.faddr 0 (.t 1))⟩, ⟨(some 5), none, 0, (.load 1 false (.t 4))⟩, ⟨(some 6), none, 0, (.faddr 0 (.t 3))⟩, ⟨none, none, 0, (.store 1 (.t 6) (.t 5))⟩]
def R129_3 : List AR := [⟨(some 7), none, 0, (.faddr 1 (.t 1))⟩, ⟨(some 8), none, 0, (.load 1 false (.t 7))⟩, ⟨(some 9), none, 0, (.faddr 1 (.t 3))⟩, ⟨none, none, 0, (.store 1 (.t 9) (.t 8))⟩]
def R129_4 : List AR := [⟨(some 10), none, 0, (.faddr 2 (.t 1))⟩, ⟨(some 11), none, 0, (.load 1 false (.t 10))⟩, ⟨(some 12), none, 0, (.faddr 2 (.t 3))⟩, ⟨none, none, 0, (.store 1 (.t 12) (.t 11))⟩]
def R129_5 : List AR := [⟨(some 13), none, 0, (.faddr 3 (.t 1))⟩, ⟨(some 14), none, 0, (.load 1 false (.t 13))⟩, ⟨(some 15), none, 0, (.faddr 3 (.t 3))⟩, ⟨none, none, 0, (.store 1 (.t 15) (.t 14))⟩]
def R129_6 : List AR := [⟨(some 16), none, 0, (.load 4 true (.t 3))⟩, ⟨none, none, 0, (.store 4 (.t 2) (.t 16))⟩]
def A129_0 : AC := (.seq (.reg 0 R129_6) .ret)
def A129_1 : AC := (.seq (.reg 0 R129_5) A129_0)
def A129_2 : AC := (.seq (.reg 0 R129_4) A129_1)
def A129_3 : AC := (.seq (.reg 0 R129_3) A129_2)
def A129_4 : AC := (.seq (.reg 0 R129_2) A129_3)
def A129_5 : AC := (.seq (.reg 1 R129_1) A129_4)
def A129 : AC := (.seq (.reg 2 R129_0) A129_5)
def O129 : List AO := [(.load 4 true (.t 2))]
def G129 : Fns := ⟨fun f => false, fun f => 0, false⟩
noncomputable def X129 : Cx := ⟨Try.prog, G129, drawD, 17, [0, 1, 2, 3]⟩
theorem c129 : (Try.f129.body).bind (compC X129.P X129.Γ X129.D X129.nt) = some A129 := by kernel_rfl
theorem o129 : compRes X129.P Try.f129.results.toList = some O129 := by kernel_rfl
theorem v129 : X129.vs = [0, 1, 2, 3] := rfl
theorem p129 : X129.P = Try.prog := rfl
def R140_0 : List AR := [⟨(some 2), none, 0, (.box 0 4 (.t 0))⟩, ⟨(some 3), none, 0, (.box 1 4 (.t 1))⟩, ⟨(some 4), none, 0, (.mov (.k (.bool false)))⟩]
def R140_1 : List AR := [⟨(some 5), none, 0, (.faddr 0 (.t 2))⟩, ⟨(some 6), none, 0, (.load 1 false (.t 5))⟩, ⟨(some 7), none, 0, (.faddr 0 (.t 3))⟩, ⟨(some 8), none, 0, (.load 1 false (.t 7))⟩, ⟨(some 9), none, 0, (.bin .neq (.t 6) (.t 8))⟩]
def R140_2 : List AR := [⟨(some 4), none, 0, (.mov (.k (.bool false)))⟩]
def R140_3 : List AR := [⟨(some 10), none, 0, (.faddr 1 (.t 2))⟩, ⟨(some 11), none, 0, (.load 1 false (.t 10))⟩, ⟨(some 12), none, 0, (.faddr 1 (.t 3))⟩, ⟨(some 13), none, 0, (.load 1 false (.t 12))⟩, ⟨(some 14), none, 0, (.bin .neq (.t 11) (.t 13))⟩]
def R140_4 : List AR := [⟨(some 4), none, 0, (.mov (.k (.bool false)))⟩]
def R140_5 : List AR := [⟨(some 15), none, 0, (.faddr 2 (.t 2))⟩, ⟨(some 16), none, 0, (.load 1 false (.t 15))⟩, ⟨(some 17), none, 0, (.faddr 2 (.t 3))⟩, ⟨(some 18), none, 0, (.load 1 false (.t 17))⟩, ⟨(some 19), none, 0, (.beq true (.t 16) (.t 18))⟩]
def R140_6 : List AR := [⟨(some 4), none, 0, (.mov (.k (.bool false)))⟩]
def R140_7 : List AR := [⟨(some 20), none, 0, (.faddr 3 (.t 2))⟩, ⟨(some 21), none, 0, (.load 1 false (.t 20))⟩, ⟨(some 22), none, 0, (.faddr 3 (.t 3))⟩, ⟨(some 23), none, 0, (.load 1 false (.t 22))⟩, ⟨(some 24), none, 0, (.bin .neq (.t 21) (.t 23))⟩]
def R140_8 : List AR := [⟨(some 4), none, 0, (.mov (.k (.bool false)))⟩]
def R140_9 : List AR := [⟨(some 4), none, 0, (.mov (.k (.bool true)))⟩]
def A140_0 : AC := (.seq (.reg 0 R140_9) .ret)
def A140_1 : AC := (.seq (.seq (.reg 0 R140_7) (.cond (.t 24) (.seq (.reg 0 R140_8) .ret) .skip)) A140_0)
def A140_2 : AC := (.seq (.seq (.reg 0 R140_5) (.cond (.t 19) (.seq (.reg 0 R140_6) .ret) .skip)) A140_1)
def A140_3 : AC := (.seq (.seq (.reg 0 R140_3) (.cond (.t 14) (.seq (.reg 0 R140_4) .ret) .skip)) A140_2)
def A140_4 : AC := (.seq (.seq (.reg 0 R140_1) (.cond (.t 9) (.seq (.reg 0 R140_2) .ret) .skip)) A140_3)
def A140 : AC := (.seq (.reg 2 R140_0) A140_4)
def O140 : List AO := [(.mov (.t 4))]
def G140 : Fns := ⟨fun f => false, fun f => 0, false⟩
noncomputable def X140 : Cx := ⟨Try.prog, G140, drawD, 25, [0, 1, 2, 3, 4, 9, 14, 19, 24]⟩
theorem c140 : (Try.f140.body).bind (compC X140.P X140.Γ X140.D X140.nt) = some A140 := by kernel_rfl
theorem o140 : compRes X140.P Try.f140.results.toList = some O140 := by kernel_rfl
theorem v140 : X140.vs = [0, 1, 2, 3, 4, 9, 14, 19, 24] := rfl
theorem p140 : X140.P = Try.prog := rfl
def R83_0 : List AR := [⟨(some 2), none, 0, (.mov (.k .nl))⟩]
def R83_1 : List AR := [⟨(some 5), none, 0, (.mov (.t 0))⟩, ⟨(some 6), none, 0, (.len (.t 5))⟩, ⟨(some 7), none, 0, (.mks 0 4 32 [(.int .i64 0), (.int .i64 0), (.bool false), (.int .i64 0)] (.t 6) (.t 6))⟩, ⟨(some 3), none, 0, (.mov (.t 7))⟩]
def R83_2 : List AR := [⟨(some 4), none, 0, (.mov (.k (.int .i64 0)))⟩]
def R83_3 : List AR := [⟨(some 8), none, 0, (.mov (.t 4))⟩, ⟨(some 9), none, 0, (.mov (.t 0))⟩, ⟨(some 10), none, 0, (.len (.t 9))⟩, ⟨(some 11), none, 0, (.bin .lss (.t 8) (.t 10))⟩]
def R83_4 : List AR := [⟨(some 14), none, 0, (.mov (.t 3))⟩, ⟨(some 15), none, 0, (.mov (.t 4))⟩, ⟨(some 16), none, 0, (.mov (.t 0))⟩, ⟨(some 17), none, 0, (.mov (.t 4))⟩, ⟨(some 18), none, 0, (.iaddr 4 (.t 16) (.t 17))⟩, ⟨(some 19), none, 0, (.load 4 true (.t 18))⟩, ⟨(some 20), none, 0, (.call false 0 0 129 [(.t 19)])⟩, ⟨(some 21), none, 0, (.iaddr 4 (.t 14) (.t 15))⟩, ⟨none, none, 0, (.store 4 (.t 21) (.t 20))⟩]
def R83_5 : List AR := [⟨(some 12), none, 0, (.mov (.t 4))⟩, ⟨(some 13), none, 0, (.bin .add (.t 12) (.k (.int .i64 1)))⟩, ⟨(some 4), none, 0, (.mov (.t 13))⟩]
def A83_0 : AC := (.seq (.block 1 (.reg 0 R83_4)) (.reg 0 R83_5))
def L83_0 : AC := (.seq (.seq (.reg 0 R83_3) (.cond (.t 11) .skip (.exit 0))) A83_0)
def R83_6 : List AR := [⟨(some 22), none, 0, (.mov (.t 3))⟩, ⟨(some 2), none, 0, (.mov (.t 22))⟩]
def A83_1 : AC := (.seq (.reg 0 R83_6) .ret)
def A83_2 : AC := (.seq (.seq (.reg 0 R83_2) (.block 0 (.loop L83_0))) A83_1)
def A83_3 : AC := (.seq (.reg 1 R83_1) A83_2)
def A83 : AC := (.seq (.reg 0 R83_0) A83_3)
def O83 : List AO := [(.mov (.t 2))]
def G83 : Fns := ⟨fun f => false, fun f => 0, false⟩
noncomputable def X83 : Cx := ⟨Try.prog, G83, drawD, 23, [0, 2, 3, 4, 11]⟩
theorem c83 : (Try.f83.body).bind (compC X83.P X83.Γ X83.D X83.nt) = some A83 := by kernel_rfl
theorem o83 : compRes X83.P Try.f83.results.toList = some O83 := by kernel_rfl
theorem v83 : X83.vs = [0, 2, 3, 4, 11] := rfl
theorem p83 : X83.P = Try.prog := rfl
def R89_0 : List AR := [⟨(some 4), none, 0, (.mov (.k (.bool false)))⟩]
def R89_1 : List AR := [⟨(some 6), none, 0, (.mov (.t 0))⟩, ⟨(some 7), none, 0, (.len (.t 6))⟩, ⟨(some 8), none, 0, (.mov (.t 1))⟩, ⟨(some 9), none, 0, (.len (.t 8))⟩, ⟨(some 10), none, 0, (.bin .neq (.t 7) (.t 9))⟩]
def R89_2 : List AR := [⟨(some 4), none, 0, (.mov (.k (.bool false)))⟩]
def R89_3 : List AR := [⟨(some 5), none, 0, (.mov (.k (.int .i64 0)))⟩]
def R89_4 : List AR := [⟨(some 11), none, 0, (.mov (.t 5))⟩, ⟨(some 12), none, 0, (.mov (.t 0))⟩, ⟨(some 13), none, 0, (.len (.t 12))⟩, ⟨(some 14), none, 0, (.bin .lss (.t 11) (.t 13))⟩]
def R89_5 : List AR := [⟨(some 17), none, 0, (.mov (.t 0))⟩, ⟨(some 18), none, 0, (.mov (.t 5))⟩, ⟨(some 19), none, 0, (.iaddr 4 (.t 17) (.t 18))⟩, ⟨(some 20), none, 0, (.load 4 true (.t 19))⟩, ⟨(some 21), none, 0, (.mov (.t 1))⟩, ⟨(some 22), none, 0, (.mov (.t 5))⟩, ⟨(some 23), none, 0, (.iaddr 4 (.t 21) (.t 22))⟩, ⟨(some 24), none, 0, (.load 4 true (.t 23))⟩, ⟨(some 25), none, 0, (.call false 0 0 140 [(.t 20), (.t 24)])⟩, ⟨(some 26), none, 0, (.not (.t 25))⟩]
def R89_6 : List AR := [⟨(some 4), none, 0, (.mov (.k (.bool false)))⟩]
def R89_7 : List AR := [⟨(some 15), none, 0, (.mov (.t 5))⟩, ⟨(some 16), none, 0, (.bin .add (.t 15) (.k (.int .i64 1)))⟩, ⟨(some 5), none, 0, (.mov (.t 16))⟩]
def A89_0 : AC := (.seq (.block 1 (.seq (.draw 0 R89_5) (.cond (.t 26) (.seq (.reg 0 R89_6) .ret) .skip))) (.reg 0 R89_7))
def L89_0 : AC := (.seq (.seq (.reg 0 R89_4) (.cond (.t 14) .skip (.exit 0))) A89_0)
def R89_8 : List AR := [⟨(some 4), none, 0, (.mov (.k (.bool true)))⟩]
def A89_1 : AC := (.seq (.reg 0 R89_8) .ret)
def A89_2 : AC := (.seq (.seq (.reg 0 R89_3) (.block 0 (.loop L89_0))) A89_1)
def A89_3 : AC := (.seq (.seq (.reg 0 R89_1) (.cond (.t 10) (.seq (.reg 0 R89_2) .ret) .skip)) A89_2)
def A89 : AC := (.seq (.reg 0 R89_0) A89_3)
def O89 : List AO := [(.mov (.t 4))]
def G89 : Fns := ⟨fun f => false, fun f => 0, false⟩
noncomputable def X89 : Cx := ⟨Try.prog, G89, drawD, 27, [0, 1, 4, 5, 10, 14, 26]⟩
theorem c89 : (Try.f89.body).bind (compC X89.P X89.Γ X89.D X89.nt) = some A89 := by kernel_rfl
theorem o89 : compRes X89.P Try.f89.results.toList = some O89 := by kernel_rfl
theorem v89 : X89.vs = [0, 1, 4, 5, 10, 14, 26] := rfl
theorem p89 : X89.P = Try.prog := rfl
def R77_0 : List AR := [⟨(some 4), none, 0, (.mov (.k (.int .i64 0)))⟩]
def R77_1 : List AR := [⟨(some 5), none, 0, (.mov (.t 1))⟩, ⟨(some 6), none, 0, (.mov (.t 0))⟩, ⟨(some 7), none, 0, (.len (.t 6))⟩, ⟨(some 8), none, 0, (.bin .sub (.t 5) (.t 7))⟩, ⟨(some 1), none, 0, (.mov (.t 8))⟩]
def R77_2 : List AR := [⟨(some 9), none, 0, (.mov (.t 1))⟩, ⟨(some 10), none, 0, (.bin .lss (.t 9) (.k (.int .i64 0)))⟩]
def R77_3 : List AR := [⟨(some 4), none, 0, (.mov (.k (.int .i64 (-1))))⟩]
def R77_4 : List AR := [⟨(some 11), none, 0, (.mov (.t 1))⟩, ⟨(some 4), none, 0, (.mov (.t 11))⟩]
def A77_0 : AC := (.seq (.reg 0 R77_4) .ret)
def A77_1 : AC := (.seq (.seq (.reg 0 R77_2) (.cond (.t 10) (.seq (.reg 0 R77_3) .ret) .skip)) A77_0)
def A77_2 : AC := (.seq (.reg 0 R77_1) A77_1)
def A77 : AC := (.seq (.reg 0 R77_0) A77_2)
def O77 : List AO := [(.mov (.t 4))]
def G77 : Fns := ⟨fun f => false, fun f => 0, false⟩
noncomputable def X77 : Cx := ⟨Try.prog, G77, drawD, 12, [0, 1, 4, 10]⟩
theorem c77 : (Try.f77.body).bind (compC X77.P X77.Γ X77.D X77.nt) = some A77 := by kernel_rfl
theorem o77 : compRes X77.P Try.f77.results.toList = some O77 := by kernel_rfl
theorem v77 : X77.vs = [0, 1, 4, 10] := rfl
theorem p77 : X77.P = Try.prog := rfl
def R130_0 : List AR := [⟨(some 1), none, 0, (.box 0 3 (.t 0))⟩, ⟨(some 2), none, 0, (.alloc 1 3 [(.int .i64 0), (.int .i64 0), (.int .i64 0)])⟩]
def R130_1 : List AR := [⟨(some 3), none, 0, (.alloc 0 3 [(.int .i64 0), (.int .i64 0), (.int .i64 0)])⟩]
def R130_2 : List AR := [⟨(some 4), none, 0, (.faddr 0 (.t 1))⟩, ⟨(some 5), none, 0, (.load 1 false (.t 4))⟩, ⟨(some 6), none, 0, (.faddr 0 (.t 3))⟩, ⟨none, none, 0, (.store 1 (.t 6) (.t 5))⟩]
def R130_3 : List AR := [⟨(some 7), none, 0, (.faddr 1 (.t 1))⟩, ⟨(some 8), none, 0, (.load 1 false (.t 7))⟩, ⟨(some 9), none, 0, (.faddr 1 (.t 3))⟩, ⟨none, none, 0, (.store 1 (.t 9) (.t 8))⟩]
def R130_4 : List AR := [⟨(some 10), none, 0, (.faddr 2 (.t 1))⟩, ⟨(some 11), none, 0, (.load 1 false (.t 10))⟩, ⟨(some 12), none, 0, (.faddr 2 (.t 3))⟩, ⟨none, none, 0, (.store 1 (.t 12) (.t 11))⟩]
def R130_5 : List AR := [⟨(some 13), none, 0, (.load 3 true (.t 3))⟩, ⟨none, none, 0, (.store 3 (.t 2) (.t 13))⟩]
def A130_0 : AC := (.seq (.reg 0 R130_5) .ret)
def A130_1 : AC := (.seq (.reg 0 R130_4) A130_0)
def A130_2 : AC := (.seq (.reg 0 R130_3) A130_1)
def A130_3 : AC := (.seq (.reg 0 R130_2) A130_2)
def A130_4 : AC := (.seq (.reg 1 R130_1) A130_3)
def A130 : AC := (.seq (.reg 2 R130_0) A130_4)
def O130 : List AO := [(.load 3 true (.t 2))]
def G130 : Fns := ⟨fun f => false, fun f => 0, false⟩
noncomputable def X130 : Cx := ⟨Try.prog, G130, drawD, 14, [0, 1, 2, 3]⟩
theorem c130 : (Try.f130.body).bind (compC X130.P X130.Γ X130.D X130.nt) = some A130 := by kernel_rfl
theorem o130 : compRes X130.P Try.f130.results.toList = some O130 := by kernel_rfl
theorem v130 : X130.vs = [0, 1, 2, 3] := rfl
theorem p130 : X130.P = Try.prog := rfl
def R141_0 : List AR := [⟨(some 2), none, 0, (.box 0 3 (.t 0))⟩, ⟨(some 3), none, 0, (.box 1 3 (.t 1))⟩, ⟨(some 4), none, 0, (.mov (.k (.bool false)))⟩]
def R141_1 : List AR := [⟨(some 5), none, 0, (.faddr 0 (.t 2))⟩, ⟨(some 6), none, 0, (.load 1 false (.t 5))⟩, ⟨(some 7), none, 0, (.faddr 0 (.t 3))⟩, ⟨(some 8), none, 0, (.load 1 false (.t 7))⟩, ⟨(some 9), none, 0, (.bin .neq (.t 6) (.t 8))⟩]
def R141_2 : List AR := [⟨(some 4), none, 0, (.mov (.k (.bool false)))⟩]
def R141_3 : List AR := [⟨(some 10), none, 0, (.faddr 1 (.t 2))⟩, ⟨(some 11), none, 0, (.load 1 false (.t 10))⟩, ⟨(some 12), none, 0, (.faddr 1 (.t 3))⟩, ⟨(some 13), none, 0, (.load 1 false (.t 12))⟩, ⟨(some 14), none, 0, (.bin .neq (.t 11) (.t 13))⟩]
def R141_4 : List AR := [⟨(some 4), none, 0, (.mov (.k (.bool false)))⟩]
def R141_5 : List AR := [⟨(some 15), none, 0, (.faddr 2 (.t 2))⟩, ⟨(some 16), none, 0, (.load 1 false (.t 15))⟩, ⟨(some 17), none, 0, (.faddr 2 (.t 3))⟩, ⟨(some 18), none, 0, (.load 1 false (.t 17))⟩, ⟨(some 19), none, 0, (.bin .neq (.t 16) (.t 18))⟩]
def R141_6 : List AR := [⟨(some 4), none, 0, (.mov (.k (.bool false)))⟩]
def R141_7 : List AR := [⟨(some 4), none, 0, (.mov (.k (.bool true)))⟩]
def A141_0 : AC := (.seq (.reg 0 R141_7) .ret)
def A141_1 : AC := (.seq (.seq (.reg 0 R141_5) (.cond (.t 19) (.seq (.reg 0 R141_6) .ret) .skip)) A141_0)
def A141_2 : AC := (.seq (.seq (.reg 0 R141_3) (.cond (.t 14) (.seq (.reg 0 R141_4) .ret) .skip)) A141_1)
def A141_3 : AC := (.seq (.seq (.reg 0 R141_1) (.cond (.t 9) (.seq (.reg 0 R141_2) .ret) .skip)) A141_2)
def A141 : AC := (.seq (.reg 2 R141_0) A141_3)
def O141 : List AO := [(.mov (.t 4))]
def G141 : Fns := ⟨fun f => false, fun f => 0, false⟩
noncomputable def X141 : Cx := ⟨Try.prog, G141, drawD, 20, [0, 1, 2, 3, 4, 9, 14, 19]⟩
theorem c141 : (Try.f141.body).bind (compC X141.P X141.Γ X141.D X141.nt) = some A141 := by kernel_rfl
theorem o141 : compRes X141.P Try.f141.results.toList = some O141 := by kernel_rfl
theorem v141 : X141.vs = [0, 1, 2, 3, 4, 9, 14, 19] := rfl
theorem p141 : X141.P = Try.prog := rfl
def R84_0 : List AR := [⟨(some 2), none, 0, (.mov (.k .nl))⟩]
def R84_1 : List AR := [⟨(some 5), none, 0, (.mov (.t 0))⟩, ⟨(some 6), none, 0, (.len (.t 5))⟩, ⟨(some 7), none, 0, (.mks 0 3 24 [(.int .i64 0), (.int .i64 0), (.int .i64 0)] (.t 6) (.t 6))⟩, ⟨(some 3), none, 0, (.mov (.t 7))⟩]
def R84_2 : List AR := [⟨(some 4), none, 0, (.mov (.k (.int .i64 0)))⟩]
def R84_3 : List AR := [⟨(some 8), none, 0, (.mov (.t 4))⟩, ⟨(some 9), none, 0, (.mov (.t 0))⟩, ⟨(some 10), none, 0, (.len (.t 9))⟩, ⟨(some 11), none, 0, (.bin .lss (.t 8) (.t 10))⟩]
def R84_4 : List AR := [⟨(some 14), none, 0, (.mov (.t 3))⟩, ⟨(some 15), none, 0, (.mov (.t 4))⟩, ⟨(some 16), none, 0, (.mov (.t 0))⟩, ⟨(some 17), none, 0, (.mov (.t 4))⟩, ⟨(some 18), none, 0, (.iaddr 3 (.t 16) (.t 17))⟩, ⟨(some 19), none, 0, (.load 3 true (.t 18))⟩, ⟨(some 20), none, 0, (.call false 0 0 130 [(.t 19)])⟩, ⟨(some 21), none, 0, (.iaddr 3 (.t 14) (.t 15))⟩, ⟨none, none, 0, (.store 3 (.t 21) (.t 20))⟩]
def R84_5 : List AR := [⟨(some 12), none, 0, (.mov (.t 4))⟩, ⟨(some 13), none, 0, (.bin .add (.t 12) (.k (.int .i64 1)))⟩, ⟨(some 4), none, 0, (.mov (.t 13))⟩]
def A84_0 : AC := (.seq (.block 1 (.reg 0 R84_4)) (.reg 0 R84_5))
def L84_0 : AC := (.seq (.seq (.reg 0 R84_3) (.cond (.t 11) .skip (.exit 0))) A84_0)
def R84_6 : List AR := [⟨(some 22), none, 0, (.mov (.t 3))⟩, ⟨(some 2), none, 0, (.mov (.t 22))⟩]
def A84_1 : AC := (.seq (.reg 0 R84_6) .ret)
def A84_2 : AC := (.seq (.seq (.reg 0 R84_2) (.block 0 (.loop L84_0))) A84_1)
def A84_3 : AC := (.seq (.reg 1 R84_1) A84_2)
def A84 : AC := (.seq (.reg 0 R84_0) A84_3)
def O84 : List AO := [(.mov (.t 2))]
def G84 : Fns := ⟨fun f => false, fun f => 0, false⟩
noncomputable def X84 : Cx := ⟨Try.prog, G84, drawD, 23, [0, 2, 3, 4, 11]⟩
theorem c84 : (Try.f84.body).bind (compC X84.P X84.Γ X84.D X84.nt) = some A84 := by kernel_rfl
theorem o84 : compRes X84.P Try.f84.results.toList = some O84 := by kernel_rfl
theorem v84 : X84.vs = [0, 2, 3, 4, 11] := rfl
theorem p84 : X84.P = Try.prog := rfl
def R90_0 : List AR := [⟨(some 4), none, 0, (.mov (.k (.bool false)))⟩]
def R90_1 : List AR := [⟨(some 6), none, 0, (.mov (.t 0))⟩, ⟨(some 7), none, 0, (.len (.t 6))⟩, ⟨(some 8), none, 0, (.mov (.t 1))⟩, ⟨(some 9), none, 0, (.len (.t 8))⟩, ⟨(some 10), none, 0, (.bin .neq (.t 7) (.t 9))⟩]
def R90_2 : List AR := [⟨(some 4), none, 0, (.mov (.k (.bool false)))⟩]
def R90_3 : List AR := [⟨(some 5), none, 0, (.mov (.k (.int .i64 0)))⟩]
def R90_4 : List AR := [⟨(some 11), none, 0, (.mov (.t 5))⟩, ⟨(some 12), none, 0, (.mov (.t 0))⟩, ⟨(some 13), none, 0, (.len (.t 12))⟩, ⟨(some 14), none, 0, (.bin .lss (.t 11) (.t 13))⟩]
def R90_5 : List AR := [⟨(some 17), none, 0, (.mov (.t 0))⟩, ⟨(some 18), none, 0, (.mov (.t 5))⟩, ⟨(some 19), none, 0, (.iaddr 3 (.t 17) (.t 18))⟩, ⟨(some 20), none, 0, (.load 3 true (.t 19))⟩, ⟨(some 21), none, 0, (.mov (.t 1))⟩, ⟨(some 22), none, 0, (.mov (.t 5))⟩, ⟨(some 23), none, 0, (.iaddr 3 (.t 21) (.t 22))⟩, ⟨(some 24), none, 0, (.load 3 true (.t 23))⟩, ⟨(some 25), none, 0, (.call false 0 0 141 [(.t 20), (.t 24)])⟩, ⟨(some 26), none, 0, (.not (.t 25))⟩]
def R90_6 : List AR := [⟨(some 4), none, 0, (.mov (.k (.bool false)))⟩]
def R90_7 : List AR := [⟨(some 15), none, 0, (.mov (.t 5))⟩, ⟨(some 16), none, 0, (.bin .add (.t 15) (.k (.int .i64 1)))⟩, ⟨(some 5), none, 0, (.mov (.t 16))⟩]
def A90_0 : AC := (.seq (.block 1 (.seq (.draw 0 R90_5) (.cond (.t 26) (.seq (.reg 0 R90_6) .ret) .skip))) (.reg 0 R90_7))
def L90_0 : AC := (.seq (.seq (.reg 0 R90_4) (.cond (.t 14) .skip (.exit 0))) A90_0)
def R90_8 : List AR := [⟨(some 4), none, 0, (.mov (.k (.bool true)))⟩]
def A90_1 : AC := (.seq (.reg 0 R90_8) .ret)
def A90_2 : AC := (.seq (.seq (.reg 0 R90_3) (.block 0 (.loop L90_0))) A90_1)
def A90_3 : AC := (.seq (.seq (.reg 0 R90_1) (.cond (.t 10) (.seq (.reg 0 R90_2) .ret) .skip)) A90_2)
def A90 : AC := (.seq (.reg 0 R90_0) A90_3)
def O90 : List AO := [(.mov (.t 4))]
def G90 : Fns := ⟨fun f => false, fun f => 0, false⟩
noncomputable def X90 : Cx := ⟨Try.prog, G90, drawD, 27, [0, 1, 4, 5, 10, 14, 26]⟩
theorem c90 : (Try.f90.body).bind (compC X90.P X90.Γ X90.D X90.nt) = some A90 := by kernel_rfl
theorem o90 : compRes X90.P Try.f90.results.toList = some O90 := by kernel_rfl
theorem v90 : X90.vs = [0, 1, 4, 5, 10, 14, 26] := rfl
theorem p90 : X90.P = Try.prog := rfl
def R78_0 : List AR := [⟨(some 4), none, 0, (.mov (.k (.int .i64 0)))⟩]
def R78_1 : List AR := [⟨(some 5), none, 0, (.mov (.t 1))⟩, ⟨(some 6), none, 0, (.mov (.t 0))⟩, ⟨(some 7), none, 0, (.len (.t 6))⟩, ⟨(some 8), none, 0, (.bin .sub (.t 5) (.t 7))⟩, ⟨(some 1), none, 0, (.mov (.t 8))⟩]
def R78_2 : List AR := [⟨(some 9), none, 0, (.mov (.t 1))⟩, ⟨(some 10), none, 0, (.bin .lss (.t 9) (.k (.int .i64 0)))⟩]
def R78_3 : List AR := [⟨(some 4), none, 0, (.mov (.k (.int .i64 (-1))))⟩]
def R78_4 : List AR := [⟨(some 11), none, 0, (.mov (.t 1))⟩, ⟨(some 4), none, 0, (.mov (.t 11))⟩]
def A78_0 : AC := (.seq (.reg 0 R78_4) .ret)
def A78_1 : AC := (.seq (.seq (.reg 0 R78_2) (.cond (.t 10) (.seq (.reg 0 R78_3) .ret) .skip)) A78_0)
def A78_2 : AC := (.seq (.reg 0 R78_1) A78_1)
def A78 : AC := (.seq (.reg 0 R78_0) A78_2)
def O78 : List AO := [(.mov (.t 4))]
def G78 : Fns := ⟨fun f => false, fun f => 0, false⟩
noncomputable def X78 : Cx := ⟨Try.prog, G78, drawD, 12, [0, 1, 4, 10]⟩
theorem c78 : (Try.f78.body).bind (compC X78.P X78.Γ X78.D X78.nt) = some A78 := by kernel_rfl
theorem o78 : compRes X78.P Try.f78.results.toList = some O78 := by kernel_rfl
theorem v78 : X78.vs = [0, 1, 4, 10] := rfl
theorem p78 : X78.P = Try.prog := rfl
def R82_0 : List AR := [⟨(some 2), none, 0, (.mov (.k .nl))⟩]
def R82_1 : List AR := [⟨(some 5), none, 0, (.mov (.t 0))⟩, ⟨(some 6), none, 0, (.len (.t 5))⟩, ⟨(some 7), none, 0, (.mks 0 1 24 [.nl] (.t 6) (.t 6))⟩, ⟨(some 3), none, 0, (.mov (.t 7))⟩]
def R82_2 : List AR := [⟨(some 4), none, 0, (.mov (.k (.int .i64 0)))⟩]
def R82_3 : List AR := [⟨(some 8), none, 0, (.mov (.t 4))⟩, ⟨(some 9), none, 0, (.mov (.t 0))⟩, ⟨(some 10), none, 0, (.len (.t 9))⟩, ⟨(some 11), none, 0, (.bin .lss (.t 8) (.t 10))⟩]
def R82_4 : List AR := [⟨(some 14), none, 0, (.mov (.t 3))⟩, ⟨(some 15), none, 0, (.mov (.t 4))⟩, ⟨(some 16), none, 0, (.mov (.t 0))⟩, ⟨(some 17), none, 0, (.mov (.t 4))⟩, ⟨(some 18), none, 0, (.iaddr 1 (.t 16) (.t 17))⟩, ⟨(some 19), none, 0, (.load 1 false (.t 18))⟩, ⟨(some 20), none, 0, (.call false 0 0 11 [(.t 19)])⟩, ⟨(some 21), none, 0, (.iaddr 1 (.t 14) (.t 15))⟩, ⟨none, none, 0, (.store 1 (.t 21) (.t 20))⟩]
def R82_5 : List AR := [⟨(some 12), none, 0, (.mov (.t 4))⟩, ⟨(some 13), none, 0, (.bin .add (.t 12) (.k (.int .i64 1)))⟩, ⟨(some 4), none, 0, (.mov (.t 13))⟩]
def A82_0 : AC := (.seq (.block 1 (.reg 0 R82_4)) (.reg 0 R82_5))
def L82_0 : AC := (.seq (.seq (.reg 0 R82_3) (.cond (.t 11) .skip (.exit 0))) A82_0)
def R82_6 : List AR := [⟨(some 22), none, 0, (.mov (.t 3))⟩, ⟨(some 2), none, 0, (.mov (.t 22))⟩]
def A82_1 : AC := (.seq (.reg 0 R82_6) .ret)
def A82_2 : AC := (.seq (.seq (.reg 0 R82_2) (.block 0 (.loop L82_0))) A82_1)
def A82_3 : AC := (.seq (.reg 1 R82_1) A82_2)
def A82 : AC := (.seq (.reg 0 R82_0) A82_3)
def O82 : List AO := [(.mov (.t 2))]
def G82 : Fns := ⟨fun f => false, fun f => 0, false⟩
noncomputable def X82 : Cx := ⟨Try.prog, G82, drawD, 23, [0, 2, 3, 4, 11]⟩
theorem c82 : (Try.f82.body).bind (compC X82.P X82.Γ X82.D X82.nt) = some A82 := by kernel_rfl
theorem o82 : compRes X82.P Try.f82.results.toList = some O82 := by kernel_rfl
theorem v82 : X82.vs = [0, 2, 3, 4, 11] := rfl
theorem p82 : X82.P = Try.prog := rfl
def R88_0 : List AR := [⟨(some 4), none, 0, (.mov (.k (.bool false)))⟩]
def R88_1 : List AR := [⟨(some 6), none, 0, (.mov (.t 0))⟩, ⟨(some 7), none, 0, (.len (.t 6))⟩, ⟨(some 8), none, 0, (.mov (.t 1))⟩, ⟨(some 9), none, 0, (.len (.t 8))⟩, ⟨(some 10), none, 0, (.bin .neq (.t 7) (.t 9))⟩]
def R88_2 : List AR := [⟨(some 4), none, 0, (.mov (.k (.bool false)))⟩]
def R88_3 : List AR := [⟨(some 5), none, 0, (.mov (.k (.int .i64 0)))⟩]
def R88_4 : List AR := [⟨(some 11), none, 0, (.mov (.t 5))⟩, ⟨(some 12), none, 0, (.mov (.t 0))⟩, ⟨(some 13), none, 0, (.len (.t 12))⟩, ⟨(some 14), none, 0, (.bin .lss (.t 11) (.t 13))⟩]
def R88_5 : List AR := [⟨(some 17), none, 0, (.mov (.t 0))⟩, ⟨(some 18), none, 0, (.mov (.t 5))⟩, ⟨(some 19), none, 0, (.iaddr 1 (.t 17) (.t 18))⟩, ⟨(some 20), none, 0, (.load 1 false (.t 19))⟩, ⟨(some 21), none, 0, (.mov (.t 1))⟩, ⟨(some 22), none, 0, (.mov (.t 5))⟩, ⟨(some 23), none, 0, (.iaddr 1 (.t 21) (.t 22))⟩, ⟨(some 24), none, 0, (.load 1 false (.t 23))⟩, ⟨(some 25), none, 0, (.call false 0 0 13 [(.t 20), (.t 24)])⟩, ⟨(some 26), none, 0, (.not (.t 25))⟩]
def R88_6 : List AR := [⟨(some 4), none, 0, (.mov (.k (.bool false)))⟩]
def R88_7 : List AR := [⟨(some 15), none, 0, (.mov (.t 5))⟩, ⟨(some 16), none, 0, (.bin .add (.t 15) (.k (.int .i64 1)))⟩, ⟨(some 5), none, 0, (.mov (.t 16))⟩]
def A88_0 : AC := (.seq (.block 1 (.seq (.draw 0 R88_5) (.cond (.t 26) (.seq (.reg 0 R88_6) .ret) .skip))) (.reg 0 R88_7))
def L88_0 : AC := (.seq (.seq (.reg 0 R88_4) (.cond (.t 14) .skip (.exit 0))) A88_0)
def R88_8 : List AR := [⟨(some 4), none, 0, (.mov (.k (.bool true)))⟩]
def A88_1 : AC := (.seq (.reg 0 R88_8) .ret)
def A88_2 : AC := (.seq (.seq (.reg 0 R88_3) (.block 0 (.loop L88_0))) A88_1)
def A88_3 : AC := (.seq (.seq (.reg 0 R88_1) (.cond (.t 10) (.seq (.reg 0 R88_2) .ret) .skip)) A88_2)
def A88 : AC := (.seq (.reg 0 R88_0) A88_3)
def O88 : List AO := [(.mov (.t 4))]
def G88 : Fns := ⟨fun f => false, fun f => 0, false⟩
noncomputable def X88 : Cx := ⟨Try.prog, G88, drawD, 27, [0, 1, 4, 5, 10, 14, 26]⟩
theorem c88 : (Try.f88.body).bind (compC X88.P X88.Γ X88.D X88.nt) = some A88 := by kernel_rfl
theorem o88 : compRes X88.P Try.f88.results.toList = some O88 := by kernel_rfl
theorem v88 : X88.vs = [0, 1, 4, 5, 10, 14, 26] := rfl
theorem p88 : X88.P = Try.prog := rfl
def R76_0 : List AR := [⟨(some 4), none, 0, (.mov (.k (.int .i64 0)))⟩]
def R76_1 : List AR := [⟨(some 6), none, 0, (.mov (.t 1))⟩, ⟨(some 7), none, 0, (.mov (.t 0))⟩, ⟨(some 8), none, 0, (.len (.t 7))⟩, ⟨(some 9), none, 0, (.bin .sub (.t 6) (.t 8))⟩, ⟨(some 1), none, 0, (.mov (.t 9))⟩]
def R76_2 : List AR := [⟨(some 10), none, 0, (.mov (.t 1))⟩, ⟨(some 11), none, 0, (.bin .lss (.t 10) (.k (.int .i64 0)))⟩]
def R76_3 : List AR := [⟨(some 4), none, 0, (.mov (.k (.int .i64 (-1))))⟩]
def R76_4 : List AR := [⟨(some 5), none, 0, (.mov (.k (.int .i64 0)))⟩]
def R76_5 : List AR := [⟨(some 12), none, 0, (.mov (.t 5))⟩, ⟨(some 13), none, 0, (.mov (.t 0))⟩, ⟨(some 14), none, 0, (.len (.t 13))⟩, ⟨(some 15), none, 0, (.bin .lss (.t 12) (.t 14))⟩]
def R76_6 : List AR := [⟨(some 18), none, 0, (.mov (.t 0))⟩, ⟨(some 19), none, 0, (.mov (.t 5))⟩, ⟨(some 20), none, 0, (.iaddr 1 (.t 18) (.t 19))⟩, ⟨(some 21), none, 0, (.load 1 false (.t 20))⟩, ⟨(some 22), none, 0, (.mov (.t 1))⟩, ⟨(some 23), none, 0, (.call false 0 0 67 [(.t 21), (.t 22)])⟩, ⟨(some 1), none, 0, (.mov (.t 23))⟩]
def R76_7 : List AR := [⟨(some 24), none, 0, (.mov (.t 1))⟩, ⟨(some 25), none, 0, (.bin .lss (.t 24) (.k (.int .i64 0)))⟩]
def R76_8 : List AR := [⟨(some 4), none, 0, (.mov (.k (.int .i64 (-1))))⟩]
def A76_0 : AC := (.seq (.reg 0 R76_7) (.cond (.t 25) (.seq (.reg 0 R76_8) .ret) .skip))
def R76_9 : List AR := [⟨(some 16), none, 0, (.mov (.t 5))⟩, ⟨(some 17), none, 0, (.bin .add (.t 16) (.k (.int .i64 1)))⟩, ⟨(some 5), none, 0, (.mov (.t 17))⟩]
def A76_1 : AC := (.seq (.block 1 (.seq (.reg 0 R76_6) A76_0)) (.reg 0 R76_9))
def L76_0 : AC := (.seq (.seq (.reg 0 R76_5) (.cond (.t 15) .skip (.exit 0))) A76_1)
def R76_10 : List AR := [⟨(some 26), none, 0, (.mov (.t 1))⟩, ⟨(some 4), none, 0, (.mov (.t 26))⟩]
def A76_2 : AC := (.seq (.reg 0 R76_10) .ret)
def A76_3 : AC := (.seq (.seq (.reg 0 R76_4) (.block 0 (.loop L76_0))) A76_2)
def A76_4 : AC := (.seq (.seq (.reg 0 R76_2) (.cond (.t 11) (.seq (.reg 0 R76_3) .ret) .skip)) A76_3)
def A76_5 : AC := (.seq (.reg 0 R76_1) A76_4)
def A76 : AC := (.seq (.reg 0 R76_0) A76_5)
def O76 : List AO := [(.mov (.t 4))]
def G76 : Fns := ⟨fun f => false, fun f => 0, false⟩
noncomputable def X76 : Cx := ⟨Try.prog, G76, drawD, 27, [0, 1, 4, 5, 11, 15, 25]⟩
theorem c76 : (Try.f76.body).bind (compC X76.P X76.Γ X76.D X76.nt) = some A76 := by kernel_rfl
theorem o76 : compRes X76.P Try.f76.results.toList = some O76 := by kernel_rfl
theorem v76 : X76.vs = [0, 1, 4, 5, 11, 15, 25] := rfl
theorem p76 : X76.P = Try.prog := rfl
def R41_0 : List AR := [⟨(some 1), none, 0, (.box 0 19 (.t 0))⟩, ⟨(some 2), none, 0, (.alloc 1 19 [(.int .i64 0), (.int .i64 0), .nl, .nl, .nl, (.int .i64 0), (.int .i64 0), (.int .i64 0), .nl, .nl, .nl, .nl, (.int .i64 0), (.int .i64 0), .nl, (.int .i64 0), (.int .i64 0), (.int .i64 0), .nl])⟩]
def R41_1 : List AR := [⟨(some 3), none, 0, (.alloc 0 19 [(.int .i64 0), (.int .i64 0), .nl, .nl, .nl, (.int .i64 0), (.int .i64 0), (.int .i64 0), .nl, .nl, .nl, .nl, (.int .i64 0), (.int .i64 0), .nl, (.int .i64 0), (.int .i64 0), (.int .i64 0), .nl])⟩]
def R41_2 : List AR := [⟨(some 4), none, 0, (.faddr 0 (.t 1))⟩, ⟨(some 5), none, 0, (.load 1 false (.t 4))⟩, ⟨(some 6), none, 0, (.faddr 0 (.t 3))⟩, ⟨none, none, 0, (.store 1 (.t 6) (.t 5))⟩]
def R41_3 : List AR := [⟨(some 7), none, 0, (.faddr 1 (.t 1))⟩, ⟨(some 8), none, 0, (.load 1 false (.t 7))⟩, ⟨(some 9), none, 0, (.faddr 1 (.t 3))⟩, ⟨none, none, 0, (.store 1 (.t 9) (.t 8))⟩]
def R41_4 : List AR := [⟨(some 10), none, 0, (.faddr 2 (.t 1))⟩, ⟨(some 11), none, 0, (.load 2 true (.t 10))⟩, ⟨(some 12), none, 0, (.call false 0 0 57 [(.t 11)])⟩, ⟨(some 13), none, 0, (.faddr 2 (.t 3))⟩, ⟨none, none, 0, (.store 2 (.t 13) (.t 12))⟩]
def R41_5 : List AR := [⟨(some 14), none, 0, (.faddr 4 (.t 1))⟩, ⟨(some 15), none, 0, (.load 2 true (.t 14))⟩, ⟨(some 16), none, 0, (.call false 0 0 70 [(.t 15)])⟩, ⟨(some 17), none, 0, (.faddr 4 (.t 3))⟩, ⟨none, none, 0, (.store 2 (.t 17) (.t 16))⟩]
def R41_6 : List AR := [⟨(some 18), none, 0, (.faddr 6 (.t 1))⟩, ⟨(some 19), none, 0, (.load 3 true (.t 18))⟩, ⟨(some 20), none, 0, (.call false 0 0 81 [(.t 19)])⟩, ⟨(some 21), none, 0, (.faddr 6 (.t 3))⟩, ⟨none, none, 0, (.store 3 (.t 21) (.t 20))⟩]
def R41_7 : List AR := [⟨(some 22), none, 0, (.faddr 9 (.t 1))⟩, ⟨(some 23), none, 0, (.load 1 false (.t 22))⟩, ⟨(some 24), none, 0, (.call false 0 0 11 [(.t 23)])⟩, ⟨(some 25), none, 0, (.faddr 9 (.t 3))⟩, ⟨none, none, 0, (.store 1 (.t 25) (.t 24))⟩]
def R41_8 : List AR := [⟨(some 26), none, 0, (.faddr 10 (.t 1))⟩, ⟨(some 27), none, 0, (.load 1 false (.t 26))⟩, ⟨(some 28), none, 0, (.call false 0 0 11 [(.t 27)])⟩, ⟨(some 29), none, 0, (.faddr 10 (.t 3))⟩, ⟨none, none, 0, (.store 1 (.t 29) (.t 28))⟩]
def R41_9 : List AR := [⟨(some 30), none, 0, (.faddr 11 (.t 1))⟩, ⟨(some 31), none, 0, (.load 1 false (.t 30))⟩, ⟨(some 32), none, 0, (.call false 0 0 82 [(.t 31)])⟩, ⟨(some 33), none, 0, (.faddr 11 (.t 3))⟩, ⟨none, none, 0, (.store 1 (.t 33) (.t 32))⟩]
def R41_10 : List AR := [⟨(some 34), none, 0, (.faddr 12 (.t 1))⟩, ⟨(some 35), none, 0, (.load 1 false (.t 34))⟩, ⟨(some 36), none, 0, (.faddr 12 (.t 3))⟩, ⟨none, none, 0, (.store 1 (.t 36) (.t 35))⟩]
def R41_11 : List AR := [⟨(some 37), none, 0, (.faddr 13 (.t 1))⟩, ⟨(some 38), none, 0, (.load 1 false (.t 37))⟩, ⟨(some 39), none, 0, (.faddr 13 (.t 3))⟩, ⟨none, none, 0, (.store 1 (.t 39) (.t 38))⟩]
def R41_12 : List AR := [⟨(some 40), none, 0, (.faddr 14 (.t 1))⟩, ⟨(some 41), none, 0, (.load 1 false (.t 40))⟩, ⟨(some 42), none, 0, (.call false 0 0 83 [(.t 41)])⟩, ⟨(some 43), none, 0, (.faddr 14 (.t 3))⟩, ⟨none, none, 0, (.store 1 (.t 43) (.t 42))⟩]
def R41_13 : List AR := [⟨(some 44), none, 0, (.faddr 15 (.t 1))⟩, ⟨(some 45), none, 0, (.load 1 false (.t 44))⟩, ⟨(some 46), none, 0, (.faddr 15 (.t 3))⟩, ⟨none, none, 0, (.store 1 (.t 46) (.t 45))⟩]
def R41_14 : List AR := [⟨(some 47), none, 0, (.faddr 16 (.t 1))⟩, ⟨(some 48), none, 0, (.load 1 false (.t 47))⟩, ⟨(some 49), none, 0, (.faddr 16 (.t 3))⟩, ⟨none, none, 0, (.store 1 (.t 49) (.t 48))⟩]
def R41_15 : List AR := [⟨(some 50), none, 0, (.faddr 17 (.t 1))⟩, ⟨(some 51), none, 0, (.load 1 false (.t 50))⟩, ⟨(some 52), none, 0, (.faddr 17 (.t 3))⟩, ⟨none, none, 0, (.store 1 (.t 52) (.t 51))⟩]
def R41_16 : List AR := [⟨(some 53), none, 0, (.faddr 18 (.t 1))⟩, ⟨(some 54), none, 0, (.load 1 false (.t 53))⟩, ⟨(some 55), none, 0, (.call false 0 0 84 [(.t 54)])⟩, ⟨(some 56), none, 0, (.faddr 18 (.t 3))⟩, ⟨none, none, 0, (.store 1 (.t 56) (.t 55))⟩]
def R41_17 : List AR := [⟨(some 57), none, 0, (.load 19 true (.t 3))⟩, ⟨none, none, 0, (.store 19 (.t 2) (.t 57))⟩]
def A41_0 : AC := (.seq (.reg 0 R41_17) .ret)
def A41_1 : AC := (.seq (.reg 0 R41_16) A41_0)
def A41_2 : AC := (.seq (.reg 0 R41_15) A41_1)
def A41_3 : AC := (.seq (.reg 0 R41_14) A41_2)
def A41_4 : AC := (.seq (.reg 0 R41_13) A41_3)
def A41_5 : AC := (.seq (.reg 0 R41_12) A41_4)
def A41_6 : AC := (.seq (.reg 0 R41_11) A41_5)
def A41_7 : AC := (.seq (.reg 0 R41_10) A41_6)
def A41_8 : AC := (.seq (.reg 0 R41_9) A41_7)
def A41_9 : AC := (.seq (.reg 0 R41_8) A41_8)
def A41_10 : AC := (.seq (.reg 0 R41_7) A41_9)
def A41_11 : AC := (.seq (.reg 0 R41_6) A41_10)
def A41_12 : AC := (.seq (.reg 0 R41_5) A41_11)
def A41_13 : AC := (.seq (.reg 0 R41_4) A41_12)
def A41_14 : AC := (.seq (.reg 0 R41_3) A41_13)
def A41_15 : AC := (.seq (.reg 0 R41_2) A41_14)
def A41_16 : AC := (.seq (.reg 1 R41_1) A41_15)
def A41 : AC := (.seq (.reg 2 R41_0) A41_16)
def O41 : List AO := [(.load 19 true (.t 2))]
def G41 : Fns := ⟨fun f => false, fun f => 0, false⟩
noncomputable def X41 : Cx := ⟨Try.prog, G41, drawD, 58, [0, 1, 2, 3]⟩
theorem c41 : (Try.f41.body).bind (compC X41.P X41.Γ X41.D X41.nt) = some A41 := by kernel_rfl
theorem o41 : compRes X41.P Try.f41.results.toList = some O41 := by kernel_rfl
theorem v41 : X41.vs = [0, 1, 2, 3] := rfl
theorem p41 : X41.P = Try.prog := rfl
def R43_0 : List AR := [⟨(some 2), none, 0, (.box 0 19 (.t 0))⟩, ⟨(some 3), none, 0, (.box 1 19 (.t 1))⟩, ⟨(some 4), none, 0, (.mov (.k (.bool false)))⟩]
def R43_1 : List AR := [⟨(some 5), none, 0, (.faddr 0 (.t 2))⟩, ⟨(some 6), none, 0, (.load 1 false (.t 5))⟩, ⟨(some 7), none, 0, (.faddr 0 (.t 3))⟩, ⟨(some 8), none, 0, (.load 1 false (.t 7))⟩, ⟨(some 9), none, 0, (.bin .neq (.t 6) (.t 8))⟩]
def R43_2 : List AR := [⟨(some 4), none, 0, (.mov (.k (.bool false)))⟩]
def R43_3 : List AR := [⟨(some 10), none, 0, (.faddr 1 (.t 2))⟩, ⟨(some 11), none, 0, (.load 1 false (.t 10))⟩, ⟨(some 12), none, 0, (.faddr 1 (.t 3))⟩, ⟨(some 13), none, 0, (.load 1 false (.t 12))⟩, ⟨(some 14), none, 0, (.bin .neq (.t 11) (.t 13))⟩]
def R43_4 : List AR := [⟨(some 4), none, 0, (.mov (.k (.bool false)))⟩]
def R43_5 : List AR := [⟨(some 15), none, 0, (.faddr 2 (.t 2))⟩, ⟨(some 16), none, 0, (.load 2 true (.t 15))⟩, ⟨(some 17), none, 0, (.faddr 2 (.t 3))⟩, ⟨(some 18), none, 0, (.load 2 true (.t 17))⟩, ⟨(some 19), none, 0, (.call false 0 0 60 [(.t 16), (.t 18)])⟩, ⟨(some 20), none, 0, (.not (.t 19))⟩]
def R43_6 : List AR := [⟨(some 4), none, 0, (.mov (.k (.bool false)))⟩]
def R43_7 : List AR := [⟨(some 21), none, 0, (.faddr 4 (.t 2))⟩, ⟨(some 22), none, 0, (.load 2 true (.t 21))⟩, ⟨(some 23), none, 0, (.faddr 4 (.t 3))⟩, ⟨(some 24), none, 0, (.load 2 true (.t 23))⟩, ⟨(some 25), none, 0, (.call false 0 0 73 [(.t 22), (.t 24)])⟩, ⟨(some 26), none, 0, (.not (.t 25))⟩]
def R43_8 : List AR := [⟨(some 4), none, 0, (.mov (.k (.bool false)))⟩]
def R43_9 : List AR := [⟨(some 27), none, 0, (.faddr 6 (.t 2))⟩, ⟨(some 28), none, 0, (.load 3 true (.t 27))⟩, ⟨(some 29), none, 0, (.faddr 6 (.t 3))⟩, ⟨(some 30), none, 0, (.load 3 true (.t 29))⟩, ⟨(some 31), none, 0, (.call false 0 0 87 [(.t 28), (.t 30)])⟩, ⟨(some 32), none, 0, (.not (.t 31))⟩]
def R43_10 : List AR := [⟨(some 4), none, 0, (.mov (.k (.bool false)))⟩]
def R43_11 : List AR := [⟨(some 33), none, 0, (.faddr 9 (.t 2))⟩, ⟨(some 34), none, 0, (.load 1 false (.t 33))⟩, ⟨(some 35), none, 0, (.faddr 9 (.t 3))⟩, ⟨(some 36), none, 0, (.load 1 false (.t 35))⟩, ⟨(some 37), none, 0, (.call false 0 0 13 [(.t 34), (.t 36)])⟩, ⟨(some 38), none, 0, (.not (.t 37))⟩]
def R43_12 : List AR := [⟨(some 4), none, 0, (.mov (.k (.bool false)))⟩]
def R43_13 : List AR := [⟨(some 39), none, 0, (.faddr 10 (.t 2))⟩, ⟨(some 40), none, 0, (.load 1 false (.t 39))⟩, ⟨(some 41), none, 0, (.faddr 10 (.t 3))⟩, ⟨(some 42), none, 0, (.load 1 false (.t 41))⟩, ⟨(some 43), none, 0, (.call false 0 0 13 [(.t 40), (.t 42)])⟩, ⟨(some 44), none, 0, (.not (.t 43))⟩]
def R43_14 : List AR := [⟨(some 4), none, 0, (.mov (.k (.bool false)))⟩]
def R43_15 : List AR := [⟨(some 45), none, 0, (.faddr 11 (.t 2))⟩, ⟨(some 46), none, 0, (.load 1 false (.t 45))⟩, ⟨(some 47), none, 0, (.faddr 11 (.t 3))⟩, ⟨(some 48), none, 0, (.load 1 false (.t 47))⟩, ⟨(some 49), none, 0, (.call false 0 0 88 [(.t 46), (.t 48)])⟩, ⟨(some 50), none, 0, (.not (.t 49))⟩]
def R43_16 : List AR := [⟨(some 4), none, 0, (.mov (.k (.bool false)))⟩]
def R43_17 : List AR := [⟨(some 51), none, 0, (.faddr 12 (.t 2))⟩, ⟨(some 52), none, 0, (.load 1 false (.t 51))⟩, ⟨(some 53), none, 0, (.faddr 12 (.t 3))⟩, ⟨(some 54), none, 0, (.load 1 false (.t 53))⟩, ⟨(some 55), none, 0, (.bin .neq (.t 52) (.t 54))⟩]
def R43_18 : List AR := [⟨(some 4), none, 0, (.mov (.k (.bool false)))⟩]
def R43_19 : List AR := [⟨(some 56), none, 0, (.faddr 13 (.t 2))⟩, ⟨(some 57), none, 0, (.load 1 false (.t 56))⟩, ⟨(some 58), none, 0, (.faddr 13 (.t 3))⟩, ⟨(some 59), none, 0, (.load 1 false (.t 58))⟩, ⟨(some 60), none, 0, (.bin .neq (.t 57) (.t 59))⟩]
def R43_20 : List AR := [⟨(some 4), none, 0, (.mov (.k (.bool false)))⟩]
def R43_21 : List AR := [⟨(some 61), none, 0, (.faddr 14 (.t 2))⟩, ⟨(some 62), none, 0, (.load 1 false (.t 61))⟩, ⟨(some 63), none, 0, (.faddr 14 (.t 3))⟩, ⟨(some 64), none, 0, (.load 1 false (.t 63))⟩, ⟨(some 65), none, 0, (.call false 0 0 89 [(.t 62), (.t 64)])⟩, ⟨(some 66), none, 0, (.not (.t 65))⟩]
def R43_22 : List AR := [⟨(some 4), none, 0, (.mov (.k (.bool false)))⟩]
def R43_23 : List AR := [⟨(some 67), none, 0, (.faddr 15 (.t 2))⟩, ⟨(some 68), none, 0, (.load 1 false (.t 67))⟩, ⟨(some 69), none, 0, (.faddr 15 (.t 3))⟩, ⟨(some 70), none, 0, (.load 1 false (.t 69))⟩, ⟨(some 71), none, 0, (.bin .neq (.t 68) (.t 70))⟩]
def R43_24 : List AR := [⟨(some 4), none, 0, (.mov (.k (.bool false)))⟩]
def R43_25 : List AR := [⟨(some 72), none, 0, (.faddr 16 (.t 2))⟩, ⟨(some 73), none, 0, (.load 1 false (.t 72))⟩, ⟨(some 74), none, 0, (.faddr 16 (.t 3))⟩, ⟨(some 75), none, 0, (.load 1 false (.t 74))⟩, ⟨(some 76), none, 0, (.bin .neq (.t 73) (.t 75))⟩]
def R43_26 : List AR := [⟨(some 4), none, 0, (.mov (.k (.bool false)))⟩]
def R43_27 : List AR := [⟨(some 77), none, 0, (.faddr 17 (.t 2))⟩, ⟨(some 78), none, 0, (.load 1 false (.t 77))⟩, ⟨(some 79), none, 0, (.faddr 17 (.t 3))⟩, ⟨(some 80), none, 0, (.load 1 false (.t 79))⟩, ⟨(some 81), none, 0, (.bin .neq (.t 78) (.t 80))⟩]
def R43_28 : List AR := [⟨(some 4), none, 0, (.mov (.k (.bool false)))⟩]
def R43_29 : List AR := [⟨(some 82), none, 0, (.faddr 18 (.t 2))⟩, ⟨(some 83), none, 0, (.load 1 false (.t 82))⟩, ⟨(some 84), none, 0, (.faddr 18 (.t 3))⟩, ⟨(some 85), none, 0, (.load 1 false (.t 84))⟩, ⟨(some 86), none, 0, (.call false 0 0 90 [(.t 83), (.t 85)])⟩, ⟨(some 87), none, 0, (.not (.t 86))⟩]
def R43_30 : List AR := [⟨(some 4), none, 0, (.mov (.k (.bool false)))⟩]
def R43_31 : List AR := [⟨(some 4), none, 0, (.mov (.k (.bool true)))⟩]
def A43_0 : AC := (.seq (.reg 0 R43_31) .ret)
def A43_1 : AC := (.seq (.seq (.reg 0 R43_29) (.cond (.t 87) (.seq (.reg 0 R43_30) .ret) .skip)) A43_0)
def A43_2 : AC := (.seq (.seq (.reg 0 R43_27) (.cond (.t 81) (.seq (.reg 0 R43_28) .ret) .skip)) A43_1)
def A43_3 : AC := (.seq (.seq (.reg 0 R43_25) (.cond (.t 76) (.seq (.reg 0 R43_26) .ret) .skip)) A43_2)
def A43_4 : AC := (.seq (.seq (.reg 0 R43_23) (.cond (.t 71) (.seq (.reg 0 R43_24) .ret) .skip)) A43_3)
def A43_5 : AC := (.seq (.seq (.reg 0 R43_21) (.cond (.t 66) (.seq (.reg 0 R43_22) .ret) .skip)) A43_4)
def A43_6 : AC := (.seq (.seq (.reg 0 R43_19) (.cond (.t 60) (.seq (.reg 0 R43_20) .ret) .skip)) A43_5)
def A43_7 : AC := (.seq (.seq (.reg 0 R43_17) (.cond (.t 55) (.seq (.reg 0 R43_18) .ret) .skip)) A43_6)
def A43_8 : AC := (.seq (.seq (.reg 0 R43_15) (.cond (.t 50) (.seq (.reg 0 R43_16) .ret) .skip)) A43_7)
def A43_9 : AC := (.seq (.seq (.reg 0 R43_13) (.cond (.t 44) (.seq (.reg 0 R43_14) .ret) .skip)) A43_8)
def A43_10 : AC := (.seq (.seq (.reg 0 R43_11) (.cond (.t 38) (.seq (.reg 0 R43_12) .ret) .skip)) A43_9)
def A43_11 : AC := (.seq (.seq (.reg 0 R43_9) (.cond (.t 32) (.seq (.reg 0 R43_10) .ret) .skip)) A43_10)
def A43_12 : AC := (.seq (.seq (.reg 0 R43_7) (.cond (.t 26) (.seq (.reg 0 R43_8) .ret) .skip)) A43_11)
def A43_13 : AC := (.seq (.seq (.reg 0 R43_5) (.cond (.t 20) (.seq (.reg 0 R43_6) .ret) .skip)) A43_12)
def A43_14 : AC := (.seq (.seq (.reg 0 R43_3) (.cond (.t 14) (.seq (.reg 0 R43_4) .ret) .skip)) A43_13)
def A43_15 : AC := (.seq (.seq (.reg 0 R43_1) (.cond (.t 9) (.seq (.reg 0 R43_2) .ret) .skip)) A43_14)
def A43 : AC := (.seq (.reg 2 R43_0) A43_15)
def O43 : List AO := [(.mov (.t 4))]
def G43 : Fns := ⟨fun f => false, fun f => 0, false⟩
noncomputable def X43 : Cx := ⟨Try.prog, G43, drawD, 88, [0, 1, 2, 3, 4, 9, 14, 20, 26, 32, 38, 44, 50, 55, 60, 66, 71, 76, 81, 87]⟩
theorem c43 : (Try.f43.body).bind (compC X43.P X43.Γ X43.D X43.nt) = some A43 := by kernel_rfl
theorem o43 : compRes X43.P Try.f43.results.toList = some O43 := by kernel_rfl
theorem v43 : X43.vs = [0, 1, 2, 3, 4, 9, 14, 20, 26, 32, 38, 44, 50, 55, 60, 66, 71, 76, 81, 87] := rfl
theorem p43 : X43.P = Try.prog := rfl
def R39_0 : List AR := [⟨(some 2), none, 0, (.box 0 19 (.t 0))⟩, ⟨(some 4), none, 0, (.mov (.k (.int .i64 0)))⟩]
def R39_1 : List AR := [⟨(some 5), none, 0, (.faddr 2 (.t 2))⟩, ⟨(some 6), none, 0, (.load 2 true (.t 5))⟩, ⟨(some 7), none, 0, (.mov (.t 1))⟩, ⟨(some 8), none, 0, (.call false 0 0 53 [(.t 6), (.t 7)])⟩, ⟨(some 1), none, 0, (.mov (.t 8))⟩]
def R39_2 : List AR := [⟨(some 9), none, 0, (.mov (.t 1))⟩, ⟨(some 10), none, 0, (.bin .lss (.t 9) (.k (.int .i64 0)))⟩]
def R39_3 : List AR := [⟨(some 4), none, 0, (.mov (.k (.int .i64 (-1))))⟩]
def R39_4 : List AR := [⟨(some 11), none, 0, (.faddr 4 (.t 2))⟩, ⟨(some 12), none, 0, (.load 2 true (.t 11))⟩, ⟨(some 13), none, 0, (.mov (.t 1))⟩, ⟨(some 14), none, 0, (.call false 0 0 66 [(.t 12), (.t 13)])⟩, ⟨(some 1), none, 0, (.mov (.t 14))⟩]
def R39_5 : List AR := [⟨(some 15), none, 0, (.mov (.t 1))⟩, ⟨(some 16), none, 0, (.bin .lss (.t 15) (.k (.int .i64 0)))⟩]
def R39_6 : List AR := [⟨(some 4), none, 0, (.mov (.k (.int .i64 (-1))))⟩]
def R39_7 : List AR := [⟨(some 17), none, 0, (.faddr 6 (.t 2))⟩, ⟨(some 18), none, 0, (.load 3 true (.t 17))⟩, ⟨(some 19), none, 0, (.mov (.t 1))⟩, ⟨(some 20), none, 0, (.call false 0 0 75 [(.t 18), (.t 19)])⟩, ⟨(some 1), none, 0, (.mov (.t 20))⟩]
def R39_8 : List AR := [⟨(some 21), none, 0, (.mov (.t 1))⟩, ⟨(some 22), none, 0, (.bin .lss (.t 21) (.k (.int .i64 0)))⟩]
def R39_9 : List AR := [⟨(some 4), none, 0, (.mov (.k (.int .i64 (-1))))⟩]
def R39_10 : List AR := [⟨(some 23), none, 0, (.faddr 9 (.t 2))⟩, ⟨(some 24), none, 0, (.load 1 false (.t 23))⟩, ⟨(some 25), none, 0, (.mov (.t 1))⟩, ⟨(some 26), none, 0, (.call false 0 0 67 [(.t 24), (.t 25)])⟩, ⟨(some 1), none, 0, (.mov (.t 26))⟩]
def R39_11 : List AR := [⟨(some 27), none, 0, (.mov (.t 1))⟩, ⟨(some 28), none, 0, (.bin .lss (.t 27) (.k (.int .i64 0)))⟩]
def R39_12 : List AR := [⟨(some 4), none, 0, (.mov (.k (.int .i64 (-1))))⟩]
def R39_13 : List AR := [⟨(some 29), none, 0, (.faddr 10 (.t 2))⟩, ⟨(some 30), none, 0, (.load 1 false (.t 29))⟩, ⟨(some 31), none, 0, (.mov (.t 1))⟩, ⟨(some 32), none, 0, (.call false 0 0 67 [(.t 30), (.t 31)])⟩, ⟨(some 1), none, 0, (.mov (.t 32))⟩]
def R39_14 : List AR := [⟨(some 33), none, 0, (.mov (.t 1))⟩, ⟨(some 34), none, 0, (.bin .lss (.t 33) (.k (.int .i64 0)))⟩]
def R39_15 : List AR := [⟨(some 4), none, 0, (.mov (.k (.int .i64 (-1))))⟩]
def R39_16 : List AR := [⟨(some 35), none, 0, (.faddr 11 (.t 2))⟩, ⟨(some 36), none, 0, (.load 1 false (.t 35))⟩, ⟨(some 37), none, 0, (.mov (.t 1))⟩, ⟨(some 38), none, 0, (.call false 0 0 76 [(.t 36), (.t 37)])⟩, ⟨(some 1), none, 0, (.mov (.t 38))⟩]
def R39_17 : List AR := [⟨(some 39), none, 0, (.mov (.t 1))⟩, ⟨(some 40), none, 0, (.bin .lss (.t 39) (.k (.int .i64 0)))⟩]
def R39_18 : List AR := [⟨(some 4), none, 0, (.mov (.k (.int .i64 (-1))))⟩]
def R39_19 : List AR := [⟨(some 41), none, 0, (.faddr 14 (.t 2))⟩, ⟨(some 42), none, 0, (.load 1 false (.t 41))⟩, ⟨(some 43), none, 0, (.mov (.t 1))⟩, ⟨(some 44), none, 0, (.call false 0 0 77 [(.t 42), (.t 43)])⟩, ⟨(some 1), none, 0, (.mov (.t 44))⟩]
def R39_20 : List AR := [⟨(some 45), none, 0, (.mov (.t 1))⟩, ⟨(some 46), none, 0, (.bin .lss (.t 45) (.k (.int .i64 0)))⟩]
def R39_21 : List AR := [⟨(some 4), none, 0, (.mov (.k (.int .i64 (-1))))⟩]
def R39_22 : List AR := [⟨(some 47), none, 0, (.faddr 18 (.t 2))⟩, ⟨(some 48), none, 0, (.load 1 false (.t 47))⟩, ⟨(some 49), none, 0, (.mov (.t 1))⟩, ⟨(some 50), none, 0, (.call false 0 0 78 [(.t 48), (.t 49)])⟩, ⟨(some 1), none, 0, (.mov (.t 50))⟩]
def R39_23 : List AR := [⟨(some 51), none, 0, (.mov (.t 1))⟩, ⟨(some 52), none, 0, (.bin .lss (.t 51) (.k (.int .i64 0)))⟩]
def R39_24 : List AR := [⟨(some 4), none, 0, (.mov (.k (.int .i64 (-1))))⟩]
def R39_25 : List AR := [⟨(some 53), none, 0, (.mov (.t 1))⟩, ⟨(some 4), none, 0, (.mov (.t 53))⟩]
def A39_0 : AC := (.seq (.reg 0 R39_25) .ret)
def A39_1 : AC := (.seq (.seq (.reg 0 R39_23) (.cond (.t 52) (.seq (.reg 0 R39_24) .ret) .skip)) A39_0)
def A39_2 : AC := (.seq (.reg 0 R39_22) A39_1)
def A39_3 : AC := (.seq (.seq (.reg 0 R39_20) (.cond (.t 46) (.seq (.reg 0 R39_21) .ret) .skip)) A39_2)
def A39_4 : AC := (.seq (.reg 0 R39_19) A39_3)
def A39_5 : AC := (.seq (.seq (.reg 0 R39_17) (.cond (.t 40) (.seq (.reg 0 R39_18) .ret) .skip)) A39_4)
def A39_6 : AC := (.seq (.reg 0 R39_16) A39_5)
def A39_7 : AC := (.seq (.seq (.reg 0 R39_14) (.cond (.t 34) (.seq (.reg 0 R39_15) .ret) .skip)) A39_6)
def A39_8 : AC := (.seq (.reg 0 R39_13) A39_7)
def A39_9 : AC := (.seq (.seq (.reg 0 R39_11) (.cond (.t 28) (.seq (.reg 0 R39_12) .ret) .skip)) A39_8)
def A39_10 : AC := (.seq (.reg 0 R39_10) A39_9)
def A39_11 : AC := (.seq (.seq (.reg 0 R39_8) (.cond (.t 22) (.seq (.reg 0 R39_9) .ret) .skip)) A39_10)
def A39_12 : AC := (.seq (.reg 0 R39_7) A39_11)
def A39_13 : AC := (.seq (.seq (.reg 0 R39_5) (.cond (.t 16) (.seq (.reg 0 R39_6) .ret) .skip)) A39_12)
def A39_14 : AC := (.seq (.reg 0 R39_4) A39_13)
def A39_15 : AC := (.seq (.seq (.reg 0 R39_2) (.cond (.t 10) (.seq (.reg 0 R39_3) .ret) .skip)) A39_14)
def A39_16 : AC := (.seq (.reg 0 R39_1) A39_15)
def A39 : AC := (.seq (.reg 1 R39_0) A39_16)
def O39 : List AO := [(.mov (.t 4))]
def G39 : Fns := ⟨fun f => false, fun f => 0, false⟩
noncomputable def X39 : Cx := ⟨Try.prog, G39, drawD, 54, [0, 1, 2, 4, 10, 16, 22, 28, 34, 40, 46, 52]⟩
theorem c39 : (Try.f39.body).bind (compC X39.P X39.Γ X39.D X39.nt) = some A39 := by kernel_rfl
theorem o39 : compRes X39.P Try.f39.results.toList = some O39 := by kernel_rfl
theorem v39 : X39.vs = [0, 1, 2, 4, 10, 16, 22, 28, 34, 40, 46, 52] := rfl
theorem p39 : X39.P = Try.prog := rfl
theorem toLog_ok (a : Log) (h : a.sz ≤ 1048576) : FS Try.prog 81 [] [.agg a.c] (.agg a.c) [] := by
  have hl : szS State.sz a.list ≤ 1048576 := h
  have hs_list := szS_len State.sz a.list
  refine FS.of (X := X81) (ac := A81) (os := O81) Try.func81 (by rfl) (by rfl) (by kernel_rfl) o81 (Nat.le_of_ble_eq_true rfl) ?_
  show AWP X81 A81 (Ends X81.vs O81 0 _ _) [.agg a.c, .tup [], .tup [], .tup []] []
  obtain ⟨Q, hQ⟩ : ∃ Q, Q = Ends X81.vs O81 0 (.agg a.c) [] := ⟨_, rfl⟩
  rw [← hQ]
  refine awp_sr ?_
  simp only [go_sem, R81_0, v81, p81, Log.c]
  refine awp_sr ?_
  simp only [go_sem, R81_1, v81, p81]
  refine awp_sr ?_
  simp only [go_sem, R81_2, v81, p81]
  refine awp_sr ?_
  simp only [go_sem, R81_3, v81, p81]
  refine awp_sr ?_
  simp only [go_sem, R81_4, v81, p81]
  refine run_see (toStateS_ok a.list (by omega)) false (Views.refl rfl) rfl (fun j hj => by omega) (fun h => by cases h) ?_
  simp only [go_sem, v81, p81]
  refine awp_sr ?_
  simp only [go_sem, R81_5, v81, p81]
  refine awp_ret ?_
  try simp only [go_sem]
  rw [hQ]
  exact Ends.plain (.inl rfl) rfl (.refl _) rfl
theorem eqLog_ok (a b : Log) (h : a.sz ≤ 1048576) : FS Try.prog 87 [] [.agg a.c, .agg b.c] (.bool (decide (a = b))) [] := by
  have hl : szS State.sz a.list ≤ 1048576 := h
  have hs_list := szS_len State.sz a.list
  refine FS.of (X := X87) (ac := A87) (os := O87) Try.func87 (by rfl) (by rfl) (by kernel_rfl) o87 (Nat.le_of_ble_eq_true rfl) ?_
  show AWP X87 A87 (Ends X87.vs O87 0 _ _) [.agg a.c, .agg b.c, .tup [], .tup [], .tup [], .tup [], .tup [], .tup []] []
  obtain ⟨Q, hQ⟩ : ∃ Q, Q = Ends X87.vs O87 0 (.bool (decide (a = b))) [] := ⟨_, rfl⟩
  rw [← hQ]
  have fin : ∀ L σ q, look X87.vs L 4 = .bool q → q = decide (a = b) → Q .ret L σ := by
    intro L σ q h1 h2
    rw [hQ]
    refine Ends.is (.inl rfl) (rs := [.bool q]) (by simp only [go_sem, O87, h1]) ?_ rfl
    simp [packV, h2]
  refine awp_sr ?_
  simp only [go_sem, R87_0, v87, p87, Log.c]
  refine awp_sr2 ?_
  simp only [go_sem, R87_1, v87, p87]
  refine awp_if rfl ?_ ?_
  · intro h
    refine awp_sr ?_
    simp only [go_sem, R87_2, v87, p87]
    refine awp_ret ?_
    try simp only [go_sem]
    exact fin _ _ _ rfl (decide_eq_false fun e => h (by rw [e])).symm
  intro h0
  refine awp_skip ?_
  simp only [go_sem]
  refine awp_sr2 ?_
  simp only [go_sem, R87_3, v87, p87]
  refine awp_if rfl ?_ ?_
  · intro h
    refine awp_sr ?_
    simp only [go_sem, R87_4, v87, p87]
    refine awp_ret ?_
    try simp only [go_sem]
    exact fin _ _ _ rfl (decide_eq_false fun e => h (by rw [e])).symm
  intro h1
  refine awp_skip ?_
  simp only [go_sem]
  refine awp_sr2 ?_
  simp only [go_sem, R87_5, v87, p87]
  refine run_see (eqStateS_ok a.list b.list (by omega) (by omega)) false (Views.refl rfl) rfl (fun j hj => by omega) (fun h => by cases h) ?_
  simp only [go_sem, v87, p87]
  refine awp_if' rfl ?_ ?_
  · intro h
    refine awp_sr ?_
    simp only [go_sem, R87_6, v87, p87]
    refine awp_ret ?_
    try simp only [go_sem]
    exact fin _ _ _ rfl (decide_eq_false fun e => h (by rw [e])).symm
  intro h2
  refine awp_skip ?_
  simp only [go_sem]
  refine awp_sr ?_
  simp only [go_sem, R87_7, v87, p87]
  refine awp_ret ?_
  try simp only [go_sem]
  refine fin _ _ _ rfl (decide_eq_true ?_).symm
  cases a; cases b
  simp at h0 h1 h2
  simp [h0, h1, h2]
theorem szLog_ok (a : Log) (n : Nat) (hn : n ≤ 1048576) (ha : a.ok) : FS Try.prog 75 [] [.agg a.c, .int .i64 n] (.int .i64 (left n a.sz)) [] := by
  refine FS.of (X := X75) (ac := A75) (os := O75) Try.func75 (by rfl) (by rfl) (by kernel_rfl) o75 (Nat.le_of_ble_eq_true rfl) ?_
  show AWP X75 A75 (Ends X75.vs O75 0 _ _) [.agg a.c, .int .i64 n, .tup [], .tup [], .tup []] []
  obtain ⟨Q, hQ⟩ : ∃ Q, Q = Ends X75.vs O75 0 (.int .i64 (left n a.sz)) [] := ⟨_, rfl⟩
  rw [← hQ]
  have p0 := ha
  have tot : a.sz = szS State.sz a.list := rfl
  refine awp_sr ?_
  simp only [go_sem, R75_0, v75, p75, Log.c]
  refine awp_sr ?_
  simp only [go_sem, R75_1, v75, p75]
  refine run_see (szStateS_ok a.list n (by omega) p0) false (Views.refl rfl) rfl (fun j hj => by omega) (fun h => by cases h) ?_
  simp only [go_sem, v75, p75]
  refine awp_sr2 ?_
  simp only [go_sem, R75_2, v75, p75]
  refine awp_if rfl ?_ ?_
  · intro h
    refine awp_sr ?_
    simp only [go_sem, R75_3, v75, p75]
    refine awp_ret ?_
    try simp only [go_sem]
    rw [hQ]
    refine Ends.is (.inl rfl) rfl (congrArg (V.int .i64) (left_no ?_).symm) rfl
    have : ¬ szS State.sz a.list ≤ n := fun e => by rw [left_is e] at h; omega
    omega
  intro h0
  obtain ⟨e0, g0⟩ := left_pos h0
  rw [e0]
  refine awp_skip ?_
  simp only [go_sem]
  refine awp_sr ?_
  simp only [go_sem, R75_4, v75, p75]
  refine awp_ret ?_
  try simp only [go_sem]
  rw [hQ]
  refine Ends.is (.inl rfl) rfl (congrArg (V.int .i64) ?_) rfl
  rw [left_is (by omega)]
  omega
theorem toSess_ok (a : Sess) : FS Try.prog 129 [] [.agg a.c] (.agg a.c) [] := by
  refine FS.of (X := X129) (ac := A129) (os := O129) Try.func129 (by rfl) (by rfl) (by kernel_rfl) o129 (Nat.le_of_ble_eq_true rfl) ?_
  show AWP X129 A129 (Ends X129.vs O129 0 _ _) [.agg a.c, .tup [], .tup [], .tup []] []
  obtain ⟨Q, hQ⟩ : ∃ Q, Q = Ends X129.vs O129 0 (.agg a.c) [] := ⟨_, rfl⟩
  rw [← hQ]
  refine awp_sr ?_
  simp only [go_sem, R129_0, v129, p129, Sess.c]
  refine awp_sr ?_
  simp only [go_sem, R129_1, v129, p129]
  refine awp_sr ?_
  simp only [go_sem, R129_2, v129, p129]
  refine awp_sr ?_
  simp only [go_sem, R129_3, v129, p129]
  refine awp_sr ?_
  simp only [go_sem, R129_4, v129, p129]
  refine awp_sr ?_
  simp only [go_sem, R129_5, v129, p129]
  refine awp_sr ?_
  simp only [go_sem, R129_6, v129, p129]
  refine awp_ret ?_
  try simp only [go_sem]
  rw [hQ]
  exact Ends.plain (.inl rfl) rfl (.refl _) rfl
theorem eqSess_ok (a b : Sess) : FS Try.prog 140 [] [.agg a.c, .agg b.c] (.bool (decide (a = b))) [] := by
  refine FS.of (X := X140) (ac := A140) (os := O140) Try.func140 (by rfl) (by rfl) (by kernel_rfl) o140 (Nat.le_of_ble_eq_true rfl) ?_
  show AWP X140 A140 (Ends X140.vs O140 0 _ _) [.agg a.c, .agg b.c, .tup [], .tup [], .tup [], .tup [], .tup [], .tup [], .tup []] []
  obtain ⟨Q, hQ⟩ : ∃ Q, Q = Ends X140.vs O140 0 (.bool (decide (a = b))) [] := ⟨_, rfl⟩
  rw [← hQ]
  have fin : ∀ L σ q, look X140.vs L 4 = .bool q → q = decide (a = b) → Q .ret L σ := by
    intro L σ q h1 h2
    rw [hQ]
    refine Ends.is (.inl rfl) (rs := [.bool q]) (by simp only [go_sem, O140, h1]) ?_ rfl
    simp [packV, h2]
  refine awp_sr ?_
  simp only [go_sem, R140_0, v140, p140, Sess.c]
  refine awp_sr2 ?_
  simp only [go_sem, R140_1, v140, p140]
  refine awp_if rfl ?_ ?_
  · intro h
    refine awp_sr ?_
    simp only [go_sem, R140_2, v140, p140]
    refine awp_ret ?_
    try simp only [go_sem]
    exact fin _ _ _ rfl (decide_eq_false fun e => h (by rw [e])).symm
  intro h0
  refine awp_skip ?_
  simp only [go_sem]
  refine awp_sr2 ?_
  simp only [go_sem, R140_3, v140, p140]
  refine awp_if rfl ?_ ?_
  · intro h
    refine awp_sr ?_
    simp only [go_sem, R140_4, v140, p140]
    refine awp_ret ?_
    try simp only [go_sem]
    exact fin _ _ _ rfl (decide_eq_false fun e => h (by rw [e])).symm
  intro h1
  refine awp_skip ?_
  simp only [go_sem]
  refine awp_sr2 ?_
  simp only [go_sem, R140_5, v140, p140]
  refine awp_if' rfl ?_ ?_
  · intro h
    refine awp_sr ?_
    simp only [go_sem, R140_6, v140, p140]
    refine awp_ret ?_
    try simp only [go_sem]
    exact fin _ _ _ rfl (decide_eq_false fun e => h (by rw [e])).symm
  intro h2
  refine awp_skip ?_
  simp only [go_sem]
  refine awp_sr2 ?_
  simp only [go_sem, R140_7, v140, p140]
  refine awp_if rfl ?_ ?_
  · intro h
    refine awp_sr ?_
    simp only [go_sem, R140_8, v140, p140]
    refine awp_ret ?_
    try simp only [go_sem]
    exact fin _ _ _ rfl (decide_eq_false fun e => h (by rw [e])).symm
  intro h3
  refine awp_skip ?_
  simp only [go_sem]
  refine awp_sr ?_
  simp only [go_sem, R140_9, v140, p140]
  refine awp_ret ?_
  try simp only [go_sem]
  refine fin _ _ _ rfl (decide_eq_true ?_).symm
  cases a; cases b
  simp at h0 h1 h2 h3
  simp [h0, h1, h2, h3]
theorem toSessS_ok (xs : List Sess) (h : xs.length ≤ 1048576) : FS Try.prog 83 [] [.fz 4 (rw_ Sess.c xs)] (.fz 4 (rw_ Sess.c xs)) [] := by
  have hx : xs.length ≤ 1048576 := by exact h
  refine FS.of (X := X83) (ac := A83) (os := O83) Try.func83 (by rfl) (by rfl) (by kernel_rfl) o83 (Nat.le_of_ble_eq_true rfl) ?_
  show AWP X83 A83 (Ends X83.vs O83 0 _ _) [.fz 4 (rw_ Sess.c xs), .tup [], .tup [], .tup [], .tup []] []
  obtain ⟨Q, hQ⟩ : ∃ Q, Q = Ends X83.vs O83 0 (.fz 4 (rw_ Sess.c xs)) [] := ⟨_, rfl⟩
  rw [← hQ]
  refine awp_sr ?_
  simp only [go_sem, R83_0, v83, p83]
  refine awp_sr ?_
  simp only [go_sem, R83_1, v83, p83]
  refine ⟨by omega, ?_⟩
  refine awp_sr2 ?_
  simp only [go_sem, R83_2, v83, p83]
  refine awp_for (fun m L σ => ∃ i x11 ys, m = xs.length - i ∧ i ≤ xs.length ∧ ys.length = xs.length ∧ ys.take i = xs.take i ∧ L = [.fz 4 (rw_ Sess.c xs), .nl, .sl 0 4 0 xs.length, .int .i64 (i : Nat), x11] ∧ σ = [.live ⟨4, rw_ Sess.c ys⟩]) xs.length
    ⟨0, _, List.replicate xs.length Sess.zero, rfl, Nat.zero_le _, by simp, by simp, rfl, congrArg (fun r => [Slot.live ⟨4, r⟩]) (rw_rep Sess.c xs.length Sess.zero)⟩ ?_
  rintro m L σ ⟨i, x11, ys, rfl, hi, hl, ht, rfl, rfl⟩
  refine awp_sr2 ?_
  simp only [go_sem, R83_3, v83, p83]
  refine awp_if rfl ?_ ?_
  · intro h1
    have h1 : i < xs.length := by omega
    have h2 : i < ys.length := by omega
    refine awp_skip ?_
    simp only [go_sem]
    refine awp_seq (awp_block ?_)
    refine awp_reg ?_
    simp only [go_sem, R83_4, v83, p83, rw_at _ h1, Sess.c]
    refine run_see (toSess_ok xs[i]) false (Views.refl rfl) rfl (fun j hj => by omega) (fun h => by cases h) ?_
    simp only [go_sem, v83, p83, rw_at _ h2, Sess.c]
    refine ⟨by omega, ?_⟩
    refine awp_reg ?_
    simp only [go_sem, R83_5, v83, p83, wrap_succ (i := i) (by omega)]
    refine ⟨xs.length - (i + 1), by omega, i + 1, _, ys.set i xs[i], rfl, by omega, by simpa using hl, ?_, rfl, congrArg (fun r => [Slot.live ⟨4, r⟩]) (rw_set Sess.c ys i xs[i])⟩
    rw [List.take_succ_eq_append_getElem h1, List.take_succ_eq_append_getElem (by simpa using h2), List.take_set_of_le (Nat.le_refl _), ht]
    simp
  · intro h1
    refine awp_exit ?_
    simp only [go_sem]
    refine awp_sr ?_
    simp only [go_sem, R83_6, v83, p83]
    refine awp_ret ?_
    try simp only [go_sem]
    have : i = xs.length := by omega
    subst this
    rw [List.take_length, ← hl, List.take_length] at ht
    subst ht
    rw [hQ]
    exact Ends.frzSl (.inl rfl) rfl rfl (by simp [rw_]) (rw_closed Sess.c_closed _)
theorem szSessS_ok (xs : List Sess) (n : Nat) (hn : n ≤ 1048576) (ha : xs.length ≤ big) : FS Try.prog 77 [] [.fz 4 (rw_ Sess.c xs), .int .i64 n] (.int .i64 (left n xs.length)) [] := by
  refine FS.of (X := X77) (ac := A77) (os := O77) Try.func77 (by rfl) (by rfl) (by kernel_rfl) o77 (Nat.le_of_ble_eq_true rfl) ?_
  show AWP X77 A77 (Ends X77.vs O77 0 _ _) [.fz 4 (rw_ Sess.c xs), .int .i64 n, .tup [], .tup []] []
  obtain ⟨Q, hQ⟩ : ∃ Q, Q = Ends X77.vs O77 0 (.int .i64 (left n xs.length)) [] := ⟨_, rfl⟩
  rw [← hQ]
  have ha : xs.length ≤ 1000000000000000 := ha
  refine awp_sr ?_
  simp only [go_sem, R77_0, v77, p77]
  refine awp_sr ?_
  simp only [go_sem, R77_1, v77, p77, wrap_i64 (n := (n : Int) - xs.length) (by omega) (by omega)]
  refine awp_sr2 ?_
  simp only [go_sem, R77_2, v77, p77]
  refine awp_if rfl ?_ ?_
  · intro h
    refine awp_sr ?_
    simp only [go_sem, R77_3, v77, p77]
    refine awp_ret ?_
    try simp only [go_sem]
    rw [hQ]
    exact Ends.is (.inl rfl) rfl (congrArg (V.int .i64) (left_no (by omega)).symm) rfl
  intro h
  refine awp_skip ?_
  simp only [go_sem]
  refine awp_sr ?_
  simp only [go_sem, R77_4, v77, p77]
  refine awp_ret ?_
  try simp only [go_sem]
  rw [hQ]
  exact Ends.is (.inl rfl) rfl (congrArg (V.int .i64) (by rw [left_is (by omega)]; omega)) rfl
theorem eqSessS_ok (xs ys : List Sess) (hx : xs.length ≤ 1000000000) : FS Try.prog 89 [] [.fz 4 (rw_ Sess.c xs), .fz 4 (rw_ Sess.c ys)] (.bool (decide (xs = ys))) [] := by
  refine FS.of (X := X89) (ac := A89) (os := O89) Try.func89 (by rfl) (by rfl) (by kernel_rfl) o89 (Nat.le_of_ble_eq_true rfl) ?_
  show AWP X89 A89 (Ends X89.vs O89 0 _ _) [.fz 4 (rw_ Sess.c xs), .fz 4 (rw_ Sess.c ys), .tup [], .tup [], .tup [], .tup [], .tup []] []
  obtain ⟨Q, hQ⟩ : ∃ Q, Q = Ends X89.vs O89 0 (.bool (decide (xs = ys))) [] := ⟨_, rfl⟩
  rw [← hQ]
  have fin : ∀ L σ b, look X89.vs L 4 = .bool b → b = decide (xs = ys) → Q .ret L σ := by
    intro L σ b h1 h2
    rw [hQ]
    refine Ends.is (.inl rfl) (rs := [.bool b]) (by simp only [go_sem, O89, h1]) ?_ rfl
    simp [packV, h2]
  refine awp_sr ?_
  simp only [go_sem, R89_0, v89, p89]
  refine awp_sr2 ?_
  simp only [go_sem, R89_1, v89, p89]
  refine awp_if rfl ?_ ?_
  · intro h
    refine awp_sr ?_
    simp only [go_sem, R89_2, v89, p89]
    refine awp_ret ?_
    try simp only [go_sem]
    refine fin _ _ false rfl ?_
    symm; simp; intro e; subst e; exact h rfl
  intro hne
  have hl : xs.length = ys.length := by omega
  refine awp_skip ?_
  simp only [go_sem]
  refine awp_sr2 ?_
  simp only [go_sem, R89_3, v89, p89]
  refine awp_for (fun m L σ => ∃ i x10 x14 x25, m = xs.length - i ∧ i ≤ xs.length ∧ xs.take i = ys.take i ∧ L = [.fz 4 (rw_ Sess.c xs), .fz 4 (rw_ Sess.c ys), .bool false, .int .i64 (i : Nat), x10, x14, x25]) xs.length ⟨0, _, _, _, rfl, Nat.zero_le _, by simp, rfl⟩ ?_
  rintro m L σ ⟨i, x10, x14, x25, rfl, hi, ht, rfl⟩
  refine awp_sr2 ?_
  simp only [go_sem, R89_4, v89, p89]
  refine awp_if rfl ?_ ?_
  · intro h1
    have h1 : i < xs.length := by omega
    have h2 : i < ys.length := by omega
    refine awp_skip ?_
    simp only [go_sem]
    refine awp_seq (awp_block ?_)
    refine awp_sd mixed rfl (by rfl) ?_
    simp only [go_sem, R89_5, v89, p89, rw_at _ h1, rw_at _ h2, Sess.c]
    refine run_see (eqSess_ok xs[i] ys[i]) false (Views.refl rfl) rfl (fun j hj => by omega) (fun h => by cases h) ?_
    simp only [go_sem, v89, p89]
    refine awp_if' rfl ?_ ?_
    · intro h3
      refine awp_sr ?_
      simp only [go_sem, R89_6, v89, p89]
      refine awp_ret ?_
      try simp only [go_sem]
      refine fin _ _ false rfl ?_
      symm; simp; intro e; subst e; exact h3 rfl
    · intro h3
      refine awp_skip ?_
      simp only [go_sem]
      refine awp_reg ?_
      simp only [go_sem, R89_7, v89, p89, wrap_succ (i := i) (by omega)]
      refine ⟨xs.length - (i + 1), by omega, i + 1, _, _, _, rfl, by omega, ?_, rfl⟩
      rw [List.take_succ_eq_append_getElem h1, List.take_succ_eq_append_getElem h2, ht, h3]
  · intro h1
    refine awp_exit ?_
    simp only [go_sem]
    refine awp_sr ?_
    simp only [go_sem, R89_8, v89, p89]
    refine awp_ret ?_
    try simp only [go_sem]
    refine fin _ _ true rfl ?_
    have : i = xs.length := by omega
    subst this
    rw [List.take_length, hl, List.take_length] at ht
    simp [ht]
theorem toRise_ok (a : Rise) : FS Try.prog 130 [] [.agg a.c] (.agg a.c) [] := by
  refine FS.of (X := X130) (ac := A130) (os := O130) Try.func130 (by rfl) (by rfl) (by kernel_rfl) o130 (Nat.le_of_ble_eq_true rfl) ?_
  show AWP X130 A130 (Ends X130.vs O130 0 _ _) [.agg a.c, .tup [], .tup [], .tup []] []
  obtain ⟨Q, hQ⟩ : ∃ Q, Q = Ends X130.vs O130 0 (.agg a.c) [] := ⟨_, rfl⟩
  rw [← hQ]
  refine awp_sr ?_
  simp only [go_sem, R130_0, v130, p130, Rise.c]
  refine awp_sr ?_
  simp only [go_sem, R130_1, v130, p130]
  refine awp_sr ?_
  simp only [go_sem, R130_2, v130, p130]
  refine awp_sr ?_
  simp only [go_sem, R130_3, v130, p130]
  refine awp_sr ?_
  simp only [go_sem, R130_4, v130, p130]
  refine awp_sr ?_
  simp only [go_sem, R130_5, v130, p130]
  refine awp_ret ?_
  try simp only [go_sem]
  rw [hQ]
  exact Ends.plain (.inl rfl) rfl (.refl _) rfl
theorem eqRise_ok (a b : Rise) : FS Try.prog 141 [] [.agg a.c, .agg b.c] (.bool (decide (a = b))) [] := by
  refine FS.of (X := X141) (ac := A141) (os := O141) Try.func141 (by rfl) (by rfl) (by kernel_rfl) o141 (Nat.le_of_ble_eq_true rfl) ?_
  show AWP X141 A141 (Ends X141.vs O141 0 _ _) [.agg a.c, .agg b.c, .tup [], .tup [], .tup [], .tup [], .tup [], .tup []] []
  obtain ⟨Q, hQ⟩ : ∃ Q, Q = Ends X141.vs O141 0 (.bool (decide (a = b))) [] := ⟨_, rfl⟩
  rw [← hQ]
  have fin : ∀ L σ q, look X141.vs L 4 = .bool q → q = decide (a = b) → Q .ret L σ := by
    intro L σ q h1 h2
    rw [hQ]
    refine Ends.is (.inl rfl) (rs := [.bool q]) (by simp only [go_sem, O141, h1]) ?_ rfl
    simp [packV, h2]
  refine awp_sr ?_
  simp only [go_sem, R141_0, v141, p141, Rise.c]
  refine awp_sr2 ?_
  simp only [go_sem, R141_1, v141, p141]
  refine awp_if rfl ?_ ?_
  · intro h
    refine awp_sr ?_
    simp only [go_sem, R141_2, v141, p141]
    refine awp_ret ?_
    try simp only [go_sem]
    exact fin _ _ _ rfl (decide_eq_false fun e => h (by rw [e])).symm
  intro h0
  refine awp_skip ?_
  simp only [go_sem]
  refine awp_sr2 ?_
  simp only [go_sem, R141_3, v141, p141]
  refine awp_if rfl ?_ ?_
  · intro h
    refine awp_sr ?_
    simp only [go_sem, R141_4, v141, p141]
    refine awp_ret ?_
    try simp only [go_sem]
    exact fin _ _ _ rfl (decide_eq_false fun e => h (by rw [e])).symm
  intro h1
  refine awp_skip ?_
  simp only [go_sem]
  refine awp_sr2 ?_
  simp only [go_sem, R141_5, v141, p141]
  refine awp_if rfl ?_ ?_
  · intro h
    refine awp_sr ?_
    simp only [go_sem, R141_6, v141, p141]
    refine awp_ret ?_
    try simp only [go_sem]
    exact fin _ _ _ rfl (decide_eq_false fun e => h (by rw [e])).symm
  intro h2
  refine awp_skip ?_
  simp only [go_sem]
  refine awp_sr ?_
  simp only [go_sem, R141_7, v141, p141]
  refine awp_ret ?_
  try simp only [go_sem]
  refine fin _ _ _ rfl (decide_eq_true ?_).symm
  cases a; cases b
  simp at h0 h1 h2
  simp [h0, h1, h2]
theorem toRiseS_ok (xs : List Rise) (h : xs.length ≤ 1048576) : FS Try.prog 84 [] [.fz 3 (rw_ Rise.c xs)] (.fz 3 (rw_ Rise.c xs)) [] := by
  have hx : xs.length ≤ 1048576 := by exact h
  refine FS.of (X := X84) (ac := A84) (os := O84) Try.func84 (by rfl) (by rfl) (by kernel_rfl) o84 (Nat.le_of_ble_eq_true rfl) ?_
  show AWP X84 A84 (Ends X84.vs O84 0 _ _) [.fz 3 (rw_ Rise.c xs), .tup [], .tup [], .tup [], .tup []] []
  obtain ⟨Q, hQ⟩ : ∃ Q, Q = Ends X84.vs O84 0 (.fz 3 (rw_ Rise.c xs)) [] := ⟨_, rfl⟩
  rw [← hQ]
  refine awp_sr ?_
  simp only [go_sem, R84_0, v84, p84]
  refine awp_sr ?_
  simp only [go_sem, R84_1, v84, p84]
  refine ⟨by omega, ?_⟩
  refine awp_sr2 ?_
  simp only [go_sem, R84_2, v84, p84]
  refine awp_for (fun m L σ => ∃ i x11 ys, m = xs.length - i ∧ i ≤ xs.length ∧ ys.length = xs.length ∧ ys.take i = xs.take i ∧ L = [.fz 3 (rw_ Rise.c xs), .nl, .sl 0 3 0 xs.length, .int .i64 (i : Nat), x11] ∧ σ = [.live ⟨3, rw_ Rise.c ys⟩]) xs.length
    ⟨0, _, List.replicate xs.length Rise.zero, rfl, Nat.zero_le _, by simp, by simp, rfl, congrArg (fun r => [Slot.live ⟨3, r⟩]) (rw_rep Rise.c xs.length Rise.zero)⟩ ?_
  rintro m L σ ⟨i, x11, ys, rfl, hi, hl, ht, rfl, rfl⟩
  refine awp_sr2 ?_
  simp only [go_sem, R84_3, v84, p84]
  refine awp_if rfl ?_ ?_
  · intro h1
    have h1 : i < xs.length := by omega
    have h2 : i < ys.length := by omega
    refine awp_skip ?_
    simp only [go_sem]
    refine awp_seq (awp_block ?_)
    refine awp_reg ?_
    simp only [go_sem, R84_4, v84, p84, rw_at _ h1, Rise.c]
    refine run_see (toRise_ok xs[i]) false (Views.refl rfl) rfl (fun j hj => by omega) (fun h => by cases h) ?_
    simp only [go_sem, v84, p84, rw_at _ h2, Rise.c]
    refine ⟨by omega, ?_⟩
    refine awp_reg ?_
    simp only [go_sem, R84_5, v84, p84, wrap_succ (i := i) (by omega)]
    refine ⟨xs.length - (i + 1), by omega, i + 1, _, ys.set i xs[i], rfl, by omega, by simpa using hl, ?_, rfl, congrArg (fun r => [Slot.live ⟨3, r⟩]) (rw_set Rise.c ys i xs[i])⟩
    rw [List.take_succ_eq_append_getElem h1, List.take_succ_eq_append_getElem (by simpa using h2), List.take_set_of_le (Nat.le_refl _), ht]
    simp
  · intro h1
    refine awp_exit ?_
    simp only [go_sem]
    refine awp_sr ?_
    simp only [go_sem, R84_6, v84, p84]
    refine awp_ret ?_
    try simp only [go_sem]
    have : i = xs.length := by omega
    subst this
    rw [List.take_length, ← hl, List.take_length] at ht
    subst ht
    rw [hQ]
    exact Ends.frzSl (.inl rfl) rfl rfl (by simp [rw_]) (rw_closed Rise.c_closed _)
theorem szRiseS_ok (xs : List Rise) (n : Nat) (hn : n ≤ 1048576) (ha : xs.length ≤ big) : FS Try.prog 78 [] [.fz 3 (rw_ Rise.c xs), .int .i64 n] (.int .i64 (left n xs.length)) [] := by
  refine FS.of (X := X78) (ac := A78) (os := O78) Try.func78 (by rfl) (by rfl) (by kernel_rfl) o78 (Nat.le_of_ble_eq_true rfl) ?_
  show AWP X78 A78 (Ends X78.vs O78 0 _ _) [.fz 3 (rw_ Rise.c xs), .int .i64 n, .tup [], .tup []] []
  obtain ⟨Q, hQ⟩ : ∃ Q, Q = Ends X78.vs O78 0 (.int .i64 (left n xs.length)) [] := ⟨_, rfl⟩
  rw [← hQ]
  have ha : xs.length ≤ 1000000000000000 := ha
  refine awp_sr ?_
  simp only [go_sem, R78_0, v78, p78]
  refine awp_sr ?_
  simp only [go_sem, R78_1, v78, p78, wrap_i64 (n := (n : Int) - xs.length) (by omega) (by omega)]
  refine awp_sr2 ?_
  simp only [go_sem, R78_2, v78, p78]
  refine awp_if rfl ?_ ?_
  · intro h
    refine awp_sr ?_
    simp only [go_sem, R78_3, v78, p78]
    refine awp_ret ?_
    try simp only [go_sem]
    rw [hQ]
    exact Ends.is (.inl rfl) rfl (congrArg (V.int .i64) (left_no (by omega)).symm) rfl
  intro h
  refine awp_skip ?_
  simp only [go_sem]
  refine awp_sr ?_
  simp only [go_sem, R78_4, v78, p78]
  refine awp_ret ?_
  try simp only [go_sem]
  rw [hQ]
  exact Ends.is (.inl rfl) rfl (congrArg (V.int .i64) (by rw [left_is (by omega)]; omega)) rfl
theorem eqRiseS_ok (xs ys : List Rise) (hx : xs.length ≤ 1000000000) : FS Try.prog 90 [] [.fz 3 (rw_ Rise.c xs), .fz 3 (rw_ Rise.c ys)] (.bool (decide (xs = ys))) [] := by
  refine FS.of (X := X90) (ac := A90) (os := O90) Try.func90 (by rfl) (by rfl) (by kernel_rfl) o90 (Nat.le_of_ble_eq_true rfl) ?_
  show AWP X90 A90 (Ends X90.vs O90 0 _ _) [.fz 3 (rw_ Rise.c xs), .fz 3 (rw_ Rise.c ys), .tup [], .tup [], .tup [], .tup [], .tup []] []
  obtain ⟨Q, hQ⟩ : ∃ Q, Q = Ends X90.vs O90 0 (.bool (decide (xs = ys))) [] := ⟨_, rfl⟩
  rw [← hQ]
  have fin : ∀ L σ b, look X90.vs L 4 = .bool b → b = decide (xs = ys) → Q .ret L σ := by
    intro L σ b h1 h2
    rw [hQ]
    refine Ends.is (.inl rfl) (rs := [.bool b]) (by simp only [go_sem, O90, h1]) ?_ rfl
    simp [packV, h2]
  refine awp_sr ?_
  simp only [go_sem, R90_0, v90, p90]
  refine awp_sr2 ?_
  simp only [go_sem, R90_1, v90, p90]
  refine awp_if rfl ?_ ?_
  · intro h
    refine awp_sr ?_
    simp only [go_sem, R90_2, v90, p90]
    refine awp_ret ?_
    try simp only [go_sem]
    refine fin _ _ false rfl ?_
    symm; simp; intro e; subst e; exact h rfl
  intro hne
  have hl : xs.length = ys.length := by omega
  refine awp_skip ?_
  simp only [go_sem]
  refine awp_sr2 ?_
  simp only [go_sem, R90_3, v90, p90]
  refine awp_for (fun m L σ => ∃ i x10 x14 x25, m = xs.length - i ∧ i ≤ xs.length ∧ xs.take i = ys.take i ∧ L = [.fz 3 (rw_ Rise.c xs), .fz 3 (rw_ Rise.c ys), .bool false, .int .i64 (i : Nat), x10, x14, x25]) xs.length ⟨0, _, _, _, rfl, Nat.zero_le _, by simp, rfl⟩ ?_
  rintro m L σ ⟨i, x10, x14, x25, rfl, hi, ht, rfl⟩
  refine awp_sr2 ?_
  simp only [go_sem, R90_4, v90, p90]
  refine awp_if rfl ?_ ?_
  · intro h1
    have h1 : i < xs.length := by omega
    have h2 : i < ys.length := by omega
    refine awp_skip ?_
    simp only [go_sem]
    refine awp_seq (awp_block ?_)
    refine awp_sd mixed rfl (by rfl) ?_
    simp only [go_sem, R90_5, v90, p90, rw_at _ h1, rw_at _ h2, Rise.c]
    refine run_see (eqRise_ok xs[i] ys[i]) false (Views.refl rfl) rfl (fun j hj => by omega) (fun h => by cases h) ?_
    simp only [go_sem, v90, p90]
    refine awp_if' rfl ?_ ?_
    · intro h3
      refine awp_sr ?_
      simp only [go_sem, R90_6, v90, p90]
      refine awp_ret ?_
      try simp only [go_sem]
      refine fin _ _ false rfl ?_
      symm; simp; intro e; subst e; exact h3 rfl
    · intro h3
      refine awp_skip ?_
      simp only [go_sem]
      refine awp_reg ?_
      simp only [go_sem, R90_7, v90, p90, wrap_succ (i := i) (by omega)]
      refine ⟨xs.length - (i + 1), by omega, i + 1, _, _, _, rfl, by omega, ?_, rfl⟩
      rw [List.take_succ_eq_append_getElem h1, List.take_succ_eq_append_getElem h2, ht, h3]
  · intro h1
    refine awp_exit ?_
    simp only [go_sem]
    refine awp_sr ?_
    simp only [go_sem, R90_8, v90, p90]
    refine awp_ret ?_
    try simp only [go_sem]
    refine fin _ _ true rfl ?_
    have : i = xs.length := by omega
    subst this
    rw [List.take_length, hl, List.take_length] at ht
    simp [ht]
theorem toIntSS_ok (xs : List (List Int)) (h : szS List.length xs ≤ 1048576) : FS Try.prog 82 [] [.fz 1 (rw_ rowC xs)] (.fz 1 (rw_ rowC xs)) [] := by
  have hx : xs.length ≤ 1048576 := by unfold szS at h; omega
  refine FS.of (X := X82) (ac := A82) (os := O82) Try.func82 (by rfl) (by rfl) (by kernel_rfl) o82 (Nat.le_of_ble_eq_true rfl) ?_
  show AWP X82 A82 (Ends X82.vs O82 0 _ _) [.fz 1 (rw_ rowC xs), .tup [], .tup [], .tup [], .tup []] []
  obtain ⟨Q, hQ⟩ : ∃ Q, Q = Ends X82.vs O82 0 (.fz 1 (rw_ rowC xs)) [] := ⟨_, rfl⟩
  rw [← hQ]
  refine awp_sr ?_
  simp only [go_sem, R82_0, v82, p82]
  refine awp_sr ?_
  simp only [go_sem, R82_1, v82, p82]
  refine ⟨by omega, ?_⟩
  refine awp_obj ⟨1, List.replicate xs.length (rowC [])⟩ (o := 0) rfl (ObLe.rep rfl fun j u v h1 h2 => ?_) ?_
  · cases j with
    | zero => simp at h1; simp [rowC, rw_] at h2; subst h1; subst h2; exact .nl 1
    | succ j =>
      simp at h1
  show AWP X82 _ _ _ [.live ⟨1, List.replicate xs.length (rowC [])⟩]
  refine awp_sr2 ?_
  simp only [go_sem, R82_2, v82, p82]
  refine awp_for (fun m L σ => ∃ i x11 ys, m = xs.length - i ∧ i ≤ xs.length ∧ ys.length = xs.length ∧ ys.take i = xs.take i ∧ L = [.fz 1 (rw_ rowC xs), .nl, .sl 0 1 0 xs.length, .int .i64 (i : Nat), x11] ∧ σ = [.live ⟨1, rw_ rowC ys⟩]) xs.length
    ⟨0, _, List.replicate xs.length [], rfl, Nat.zero_le _, by simp, by simp, rfl, congrArg (fun r => [Slot.live ⟨1, r⟩]) (rw_rep rowC xs.length [])⟩ ?_
  rintro m L σ ⟨i, x11, ys, rfl, hi, hl, ht, rfl, rfl⟩
  refine awp_sr2 ?_
  simp only [go_sem, R82_3, v82, p82]
  refine awp_if rfl ?_ ?_
  · intro h1
    have h1 : i < xs.length := by omega
    have h2 : i < ys.length := by omega
    refine awp_skip ?_
    simp only [go_sem]
    refine awp_seq (awp_block ?_)
    refine awp_reg ?_
    simp only [go_sem, R82_4, v82, p82, rw_at _ h1, rowC]
    refine run_see (toIntS_ok xs[i] (by have := sumBy_get List.length h1; unfold szS at h; omega)) false (Views.refl rfl) rfl (fun j hj => by omega) (fun h => by cases h) ?_
    simp only [go_sem, v82, p82, rw_at _ h2, rowC]
    refine ⟨by omega, ?_⟩
    refine awp_reg ?_
    simp only [go_sem, R82_5, v82, p82, wrap_succ (i := i) (by omega)]
    refine ⟨xs.length - (i + 1), by omega, i + 1, _, ys.set i xs[i], rfl, by omega, by simpa using hl, ?_, rfl, congrArg (fun r => [Slot.live ⟨1, r⟩]) (rw_set rowC ys i xs[i])⟩
    rw [List.take_succ_eq_append_getElem h1, List.take_succ_eq_append_getElem (by simpa using h2), List.take_set_of_le (Nat.le_refl _), ht]
    simp
  · intro h1
    refine awp_exit ?_
    simp only [go_sem]
    refine awp_sr ?_
    simp only [go_sem, R82_6, v82, p82]
    refine awp_ret ?_
    try simp only [go_sem]
    have : i = xs.length := by omega
    subst this
    rw [List.take_length, ← hl, List.take_length] at ht
    subst ht
    rw [hQ]
    exact Ends.frzSl (.inl rfl) rfl rfl (by simp [rw_]) (rw_closed rowC_closed _)
theorem szIntSS_ok (xs : List (List Int)) (n : Nat) (hn : n ≤ 1048576) (ha : okS rowOk xs) : FS Try.prog 76 [] [.fz 1 (rw_ rowC xs), .int .i64 n] (.int .i64 (left n (szS List.length xs))) [] := by
  refine FS.of (X := X76) (ac := A76) (os := O76) Try.func76 (by rfl) (by rfl) (by kernel_rfl) o76 (Nat.le_of_ble_eq_true rfl) ?_
  show AWP X76 A76 (Ends X76.vs O76 0 _ _) [.fz 1 (rw_ rowC xs), .int .i64 n, .tup [], .tup [], .tup [], .tup [], .tup []] []
  obtain ⟨Q, hQ⟩ : ∃ Q, Q = Ends X76.vs O76 0 (.int .i64 (left n (szS List.length xs))) [] := ⟨_, rfl⟩
  rw [← hQ]
  obtain ⟨ha1, ha2⟩ := ha
  have ha1 : xs.length ≤ 1000000000000000 := ha1
  refine awp_sr ?_
  simp only [go_sem, R76_0, v76, p76]
  refine awp_sr ?_
  simp only [go_sem, R76_1, v76, p76, wrap_i64 (n := (n : Int) - xs.length) (by omega) (by omega)]
  refine awp_sr2 ?_
  simp only [go_sem, R76_2, v76, p76]
  refine awp_if rfl ?_ ?_
  · intro h
    refine awp_sr ?_
    simp only [go_sem, R76_3, v76, p76]
    refine awp_ret ?_
    try simp only [go_sem]
    rw [hQ]
    exact Ends.is (.inl rfl) rfl (congrArg (V.int .i64) (left_no (by unfold szS; omega)).symm) rfl
  intro h
  have h0 : xs.length ≤ n := by omega
  refine awp_skip ?_
  simp only [go_sem]
  refine awp_sr2 ?_
  simp only [go_sem, R76_4, v76, p76]
  refine awp_for (fun m L σ => ∃ i x11 x15 x25, m = xs.length - i ∧ i ≤ xs.length ∧ xs.length + sumBy List.length (xs.take i) ≤ n ∧ L = [.fz 1 (rw_ rowC xs), .int .i64 ((n - (xs.length + sumBy List.length (xs.take i)) : Nat) : Int), .int .i64 0, .int .i64 (i : Nat), x11, x15, x25]) xs.length
    ⟨0, _, _, _, rfl, Nat.zero_le _, by simpa [sumBy] using h0, by rw [show ((n : Int) - xs.length) = ((n - (xs.length + sumBy List.length (xs.take 0)) : Nat) : Int) by simp [sumBy]; omega]; rfl⟩ ?_
  rintro m L σ ⟨i, x11, x15, x25, rfl, hi, hs, rfl⟩
  refine awp_sr2 ?_
  simp only [go_sem, R76_5, v76, p76]
  refine awp_if rfl ?_ ?_
  · intro h1
    have h1 : i < xs.length := by omega
    refine awp_skip ?_
    simp only [go_sem]
    refine awp_seq (awp_block ?_)
    refine awp_sr ?_
    simp only [go_sem, R76_6, v76, p76, rw_at _ h1, rowC]
    refine run_see (szIntS_ok xs[i] (n - (xs.length + sumBy List.length (xs.take i))) (by omega) (ha2 _ (List.getElem_mem h1))) false (Views.refl rfl) rfl (fun j hj => by omega) (fun h => by cases h) ?_
    simp only [go_sem, v76, p76]
    have e1 := sumBy_take List.length h1
    have e2 := sumBy_le List.length xs (i + 1)
    refine awp_sr ?_
    simp only [go_sem, R76_7, v76, p76]
    refine awp_if rfl ?_ ?_
    · intro h2
      refine awp_sr ?_
      simp only [go_sem, R76_8, v76, p76]
      refine awp_ret ?_
      try simp only [go_sem]
      rw [hQ]
      refine Ends.is (.inl rfl) rfl (congrArg (V.int .i64) (left_no ?_).symm) rfl
      have : ¬ List.length xs[i] ≤ n - (xs.length + sumBy List.length (xs.take i)) := fun e => by rw [left_is e] at h2; omega
      unfold szS; omega
    · intro h2
      obtain ⟨e3, e4⟩ := left_pos h2
      refine awp_skip ?_
      simp only [go_sem]
      refine awp_reg ?_
      simp only [go_sem, R76_9, v76, p76, wrap_succ (i := i) (by omega)]
      rw [e3, show (n - (xs.length + sumBy List.length (xs.take i)) - List.length xs[i] : Nat) = n - (xs.length + sumBy List.length (xs.take (i + 1))) by omega]
      exact ⟨xs.length - (i + 1), by omega, i + 1, _, _, _, rfl, by omega, by omega, rfl⟩
  · intro h1
    refine awp_exit ?_
    simp only [go_sem]
    refine awp_sr ?_
    simp only [go_sem, R76_10, v76, p76]
    refine awp_ret ?_
    try simp only [go_sem]
    have : i = xs.length := by omega
    subst this
    rw [hQ]
    refine Ends.is (.inl rfl) rfl (congrArg (V.int .i64) ?_) rfl
    rw [left_is (by unfold szS; rw [List.take_length] at hs; omega), List.take_length]
    rfl
theorem eqIntSS_ok (xs ys : List (List Int)) (hx : xs.length ≤ 1000000000) (h : szS List.length xs ≤ 1048576) : FS Try.prog 88 [] [.fz 1 (rw_ rowC xs), .fz 1 (rw_ rowC ys)] (.bool (decide (xs = ys))) [] := by
  refine FS.of (X := X88) (ac := A88) (os := O88) Try.func88 (by rfl) (by rfl) (by kernel_rfl) o88 (Nat.le_of_ble_eq_true rfl) ?_
  show AWP X88 A88 (Ends X88.vs O88 0 _ _) [.fz 1 (rw_ rowC xs), .fz 1 (rw_ rowC ys), .tup [], .tup [], .tup [], .tup [], .tup []] []
  obtain ⟨Q, hQ⟩ : ∃ Q, Q = Ends X88.vs O88 0 (.bool (decide (xs = ys))) [] := ⟨_, rfl⟩
  rw [← hQ]
  have fin : ∀ L σ b, look X88.vs L 4 = .bool b → b = decide (xs = ys) → Q .ret L σ := by
    intro L σ b h1 h2
    rw [hQ]
    refine Ends.is (.inl rfl) (rs := [.bool b]) (by simp only [go_sem, O88, h1]) ?_ rfl
    simp [packV, h2]
  refine awp_sr ?_
  simp only [go_sem, R88_0, v88, p88]
  refine awp_sr2 ?_
  simp only [go_sem, R88_1, v88, p88]
  refine awp_if rfl ?_ ?_
  · intro h
    refine awp_sr ?_
    simp only [go_sem, R88_2, v88, p88]
    refine awp_ret ?_
    try simp only [go_sem]
    refine fin _ _ false rfl ?_
    symm; simp; intro e; subst e; exact h rfl
  intro hne
  have hl : xs.length = ys.length := by omega
  refine awp_skip ?_
  simp only [go_sem]
  refine awp_sr2 ?_
  simp only [go_sem, R88_3, v88, p88]
  refine awp_for (fun m L σ => ∃ i x10 x14 x25, m = xs.length - i ∧ i ≤ xs.length ∧ xs.take i = ys.take i ∧ L = [.fz 1 (rw_ rowC xs), .fz 1 (rw_ rowC ys), .bool false, .int .i64 (i : Nat), x10, x14, x25]) xs.length ⟨0, _, _, _, rfl, Nat.zero_le _, by simp, rfl⟩ ?_
  rintro m L σ ⟨i, x10, x14, x25, rfl, hi, ht, rfl⟩
  refine awp_sr2 ?_
  simp only [go_sem, R88_4, v88, p88]
  refine awp_if rfl ?_ ?_
  · intro h1
    have h1 : i < xs.length := by omega
    have h2 : i < ys.length := by omega
    refine awp_skip ?_
    simp only [go_sem]
    refine awp_seq (awp_block ?_)
    refine awp_sd mixed rfl (by rfl) ?_
    simp only [go_sem, R88_5, v88, p88, rw_at _ h1, rw_at _ h2, rowC]
    refine run_see (eqIntS_ok xs[i] ys[i] (by have := sumBy_get List.length h1; have h : xs.length + sumBy List.length xs ≤ 1048576 := h; omega)) false (Views.refl rfl) rfl (fun j hj => by omega) (fun h => by cases h) ?_
    simp only [go_sem, v88, p88]
    refine awp_if' rfl ?_ ?_
    · intro h3
      refine awp_sr ?_
      simp only [go_sem, R88_6, v88, p88]
      refine awp_ret ?_
      try simp only [go_sem]
      refine fin _ _ false rfl ?_
      symm; simp; intro e; subst e; exact h3 rfl
    · intro h3
      refine awp_skip ?_
      simp only [go_sem]
      refine awp_reg ?_
      simp only [go_sem, R88_7, v88, p88, wrap_succ (i := i) (by omega)]
      refine ⟨xs.length - (i + 1), by omega, i + 1, _, _, _, rfl, by omega, ?_, rfl⟩
      rw [List.take_succ_eq_append_getElem h1, List.take_succ_eq_append_getElem h2, ht, h3]
  · intro h1
    refine awp_exit ?_
    simp only [go_sem]
    refine awp_sr ?_
    simp only [go_sem, R88_8, v88, p88]
    refine awp_ret ?_
    try simp only [go_sem]
    refine fin _ _ true rfl ?_
    have : i = xs.length := by omega
    subst this
    rw [List.take_length, hl, List.take_length] at ht
    simp [ht]
theorem toNode_ok (a : Node) (h : a.sz ≤ 1048576) : FS Try.prog 41 [] [.agg a.c] (.agg a.c) [] := by
  have hl : a.state.sz + a.tree.sz + a.log.sz + a.got.length + a.acked.length + szS List.length a.seen + a.sess.length + a.rises.length ≤ 1048576 := h
  have hs_seen := szS_len List.length a.seen
  refine FS.of (X := X41) (ac := A41) (os := O41) Try.func41 (by rfl) (by rfl) (by kernel_rfl) o41 (Nat.le_of_ble_eq_true rfl) ?_
  show AWP X41 A41 (Ends X41.vs O41 0 _ _) [.agg a.c, .tup [], .tup [], .tup []] []
  obtain ⟨Q, hQ⟩ : ∃ Q, Q = Ends X41.vs O41 0 (.agg a.c) [] := ⟨_, rfl⟩
  rw [← hQ]
  refine awp_sr ?_
  simp only [go_sem, R41_0, v41, p41, Node.c]
  refine awp_sr ?_
  simp only [go_sem, R41_1, v41, p41]
  refine awp_sr ?_
  simp only [go_sem, R41_2, v41, p41]
  refine awp_sr ?_
  simp only [go_sem, R41_3, v41, p41]
  refine awp_sr ?_
  simp only [go_sem, R41_4, v41, p41]
  refine run_see (toState_ok a.state (by omega)) false (Views.refl rfl) rfl (fun j hj => by omega) (fun h => by cases h) ?_
  simp only [go_sem, v41, p41, State.c]
  refine awp_sr ?_
  simp only [go_sem, R41_5, v41, p41]
  refine run_see (toTree_ok a.tree (by omega)) false (Views.refl rfl) rfl (fun j hj => by omega) (fun h => by cases h) ?_
  simp only [go_sem, v41, p41, Tree.c]
  refine awp_sr ?_
  simp only [go_sem, R41_6, v41, p41]
  refine run_see (toLog_ok a.log (by omega)) false (Views.refl rfl) rfl (fun j hj => by omega) (fun h => by cases h) ?_
  simp only [go_sem, v41, p41, Log.c]
  refine awp_sr ?_
  simp only [go_sem, R41_7, v41, p41]
  refine run_see (toIntS_ok a.got (by omega)) false (Views.refl rfl) rfl (fun j hj => by omega) (fun h => by cases h) ?_
  simp only [go_sem, v41, p41]
  refine awp_sr ?_
  simp only [go_sem, R41_8, v41, p41]
  refine run_see (toIntS_ok a.acked (by omega)) false (Views.refl rfl) rfl (fun j hj => by omega) (fun h => by cases h) ?_
  simp only [go_sem, v41, p41]
  refine awp_sr ?_
  simp only [go_sem, R41_9, v41, p41]
  refine run_see (toIntSS_ok a.seen (by omega)) false (Views.refl rfl) rfl (fun j hj => by omega) (fun h => by cases h) ?_
  simp only [go_sem, v41, p41]
  refine awp_sr ?_
  simp only [go_sem, R41_10, v41, p41]
  refine awp_sr ?_
  simp only [go_sem, R41_11, v41, p41]
  refine awp_sr ?_
  simp only [go_sem, R41_12, v41, p41]
  refine run_see (toSessS_ok a.sess (by omega)) false (Views.refl rfl) rfl (fun j hj => by omega) (fun h => by cases h) ?_
  simp only [go_sem, v41, p41]
  refine awp_sr ?_
  simp only [go_sem, R41_13, v41, p41]
  refine awp_sr ?_
  simp only [go_sem, R41_14, v41, p41]
  refine awp_sr ?_
  simp only [go_sem, R41_15, v41, p41]
  refine awp_sr ?_
  simp only [go_sem, R41_16, v41, p41]
  refine run_see (toRiseS_ok a.rises (by omega)) false (Views.refl rfl) rfl (fun j hj => by omega) (fun h => by cases h) ?_
  simp only [go_sem, v41, p41]
  refine awp_sr ?_
  simp only [go_sem, R41_17, v41, p41]
  refine awp_ret ?_
  try simp only [go_sem]
  rw [hQ]
  exact Ends.plain (.inl rfl) rfl (.refl _) rfl
theorem eqNode_ok (a b : Node) (h : a.sz ≤ 1048576) : FS Try.prog 43 [] [.agg a.c, .agg b.c] (.bool (decide (a = b))) [] := by
  have hl : a.state.sz + a.tree.sz + a.log.sz + a.got.length + a.acked.length + szS List.length a.seen + a.sess.length + a.rises.length ≤ 1048576 := h
  have hs_seen := szS_len List.length a.seen
  refine FS.of (X := X43) (ac := A43) (os := O43) Try.func43 (by rfl) (by rfl) (by kernel_rfl) o43 (Nat.le_of_ble_eq_true rfl) ?_
  show AWP X43 A43 (Ends X43.vs O43 0 _ _) [.agg a.c, .agg b.c, .tup [], .tup [], .tup [], .tup [], .tup [], .tup [], .tup [], .tup [], .tup [], .tup [], .tup [], .tup [], .tup [], .tup [], .tup [], .tup [], .tup [], .tup []] []
  obtain ⟨Q, hQ⟩ : ∃ Q, Q = Ends X43.vs O43 0 (.bool (decide (a = b))) [] := ⟨_, rfl⟩
  rw [← hQ]
  have fin : ∀ L σ q, look X43.vs L 4 = .bool q → q = decide (a = b) → Q .ret L σ := by
    intro L σ q h1 h2
    rw [hQ]
    refine Ends.is (.inl rfl) (rs := [.bool q]) (by simp only [go_sem, O43, h1]) ?_ rfl
    simp [packV, h2]
  refine awp_sr ?_
  simp only [go_sem, R43_0, v43, p43, Node.c]
  refine awp_sr2 ?_
  simp only [go_sem, R43_1, v43, p43]
  refine awp_if rfl ?_ ?_
  · intro h
    refine awp_sr ?_
    simp only [go_sem, R43_2, v43, p43]
    refine awp_ret ?_
    try simp only [go_sem]
    exact fin _ _ _ rfl (decide_eq_false fun e => h (by rw [e])).symm
  intro h0
  refine awp_skip ?_
  simp only [go_sem]
  refine awp_sr2 ?_
  simp only [go_sem, R43_3, v43, p43]
  refine awp_if rfl ?_ ?_
  · intro h
    refine awp_sr ?_
    simp only [go_sem, R43_4, v43, p43]
    refine awp_ret ?_
    try simp only [go_sem]
    exact fin _ _ _ rfl (decide_eq_false fun e => h (by rw [e])).symm
  intro h1
  refine awp_skip ?_
  simp only [go_sem]
  refine awp_sr2 ?_
  simp only [go_sem, R43_5, v43, p43]
  refine run_see (eqState_ok a.state b.state (by omega)) false (Views.refl rfl) rfl (fun j hj => by omega) (fun h => by cases h) ?_
  simp only [go_sem, v43, p43]
  refine awp_if' rfl ?_ ?_
  · intro h
    refine awp_sr ?_
    simp only [go_sem, R43_6, v43, p43]
    refine awp_ret ?_
    try simp only [go_sem]
    exact fin _ _ _ rfl (decide_eq_false fun e => h (by rw [e])).symm
  intro h2
  refine awp_skip ?_
  simp only [go_sem]
  refine awp_sr2 ?_
  simp only [go_sem, R43_7, v43, p43]
  refine run_see (eqTree_ok a.tree b.tree (by omega)) false (Views.refl rfl) rfl (fun j hj => by omega) (fun h => by cases h) ?_
  simp only [go_sem, v43, p43]
  refine awp_if' rfl ?_ ?_
  · intro h
    refine awp_sr ?_
    simp only [go_sem, R43_8, v43, p43]
    refine awp_ret ?_
    try simp only [go_sem]
    exact fin _ _ _ rfl (decide_eq_false fun e => h (by rw [e])).symm
  intro h3
  refine awp_skip ?_
  simp only [go_sem]
  refine awp_sr2 ?_
  simp only [go_sem, R43_9, v43, p43]
  refine run_see (eqLog_ok a.log b.log (by omega)) false (Views.refl rfl) rfl (fun j hj => by omega) (fun h => by cases h) ?_
  simp only [go_sem, v43, p43]
  refine awp_if' rfl ?_ ?_
  · intro h
    refine awp_sr ?_
    simp only [go_sem, R43_10, v43, p43]
    refine awp_ret ?_
    try simp only [go_sem]
    exact fin _ _ _ rfl (decide_eq_false fun e => h (by rw [e])).symm
  intro h4
  refine awp_skip ?_
  simp only [go_sem]
  refine awp_sr2 ?_
  simp only [go_sem, R43_11, v43, p43]
  refine run_see (eqIntS_ok a.got b.got (by omega)) false (Views.refl rfl) rfl (fun j hj => by omega) (fun h => by cases h) ?_
  simp only [go_sem, v43, p43]
  refine awp_if' rfl ?_ ?_
  · intro h
    refine awp_sr ?_
    simp only [go_sem, R43_12, v43, p43]
    refine awp_ret ?_
    try simp only [go_sem]
    exact fin _ _ _ rfl (decide_eq_false fun e => h (by rw [e])).symm
  intro h5
  refine awp_skip ?_
  simp only [go_sem]
  refine awp_sr2 ?_
  simp only [go_sem, R43_13, v43, p43]
  refine run_see (eqIntS_ok a.acked b.acked (by omega)) false (Views.refl rfl) rfl (fun j hj => by omega) (fun h => by cases h) ?_
  simp only [go_sem, v43, p43]
  refine awp_if' rfl ?_ ?_
  · intro h
    refine awp_sr ?_
    simp only [go_sem, R43_14, v43, p43]
    refine awp_ret ?_
    try simp only [go_sem]
    exact fin _ _ _ rfl (decide_eq_false fun e => h (by rw [e])).symm
  intro h6
  refine awp_skip ?_
  simp only [go_sem]
  refine awp_sr2 ?_
  simp only [go_sem, R43_15, v43, p43]
  refine run_see (eqIntSS_ok a.seen b.seen (by omega) (by omega)) false (Views.refl rfl) rfl (fun j hj => by omega) (fun h => by cases h) ?_
  simp only [go_sem, v43, p43]
  refine awp_if' rfl ?_ ?_
  · intro h
    refine awp_sr ?_
    simp only [go_sem, R43_16, v43, p43]
    refine awp_ret ?_
    try simp only [go_sem]
    exact fin _ _ _ rfl (decide_eq_false fun e => h (by rw [e])).symm
  intro h7
  refine awp_skip ?_
  simp only [go_sem]
  refine awp_sr2 ?_
  simp only [go_sem, R43_17, v43, p43]
  refine awp_if rfl ?_ ?_
  · intro h
    refine awp_sr ?_
    simp only [go_sem, R43_18, v43, p43]
    refine awp_ret ?_
    try simp only [go_sem]
    exact fin _ _ _ rfl (decide_eq_false fun e => h (by rw [e])).symm
  intro h8
  refine awp_skip ?_
  simp only [go_sem]
  refine awp_sr2 ?_
  simp only [go_sem, R43_19, v43, p43]
  refine awp_if rfl ?_ ?_
  · intro h
    refine awp_sr ?_
    simp only [go_sem, R43_20, v43, p43]
    refine awp_ret ?_
    try simp only [go_sem]
    exact fin _ _ _ rfl (decide_eq_false fun e => h (by rw [e])).symm
  intro h9
  refine awp_skip ?_
  simp only [go_sem]
  refine awp_sr2 ?_
  simp only [go_sem, R43_21, v43, p43]
  refine run_see (eqSessS_ok a.sess b.sess (by omega)) false (Views.refl rfl) rfl (fun j hj => by omega) (fun h => by cases h) ?_
  simp only [go_sem, v43, p43]
  refine awp_if' rfl ?_ ?_
  · intro h
    refine awp_sr ?_
    simp only [go_sem, R43_22, v43, p43]
    refine awp_ret ?_
    try simp only [go_sem]
    exact fin _ _ _ rfl (decide_eq_false fun e => h (by rw [e])).symm
  intro h10
  refine awp_skip ?_
  simp only [go_sem]
  refine awp_sr2 ?_
  simp only [go_sem, R43_23, v43, p43]
  refine awp_if rfl ?_ ?_
  · intro h
    refine awp_sr ?_
    simp only [go_sem, R43_24, v43, p43]
    refine awp_ret ?_
    try simp only [go_sem]
    exact fin _ _ _ rfl (decide_eq_false fun e => h (by rw [e])).symm
  intro h11
  refine awp_skip ?_
  simp only [go_sem]
  refine awp_sr2 ?_
  simp only [go_sem, R43_25, v43, p43]
  refine awp_if rfl ?_ ?_
  · intro h
    refine awp_sr ?_
    simp only [go_sem, R43_26, v43, p43]
    refine awp_ret ?_
    try simp only [go_sem]
    exact fin _ _ _ rfl (decide_eq_false fun e => h (by rw [e])).symm
  intro h12
  refine awp_skip ?_
  simp only [go_sem]
  refine awp_sr2 ?_
  simp only [go_sem, R43_27, v43, p43]
  refine awp_if rfl ?_ ?_
  · intro h
    refine awp_sr ?_
    simp only [go_sem, R43_28, v43, p43]
    refine awp_ret ?_
    try simp only [go_sem]
    exact fin _ _ _ rfl (decide_eq_false fun e => h (by rw [e])).symm
  intro h13
  refine awp_skip ?_
  simp only [go_sem]
  refine awp_sr2 ?_
  simp only [go_sem, R43_29, v43, p43]
  refine run_see (eqRiseS_ok a.rises b.rises (by omega)) false (Views.refl rfl) rfl (fun j hj => by omega) (fun h => by cases h) ?_
  simp only [go_sem, v43, p43]
  refine awp_if' rfl ?_ ?_
  · intro h
    refine awp_sr ?_
    simp only [go_sem, R43_30, v43, p43]
    refine awp_ret ?_
    try simp only [go_sem]
    exact fin _ _ _ rfl (decide_eq_false fun e => h (by rw [e])).symm
  intro h14
  refine awp_skip ?_
  simp only [go_sem]
  refine awp_sr ?_
  simp only [go_sem, R43_31, v43, p43]
  refine awp_ret ?_
  try simp only [go_sem]
  refine fin _ _ _ rfl (decide_eq_true ?_).symm
  cases a; cases b
  simp at h0 h1 h2 h3 h4 h5 h6 h7 h8 h9 h10 h11 h12 h13 h14
  simp [h0, h1, h2, h3, h4, h5, h6, h7, h8, h9, h10, h11, h12, h13, h14]
theorem szNode_ok (a : Node) (n : Nat) (hn : n ≤ 1048576) (ha : a.ok) : FS Try.prog 39 [] [.agg a.c, .int .i64 n] (.int .i64 (left n a.sz)) [] := by
  refine FS.of (X := X39) (ac := A39) (os := O39) Try.func39 (by rfl) (by rfl) (by kernel_rfl) o39 (Nat.le_of_ble_eq_true rfl) ?_
  show AWP X39 A39 (Ends X39.vs O39 0 _ _) [.agg a.c, .int .i64 n, .tup [], .tup [], .tup [], .tup [], .tup [], .tup [], .tup [], .tup [], .tup [], .tup []] []
  obtain ⟨Q, hQ⟩ : ∃ Q, Q = Ends X39.vs O39 0 (.int .i64 (left n a.sz)) [] := ⟨_, rfl⟩
  rw [← hQ]
  obtain ⟨p0, p1, p2, p3, p4, p5, p6, p7⟩ := ha
  have tot : a.sz = a.state.sz + a.tree.sz + a.log.sz + a.got.length + a.acked.length + szS List.length a.seen + a.sess.length + a.rises.length := rfl
  refine awp_sr ?_
  simp only [go_sem, R39_0, v39, p39, Node.c]
  refine awp_sr ?_
  simp only [go_sem, R39_1, v39, p39]
  refine run_see (szState_ok a.state n (by omega) p0) false (Views.refl rfl) rfl (fun j hj => by omega) (fun h => by cases h) ?_
  simp only [go_sem, v39, p39]
  refine awp_sr2 ?_
  simp only [go_sem, R39_2, v39, p39]
  refine awp_if rfl ?_ ?_
  · intro h
    refine awp_sr ?_
    simp only [go_sem, R39_3, v39, p39]
    refine awp_ret ?_
    try simp only [go_sem]
    rw [hQ]
    refine Ends.is (.inl rfl) rfl (congrArg (V.int .i64) (left_no ?_).symm) rfl
    have : ¬ a.state.sz ≤ n := fun e => by rw [left_is e] at h; omega
    omega
  intro h0
  obtain ⟨e0, g0⟩ := left_pos h0
  rw [e0]
  refine awp_skip ?_
  simp only [go_sem]
  refine awp_sr ?_
  simp only [go_sem, R39_4, v39, p39]
  refine run_see (szTree_ok a.tree (n - a.state.sz) (by omega) p1) false (Views.refl rfl) rfl (fun j hj => by omega) (fun h => by cases h) ?_
  simp only [go_sem, v39, p39]
  refine awp_sr2 ?_
  simp only [go_sem, R39_5, v39, p39]
  refine awp_if rfl ?_ ?_
  · intro h
    refine awp_sr ?_
    simp only [go_sem, R39_6, v39, p39]
    refine awp_ret ?_
    try simp only [go_sem]
    rw [hQ]
    refine Ends.is (.inl rfl) rfl (congrArg (V.int .i64) (left_no ?_).symm) rfl
    have : ¬ a.tree.sz ≤ (n - a.state.sz) := fun e => by rw [left_is e] at h; omega
    omega
  intro h1
  obtain ⟨e1, g1⟩ := left_pos h1
  rw [e1]
  refine awp_skip ?_
  simp only [go_sem]
  refine awp_sr ?_
  simp only [go_sem, R39_7, v39, p39]
  refine run_see (szLog_ok a.log ((n - a.state.sz) - a.tree.sz) (by omega) p2) false (Views.refl rfl) rfl (fun j hj => by omega) (fun h => by cases h) ?_
  simp only [go_sem, v39, p39]
  refine awp_sr2 ?_
  simp only [go_sem, R39_8, v39, p39]
  refine awp_if rfl ?_ ?_
  · intro h
    refine awp_sr ?_
    simp only [go_sem, R39_9, v39, p39]
    refine awp_ret ?_
    try simp only [go_sem]
    rw [hQ]
    refine Ends.is (.inl rfl) rfl (congrArg (V.int .i64) (left_no ?_).symm) rfl
    have : ¬ a.log.sz ≤ ((n - a.state.sz) - a.tree.sz) := fun e => by rw [left_is e] at h; omega
    omega
  intro h2
  obtain ⟨e2, g2⟩ := left_pos h2
  rw [e2]
  refine awp_skip ?_
  simp only [go_sem]
  refine awp_sr ?_
  simp only [go_sem, R39_10, v39, p39]
  refine run_see (szIntS_ok a.got (((n - a.state.sz) - a.tree.sz) - a.log.sz) (by omega) p3) false (Views.refl rfl) rfl (fun j hj => by omega) (fun h => by cases h) ?_
  simp only [go_sem, v39, p39]
  refine awp_sr2 ?_
  simp only [go_sem, R39_11, v39, p39]
  refine awp_if rfl ?_ ?_
  · intro h
    refine awp_sr ?_
    simp only [go_sem, R39_12, v39, p39]
    refine awp_ret ?_
    try simp only [go_sem]
    rw [hQ]
    refine Ends.is (.inl rfl) rfl (congrArg (V.int .i64) (left_no ?_).symm) rfl
    have : ¬ a.got.length ≤ (((n - a.state.sz) - a.tree.sz) - a.log.sz) := fun e => by rw [left_is e] at h; omega
    omega
  intro h3
  obtain ⟨e3, g3⟩ := left_pos h3
  rw [e3]
  refine awp_skip ?_
  simp only [go_sem]
  refine awp_sr ?_
  simp only [go_sem, R39_13, v39, p39]
  refine run_see (szIntS_ok a.acked ((((n - a.state.sz) - a.tree.sz) - a.log.sz) - a.got.length) (by omega) p4) false (Views.refl rfl) rfl (fun j hj => by omega) (fun h => by cases h) ?_
  simp only [go_sem, v39, p39]
  refine awp_sr2 ?_
  simp only [go_sem, R39_14, v39, p39]
  refine awp_if rfl ?_ ?_
  · intro h
    refine awp_sr ?_
    simp only [go_sem, R39_15, v39, p39]
    refine awp_ret ?_
    try simp only [go_sem]
    rw [hQ]
    refine Ends.is (.inl rfl) rfl (congrArg (V.int .i64) (left_no ?_).symm) rfl
    have : ¬ a.acked.length ≤ ((((n - a.state.sz) - a.tree.sz) - a.log.sz) - a.got.length) := fun e => by rw [left_is e] at h; omega
    omega
  intro h4
  obtain ⟨e4, g4⟩ := left_pos h4
  rw [e4]
  refine awp_skip ?_
  simp only [go_sem]
  refine awp_sr ?_
  simp only [go_sem, R39_16, v39, p39]
  refine run_see (szIntSS_ok a.seen (((((n - a.state.sz) - a.tree.sz) - a.log.sz) - a.got.length) - a.acked.length) (by omega) p5) false (Views.refl rfl) rfl (fun j hj => by omega) (fun h => by cases h) ?_
  simp only [go_sem, v39, p39]
  refine awp_sr2 ?_
  simp only [go_sem, R39_17, v39, p39]
  refine awp_if rfl ?_ ?_
  · intro h
    refine awp_sr ?_
    simp only [go_sem, R39_18, v39, p39]
    refine awp_ret ?_
    try simp only [go_sem]
    rw [hQ]
    refine Ends.is (.inl rfl) rfl (congrArg (V.int .i64) (left_no ?_).symm) rfl
    have : ¬ szS List.length a.seen ≤ (((((n - a.state.sz) - a.tree.sz) - a.log.sz) - a.got.length) - a.acked.length) := fun e => by rw [left_is e] at h; omega
    omega
  intro h5
  obtain ⟨e5, g5⟩ := left_pos h5
  rw [e5]
  refine awp_skip ?_
  simp only [go_sem]
  refine awp_sr ?_
  simp only [go_sem, R39_19, v39, p39]
  refine run_see (szSessS_ok a.sess ((((((n - a.state.sz) - a.tree.sz) - a.log.sz) - a.got.length) - a.acked.length) - szS List.length a.seen) (by omega) p6) false (Views.refl rfl) rfl (fun j hj => by omega) (fun h => by cases h) ?_
  simp only [go_sem, v39, p39]
  refine awp_sr2 ?_
  simp only [go_sem, R39_20, v39, p39]
  refine awp_if rfl ?_ ?_
  · intro h
    refine awp_sr ?_
    simp only [go_sem, R39_21, v39, p39]
    refine awp_ret ?_
    try simp only [go_sem]
    rw [hQ]
    refine Ends.is (.inl rfl) rfl (congrArg (V.int .i64) (left_no ?_).symm) rfl
    have : ¬ a.sess.length ≤ ((((((n - a.state.sz) - a.tree.sz) - a.log.sz) - a.got.length) - a.acked.length) - szS List.length a.seen) := fun e => by rw [left_is e] at h; omega
    omega
  intro h6
  obtain ⟨e6, g6⟩ := left_pos h6
  rw [e6]
  refine awp_skip ?_
  simp only [go_sem]
  refine awp_sr ?_
  simp only [go_sem, R39_22, v39, p39]
  refine run_see (szRiseS_ok a.rises (((((((n - a.state.sz) - a.tree.sz) - a.log.sz) - a.got.length) - a.acked.length) - szS List.length a.seen) - a.sess.length) (by omega) p7) false (Views.refl rfl) rfl (fun j hj => by omega) (fun h => by cases h) ?_
  simp only [go_sem, v39, p39]
  refine awp_sr2 ?_
  simp only [go_sem, R39_23, v39, p39]
  refine awp_if rfl ?_ ?_
  · intro h
    refine awp_sr ?_
    simp only [go_sem, R39_24, v39, p39]
    refine awp_ret ?_
    try simp only [go_sem]
    rw [hQ]
    refine Ends.is (.inl rfl) rfl (congrArg (V.int .i64) (left_no ?_).symm) rfl
    have : ¬ a.rises.length ≤ (((((((n - a.state.sz) - a.tree.sz) - a.log.sz) - a.got.length) - a.acked.length) - szS List.length a.seen) - a.sess.length) := fun e => by rw [left_is e] at h; omega
    omega
  intro h7
  obtain ⟨e7, g7⟩ := left_pos h7
  rw [e7]
  refine awp_skip ?_
  simp only [go_sem]
  refine awp_sr ?_
  simp only [go_sem, R39_25, v39, p39]
  refine awp_ret ?_
  try simp only [go_sem]
  rw [hQ]
  refine Ends.is (.inl rfl) rfl (congrArg (V.int .i64) ?_) rfl
  rw [left_is (by omega)]
  omega
end Go.Proofs.Ytffigokicddekaa.Abs
/- An entry and a floor looked up, walked in both texts. No condition. -/
set_option linter.unusedVariables false
set_option linter.unusedSimpArgs false
set_option maxRecDepth 10000
namespace Go.Proofs.Ytffigokicddekaa.Abs
open Go Go.Proofs
def R100_0 : List AR := [⟨(some 2), none, 0, (.box 0 2 (.t 0))⟩, ⟨(some 4), none, 0, (.mov (.k (.int .i64 0)))⟩]
def R100_1 : List AR := [⟨(some 5), none, 0, (.mov (.k (.int .i64 0)))⟩]
def R100_2 : List AR := [⟨(some 6), none, 0, (.mov (.t 5))⟩, ⟨(some 7), none, 0, (.faddr 1 (.t 2))⟩, ⟨(some 8), none, 0, (.load 1 false (.t 7))⟩, ⟨(some 9), none, 0, (.len (.t 8))⟩, ⟨(some 10), none, 0, (.bin .lss (.t 6) (.t 9))⟩]
def R100_3 : List AR := [⟨(some 13), none, 0, (.faddr 1 (.t 2))⟩, ⟨(some 14), none, 0, (.load 1 false (.t 13))⟩, ⟨(some 15), none, 0, (.mov (.t 5))⟩, ⟨(some 16), none, 0, (.iaddr 2 (.t 14) (.t 15))⟩, ⟨(some 17), none, 0, (.faddr 0 (.t 16))⟩, ⟨(some 18), none, 0, (.load 1 false (.t 17))⟩, ⟨(some 19), none, 0, (.mov (.t 1))⟩, ⟨(some 20), none, 0, (.bin .eql (.t 18) (.t 19))⟩]
def R100_4 : List AR := [⟨(some 21), none, 0, (.faddr 1 (.t 2))⟩, ⟨(some 22), none, 0, (.load 1 false (.t 21))⟩, ⟨(some 23), none, 0, (.mov (.t 5))⟩, ⟨(some 24), none, 0, (.iaddr 2 (.t 22) (.t 23))⟩, ⟨(some 25), none, 0, (.faddr 1 (.t 24))⟩, ⟨(some 26), none, 0, (.load 1 false (.t 25))⟩, ⟨(some 4), none, 0, (.mov (.t 26))⟩]
def R100_5 : List AR := [⟨(some 11), none, 0, (.mov (.t 5))⟩, ⟨(some 12), none, 0, (.bin .add (.t 11) (.k (.int .i64 1)))⟩, ⟨(some 5), none, 0, (.mov (.t 12))⟩]
def A100_0 : AC := (.seq (.block 1 (.seq (.reg 0 R100_3) (.cond (.t 20) (.seq (.reg 0 R100_4) .ret) .skip))) (.reg 0 R100_5))
def L100_0 : AC := (.seq (.seq (.reg 0 R100_2) (.cond (.t 10) .skip (.exit 0))) A100_0)
def R100_6 : List AR := [⟨(some 4), none, 0, (.mov (.k (.int .i64 0)))⟩]
def A100_1 : AC := (.seq (.reg 0 R100_6) .ret)
def A100_2 : AC := (.seq (.seq (.reg 0 R100_1) (.block 0 (.loop L100_0))) A100_1)
def A100 : AC := (.seq (.reg 1 R100_0) A100_2)
def O100 : List AO := [(.mov (.t 4))]
def G100 : Fns := ⟨fun f => false, fun f => 0, false⟩
noncomputable def X100 : Cx := ⟨Try.prog, G100, drawD, 27, [0, 1, 2, 4, 5, 10, 20]⟩
theorem c100 : (Try.f100.body).bind (compC X100.P X100.Γ X100.D X100.nt) = some A100 := by kernel_rfl
theorem o100 : compRes X100.P Try.f100.results.toList = some O100 := by kernel_rfl
theorem v100 : X100.vs = [0, 1, 2, 4, 5, 10, 20] := rfl
theorem p100 : X100.P = Try.prog := rfl
def R107_0 : List AR := [⟨(some 2), none, 0, (.box 0 2 (.t 0))⟩, ⟨(some 4), none, 0, (.mov (.k (.int .i64 0)))⟩]
def R107_1 : List AR := [⟨(some 7), none, 0, (.faddr 1 (.t 2))⟩, ⟨(some 8), none, 0, (.load 1 false (.t 7))⟩, ⟨(some 9), none, 0, (.len (.t 8))⟩, ⟨(some 10), none, 0, (.mov (.k (.int .i64 0)))⟩]
def R107_2 : List AR := [⟨(some 11), none, 0, (.bin .lss (.t 10) (.t 9))⟩]
def R107_3 : List AR := [⟨(some 12), none, 0, (.iaddr 2 (.t 8) (.t 10))⟩, ⟨(some 13), none, 0, (.load 2 true (.t 12))⟩, ⟨(some 6), none, 0, (.alloc 0 2 [(.int .i64 0), (.int .i64 0)])⟩, ⟨none, none, 0, (.store 2 (.t 6) (.t 13))⟩]
def R107_4 : List AR := [⟨(some 14), none, 0, (.faddr 0 (.t 6))⟩, ⟨(some 15), none, 0, (.load 1 false (.t 14))⟩, ⟨(some 16), none, 0, (.mov (.t 1))⟩, ⟨(some 17), none, 0, (.bin .eql (.t 15) (.t 16))⟩]
def R107_5 : List AR := [⟨(some 18), none, 0, (.faddr 1 (.t 6))⟩, ⟨(some 19), none, 0, (.load 1 false (.t 18))⟩, ⟨(some 4), none, 0, (.mov (.t 19))⟩]
def A107_0 : AC := (.seq (.reg 0 R107_4) (.cond (.t 17) (.seq (.reg 0 R107_5) .ret) .skip))
def R107_6 : List AR := [⟨(some 20), none, 0, (.bin .add (.t 10) (.k (.int .i64 1)))⟩, ⟨(some 10), none, 0, (.mov (.t 20))⟩]
def A107_1 : AC := (.seq (.block 1 (.seq (.reg 1 R107_3) A107_0)) (.reg 0 R107_6))
def A107_2 : AC := (.seq (.cond (.t 11) .skip (.exit 0)) A107_1)
def L107_0 : AC := (.seq (.reg 0 R107_2) A107_2)
def R107_7 : List AR := [⟨(some 4), none, 0, (.mov (.k (.int .i64 0)))⟩]
def A107_3 : AC := (.seq (.reg 0 R107_7) .ret)
def A107_4 : AC := (.seq (.seq (.reg 0 R107_1) (.block 0 (.loop L107_0))) A107_3)
def A107 : AC := (.seq (.reg 1 R107_0) A107_4)
def O107 : List AO := [(.mov (.t 4))]
def G107 : Fns := ⟨fun f => false, fun f => 0, false⟩
noncomputable def X107 : Cx := ⟨Try.prog, G107, drawD, 21, [0, 1, 2, 4, 6, 8, 9, 10, 11, 17]⟩
theorem c107 : (Try.f107.body).bind (compC X107.P X107.Γ X107.D X107.nt) = some A107 := by kernel_rfl
theorem o107 : compRes X107.P Try.f107.results.toList = some O107 := by kernel_rfl
theorem v107 : X107.vs = [0, 1, 2, 4, 6, 8, 9, 10, 11, 17] := rfl
theorem p107 : X107.P = Try.prog := rfl
def floorL : List Floor → Int → Int
  | [], _ => 0
  | f :: fs, id => if f.id = id then f.inc else floorL fs id
def floorOf (s : State) (id : Int) : Int := floorL s.floors id
theorem floorL_at {xs : List Floor} {i : Nat} (h : i < xs.length) (id : Int) : floorL (xs.drop i) id = if xs[i].id = id then xs[i].inc else floorL (xs.drop (i + 1)) id := by
  rw [List.drop_eq_getElem_cons h]; rfl
theorem specFloorOf_ok (a : State) (id : Int) (h : a.floors.length ≤ 1000000000) : FS Try.prog 100 [] [.agg a.c, .int .i64 id] (.int .i64 (floorOf a id)) [] := by
  refine FS.of (X := X100) (ac := A100) (os := O100) Try.func100 (by rfl) (by rfl) (by kernel_rfl) o100 (Nat.le_of_ble_eq_true rfl) ?_
  show AWP X100 A100 (Ends X100.vs O100 0 _ _) [.agg a.c, .int .i64 id, .tup [], .tup [], .tup [], .tup [], .tup []] []
  obtain ⟨Q, hQ⟩ : ∃ Q, Q = Ends X100.vs O100 0 (.int .i64 (floorOf a id)) [] := ⟨_, rfl⟩
  rw [← hQ]
  have fin : ∀ L σ n, look X100.vs L 4 = .int .i64 n → n = floorOf a id → Q .ret L σ := by
    intro L σ n h1 h2
    rw [hQ]
    refine Ends.is (.inl rfl) (rs := [.int .i64 n]) (by simp only [go_sem, O100, h1]) ?_ rfl
    simp [packV, h2]
  refine awp_sr ?_
  simp only [go_sem, R100_0, v100, p100, State.c]
  refine awp_sr2 ?_
  simp only [go_sem, R100_1, v100, p100]
  refine awp_for (fun m L σ => ∃ i x10 x20, m = a.floors.length - i ∧ i ≤ a.floors.length ∧ floorOf a id = floorL (a.floors.drop i) id ∧ L = [.agg a.c, .int .i64 id, .ptr 0 2 0 0, .int .i64 0, .int .i64 (i : Nat), x10, x20] ∧ σ = [.live ⟨2, [a.c]⟩]) a.floors.length
    ⟨0, _, _, rfl, Nat.zero_le _, rfl, rfl, rfl⟩ ?_
  rintro n L σ ⟨i, x10, x20, rfl, hi, he, rfl, rfl⟩
  refine awp_sr2 ?_
  simp only [go_sem, R100_2, v100, p100, State.c]
  refine awp_if rfl ?_ ?_
  · intro h1
    have h1 : i < a.floors.length := by omega
    have e1 := floorL_at h1 id
    refine awp_skip ?_
    simp only [go_sem]
    refine awp_seq (awp_block ?_)
    refine awp_sr ?_
    simp only [go_sem, R100_3, v100, p100, rw_at _ h1, Floor.c]
    refine awp_if rfl ?_ ?_
    · intro h2
      refine awp_sr ?_
      simp only [go_sem, R100_4, v100, p100, rw_at _ h1, Floor.c]
      refine awp_ret ?_
      try simp only [go_sem]
      exact fin _ _ _ rfl (by rw [he, e1, if_pos h2])
    · intro h2
      refine awp_skip ?_
      simp only [go_sem]
      refine awp_reg ?_
      simp only [go_sem, R100_5, v100, p100, wrap_succ (i := i) (by omega)]
      exact ⟨a.floors.length - (i + 1), by omega, i + 1, _, _, rfl, by omega, by rw [he, e1, if_neg h2], rfl⟩
  · intro h1
    refine awp_exit ?_
    simp only [go_sem]
    refine awp_sr ?_
    simp only [go_sem, R100_6, v100, p100]
    refine awp_ret ?_
    try simp only [go_sem]
    exact fin _ _ _ rfl (by rw [he, List.drop_eq_nil_of_le (by omega)]; rfl)
theorem implFloorOf_ok (a : State) (id : Int) (h : a.floors.length ≤ 1000000000) : FS Try.prog 107 [] [.agg a.c, .int .i64 id] (.int .i64 (floorOf a id)) [] := by
  refine FS.of (X := X107) (ac := A107) (os := O107) Try.func107 (by rfl) (by rfl) (by kernel_rfl) o107 (Nat.le_of_ble_eq_true rfl) ?_
  show AWP X107 A107 (Ends X107.vs O107 0 _ _) [.agg a.c, .int .i64 id, .tup [], .tup [], .tup [], .tup [], .tup [], .tup [], .tup [], .tup []] []
  obtain ⟨Q, hQ⟩ : ∃ Q, Q = Ends X107.vs O107 0 (.int .i64 (floorOf a id)) [] := ⟨_, rfl⟩
  rw [← hQ]
  have fin : ∀ L σ n, look X107.vs L 4 = .int .i64 n → n = floorOf a id → Q .ret L σ := by
    intro L σ n h1 h2
    rw [hQ]
    refine Ends.is (.inl rfl) (rs := [.int .i64 n]) (by simp only [go_sem, O107, h1]) ?_ rfl
    simp [packV, h2]
  refine awp_sr ?_
  simp only [go_sem, R107_0, v107, p107, State.c]
  refine awp_sr2 ?_
  simp only [go_sem, R107_1, v107, p107]
  refine awp_for (fun m L σ => ∃ i x6 x11 x17, m = a.floors.length - i ∧ i ≤ a.floors.length ∧ floorOf a id = floorL (a.floors.drop i) id ∧ L = [.agg a.c, .int .i64 id, .ptr 0 2 0 0, .int .i64 0, x6, .fz 2 (rw_ Floor.c a.floors), .int .i64 a.floors.length, .int .i64 (i : Nat), x11, x17]) a.floors.length
    ⟨0, _, _, _, rfl, Nat.zero_le _, rfl, rfl⟩ ?_
  rintro n L σ ⟨i, x6, x11, x17, rfl, hi, he, rfl⟩
  refine awp_sr ?_
  simp only [go_sem, R107_2, v107, p107]
  refine awp_seq ?_
  refine awp_if rfl ?_ ?_
  · intro h1
    have h1 : i < a.floors.length := by omega
    have e1 := floorL_at h1 id
    refine awp_skip ?_
    simp only [go_sem]
    refine awp_seq (awp_block ?_)
    refine awp_sr ?_
    simp only [go_sem, R107_3, v107, p107, rw_at _ h1, Floor.c]
    refine awp_sr ?_
    simp only [go_sem, R107_4, v107, p107]
    refine awp_if rfl ?_ ?_
    · intro h2
      refine awp_sr ?_
      simp only [go_sem, R107_5, v107, p107]
      refine awp_ret ?_
      try simp only [go_sem]
      exact fin _ _ _ rfl (by rw [he, e1, if_pos h2])
    · intro h2
      refine awp_skip ?_
      simp only [go_sem]
      refine awp_reg ?_
      simp only [go_sem, R107_6, v107, p107, wrap_succ (i := i) (by omega)]
      exact ⟨a.floors.length - (i + 1), by omega, i + 1, _, _, _, rfl, by omega, by rw [he, e1, if_neg h2], rfl⟩
  · intro h1
    refine awp_exit ?_
    simp only [go_sem]
    refine awp_sr ?_
    simp only [go_sem, R107_7, v107, p107]
    refine awp_ret ?_
    try simp only [go_sem]
    exact fin _ _ _ rfl (by rw [he, List.drop_eq_nil_of_le (by omega)]; rfl)
end Go.Proofs.Ytffigokicddekaa.Abs
/- An entry looked up, walked in both texts. No condition. -/
set_option linter.unusedVariables false
set_option linter.unusedSimpArgs false
set_option maxRecDepth 10000
namespace Go.Proofs.Ytffigokicddekaa.Abs
open Go Go.Proofs
def R54_0 : List AR := [⟨(some 2), none, 0, (.box 0 2 (.t 0))⟩, ⟨(some 4), none, 0, (.alloc 1 5 [(.int .i64 0), (.int .i64 0), (.int .i64 0), (.int .i64 0), (.str ⟨⟨[]⟩⟩)])⟩, ⟨(some 5), none, 0, (.mov (.k (.bool false)))⟩]
def R54_1 : List AR := [⟨(some 6), none, 0, (.mov (.k (.int .i64 0)))⟩]
def R54_2 : List AR := [⟨(some 7), none, 0, (.mov (.t 6))⟩, ⟨(some 8), none, 0, (.faddr 0 (.t 2))⟩, ⟨(some 9), none, 0, (.load 1 false (.t 8))⟩, ⟨(some 10), none, 0, (.len (.t 9))⟩, ⟨(some 11), none, 0, (.bin .lss (.t 7) (.t 10))⟩]
def R54_3 : List AR := [⟨(some 14), none, 0, (.faddr 0 (.t 2))⟩, ⟨(some 15), none, 0, (.load 1 false (.t 14))⟩, ⟨(some 16), none, 0, (.mov (.t 6))⟩, ⟨(some 17), none, 0, (.iaddr 6 (.t 15) (.t 16))⟩, ⟨(some 18), none, 0, (.faddr 0 (.t 17))⟩, ⟨(some 19), none, 0, (.load 1 false (.t 18))⟩, ⟨(some 20), none, 0, (.mov (.t 1))⟩, ⟨(some 21), none, 0, (.bin .eql (.t 19) (.t 20))⟩]
def R54_4 : List AR := [⟨(some 22), none, 0, (.faddr 0 (.t 2))⟩, ⟨(some 23), none, 0, (.load 1 false (.t 22))⟩, ⟨(some 24), none, 0, (.mov (.t 6))⟩, ⟨(some 25), none, 0, (.iaddr 6 (.t 23) (.t 24))⟩, ⟨(some 26), none, 0, (.faddr 1 (.t 25))⟩, ⟨(some 27), none, 0, (.load 5 true (.t 26))⟩, ⟨none, none, 0, (.store 5 (.t 4) (.t 27))⟩, ⟨(some 5), none, 0, (.mov (.k (.bool true)))⟩]
def R54_5 : List AR := [⟨(some 12), none, 0, (.mov (.t 6))⟩, ⟨(some 13), none, 0, (.bin .add (.t 12) (.k (.int .i64 1)))⟩, ⟨(some 6), none, 0, (.mov (.t 13))⟩]
def A54_0 : AC := (.seq (.block 1 (.seq (.reg 0 R54_3) (.cond (.t 21) (.seq (.reg 0 R54_4) .ret) .skip))) (.reg 0 R54_5))
def L54_0 : AC := (.seq (.seq (.reg 0 R54_2) (.cond (.t 11) .skip (.exit 0))) A54_0)
def R54_6 : List AR := [⟨(some 28), none, 0, (.build [(.int .i64 0), (.int .i64 0), (.int .i64 0), (.int .i64 0), (.str ⟨⟨[]⟩⟩)] [])⟩, ⟨none, none, 0, (.store 5 (.t 4) (.t 28))⟩, ⟨(some 5), none, 0, (.mov (.k (.bool false)))⟩]
def A54_1 : AC := (.seq (.reg 0 R54_6) .ret)
def A54_2 : AC := (.seq (.seq (.reg 0 R54_1) (.block 0 (.loop L54_0))) A54_1)
def A54 : AC := (.seq (.reg 2 R54_0) A54_2)
def O54 : List AO := [(.load 5 true (.t 4)), (.mov (.t 5))]
def G54 : Fns := ⟨fun f => false, fun f => 0, false⟩
noncomputable def X54 : Cx := ⟨Try.prog, G54, drawD, 29, [0, 1, 2, 4, 5, 6, 11, 21]⟩
theorem c54 : (Try.f54.body).bind (compC X54.P X54.Γ X54.D X54.nt) = some A54 := by kernel_rfl
theorem o54 : compRes X54.P Try.f54.results.toList = some O54 := by kernel_rfl
theorem v54 : X54.vs = [0, 1, 2, 4, 5, 6, 11, 21] := rfl
theorem p54 : X54.P = Try.prog := rfl
def R58_0 : List AR := [⟨(some 2), none, 0, (.box 0 2 (.t 0))⟩, ⟨(some 4), none, 0, (.alloc 1 5 [(.int .i64 0), (.int .i64 0), (.int .i64 0), (.int .i64 0), (.str ⟨⟨[]⟩⟩)])⟩, ⟨(some 5), none, 0, (.mov (.k (.bool false)))⟩]
def R58_1 : List AR := [⟨(some 8), none, 0, (.faddr 0 (.t 2))⟩, ⟨(some 9), none, 0, (.load 1 false (.t 8))⟩, ⟨(some 10), none, 0, (.len (.t 9))⟩, ⟨(some 11), none, 0, (.mov (.k (.int .i64 0)))⟩]
def R58_2 : List AR := [⟨(some 12), none, 0, (.bin .lss (.t 11) (.t 10))⟩]
def R58_3 : List AR := [⟨(some 13), none, 0, (.iaddr 6 (.t 9) (.t 11))⟩, ⟨(some 14), none, 0, (.load 6 true (.t 13))⟩, ⟨(some 7), none, 0, (.alloc 0 6 [(.int .i64 0), (.int .i64 0), (.int .i64 0), (.int .i64 0), (.int .i64 0), (.str ⟨⟨[]⟩⟩)])⟩, ⟨none, none, 0, (.store 6 (.t 7) (.t 14))⟩]
def R58_4 : List AR := [⟨(some 15), none, 0, (.faddr 0 (.t 7))⟩, ⟨(some 16), none, 0, (.load 1 false (.t 15))⟩, ⟨(some 17), none, 0, (.mov (.t 1))⟩, ⟨(some 18), none, 0, (.bin .eql (.t 16) (.t 17))⟩]
def R58_5 : List AR := [⟨(some 19), none, 0, (.faddr 1 (.t 7))⟩, ⟨(some 20), none, 0, (.load 5 true (.t 19))⟩, ⟨none, none, 0, (.store 5 (.t 4) (.t 20))⟩, ⟨(some 5), none, 0, (.mov (.k (.bool true)))⟩]
def A58_0 : AC := (.seq (.reg 0 R58_4) (.cond (.t 18) (.seq (.reg 0 R58_5) .ret) .skip))
def R58_6 : List AR := [⟨(some 21), none, 0, (.bin .add (.t 11) (.k (.int .i64 1)))⟩, ⟨(some 11), none, 0, (.mov (.t 21))⟩]
def A58_1 : AC := (.seq (.block 1 (.seq (.reg 1 R58_3) A58_0)) (.reg 0 R58_6))
def A58_2 : AC := (.seq (.cond (.t 12) .skip (.exit 0)) A58_1)
def L58_0 : AC := (.seq (.reg 0 R58_2) A58_2)
def R58_7 : List AR := [⟨(some 22), none, 0, (.build [(.int .i64 0), (.int .i64 0), (.int .i64 0), (.int .i64 0), (.str ⟨⟨[]⟩⟩)] [])⟩, ⟨none, none, 0, (.store 5 (.t 4) (.t 22))⟩, ⟨(some 5), none, 0, (.mov (.k (.bool false)))⟩]
def A58_3 : AC := (.seq (.reg 0 R58_7) .ret)
def A58_4 : AC := (.seq (.seq (.reg 0 R58_1) (.block 0 (.loop L58_0))) A58_3)
def A58 : AC := (.seq (.reg 2 R58_0) A58_4)
def O58 : List AO := [(.load 5 true (.t 4)), (.mov (.t 5))]
def G58 : Fns := ⟨fun f => false, fun f => 0, false⟩
noncomputable def X58 : Cx := ⟨Try.prog, G58, drawD, 23, [0, 1, 2, 4, 5, 7, 9, 10, 11, 12, 18]⟩
theorem c58 : (Try.f58.body).bind (compC X58.P X58.Γ X58.D X58.nt) = some A58 := by kernel_rfl
theorem o58 : compRes X58.P Try.f58.results.toList = some O58 := by kernel_rfl
theorem v58 : X58.vs = [0, 1, 2, 4, 5, 7, 9, 10, 11, 12, 18] := rfl
theorem p58 : X58.P = Try.prog := rfl
def entryL : List Item → Int → Entry × Bool
  | [], _ => (Entry.zero, false)
  | x :: xs, id => if x.id = id then (x.entry, true) else entryL xs id
def entryOf (s : State) (id : Int) : Entry × Bool := entryL s.items id
theorem entryL_at {xs : List Item} {i : Nat} (h : i < xs.length) (id : Int) : entryL (xs.drop i) id = if xs[i].id = id then (xs[i].entry, true) else entryL (xs.drop (i + 1)) id := by
  rw [List.drop_eq_getElem_cons h]; rfl
def entryV (p : Entry × Bool) : V := .tup [.agg p.1.c, .bool p.2]
theorem specEntryOf_ok (a : State) (id : Int) (h : a.items.length ≤ 1000000000) : FS Try.prog 54 [] [.agg a.c, .int .i64 id] (entryV (entryOf a id)) [] := by
  refine FS.of (X := X54) (ac := A54) (os := O54) Try.func54 (by rfl) (by rfl) (by kernel_rfl) o54 (Nat.le_of_ble_eq_true rfl) ?_
  show AWP X54 A54 (Ends X54.vs O54 0 _ _) [.agg a.c, .int .i64 id, .tup [], .tup [], .tup [], .tup [], .tup [], .tup []] []
  obtain ⟨Q, hQ⟩ : ∃ Q, Q = Ends X54.vs O54 0 (entryV (entryOf a id)) [] := ⟨_, rfl⟩
  rw [← hQ]
  have fin : ∀ L σ p, resVs O54 (look X54.vs L) σ = some [.agg p.1.c, .bool p.2] → p = entryOf a id → Q .ret L σ := by
    intro L σ p h1 h2
    rw [hQ]
    exact Ends.is (.inl rfl) h1 (by rw [← h2]; rfl) rfl
  refine awp_sr ?_
  simp only [go_sem, R54_0, v54, p54, State.c]
  refine awp_sr2 ?_
  simp only [go_sem, R54_1, v54, p54]
  refine awp_for (fun m L σ => ∃ i x11 x21, m = a.items.length - i ∧ i ≤ a.items.length ∧ entryOf a id = entryL (a.items.drop i) id ∧ L = [.agg a.c, .int .i64 id, .ptr 0 2 0 0, .ptr 1 5 0 0, .bool false, .int .i64 (i : Nat), x11, x21] ∧ σ = [.live ⟨2, [a.c]⟩, .live ⟨5, [Entry.zero.c]⟩]) a.items.length
    ⟨0, _, _, rfl, Nat.zero_le _, rfl, rfl, rfl⟩ ?_
  rintro n L σ ⟨i, x11, x21, rfl, hi, he, rfl, rfl⟩
  refine awp_sr2 ?_
  simp only [go_sem, R54_2, v54, p54, State.c]
  refine awp_if rfl ?_ ?_
  · intro h1
    have h1 : i < a.items.length := by omega
    have e1 := entryL_at h1 id
    refine awp_skip ?_
    simp only [go_sem]
    refine awp_seq (awp_block ?_)
    refine awp_sr ?_
    simp only [go_sem, R54_3, v54, p54, rw_at _ h1, Item.c]
    refine awp_if rfl ?_ ?_
    · intro h2
      refine awp_sr ?_
      simp only [go_sem, R54_4, v54, p54, rw_at _ h1, Item.c, Entry.c, Entry.zero]
      refine awp_ret ?_
      try simp only [go_sem]
      exact fin _ _ (a.items[i].entry, true) rfl (by rw [he, e1, if_pos h2])
    · intro h2
      refine awp_skip ?_
      simp only [go_sem]
      refine awp_reg ?_
      simp only [go_sem, R54_5, v54, p54, wrap_succ (i := i) (by omega)]
      exact ⟨a.items.length - (i + 1), by omega, i + 1, _, _, rfl, by omega, by rw [he, e1, if_neg h2], rfl⟩
  · intro h1
    refine awp_exit ?_
    simp only [go_sem]
    refine awp_sr ?_
    simp only [go_sem, R54_6, v54, p54, Entry.c, Entry.zero]
    refine awp_ret ?_
    try simp only [go_sem]
    exact fin _ _ (Entry.zero, false) rfl (by rw [he, List.drop_eq_nil_of_le (by omega)]; rfl)
theorem implEntryOf_ok (a : State) (id : Int) (h : a.items.length ≤ 1000000000) : FS Try.prog 58 [] [.agg a.c, .int .i64 id] (entryV (entryOf a id)) [] := by
  refine FS.of (X := X58) (ac := A58) (os := O58) Try.func58 (by rfl) (by rfl) (by kernel_rfl) o58 (Nat.le_of_ble_eq_true rfl) ?_
  show AWP X58 A58 (Ends X58.vs O58 0 _ _) [.agg a.c, .int .i64 id, .tup [], .tup [], .tup [], .tup [], .tup [], .tup [], .tup [], .tup [], .tup []] []
  obtain ⟨Q, hQ⟩ : ∃ Q, Q = Ends X58.vs O58 0 (entryV (entryOf a id)) [] := ⟨_, rfl⟩
  rw [← hQ]
  have fin : ∀ L σ p, resVs O58 (look X58.vs L) σ = some [.agg p.1.c, .bool p.2] → p = entryOf a id → Q .ret L σ := by
    intro L σ p h1 h2
    rw [hQ]
    exact Ends.is (.inl rfl) h1 (by rw [← h2]; rfl) rfl
  refine awp_sr ?_
  simp only [go_sem, R58_0, v58, p58, State.c]
  refine awp_sr2 ?_
  simp only [go_sem, R58_1, v58, p58]
  refine awp_for (fun m L σ => ∃ i x7 x12 x18 rest, m = a.items.length - i ∧ i ≤ a.items.length ∧ entryOf a id = entryL (a.items.drop i) id ∧ L = [.agg a.c, .int .i64 id, .ptr 0 2 0 0, .ptr 1 5 0 0, .bool false, x7, .fz 6 (rw_ Item.c a.items), .int .i64 a.items.length, .int .i64 (i : Nat), x12, x18] ∧ σ = .live ⟨2, [a.c]⟩ :: .live ⟨5, [Entry.zero.c]⟩ :: rest) a.items.length
    ⟨0, _, _, _, _, rfl, Nat.zero_le _, rfl, rfl, rfl⟩ ?_
  rintro n L σ ⟨i, x7, x12, x18, rest, rfl, hi, he, rfl, rfl⟩
  refine awp_sr ?_
  simp only [go_sem, R58_2, v58, p58]
  refine awp_seq ?_
  refine awp_if rfl ?_ ?_
  · intro h1
    have h1 : i < a.items.length := by omega
    have e1 := entryL_at h1 id
    refine awp_skip ?_
    simp only [go_sem]
    refine awp_seq (awp_block ?_)
    refine awp_sr ?_
    simp only [go_sem, R58_3, v58, p58, rw_at _ h1, Item.c]
    refine awp_sr ?_
    simp only [go_sem, R58_4, v58, p58]
    refine awp_if rfl ?_ ?_
    · intro h2
      refine awp_sr ?_
      simp only [go_sem, R58_5, v58, p58, Entry.c, Entry.zero]
      refine awp_ret ?_
      try simp only [go_sem]
      exact fin _ _ (a.items[i].entry, true) rfl (by rw [he, e1, if_pos h2])
    · intro h2
      refine awp_skip ?_
      simp only [go_sem]
      refine awp_reg ?_
      simp only [go_sem, R58_6, v58, p58, wrap_succ (i := i) (by omega)]
      exact ⟨a.items.length - (i + 1), by omega, i + 1, _, _, _, _, rfl, by omega, by rw [he, e1, if_neg h2], rfl, rfl⟩
  · intro h1
    refine awp_exit ?_
    simp only [go_sem]
    refine awp_sr ?_
    simp only [go_sem, R58_7, v58, p58, Entry.c, Entry.zero]
    refine awp_ret ?_
    try simp only [go_sem]
    exact fin _ _ (Entry.zero, false) rfl (by rw [he, List.drop_eq_nil_of_le (by omega)]; rfl)
end Go.Proofs.Ytffigokicddekaa.Abs
/- What a right state is, walked in both texts. No condition. -/
set_option linter.unusedVariables false
set_option linter.unusedSimpArgs false
set_option maxRecDepth 10000
namespace Go.Proofs.Ytffigokicddekaa.Abs
open Go Go.Proofs
def R55_0 : List AR := [⟨(some 1), none, 0, (.box 0 2 (.t 0))⟩, ⟨(some 2), none, 0, (.mov (.k (.bool false)))⟩]
def R55_1 : List AR := [⟨(some 3), none, 0, (.mov (.k (.int .i64 0)))⟩]
def R55_2 : List AR := [⟨(some 7), none, 0, (.mov (.t 3))⟩, ⟨(some 8), none, 0, (.faddr 0 (.t 1))⟩, ⟨(some 9), none, 0, (.load 1 false (.t 8))⟩, ⟨(some 10), none, 0, (.len (.t 9))⟩, ⟨(some 11), none, 0, (.bin .lss (.t 7) (.t 10))⟩]
def R55_3 : List AR := [⟨(some 14), none, 0, (.faddr 0 (.t 1))⟩, ⟨(some 15), none, 0, (.load 1 false (.t 14))⟩, ⟨(some 16), none, 0, (.mov (.t 3))⟩, ⟨(some 17), none, 0, (.iaddr 6 (.t 15) (.t 16))⟩, ⟨(some 18), none, 0, (.load 6 true (.t 17))⟩, ⟨(some 4), none, 0, (.alloc 0 6 [(.int .i64 0), (.int .i64 0), (.int .i64 0), (.int .i64 0), (.int .i64 0), (.str ⟨⟨[]⟩⟩)])⟩, ⟨none, none, 0, (.store 6 (.t 4) (.t 18))⟩]
def R55_4 : List AR := [⟨(some 19), none, 0, (.faddr 0 (.t 4))⟩, ⟨(some 20), none, 0, (.load 1 false (.t 19))⟩, ⟨(some 21), none, 0, (.call false 0 0 98 [(.t 20)])⟩, ⟨(some 22), none, 0, (.not (.t 21))⟩, ⟨(some 23), none, 0, (.mov (.t 22))⟩, ⟨(some 24), (some (23, false)), 0, (.mov (.t 3))⟩, ⟨(some 25), (some (23, false)), 0, (.bin .gtr (.t 24) (.k (.int .i64 0)))⟩, ⟨(some 26), (some (23, false)), 0, (.mov (.t 25))⟩, ⟨(some 27), (some (26, true)), 0, (.faddr 0 (.t 4))⟩, ⟨(some 28), (some (26, true)), 0, (.load 1 false (.t 27))⟩, ⟨(some 29), (some (26, true)), 0, (.faddr 0 (.t 1))⟩, ⟨(some 30), (some (26, true)), 0, (.load 1 false (.t 29))⟩, ⟨(some 31), (some (26, true)), 0, (.mov (.t 3))⟩, ⟨(some 32), (some (26, true)), 0, (.bin .sub (.t 31) (.k (.int .i64 1)))⟩, ⟨(some 33), (some (26, true)), 0, (.iaddr 6 (.t 30) (.t 32))⟩, ⟨(some 34), (some (26, true)), 0, (.faddr 0 (.t 33))⟩, ⟨(some 35), (some (26, true)), 0, (.load 1 false (.t 34))⟩, ⟨(some 36), (some (26, true)), 0, (.bin .leq (.t 28) (.t 35))⟩, ⟨(some 37), (some (23, false)), 0, (.pick (.t 26) (.t 36) (.k (.bool false)))⟩, ⟨(some 38), none, 0, (.pick (.t 23) (.k (.bool true)) (.t 37))⟩, ⟨(some 39), none, 0, (.mov (.t 38))⟩, ⟨(some 40), (some (39, false)), 0, (.faddr 1 (.t 4))⟩, ⟨(some 41), (some (39, false)), 0, (.load 5 true (.t 40))⟩, ⟨(some 42), (some (39, false)), 0, (.call false 0 0 99 [(.t 41)])⟩, ⟨(some 43), (some (39, false)), 0, (.not (.t 42))⟩, ⟨(some 44), none, 0, (.pick (.t 39) (.k (.bool true)) (.t 43))⟩, ⟨(some 45), none, 0, (.mov (.t 44))⟩, ⟨(some 46), (some (45, false)), 0, (.faddr 1 (.t 4))⟩, ⟨(some 47), (some (45, false)), 0, (.faddr 0 (.t 46))⟩, ⟨(some 48), (some (45, false)), 0, (.load 1 false (.t 47))⟩, ⟨(some 49), (some (45, false)), 0, (.load 2 true (.t 1))⟩, ⟨(some 50), (some (45, false)), 0, (.faddr 0 (.t 4))⟩, ⟨(some 51), (some (45, false)), 0, (.load 1 false (.t 50))⟩, ⟨(some 52), (some (45, false)), 0, (.call false 0 0 100 [(.t 49), (.t 51)])⟩, ⟨(some 53), (some (45, false)), 0, (.bin .leq (.t 48) (.t 52))⟩, ⟨(some 54), none, 0, (.pick (.t 45) (.k (.bool true)) (.t 53))⟩]
def R55_5 : List AR := [⟨(some 2), none, 0, (.mov (.k (.bool false)))⟩]
def A55_0 : AC := (.seq (.draw 0 R55_4) (.cond (.t 54) (.seq (.reg 0 R55_5) .ret) .skip))
def R55_6 : List AR := [⟨(some 12), none, 0, (.mov (.t 3))⟩, ⟨(some 13), none, 0, (.bin .add (.t 12) (.k (.int .i64 1)))⟩, ⟨(some 3), none, 0, (.mov (.t 13))⟩]
def A55_1 : AC := (.seq (.block 1 (.seq (.reg 1 R55_3) A55_0)) (.reg 0 R55_6))
def L55_0 : AC := (.seq (.seq (.reg 0 R55_2) (.cond (.t 11) .skip (.exit 0))) A55_1)
def R55_7 : List AR := [⟨(some 5), none, 0, (.mov (.k (.int .i64 0)))⟩]
def R55_8 : List AR := [⟨(some 55), none, 0, (.mov (.t 5))⟩, ⟨(some 56), none, 0, (.faddr 1 (.t 1))⟩, ⟨(some 57), none, 0, (.load 1 false (.t 56))⟩, ⟨(some 58), none, 0, (.len (.t 57))⟩, ⟨(some 59), none, 0, (.bin .lss (.t 55) (.t 58))⟩]
def R55_9 : List AR := [⟨(some 62), none, 0, (.faddr 1 (.t 1))⟩, ⟨(some 63), none, 0, (.load 1 false (.t 62))⟩, ⟨(some 64), none, 0, (.mov (.t 5))⟩, ⟨(some 65), none, 0, (.iaddr 2 (.t 63) (.t 64))⟩, ⟨(some 66), none, 0, (.load 2 true (.t 65))⟩, ⟨(some 6), none, 0, (.alloc 0 2 [(.int .i64 0), (.int .i64 0)])⟩, ⟨none, none, 0, (.store 2 (.t 6) (.t 66))⟩]
def R55_10 : List AR := [⟨(some 67), none, 0, (.faddr 0 (.t 6))⟩, ⟨(some 68), none, 0, (.load 1 false (.t 67))⟩, ⟨(some 69), none, 0, (.call false 0 0 98 [(.t 68)])⟩, ⟨(some 70), none, 0, (.not (.t 69))⟩, ⟨(some 71), none, 0, (.mov (.t 70))⟩, ⟨(some 72), (some (71, false)), 0, (.mov (.t 5))⟩, ⟨(some 73), (some (71, false)), 0, (.bin .gtr (.t 72) (.k (.int .i64 0)))⟩, ⟨(some 74), (some (71, false)), 0, (.mov (.t 73))⟩, ⟨(some 75), (some (74, true)), 0, (.faddr 0 (.t 6))⟩, ⟨(some 76), (some (74, true)), 0, (.load 1 false (.t 75))⟩, ⟨(some 77), (some (74, true)), 0, (.faddr 1 (.t 1))⟩, ⟨(some 78), (some (74, true)), 0, (.load 1 false (.t 77))⟩, ⟨(some 79), (some (74, true)), 0, (.mov (.t 5))⟩, ⟨(some 80), (some (74, true)), 0, (.bin .sub (.t 79) (.k (.int .i64 1)))⟩, ⟨(some 81), (some (74, true)), 0, (.iaddr 2 (.t 78) (.t 80))⟩, ⟨(some 82), (some (74, true)), 0, (.faddr 0 (.t 81))⟩, ⟨(some 83), (some (74, true)), 0, (.load 1 false (.t 82))⟩, ⟨(some 84), (some (74, true)), 0, (.bin .leq (.t 76) (.t 83))⟩, ⟨(some 85), (some (71, false)), 0, (.pick (.t 74) (.t 84) (.k (.bool false)))⟩, ⟨(some 86), none, 0, (.pick (.t 71) (.k (.bool true)) (.t 85))⟩, ⟨(some 87), none, 0, (.mov (.t 86))⟩, ⟨(some 88), (some (87, false)), 0, (.faddr 1 (.t 6))⟩, ⟨(some 89), (some (87, false)), 0, (.load 1 false (.t 88))⟩, ⟨(some 90), (some (87, false)), 0, (.call false 0 0 101 [(.t 89), (.k (.int .i64 1)), (.k (.int .i64 1000))])⟩, ⟨(some 91), (some (87, false)), 0, (.not (.t 90))⟩, ⟨(some 92), none, 0, (.pick (.t 87) (.k (.bool true)) (.t 91))⟩]
def R55_11 : List AR := [⟨(some 2), none, 0, (.mov (.k (.bool false)))⟩]
def A55_2 : AC := (.seq (.draw 0 R55_10) (.cond (.t 92) (.seq (.reg 0 R55_11) .ret) .skip))
def R55_12 : List AR := [⟨(some 60), none, 0, (.mov (.t 5))⟩, ⟨(some 61), none, 0, (.bin .add (.t 60) (.k (.int .i64 1)))⟩, ⟨(some 5), none, 0, (.mov (.t 61))⟩]
def A55_3 : AC := (.seq (.block 3 (.seq (.reg 1 R55_9) A55_2)) (.reg 0 R55_12))
def L55_1 : AC := (.seq (.seq (.reg 0 R55_8) (.cond (.t 59) .skip (.exit 2))) A55_3)
def R55_13 : List AR := [⟨(some 2), none, 0, (.mov (.k (.bool true)))⟩]
def A55_4 : AC := (.seq (.reg 0 R55_13) .ret)
def A55_5 : AC := (.seq (.seq (.reg 0 R55_7) (.block 2 (.loop L55_1))) A55_4)
def A55_6 : AC := (.seq (.seq (.reg 0 R55_1) (.block 0 (.loop L55_0))) A55_5)
def A55 : AC := (.seq (.reg 1 R55_0) A55_6)
def O55 : List AO := [(.mov (.t 2))]
def G55 : Fns := ⟨fun f => false, fun f => 0, false⟩
noncomputable def X55 : Cx := ⟨Try.prog, G55, drawD, 93, [0, 1, 2, 3, 4, 5, 6, 11, 54, 59, 92]⟩
theorem c55 : (Try.f55.body).bind (compC X55.P X55.Γ X55.D X55.nt) = some A55 := by kernel_rfl
theorem o55 : compRes X55.P Try.f55.results.toList = some O55 := by kernel_rfl
theorem v55 : X55.vs = [0, 1, 2, 3, 4, 5, 6, 11, 54, 59, 92] := rfl
theorem p55 : X55.P = Try.prog := rfl
def R59_0 : List AR := [⟨(some 1), none, 0, (.box 0 2 (.t 0))⟩, ⟨(some 2), none, 0, (.mov (.k (.bool false)))⟩]
def R59_1 : List AR := [⟨(some 7), none, 0, (.faddr 1 (.t 1))⟩, ⟨(some 8), none, 0, (.load 1 false (.t 7))⟩, ⟨(some 9), none, 0, (.len (.t 8))⟩, ⟨(some 10), none, 0, (.mov (.k (.int .i64 0)))⟩]
def R59_2 : List AR := [⟨(some 11), none, 0, (.bin .lss (.t 10) (.t 9))⟩]
def R59_3 : List AR := [⟨(some 12), none, 0, (.mov (.t 10))⟩, ⟨(some 13), none, 0, (.iaddr 2 (.t 8) (.t 10))⟩, ⟨(some 14), none, 0, (.load 2 true (.t 13))⟩, ⟨(some 4), none, 0, (.alloc 0 2 [(.int .i64 0), (.int .i64 0)])⟩, ⟨(some 3), none, 0, (.mov (.t 12))⟩, ⟨none, none, 0, (.store 2 (.t 4) (.t 14))⟩]
def R59_4 : List AR := [⟨(some 15), none, 0, (.faddr 0 (.t 4))⟩, ⟨(some 16), none, 0, (.load 1 false (.t 15))⟩, ⟨(some 17), none, 0, (.call false 0 0 104 [(.t 16)])⟩, ⟨(some 18), none, 0, (.not (.t 17))⟩, ⟨(some 19), none, 0, (.mov (.t 18))⟩, ⟨(some 20), (some (19, false)), 0, (.faddr 1 (.t 4))⟩, ⟨(some 21), (some (19, false)), 0, (.load 1 false (.t 20))⟩, ⟨(some 22), (some (19, false)), 0, (.call false 0 0 105 [(.t 21), (.k (.int .i64 1)), (.k (.int .i64 1000))])⟩, ⟨(some 23), (some (19, false)), 0, (.not (.t 22))⟩, ⟨(some 24), none, 0, (.pick (.t 19) (.k (.bool true)) (.t 23))⟩, ⟨(some 25), none, 0, (.mov (.t 24))⟩, ⟨(some 26), (some (25, false)), 0, (.mov (.t 3))⟩, ⟨(some 27), (some (25, false)), 0, (.bin .gtr (.t 26) (.k (.int .i64 0)))⟩, ⟨(some 28), (some (25, false)), 0, (.mov (.t 27))⟩, ⟨(some 29), (some (28, true)), 0, (.faddr 1 (.t 1))⟩, ⟨(some 30), (some (28, true)), 0, (.load 1 false (.t 29))⟩, ⟨(some 31), (some (28, true)), 0, (.mov (.t 3))⟩, ⟨(some 32), (some (28, true)), 0, (.bin .sub (.t 31) (.k (.int .i64 1)))⟩, ⟨(some 33), (some (28, true)), 0, (.iaddr 2 (.t 30) (.t 32))⟩, ⟨(some 34), (some (28, true)), 0, (.faddr 0 (.t 33))⟩, ⟨(some 35), (some (28, true)), 0, (.load 1 false (.t 34))⟩, ⟨(some 36), (some (28, true)), 0, (.faddr 0 (.t 4))⟩, ⟨(some 37), (some (28, true)), 0, (.load 1 false (.t 36))⟩, ⟨(some 38), (some (28, true)), 0, (.bin .geq (.t 35) (.t 37))⟩, ⟨(some 39), (some (25, false)), 0, (.pick (.t 28) (.t 38) (.k (.bool false)))⟩, ⟨(some 40), none, 0, (.pick (.t 25) (.k (.bool true)) (.t 39))⟩]
def R59_5 : List AR := [⟨(some 2), none, 0, (.mov (.k (.bool false)))⟩]
def A59_0 : AC := (.seq (.draw 0 R59_4) (.cond (.t 40) (.seq (.reg 0 R59_5) .ret) .skip))
def R59_6 : List AR := [⟨(some 41), none, 0, (.bin .add (.t 10) (.k (.int .i64 1)))⟩, ⟨(some 10), none, 0, (.mov (.t 41))⟩]
def A59_1 : AC := (.seq (.block 1 (.seq (.reg 1 R59_3) A59_0)) (.reg 0 R59_6))
def A59_2 : AC := (.seq (.cond (.t 11) .skip (.exit 0)) A59_1)
def L59_0 : AC := (.seq (.reg 0 R59_2) A59_2)
def R59_7 : List AR := [⟨(some 42), none, 0, (.faddr 0 (.t 1))⟩, ⟨(some 43), none, 0, (.load 1 false (.t 42))⟩, ⟨(some 44), none, 0, (.len (.t 43))⟩, ⟨(some 45), none, 0, (.mov (.k (.int .i64 0)))⟩]
def R59_8 : List AR := [⟨(some 46), none, 0, (.bin .lss (.t 45) (.t 44))⟩]
def R59_9 : List AR := [⟨(some 47), none, 0, (.mov (.t 45))⟩, ⟨(some 48), none, 0, (.iaddr 6 (.t 43) (.t 45))⟩, ⟨(some 49), none, 0, (.load 6 true (.t 48))⟩, ⟨(some 6), none, 0, (.alloc 0 6 [(.int .i64 0), (.int .i64 0), (.int .i64 0), (.int .i64 0), (.int .i64 0), (.str ⟨⟨[]⟩⟩)])⟩, ⟨(some 5), none, 0, (.mov (.t 47))⟩, ⟨none, none, 0, (.store 6 (.t 6) (.t 49))⟩]
def R59_10 : List AR := [⟨(some 50), none, 0, (.faddr 0 (.t 6))⟩, ⟨(some 51), none, 0, (.load 1 false (.t 50))⟩, ⟨(some 52), none, 0, (.call false 0 0 104 [(.t 51)])⟩, ⟨(some 53), none, 0, (.not (.t 52))⟩, ⟨(some 54), none, 0, (.mov (.t 53))⟩, ⟨(some 55), (some (54, false)), 0, (.faddr 1 (.t 6))⟩, ⟨(some 56), (some (54, false)), 0, (.load 5 true (.t 55))⟩, ⟨(some 57), (some (54, false)), 0, (.call false 0 0 106 [(.t 56)])⟩, ⟨(some 58), (some (54, false)), 0, (.not (.t 57))⟩, ⟨(some 59), none, 0, (.pick (.t 54) (.k (.bool true)) (.t 58))⟩, ⟨(some 60), none, 0, (.mov (.t 59))⟩, ⟨(some 61), (some (60, false)), 0, (.faddr 1 (.t 6))⟩, ⟨(some 62), (some (60, false)), 0, (.faddr 0 (.t 61))⟩, ⟨(some 63), (some (60, false)), 0, (.load 1 false (.t 62))⟩, ⟨(some 64), (some (60, false)), 0, (.load 2 true (.t 1))⟩, ⟨(some 65), (some (60, false)), 0, (.faddr 0 (.t 6))⟩, ⟨(some 66), (some (60, false)), 0, (.load 1 false (.t 65))⟩, ⟨(some 67), (some (60, false)), 0, (.call false 0 0 107 [(.t 64), (.t 66)])⟩, ⟨(some 68), (some (60, false)), 0, (.bin .leq (.t 63) (.t 67))⟩, ⟨(some 69), none, 0, (.pick (.t 60) (.k (.bool true)) (.t 68))⟩, ⟨(some 70), none, 0, (.mov (.t 69))⟩, ⟨(some 71), (some (70, false)), 0, (.mov (.t 5))⟩, ⟨(some 72), (some (70, false)), 0, (.bin .gtr (.t 71) (.k (.int .i64 0)))⟩, ⟨(some 73), (some (70, false)), 0, (.mov (.t 72))⟩, ⟨(some 74), (some (73, true)), 0, (.faddr 0 (.t 1))⟩, ⟨(some 75), (some (73, true)), 0, (.load 1 false (.t 74))⟩, ⟨(some 76), (some (73, true)), 0, (.mov (.t 5))⟩, ⟨(some 77), (some (73, true)), 0, (.bin .sub (.t 76) (.k (.int .i64 1)))⟩, ⟨(some 78), (some (73, true)), 0, (.iaddr 6 (.t 75) (.t 77))⟩, ⟨(some 79), (some (73, true)), 0, (.faddr 0 (.t 78))⟩, ⟨(some 80), (some (73, true)), 0, (.load 1 false (.t 79))⟩, ⟨(some 81), (some (73, true)), 0, (.faddr 0 (.t 6))⟩, ⟨(some 82), (some (73, true)), 0, (.load 1 false (.t 81))⟩, ⟨(some 83), (some (73, true)), 0, (.bin .geq (.t 80) (.t 82))⟩, ⟨(some 84), (some (70, false)), 0, (.pick (.t 73) (.t 83) (.k (.bool false)))⟩, ⟨(some 85), none, 0, (.pick (.t 70) (.k (.bool true)) (.t 84))⟩]
def R59_11 : List AR := [⟨(some 2), none, 0, (.mov (.k (.bool false)))⟩]
def A59_3 : AC := (.seq (.draw 0 R59_10) (.cond (.t 85) (.seq (.reg 0 R59_11) .ret) .skip))
def R59_12 : List AR := [⟨(some 86), none, 0, (.bin .add (.t 45) (.k (.int .i64 1)))⟩, ⟨(some 45), none, 0, (.mov (.t 86))⟩]
def A59_4 : AC := (.seq (.block 3 (.seq (.reg 1 R59_9) A59_3)) (.reg 0 R59_12))
def A59_5 : AC := (.seq (.cond (.t 46) .skip (.exit 2)) A59_4)
def L59_1 : AC := (.seq (.reg 0 R59_8) A59_5)
def R59_13 : List AR := [⟨(some 2), none, 0, (.mov (.k (.bool true)))⟩]
def A59_6 : AC := (.seq (.reg 0 R59_13) .ret)
def A59_7 : AC := (.seq (.seq (.reg 0 R59_7) (.block 2 (.loop L59_1))) A59_6)
def A59_8 : AC := (.seq (.seq (.reg 0 R59_1) (.block 0 (.loop L59_0))) A59_7)
def A59 : AC := (.seq (.reg 1 R59_0) A59_8)
def O59 : List AO := [(.mov (.t 2))]
def G59 : Fns := ⟨fun f => false, fun f => 0, false⟩
noncomputable def X59 : Cx := ⟨Try.prog, G59, drawD, 87, [0, 1, 2, 3, 4, 5, 6, 8, 9, 10, 11, 40, 43, 44, 45, 46, 85]⟩
theorem c59 : (Try.f59.body).bind (compC X59.P X59.Γ X59.D X59.nt) = some A59 := by kernel_rfl
theorem o59 : compRes X59.P Try.f59.results.toList = some O59 := by kernel_rfl
theorem v59 : X59.vs = [0, 1, 2, 3, 4, 5, 6, 8, 9, 10, 11, 40, 43, 44, 45, 46, 85] := rfl
theorem p59 : X59.P = Try.prog := rfl
/-- the item at the place i is right -/
def itemR (s : State) (i : Nat) (x : Item) : Prop := (0 ≤ x.id ∧ x.id ≤ 4) ∧ (∀ y, 0 < i → s.items[i - 1]? = some y → y.id < x.id) ∧ x.entry.Right ∧ floorOf s x.id < x.entry.inc
def floorR (s : State) (i : Nat) (x : Floor) : Prop := (0 ≤ x.id ∧ x.id ≤ 4) ∧ (∀ y, 0 < i → s.floors[i - 1]? = some y → y.id < x.id) ∧ (1 ≤ x.inc ∧ x.inc ≤ 1000)
def State.Right (s : State) : Prop := (∀ i x, s.items[i]? = some x → itemR s i x) ∧ (∀ i x, s.floors[i]? = some x → floorR s i x)
noncomputable instance (s : State) : Decidable s.Right := Classical.propDecidable _
noncomputable instance (s : State) (i : Nat) (x : Item) : Decidable (itemR s i x) := Classical.propDecidable _
noncomputable instance (s : State) (i : Nat) (x : Floor) : Decidable (floorR s i x) := Classical.propDecidable _
/-- what holds of the first i holds of one more -/
theorem upto_succ {α : Type} {xs : List α} {p : Nat → α → Prop} {i : Nat} (hP : ∀ j x, j < i → xs[j]? = some x → p j x) (h1 : i < xs.length) (hy : p i xs[i]) : ∀ j x, j < i + 1 → xs[j]? = some x → p j x := by
  intro j x hj hx
  rcases Nat.lt_or_ge j i with h2 | h2
  · exact hP j x h2 hx
  · have : j = i := by omega
    subst this
    rw [List.getElem?_eq_getElem h1] at hx
    cases hx
    exact hy
theorem upto_all {α : Type} {xs : List α} {p : Nat → α → Prop} {i : Nat} (hP : ∀ j x, j < i → xs[j]? = some x → p j x) (h1 : ¬ i < xs.length) : ∀ j x, xs[j]? = some x → p j x := by
  intro j x hx
  have := (List.getElem?_eq_some_iff.1 hx).1
  exact hP j x (by omega) hx
theorem prev_lt {α : Type} {xs : List α} {i : Nat} {f : α → Int} {k : Int} (h1 : i < xs.length) (h : 0 < i → f xs[i - 1] < k) : ∀ y, 0 < i → xs[i - 1]? = some y → f y < k := by
  intro y h0 hy
  rw [List.getElem?_eq_getElem (by omega)] at hy
  cases hy
  exact h h0
theorem itemR_iff (a : State) {i : Nat} (h1 : i < a.items.length) (h3 : i - 1 < a.items.length) : itemR a i a.items[i] ↔ (0 ≤ a.items[i].id ∧ a.items[i].id ≤ 4) ∧ (0 < i → a.items[i - 1].id < a.items[i].id) ∧ a.items[i].entry.Right ∧ floorOf a a.items[i].id < a.items[i].entry.inc := by
  unfold itemR
  simp only [List.getElem?_eq_getElem h3, Option.some.injEq]
  grind
theorem floorR_iff (a : State) {i : Nat} (h1 : i < a.floors.length) (h3 : i - 1 < a.floors.length) : floorR a i a.floors[i] ↔ (0 ≤ a.floors[i].id ∧ a.floors[i].id ≤ 4) ∧ (0 < i → a.floors[i - 1].id < a.floors[i].id) ∧ (1 ≤ a.floors[i].inc ∧ a.floors[i].inc ≤ 1000) := by
  unfold floorR
  simp only [List.getElem?_eq_getElem h3, Option.some.injEq]
  grind
set_option maxHeartbeats 4000000 in
theorem specStateOk_ok (a : State) (h : a.sz ≤ 1048576) : FS Try.prog 55 [] [.agg a.c] (.bool (decide a.Right)) [] := by
  refine FS.of (X := X55) (ac := A55) (os := O55) Try.func55 (by rfl) (by rfl) (by kernel_rfl) o55 (Nat.le_of_ble_eq_true rfl) ?_
  show AWP X55 A55 (Ends X55.vs O55 0 _ _) [.agg a.c, .tup [], .tup [], .tup [], .tup [], .tup [], .tup [], .tup [], .tup [], .tup [], .tup []] []
  obtain ⟨Q, hQ⟩ : ∃ Q, Q = Ends X55.vs O55 0 (.bool (decide a.Right)) [] := ⟨_, rfl⟩
  rw [← hQ]
  have hl : a.items.length + sumBy Item.sz a.items + a.floors.length ≤ 1048576 := h
  have fin : ∀ L σ v, resVs O55 (look X55.vs L) σ = some [v] → v = (.bool (decide a.Right)) → Q .ret L σ := by
    intro L σ v h1 h2
    rw [hQ]
    exact Ends.is (.inl rfl) h1 (by simp only [packV, h2]) rfl
  refine awp_sr ?_
  simp only [go_sem, R55_0, v55, p55, State.c]
  refine awp_sr2 ?_
  simp only [go_sem, R55_1, v55, p55]
  obtain ⟨I, hI⟩ : ∃ I : Nat → List V → Store → Prop, I = fun mM L σ => ∃ i rest y2 y4 y5 y6 y11 y54 y59 y92, mM = a.items.length - i ∧ i ≤ a.items.length ∧ (∀ j x, j < i → a.items[j]? = some x → itemR a j x) ∧ L = [.agg a.c, .ptr 0 2 0 0, y2, .int .i64 (i : Nat), y4, y5, y6, y11, y54, y59, y92] ∧ σ = .live ⟨2, [a.c]⟩ :: rest := ⟨_, rfl⟩
  first | refine awp_for I a.items.length ?_ ?_ | refine awp_seq (awp_for I a.items.length ?_ ?_)
  · rw [hI]; refine ⟨0, _, _, _, _, _, _, _, _, _, rfl, Nat.zero_le _, ?_, rfl, rfl⟩
    intro j x h; omega
  intro mM L σ hIn
  rw [hI] at hIn
  obtain ⟨i, rest, y2, y4, y5, y6, y11, y54, y59, y92, rfl, hi, hP, rfl, rfl⟩ := hIn
  refine awp_sr2 ?_
  simp only [go_sem, R55_2, v55, p55, State.c]
  refine awp_if rfl ?_ ?_
  · intro h1
    have h1 : i < a.items.length := by omega
    have h3 : i - 1 < a.items.length := by omega
    refine awp_skip ?_
    simp only [go_sem]
    refine awp_seq (awp_block ?_)
    refine awp_sr ?_
    simp only [go_sem, R55_3, v55, p55, rw_at _ h1, Item.c]
    obtain ⟨K1, hK1⟩ : ∃ K : List V → Store → Prop, K = fun L σ => ∃ q rest y2 y4 y5 y6 y11 y59 y92, L = [.agg a.c, .ptr 0 2 0 0, y2, .int .i64 (i : Nat), y4, y5, y6, y11, .bool q, y59, y92] ∧ σ = .live ⟨2, [a.c]⟩ :: rest ∧ q = !decide (itemR a i a.items[i]) := ⟨_, rfl⟩
    refine awp_sdK (K1) mixed rfl (by rfl) ?_ ?_
    · simp only [go_sem, R55_4, v55, p55]
      repeat' first
        | (refine selP_if rfl (fun hG => ?_) (fun hG => ?_) <;> first | simp only [go_sem, v55, p55, eq_false hG, State.c, Item.c, rw_at _ h3, wrap_pred, show i < 9223372036854775807 by omega] | simp only [go_sem, v55, p55, eq_true hG, State.c, Item.c, rw_at _ h3, wrap_pred, show i < 9223372036854775807 by omega])
        | (refine selP_ifn rfl (fun hG => ?_) (fun hG => ?_) <;> first | simp only [go_sem, v55, p55, eq_false hG, State.c, Item.c, rw_at _ h3, wrap_pred, show i < 9223372036854775807 by omega] | simp only [go_sem, v55, p55, eq_true hG, State.c, Item.c, rw_at _ h3, wrap_pred, show i < 9223372036854775807 by omega])
        | (refine selN_if rfl (fun hG => ?_) (fun hG => ?_) <;> first | simp only [go_sem, v55, p55, eq_false hG, State.c, Item.c, rw_at _ h3, wrap_pred, show i < 9223372036854775807 by omega] | simp only [go_sem, v55, p55, eq_true hG, State.c, Item.c, rw_at _ h3, wrap_pred, show i < 9223372036854775807 by omega])
        | (refine selN_ifn rfl (fun hG => ?_) (fun hG => ?_) <;> first | simp only [go_sem, v55, p55, eq_false hG, State.c, Item.c, rw_at _ h3, wrap_pred, show i < 9223372036854775807 by omega] | simp only [go_sem, v55, p55, eq_true hG, State.c, Item.c, rw_at _ h3, wrap_pred, show i < 9223372036854775807 by omega])
        | (refine selB_if rfl (fun hG => ?_) (fun hG => ?_) <;> simp only [go_sem, v55, p55, hG, State.c, Item.c, rw_at _ h3, wrap_pred, show i < 9223372036854775807 by omega])
        | (refine selB_ifn rfl (fun hG => ?_) (fun hG => ?_) <;> simp only [go_sem, v55, p55, hG, State.c, Item.c, rw_at _ h3, wrap_pred, show i < 9223372036854775807 by omega])
        | (refine run_see (l3Node_ok _) false (Views.refl rfl) rfl (fun j hj => by omega) (fun h => by cases h) ?_; simp only [go_sem, v55, p55, State.c, Item.c, rw_at _ h3, wrap_pred, show i < 9223372036854775807 by omega])
        | (refine run_see (specEntryOk_ok a.items[i].entry) false (Views.refl rfl) rfl (fun j hj => by omega) (fun h => by cases h) ?_; simp only [go_sem, v55, p55, State.c, Item.c, rw_at _ h3, wrap_pred, show i < 9223372036854775807 by omega])
        | (refine run_see (specFloorOf_ok a _ (by omega)) false (Views.refl rfl) rfl (fun j hj => by omega) (fun h => by cases h) ?_; simp only [go_sem, v55, p55, State.c, Item.c, rw_at _ h3, wrap_pred, show i < 9223372036854775807 by omega])
      all_goals rw [hK1]
      all_goals refine ⟨_, _, _, _, _, _, _, _, _, rfl, rfl, ?_⟩
      all_goals have key := itemR_iff a h1 h3
      all_goals grind
    intro L σ hq
    rw [hK1] at hq
    obtain ⟨q, rest, y2, y4, y5, y6, y11, y59, y92, rfl, rfl, hq⟩ := hq
    subst hq
    refine awp_if' rfl ?_ ?_
    · intro h2
      refine awp_sr ?_
      simp only [go_sem, R55_5, v55, p55]
      refine awp_ret ?_
      try simp only [go_sem]
      exact fin _ _ (.bool false) rfl (congrArg V.bool (decide_eq_false fun e => h2 (e.1 i _ (List.getElem?_eq_getElem h1))).symm)
    · intro h2
      refine awp_skip ?_
      simp only [go_sem]
      refine awp_reg ?_
      simp only [go_sem, R55_6, v55, p55, wrap_succ (i := i) (by omega)]
      refine ⟨a.items.length - (i + 1), by omega, ?_⟩
      rw [hI]
      refine ⟨i + 1, _, _, _, _, _, _, _, _, _, rfl, by omega, ?_, rfl, rfl⟩
      exact upto_succ hP h1 h2
  · intro h1
    refine awp_exit ?_
    simp only [go_sem]
    have ha := upto_all hP (by omega)
    clear hP hi hI
    refine awp_sr2 ?_
    simp only [go_sem, R55_7, v55, p55, State.c]
    obtain ⟨J, hJ⟩ : ∃ J : Nat → List V → Store → Prop, J = fun mM L σ => ∃ i rest y2 y3 y4 y6 y11 y54 y59 y92, mM = a.floors.length - i ∧ i ≤ a.floors.length ∧ (∀ j x, j < i → a.floors[j]? = some x → floorR a j x) ∧ L = [.agg a.c, .ptr 0 2 0 0, y2, y3, y4, .int .i64 (i : Nat), y6, y11, y54, y59, y92] ∧ σ = .live ⟨2, [a.c]⟩ :: rest := ⟨_, rfl⟩
    first | refine awp_for J a.floors.length ?_ ?_ | refine awp_seq (awp_for J a.floors.length ?_ ?_)
    · rw [hJ]; refine ⟨0, _, _, _, _, _, _, _, _, _, rfl, Nat.zero_le _, ?_, rfl, rfl⟩
      intro j x h; omega
    intro mM L σ hIn
    rw [hJ] at hIn
    obtain ⟨i, rest, y2, y3, y4, y6, y11, y54, y59, y92, rfl, hi, hP, rfl, rfl⟩ := hIn
    refine awp_sr2 ?_
    simp only [go_sem, R55_8, v55, p55, State.c]
    refine awp_if rfl ?_ ?_
    · intro h1
      have h1 : i < a.floors.length := by omega
      have h3 : i - 1 < a.floors.length := by omega
      refine awp_skip ?_
      simp only [go_sem]
      refine awp_seq (awp_block ?_)
      refine awp_sr ?_
      simp only [go_sem, R55_9, v55, p55, rw_at _ h1, Floor.c, State.c]
      obtain ⟨K2, hK2⟩ : ∃ K : List V → Store → Prop, K = fun L σ => ∃ q rest y2 y3 y4 y6 y11 y54 y59, L = [.agg a.c, .ptr 0 2 0 0, y2, y3, y4, .int .i64 (i : Nat), y6, y11, y54, y59, .bool q] ∧ σ = .live ⟨2, [a.c]⟩ :: rest ∧ q = !decide (floorR a i a.floors[i]) := ⟨_, rfl⟩
      refine awp_sdK (K2) mixed rfl (by rfl) ?_ ?_
      · simp only [go_sem, R55_10, v55, p55]
        repeat' first
          | (refine selP_if rfl (fun hG => ?_) (fun hG => ?_) <;> first | simp only [go_sem, v55, p55, eq_false hG, State.c, Floor.c, rw_at _ h3, wrap_pred, show i < 9223372036854775807 by omega] | simp only [go_sem, v55, p55, eq_true hG, State.c, Floor.c, rw_at _ h3, wrap_pred, show i < 9223372036854775807 by omega])
          | (refine selP_ifn rfl (fun hG => ?_) (fun hG => ?_) <;> first | simp only [go_sem, v55, p55, eq_false hG, State.c, Floor.c, rw_at _ h3, wrap_pred, show i < 9223372036854775807 by omega] | simp only [go_sem, v55, p55, eq_true hG, State.c, Floor.c, rw_at _ h3, wrap_pred, show i < 9223372036854775807 by omega])
          | (refine selN_if rfl (fun hG => ?_) (fun hG => ?_) <;> first | simp only [go_sem, v55, p55, eq_false hG, State.c, Floor.c, rw_at _ h3, wrap_pred, show i < 9223372036854775807 by omega] | simp only [go_sem, v55, p55, eq_true hG, State.c, Floor.c, rw_at _ h3, wrap_pred, show i < 9223372036854775807 by omega])
          | (refine selN_ifn rfl (fun hG => ?_) (fun hG => ?_) <;> first | simp only [go_sem, v55, p55, eq_false hG, State.c, Floor.c, rw_at _ h3, wrap_pred, show i < 9223372036854775807 by omega] | simp only [go_sem, v55, p55, eq_true hG, State.c, Floor.c, rw_at _ h3, wrap_pred, show i < 9223372036854775807 by omega])
          | (refine selB_if rfl (fun hG => ?_) (fun hG => ?_) <;> simp only [go_sem, v55, p55, hG, State.c, Floor.c, rw_at _ h3, wrap_pred, show i < 9223372036854775807 by omega])
          | (refine selB_ifn rfl (fun hG => ?_) (fun hG => ?_) <;> simp only [go_sem, v55, p55, hG, State.c, Floor.c, rw_at _ h3, wrap_pred, show i < 9223372036854775807 by omega])
          | (refine run_see (l3Node_ok _) false (Views.refl rfl) rfl (fun j hj => by omega) (fun h => by cases h) ?_; simp only [go_sem, v55, p55, State.c, Floor.c, rw_at _ h3, wrap_pred, show i < 9223372036854775807 by omega])
          | (refine run_see (l1In_ok _ _ _) false (Views.refl rfl) rfl (fun j hj => by omega) (fun h => by cases h) ?_; simp only [go_sem, v55, p55, State.c, Floor.c, rw_at _ h3, wrap_pred, show i < 9223372036854775807 by omega])
        all_goals rw [hK2]
        all_goals refine ⟨_, _, _, _, _, _, _, _, _, rfl, rfl, ?_⟩
        all_goals have key := floorR_iff a h1 h3
        all_goals grind
      intro L σ hq
      rw [hK2] at hq
      obtain ⟨q, rest, y2, y3, y4, y6, y11, y54, y59, rfl, rfl, hq⟩ := hq
      subst hq
      refine awp_if' rfl ?_ ?_
      · intro h2
        refine awp_sr ?_
        simp only [go_sem, R55_11, v55, p55]
        refine awp_ret ?_
        try simp only [go_sem]
        exact fin _ _ (.bool false) rfl (congrArg V.bool (decide_eq_false fun e => h2 (e.2 i _ (List.getElem?_eq_getElem h1))).symm)
      · intro h2
        refine awp_skip ?_
        simp only [go_sem]
        refine awp_reg ?_
        simp only [go_sem, R55_12, v55, p55, wrap_succ (i := i) (by omega)]
        refine ⟨a.floors.length - (i + 1), by omega, ?_⟩
        rw [hJ]
        refine ⟨i + 1, _, _, _, _, _, _, _, _, _, rfl, by omega, ?_, rfl, rfl⟩
        exact upto_succ hP h1 h2
    · intro h1
      refine awp_exit ?_
      simp only [go_sem]
      have hb := upto_all hP (by omega)
      refine awp_sr ?_
      simp only [go_sem, R55_13, v55, p55]
      refine awp_ret ?_
      try simp only [go_sem]
      exact fin _ _ (.bool true) rfl (congrArg V.bool (decide_eq_true (show a.Right from ⟨ha, hb⟩)).symm)
set_option maxHeartbeats 4000000 in
theorem implStateOk_ok (a : State) (h : a.sz ≤ 1048576) : FS Try.prog 59 [] [.agg a.c] (.bool (decide a.Right)) [] := by
  refine FS.of (X := X59) (ac := A59) (os := O59) Try.func59 (by rfl) (by rfl) (by kernel_rfl) o59 (Nat.le_of_ble_eq_true rfl) ?_
  show AWP X59 A59 (Ends X59.vs O59 0 _ _) [.agg a.c, .tup [], .tup [], .tup [], .tup [], .tup [], .tup [], .tup [], .tup [], .tup [], .tup [], .tup [], .tup [], .tup [], .tup [], .tup [], .tup []] []
  obtain ⟨Q, hQ⟩ : ∃ Q, Q = Ends X59.vs O59 0 (.bool (decide a.Right)) [] := ⟨_, rfl⟩
  rw [← hQ]
  have hl : a.items.length + sumBy Item.sz a.items + a.floors.length ≤ 1048576 := h
  have fin : ∀ L σ v, resVs O59 (look X59.vs L) σ = some [v] → v = (.bool (decide a.Right)) → Q .ret L σ := by
    intro L σ v h1 h2
    rw [hQ]
    exact Ends.is (.inl rfl) h1 (by simp only [packV, h2]) rfl
  refine awp_sr ?_
  simp only [go_sem, R59_0, v59, p59, State.c]
  refine awp_sr2 ?_
  simp only [go_sem, R59_1, v59, p59, State.c]
  obtain ⟨I, hI⟩ : ∃ I : Nat → List V → Store → Prop, I = fun mM L σ => ∃ i rest y2 y3 y4 y5 y6 y11 y40 y43 y44 y45 y46 y85, mM = a.floors.length - i ∧ i ≤ a.floors.length ∧ (∀ j x, j < i → a.floors[j]? = some x → floorR a j x) ∧ L = [.agg a.c, .ptr 0 2 0 0, y2, y3, y4, y5, y6, .fz 2 (rw_ Floor.c a.floors), .int .i64 (a.floors.length : Nat), .int .i64 (i : Nat), y11, y40, y43, y44, y45, y46, y85] ∧ σ = .live ⟨2, [a.c]⟩ :: rest := ⟨_, rfl⟩
  first | refine awp_for I a.floors.length ?_ ?_ | refine awp_seq (awp_for I a.floors.length ?_ ?_)
  · rw [hI]; refine ⟨0, _, _, _, _, _, _, _, _, _, _, _, _, _, rfl, Nat.zero_le _, ?_, rfl, rfl⟩
    intro j x h; omega
  intro mM L σ hIn
  rw [hI] at hIn
  obtain ⟨i, rest, y2, y3, y4, y5, y6, y11, y40, y43, y44, y45, y46, y85, rfl, hi, hP, rfl, rfl⟩ := hIn
  refine awp_sr ?_
  simp only [go_sem, R59_2, v59, p59, State.c]
  refine awp_seq ?_
  refine awp_if rfl ?_ ?_
  · intro h1
    have h1 : i < a.floors.length := by omega
    have h3 : i - 1 < a.floors.length := by omega
    refine awp_skip ?_
    simp only [go_sem]
    refine awp_seq (awp_block ?_)
    refine awp_sr ?_
    simp only [go_sem, R59_3, v59, p59, rw_at _ h1, Floor.c]
    obtain ⟨K3, hK3⟩ : ∃ K : List V → Store → Prop, K = fun L σ => ∃ q rest y2 y3 y4 y5 y6 y11 y43 y44 y45 y46 y85, L = [.agg a.c, .ptr 0 2 0 0, y2, y3, y4, y5, y6, .fz 2 (rw_ Floor.c a.floors), .int .i64 (a.floors.length : Nat), .int .i64 (i : Nat), y11, .bool q, y43, y44, y45, y46, y85] ∧ σ = .live ⟨2, [a.c]⟩ :: rest ∧ q = !decide (floorR a i a.floors[i]) := ⟨_, rfl⟩
    refine awp_sdK (K3) mixed rfl (by rfl) ?_ ?_
    · simp only [go_sem, R59_4, v59, p59]
      repeat' first
        | (refine selP_if rfl (fun hG => ?_) (fun hG => ?_) <;> first | simp only [go_sem, v59, p59, eq_false hG, State.c, Floor.c, rw_at _ h3, wrap_pred, show i < 9223372036854775807 by omega] | simp only [go_sem, v59, p59, eq_true hG, State.c, Floor.c, rw_at _ h3, wrap_pred, show i < 9223372036854775807 by omega])
        | (refine selP_ifn rfl (fun hG => ?_) (fun hG => ?_) <;> first | simp only [go_sem, v59, p59, eq_false hG, State.c, Floor.c, rw_at _ h3, wrap_pred, show i < 9223372036854775807 by omega] | simp only [go_sem, v59, p59, eq_true hG, State.c, Floor.c, rw_at _ h3, wrap_pred, show i < 9223372036854775807 by omega])
        | (refine selN_if rfl (fun hG => ?_) (fun hG => ?_) <;> first | simp only [go_sem, v59, p59, eq_false hG, State.c, Floor.c, rw_at _ h3, wrap_pred, show i < 9223372036854775807 by omega] | simp only [go_sem, v59, p59, eq_true hG, State.c, Floor.c, rw_at _ h3, wrap_pred, show i < 9223372036854775807 by omega])
        | (refine selN_ifn rfl (fun hG => ?_) (fun hG => ?_) <;> first | simp only [go_sem, v59, p59, eq_false hG, State.c, Floor.c, rw_at _ h3, wrap_pred, show i < 9223372036854775807 by omega] | simp only [go_sem, v59, p59, eq_true hG, State.c, Floor.c, rw_at _ h3, wrap_pred, show i < 9223372036854775807 by omega])
        | (refine selB_if rfl (fun hG => ?_) (fun hG => ?_) <;> simp only [go_sem, v59, p59, hG, State.c, Floor.c, rw_at _ h3, wrap_pred, show i < 9223372036854775807 by omega])
        | (refine selB_ifn rfl (fun hG => ?_) (fun hG => ?_) <;> simp only [go_sem, v59, p59, hG, State.c, Floor.c, rw_at _ h3, wrap_pred, show i < 9223372036854775807 by omega])
        | (refine run_see (isNode_ok _) false (Views.refl rfl) rfl (fun j hj => by omega) (fun h => by cases h) ?_; simp only [go_sem, v59, p59, State.c, Floor.c, rw_at _ h3, wrap_pred, show i < 9223372036854775807 by omega])
        | (refine run_see (within_ok _ _ _) false (Views.refl rfl) rfl (fun j hj => by omega) (fun h => by cases h) ?_; simp only [go_sem, v59, p59, State.c, Floor.c, rw_at _ h3, wrap_pred, show i < 9223372036854775807 by omega])
      all_goals rw [hK3]
      all_goals refine ⟨_, _, _, _, _, _, _, _, _, _, _, _, _, rfl, rfl, ?_⟩
      all_goals have key := floorR_iff a h1 h3
      all_goals grind
    intro L σ hq
    rw [hK3] at hq
    obtain ⟨q, rest, y2, y3, y4, y5, y6, y11, y43, y44, y45, y46, y85, rfl, rfl, hq⟩ := hq
    subst hq
    refine awp_if' rfl ?_ ?_
    · intro h2
      refine awp_sr ?_
      simp only [go_sem, R59_5, v59, p59]
      refine awp_ret ?_
      try simp only [go_sem]
      exact fin _ _ (.bool false) rfl (congrArg V.bool (decide_eq_false fun e => h2 (e.2 i _ (List.getElem?_eq_getElem h1))).symm)
    · intro h2
      refine awp_skip ?_
      simp only [go_sem]
      refine awp_reg ?_
      simp only [go_sem, R59_6, v59, p59, wrap_succ (i := i) (by omega)]
      refine ⟨a.floors.length - (i + 1), by omega, ?_⟩
      rw [hI]
      refine ⟨i + 1, _, _, _, _, _, _, _, _, _, _, _, _, _, rfl, by omega, ?_, rfl, rfl⟩
      exact upto_succ hP h1 h2
  · intro h1
    refine awp_exit ?_
    simp only [go_sem]
    have hb := upto_all hP (by omega)
    clear hP hi hI
    refine awp_sr2 ?_
    simp only [go_sem, R59_7, v59, p59, State.c]
    obtain ⟨J, hJ⟩ : ∃ J : Nat → List V → Store → Prop, J = fun mM L σ => ∃ i rest y2 y3 y4 y5 y6 y8 y9 y10 y11 y40 y46 y85, mM = a.items.length - i ∧ i ≤ a.items.length ∧ (∀ j x, j < i → a.items[j]? = some x → itemR a j x) ∧ L = [.agg a.c, .ptr 0 2 0 0, y2, y3, y4, y5, y6, y8, y9, y10, y11, y40, .fz 6 (rw_ Item.c a.items), .int .i64 (a.items.length : Nat), .int .i64 (i : Nat), y46, y85] ∧ σ = .live ⟨2, [a.c]⟩ :: rest := ⟨_, rfl⟩
    first | refine awp_for J a.items.length ?_ ?_ | refine awp_seq (awp_for J a.items.length ?_ ?_)
    · rw [hJ]; refine ⟨0, _, _, _, _, _, _, _, _, _, _, _, _, _, rfl, Nat.zero_le _, ?_, rfl, rfl⟩
      intro j x h; omega
    intro mM L σ hIn
    rw [hJ] at hIn
    obtain ⟨i, rest, y2, y3, y4, y5, y6, y8, y9, y10, y11, y40, y46, y85, rfl, hi, hP, rfl, rfl⟩ := hIn
    refine awp_sr ?_
    simp only [go_sem, R59_8, v59, p59, State.c]
    refine awp_seq ?_
    refine awp_if rfl ?_ ?_
    · intro h1
      have h1 : i < a.items.length := by omega
      have h3 : i - 1 < a.items.length := by omega
      refine awp_skip ?_
      simp only [go_sem]
      refine awp_seq (awp_block ?_)
      refine awp_sr ?_
      simp only [go_sem, R59_9, v59, p59, rw_at _ h1, Item.c]
      obtain ⟨K4, hK4⟩ : ∃ K : List V → Store → Prop, K = fun L σ => ∃ q rest y2 y3 y4 y5 y6 y8 y9 y10 y11 y40 y46, L = [.agg a.c, .ptr 0 2 0 0, y2, y3, y4, y5, y6, y8, y9, y10, y11, y40, .fz 6 (rw_ Item.c a.items), .int .i64 (a.items.length : Nat), .int .i64 (i : Nat), y46, .bool q] ∧ σ = .live ⟨2, [a.c]⟩ :: rest ∧ q = !decide (itemR a i a.items[i]) := ⟨_, rfl⟩
      refine awp_sdK (K4) mixed rfl (by rfl) ?_ ?_
      · simp only [go_sem, R59_10, v59, p59]
        repeat' first
          | (refine selP_if rfl (fun hG => ?_) (fun hG => ?_) <;> first | simp only [go_sem, v59, p59, eq_false hG, State.c, Item.c, rw_at _ h3, wrap_pred, show i < 9223372036854775807 by omega] | simp only [go_sem, v59, p59, eq_true hG, State.c, Item.c, rw_at _ h3, wrap_pred, show i < 9223372036854775807 by omega])
          | (refine selP_ifn rfl (fun hG => ?_) (fun hG => ?_) <;> first | simp only [go_sem, v59, p59, eq_false hG, State.c, Item.c, rw_at _ h3, wrap_pred, show i < 9223372036854775807 by omega] | simp only [go_sem, v59, p59, eq_true hG, State.c, Item.c, rw_at _ h3, wrap_pred, show i < 9223372036854775807 by omega])
          | (refine selN_if rfl (fun hG => ?_) (fun hG => ?_) <;> first | simp only [go_sem, v59, p59, eq_false hG, State.c, Item.c, rw_at _ h3, wrap_pred, show i < 9223372036854775807 by omega] | simp only [go_sem, v59, p59, eq_true hG, State.c, Item.c, rw_at _ h3, wrap_pred, show i < 9223372036854775807 by omega])
          | (refine selN_ifn rfl (fun hG => ?_) (fun hG => ?_) <;> first | simp only [go_sem, v59, p59, eq_false hG, State.c, Item.c, rw_at _ h3, wrap_pred, show i < 9223372036854775807 by omega] | simp only [go_sem, v59, p59, eq_true hG, State.c, Item.c, rw_at _ h3, wrap_pred, show i < 9223372036854775807 by omega])
          | (refine selB_if rfl (fun hG => ?_) (fun hG => ?_) <;> simp only [go_sem, v59, p59, hG, State.c, Item.c, rw_at _ h3, wrap_pred, show i < 9223372036854775807 by omega])
          | (refine selB_ifn rfl (fun hG => ?_) (fun hG => ?_) <;> simp only [go_sem, v59, p59, hG, State.c, Item.c, rw_at _ h3, wrap_pred, show i < 9223372036854775807 by omega])
          | (refine run_see (isNode_ok _) false (Views.refl rfl) rfl (fun j hj => by omega) (fun h => by cases h) ?_; simp only [go_sem, v59, p59, State.c, Item.c, rw_at _ h3, wrap_pred, show i < 9223372036854775807 by omega])
          | (refine run_see (implEntryOk_ok a.items[i].entry) false (Views.refl rfl) rfl (fun j hj => by omega) (fun h => by cases h) ?_; simp only [go_sem, v59, p59, State.c, Item.c, rw_at _ h3, wrap_pred, show i < 9223372036854775807 by omega])
          | (refine run_see (implFloorOf_ok a _ (by omega)) false (Views.refl rfl) rfl (fun j hj => by omega) (fun h => by cases h) ?_; simp only [go_sem, v59, p59, State.c, Item.c, rw_at _ h3, wrap_pred, show i < 9223372036854775807 by omega])
        all_goals rw [hK4]
        all_goals refine ⟨_, _, _, _, _, _, _, _, _, _, _, _, _, rfl, rfl, ?_⟩
        all_goals have key := itemR_iff a h1 h3
        all_goals grind
      intro L σ hq
      rw [hK4] at hq
      obtain ⟨q, rest, y2, y3, y4, y5, y6, y8, y9, y10, y11, y40, y46, rfl, rfl, hq⟩ := hq
      subst hq
      refine awp_if' rfl ?_ ?_
      · intro h2
        refine awp_sr ?_
        simp only [go_sem, R59_11, v59, p59]
        refine awp_ret ?_
        try simp only [go_sem]
        exact fin _ _ (.bool false) rfl (congrArg V.bool (decide_eq_false fun e => h2 (e.1 i _ (List.getElem?_eq_getElem h1))).symm)
      · intro h2
        refine awp_skip ?_
        simp only [go_sem]
        refine awp_reg ?_
        simp only [go_sem, R59_12, v59, p59, wrap_succ (i := i) (by omega)]
        refine ⟨a.items.length - (i + 1), by omega, ?_⟩
        rw [hJ]
        refine ⟨i + 1, _, _, _, _, _, _, _, _, _, _, _, _, _, rfl, by omega, ?_, rfl, rfl⟩
        exact upto_succ hP h1 h2
    · intro h1
      refine awp_exit ?_
      simp only [go_sem]
      have ha := upto_all hP (by omega)
      refine awp_sr ?_
      simp only [go_sem, R59_13, v59, p59]
      refine awp_ret ?_
      try simp only [go_sem]
      exact fin _ _ (.bool true) rfl (congrArg V.bool (decide_eq_true (show a.Right from ⟨ha, hb⟩)).symm)
end Go.Proofs.Ytffigokicddekaa.Abs
/- What has gone, walked in both texts, and the law. No condition. -/
set_option linter.unusedVariables false
set_option linter.unusedSimpArgs false
set_option maxRecDepth 10000
namespace Go.Proofs.Ytffigokicddekaa.Abs
open Go Go.Proofs
def R24_0 : List AR := [⟨(some 4), none, 0, (.mov (.k (.int .i64 0)))⟩]
def R24_1 : List AR := [⟨(some 5), none, 0, (.mov (.k (.int .i64 0)))⟩]
def R24_2 : List AR := [⟨(some 6), none, 0, (.mov (.k (.int .i64 0)))⟩]
def R24_3 : List AR := [⟨(some 9), none, 0, (.mov (.t 6))⟩, ⟨(some 10), none, 0, (.mov (.t 0))⟩, ⟨(some 11), none, 0, (.len (.t 10))⟩, ⟨(some 12), none, 0, (.bin .lss (.t 9) (.t 11))⟩]
def R24_4 : List AR := [⟨(some 16), none, 0, (.mov (.t 0))⟩, ⟨(some 17), none, 0, (.mov (.t 6))⟩, ⟨(some 18), none, 0, (.iaddr 2 (.t 16) (.t 17))⟩, ⟨(some 19), none, 0, (.load 2 true (.t 18))⟩, ⟨(some 20), none, 0, (.mov (.t 1))⟩, ⟨(some 21), none, 0, (.call false 0 0 54 [(.t 19), (.t 20)])⟩, ⟨(some 15), none, 0, (.mov (.t 21))⟩, ⟨(some 22), none, 0, (.ext (.t 15) 0)⟩, ⟨(some 23), none, 0, (.ext (.t 15) 1)⟩, ⟨(some 7), none, 0, (.alloc 0 5 [(.int .i64 0), (.int .i64 0), (.int .i64 0), (.int .i64 0), (.str ⟨⟨[]⟩⟩)])⟩, ⟨none, none, 0, (.store 5 (.t 7) (.t 22))⟩, ⟨(some 8), none, 0, (.mov (.t 23))⟩]
def R24_5 : List AR := [⟨(some 24), none, 0, (.mov (.t 8))⟩, ⟨(some 25), none, 0, (.mov (.t 24))⟩, ⟨(some 26), (some (25, true)), 0, (.mov (.t 0))⟩, ⟨(some 27), (some (25, true)), 0, (.mov (.t 6))⟩, ⟨(some 28), (some (25, true)), 0, (.iaddr 2 (.t 26) (.t 27))⟩, ⟨(some 29), (some (25, true)), 0, (.load 2 true (.t 28))⟩, ⟨(some 30), (some (25, true)), 0, (.call false 0 0 55 [(.t 29)])⟩, ⟨(some 31), none, 0, (.pick (.t 25) (.t 30) (.k (.bool false)))⟩, ⟨(some 32), none, 0, (.mov (.t 31))⟩, ⟨(some 33), (some (32, true)), 0, (.faddr 1 (.t 7))⟩, ⟨(some 34), (some (32, true)), 0, (.load 1 false (.t 33))⟩, ⟨(some 35), (some (32, true)), 0, (.bin .eql (.t 34) (.k (.int .i64 1)))⟩, ⟨(some 36), none, 0, (.pick (.t 32) (.t 35) (.k (.bool false)))⟩]
def R24_6 : List AR := [⟨(some 37), none, 0, (.mov (.t 5))⟩, ⟨(some 38), none, 0, (.faddr 0 (.t 7))⟩, ⟨(some 39), none, 0, (.load 1 false (.t 38))⟩, ⟨(some 40), none, 0, (.call false 0 0 56 [(.t 37), (.t 39)])⟩, ⟨(some 5), none, 0, (.mov (.t 40))⟩]
def A24_0 : AC := (.seq (.reg 0 R24_5) (.cond (.t 36) (.reg 0 R24_6) .skip))
def R24_7 : List AR := [⟨(some 13), none, 0, (.mov (.t 6))⟩, ⟨(some 14), none, 0, (.bin .add (.t 13) (.k (.int .i64 1)))⟩, ⟨(some 6), none, 0, (.mov (.t 14))⟩]
def A24_1 : AC := (.seq (.block 1 (.seq (.reg 1 R24_4) A24_0)) (.reg 0 R24_7))
def L24_0 : AC := (.seq (.seq (.reg 0 R24_3) (.cond (.t 12) .skip (.exit 0))) A24_1)
def R24_8 : List AR := [⟨(some 41), none, 0, (.mov (.t 5))⟩, ⟨(some 4), none, 0, (.mov (.t 41))⟩]
def A24_2 : AC := (.seq (.reg 0 R24_8) .ret)
def A24_3 : AC := (.seq (.seq (.reg 0 R24_2) (.block 0 (.loop L24_0))) A24_2)
def A24_4 : AC := (.seq (.reg 0 R24_1) A24_3)
def A24 : AC := (.seq (.reg 0 R24_0) A24_4)
def O24 : List AO := [(.mov (.t 4))]
def G24 : Fns := ⟨fun f => false, fun f => 0, false⟩
noncomputable def X24 : Cx := ⟨Try.prog, G24, drawD, 42, [0, 1, 4, 5, 6, 7, 8, 12, 36]⟩
theorem c24 : (Try.f24.body).bind (compC X24.P X24.Γ X24.D X24.nt) = some A24 := by kernel_rfl
theorem o24 : compRes X24.P Try.f24.results.toList = some O24 := by kernel_rfl
theorem v24 : X24.vs = [0, 1, 4, 5, 6, 7, 8, 12, 36] := rfl
theorem p24 : X24.P = Try.prog := rfl
def R26_0 : List AR := [⟨(some 4), none, 0, (.mov (.k (.int .i64 0)))⟩]
def R26_1 : List AR := [⟨(some 5), none, 0, (.mov (.k (.int .i64 0)))⟩]
def R26_2 : List AR := [⟨(some 10), none, 0, (.mov (.t 0))⟩, ⟨(some 11), none, 0, (.len (.t 10))⟩, ⟨(some 12), none, 0, (.mov (.k (.int .i64 0)))⟩]
def R26_3 : List AR := [⟨(some 13), none, 0, (.bin .lss (.t 12) (.t 11))⟩]
def R26_4 : List AR := [⟨(some 14), none, 0, (.iaddr 2 (.t 10) (.t 12))⟩, ⟨(some 15), none, 0, (.load 2 true (.t 14))⟩, ⟨(some 7), none, 0, (.alloc 0 2 [.nl, .nl])⟩, ⟨none, none, 0, (.store 2 (.t 7) (.t 15))⟩]
def R26_5 : List AR := [⟨(some 17), none, 0, (.load 2 true (.t 7))⟩, ⟨(some 18), none, 0, (.mov (.t 1))⟩, ⟨(some 19), none, 0, (.call false 0 0 58 [(.t 17), (.t 18)])⟩, ⟨(some 16), none, 0, (.mov (.t 19))⟩, ⟨(some 20), none, 0, (.ext (.t 16) 0)⟩, ⟨(some 21), none, 0, (.ext (.t 16) 1)⟩, ⟨(some 8), none, 0, (.alloc 0 5 [(.int .i64 0), (.int .i64 0), (.int .i64 0), (.int .i64 0), (.str ⟨⟨[]⟩⟩)])⟩, ⟨none, none, 0, (.store 5 (.t 8) (.t 20))⟩, ⟨(some 9), none, 0, (.mov (.t 21))⟩]
def R26_6 : List AR := [⟨(some 22), none, 0, (.mov (.t 9))⟩, ⟨(some 23), none, 0, (.mov (.t 22))⟩, ⟨(some 24), (some (23, true)), 0, (.load 2 true (.t 7))⟩, ⟨(some 25), (some (23, true)), 0, (.call false 0 0 59 [(.t 24)])⟩, ⟨(some 26), none, 0, (.pick (.t 23) (.t 25) (.k (.bool false)))⟩, ⟨(some 27), none, 0, (.mov (.t 26))⟩, ⟨(some 28), (some (27, true)), 0, (.faddr 1 (.t 8))⟩, ⟨(some 29), (some (27, true)), 0, (.load 1 false (.t 28))⟩, ⟨(some 30), (some (27, true)), 0, (.bin .eql (.t 29) (.k (.int .i64 1)))⟩, ⟨(some 31), none, 0, (.pick (.t 27) (.t 30) (.k (.bool false)))⟩]
def R26_7 : List AR := [⟨(some 32), none, 0, (.mov (.t 5))⟩, ⟨(some 33), none, 0, (.faddr 0 (.t 8))⟩, ⟨(some 34), none, 0, (.load 1 false (.t 33))⟩, ⟨(some 35), none, 0, (.max [(.t 32), (.t 34)])⟩, ⟨(some 5), none, 0, (.mov (.t 35))⟩]
def A26_0 : AC := (.seq (.reg 0 R26_6) (.cond (.t 31) (.reg 0 R26_7) .skip))
def A26_1 : AC := (.seq (.reg 1 R26_5) A26_0)
def R26_8 : List AR := [⟨(some 36), none, 0, (.bin .add (.t 12) (.k (.int .i64 1)))⟩, ⟨(some 12), none, 0, (.mov (.t 36))⟩]
def A26_2 : AC := (.seq (.block 1 (.seq (.reg 1 R26_4) A26_1)) (.reg 0 R26_8))
def A26_3 : AC := (.seq (.cond (.t 13) .skip (.exit 0)) A26_2)
def L26_0 : AC := (.seq (.reg 0 R26_3) A26_3)
def R26_9 : List AR := [⟨(some 37), none, 0, (.mov (.t 5))⟩, ⟨(some 4), none, 0, (.mov (.t 37))⟩]
def A26_4 : AC := (.seq (.reg 0 R26_9) .ret)
def A26_5 : AC := (.seq (.seq (.reg 0 R26_2) (.block 0 (.loop L26_0))) A26_4)
def A26_6 : AC := (.seq (.reg 0 R26_1) A26_5)
def A26 : AC := (.seq (.reg 0 R26_0) A26_6)
def O26 : List AO := [(.mov (.t 4))]
def G26 : Fns := ⟨fun f => false, fun f => 0, false⟩
noncomputable def X26 : Cx := ⟨Try.prog, G26, drawD, 38, [0, 1, 4, 5, 7, 8, 9, 10, 11, 12, 13, 31]⟩
theorem c26 : (Try.f26.body).bind (compC X26.P X26.Γ X26.D X26.nt) = some A26 := by kernel_rfl
theorem o26 : compRes X26.P Try.f26.results.toList = some O26 := by kernel_rfl
theorem v26 : X26.vs = [0, 1, 4, 5, 7, 8, 9, 10, 11, 12, 13, 31] := rfl
theorem p26 : X26.P = Try.prog := rfl
def goneP (id : Int) (s : State) : Prop := (entryOf s id).2 = true ∧ s.Right ∧ (entryOf s id).1.rank = 1
noncomputable instance (id : Int) (s : State) : Decidable (goneP id s) := Classical.propDecidable _
noncomputable def goneF (id : Int) (n : Int) (s : State) : Int := if goneP id s then (if (entryOf s id).1.inc > n then (entryOf s id).1.inc else n) else n
theorem goneF_if {id : Int} {s : State} (h : goneP id s) (n : Int) : goneF id n s = if (entryOf s id).1.inc > n then (entryOf s id).1.inc else n := by unfold goneF; rw [if_pos h]
theorem goneF_no {id : Int} {s : State} (h : ¬ goneP id s) (n : Int) : goneF id n s = n := by unfold goneF; rw [if_neg h]
noncomputable def plainGone (parts : List State) (id : Int) : Int := parts.foldl (goneF id) 0
theorem fold_take {α β : Type} (f : β → α → β) (b : β) {xs : List α} {i : Nat} (h : i < xs.length) : (xs.take (i + 1)).foldl f b = f ((xs.take i).foldl f b) xs[i] := by
  rw [List.take_succ_eq_append_getElem h, List.foldl_append]; rfl
theorem size_of {a : State} {xs : List State} {n : Nat} (h : szS State.sz xs ≤ n) {i : Nat} (h1 : i < xs.length) : a.sz ≤ n → xs[i].sz ≤ n := by
  have := sumBy_get State.sz h1
  unfold szS at h
  omega
theorem State.items_le (a : State) : a.items.length ≤ a.sz := by unfold State.sz szS; omega
theorem State.floors_le (a : State) : a.floors.length ≤ a.sz := by unfold State.sz szS; omega
theorem specPlainGone_ok (xs : List State) (id : Int) (h : szS State.sz xs ≤ 1048576) : FS Try.prog 24 [] [.fz 2 (rw_ State.c xs), .int .i64 id] (.int .i64 (plainGone xs id)) [] := by
  refine FS.of (X := X24) (ac := A24) (os := O24) Try.func24 (by rfl) (by rfl) (by kernel_rfl) o24 (Nat.le_of_ble_eq_true rfl) ?_
  show AWP X24 A24 (Ends X24.vs O24 0 _ _) [.fz 2 (rw_ State.c xs), .int .i64 id, .tup [], .tup [], .tup [], .tup [], .tup [], .tup [], .tup []] []
  obtain ⟨Q, hQ⟩ : ∃ Q, Q = Ends X24.vs O24 0 (.int .i64 (plainGone xs id)) [] := ⟨_, rfl⟩
  rw [← hQ]
  have hx : xs.length ≤ 1048576 := by unfold szS at h; omega
  have fin : ∀ L σ v, resVs O24 (look X24.vs L) σ = some [v] → v = (.int .i64 (plainGone xs id)) → Q .ret L σ := by
    intro L σ v h1 h2
    rw [hQ]
    exact Ends.is (.inl rfl) h1 (by simp only [packV, h2]) rfl
  refine awp_sr ?_
  simp only [go_sem, R24_0, v24, p24]
  refine awp_sr ?_
  simp only [go_sem, R24_1, v24, p24]
  refine awp_sr2 ?_
  simp only [go_sem, R24_2, v24, p24]
  obtain ⟨I, hI⟩ : ∃ I : Nat → List V → Store → Prop, I = fun mM L σ => ∃ i rest y4 y7 y8 y12 y36, mM = xs.length - i ∧ i ≤ xs.length ∧ (True) ∧ L = [.fz 2 (rw_ State.c xs), .int .i64 id, y4, .int .i64 ((xs.take i).foldl (goneF id) 0), .int .i64 (i : Nat), y7, y8, y12, y36] ∧ σ = rest := ⟨_, rfl⟩
  first | refine awp_for I xs.length ?_ ?_ | refine awp_seq (awp_for I xs.length ?_ ?_)
  · rw [hI]; refine ⟨0, _, _, _, _, _, _, rfl, Nat.zero_le _, ?_, rfl, rfl⟩
    trivial
  intro mM L σ hIn
  rw [hI] at hIn
  obtain ⟨i, rest, y4, y7, y8, y12, y36, rfl, hi, hP, rfl, rfl⟩ := hIn
  refine awp_sr2 ?_
  simp only [go_sem, R24_3, v24, p24]
  refine awp_if rfl ?_ ?_
  · intro h1
    have h1 : i < xs.length := by omega
    have hs : xs[i].sz ≤ 1048576 := size_of (a := xs[i]) h h1 (by have := sumBy_get State.sz h1; unfold szS at h; omega)
    have hs2 := State.items_le xs[i]
    refine awp_skip ?_
    simp only [go_sem]
    refine awp_seq (awp_block ?_)
    refine awp_sr ?_
    simp only [go_sem, R24_4, v24, p24, rw_at _ h1, State.c]
    refine run_see (specEntryOf_ok xs[i] id (by omega)) false (Views.refl rfl) rfl (fun j hj => by first | omega | ((have hj0 : j = 0 := by omega); subst hj0; first | rfl | (simp only [Nat.add_zero, app_get, app_getk, sapp_get, sapp_getk, Nat.add_assoc, Nat.reduceAdd, List.getElem?_cons_zero, List.getElem?_cons_succ]; done) | simp)) (fun h => by cases h) ?_
    simp only [go_sem, v24, p24, entryV, Entry.c]
    obtain ⟨K1, hK1⟩ : ∃ K : List V → Store → Prop, K = fun L σ => ∃ q rest y4 y8 y12, L = [.fz 2 (rw_ State.c xs), .int .i64 id, y4, .int .i64 ((xs.take i).foldl (goneF id) 0), .int .i64 (i : Nat), .ptr rest.length 5 0 0, y8, y12, .bool q] ∧ σ = rest ++ [.live ⟨5, [(entryOf xs[i] id).1.c]⟩] ∧ q = decide (goneP id xs[i]) := ⟨_, rfl⟩
    refine awp_srK (K1) ?_ ?_
    · simp only [go_sem, R24_5, v24, p24]
      repeat' first
        | (refine selP_if rfl (fun hG => ?_) (fun hG => ?_) <;> first | simp only [go_sem, v24, p24, eq_false hG, rw_at _ h1, State.c] | simp only [go_sem, v24, p24, eq_true hG, rw_at _ h1, State.c])
        | (refine selP_ifn rfl (fun hG => ?_) (fun hG => ?_) <;> first | simp only [go_sem, v24, p24, eq_false hG, rw_at _ h1, State.c] | simp only [go_sem, v24, p24, eq_true hG, rw_at _ h1, State.c])
        | (refine selN_if rfl (fun hG => ?_) (fun hG => ?_) <;> first | simp only [go_sem, v24, p24, eq_false hG, rw_at _ h1, State.c] | simp only [go_sem, v24, p24, eq_true hG, rw_at _ h1, State.c])
        | (refine selN_ifn rfl (fun hG => ?_) (fun hG => ?_) <;> first | simp only [go_sem, v24, p24, eq_false hG, rw_at _ h1, State.c] | simp only [go_sem, v24, p24, eq_true hG, rw_at _ h1, State.c])
        | (refine selB_if rfl (fun hG => ?_) (fun hG => ?_) <;> simp only [go_sem, v24, p24, hG, rw_at _ h1, State.c])
        | (refine selB_ifn rfl (fun hG => ?_) (fun hG => ?_) <;> simp only [go_sem, v24, p24, hG, rw_at _ h1, State.c])
        | (refine run_see (specStateOk_ok xs[i] hs) false (Views.refl rfl) rfl (fun j hj => by omega) (fun h => by cases h) ?_; simp only [go_sem, v24, p24, rw_at _ h1, State.c])
      all_goals rw [hK1]
      all_goals refine ⟨_, _, _, _, _, rfl, rfl, ?_⟩
      all_goals grind [goneP]
    intro L σ hq
    rw [hK1] at hq
    obtain ⟨q, rest, y4, y8, y12, rfl, rfl, hq⟩ := hq
    subst hq
    have e1 := fold_take (goneF id) 0 h1
    obtain ⟨K2, hK2⟩ : ∃ K : List V → Store → Prop, K = fun L σ => ∃ rest y4 y7 y8 y12 y36, L = [.fz 2 (rw_ State.c xs), .int .i64 id, y4, .int .i64 ((xs.take (i + 1)).foldl (goneF id) 0), .int .i64 (i : Nat), y7, y8, y12, y36] ∧ σ = rest ∧ True := ⟨_, rfl⟩
    refine awp_K K2 ?_ ?_
    · refine awp_if rfl ?_ ?_
      · intro h2
        refine awp_reg ?_
        simp only [go_sem, R24_6, v24, p24, Entry.c]
        refine run_see (l1Max_ok _ _) false (Views.refl rfl) rfl (fun j hj => by first | omega | ((have hj0 : j = 0 := by omega); subst hj0; first | rfl | (simp only [Nat.add_zero, app_get, app_getk, sapp_get, sapp_getk, Nat.add_assoc, Nat.reduceAdd, List.getElem?_cons_zero, List.getElem?_cons_succ]; done) | simp)) (fun h => by cases h) ?_
        simp only [go_sem, v24, p24]
        rw [← goneF_if h2, ← e1]
        rw [hK2]
        refine ⟨_, _, _, _, _, _, rfl, rfl, ?_⟩
        trivial
      · intro h2
        refine awp_skip ?_
        simp only [go_sem]
        rw [goneF_no h2] at e1
        rw [← e1]
        rw [hK2]
        refine ⟨_, _, _, _, _, _, rfl, rfl, ?_⟩
        trivial
    · intro L σ hq
      rw [hK2] at hq
      obtain ⟨rest, y4, y7, y8, y12, y36, rfl, rfl, hq⟩ := hq
      simp only [go_sem, v24, p24]
      refine awp_reg ?_
      simp only [go_sem, R24_7, v24, p24, wrap_succ (i := i) (by omega)]
      refine ⟨xs.length - (i + 1), by omega, ?_⟩
      rw [hI]
      refine ⟨i + 1, _, _, _, _, _, _, rfl, by omega, ?_, rfl, rfl⟩
      trivial
  · intro h1
    refine awp_exit ?_
    simp only [go_sem]
    refine awp_sr ?_
    simp only [go_sem, R24_8, v24, p24]
    refine awp_ret ?_
    try simp only [go_sem]
    have : i = xs.length := by omega
    subst this
    rw [List.take_length]
    exact fin _ _ _ rfl rfl
theorem implPlainGone_ok (xs : List State) (id : Int) (h : szS State.sz xs ≤ 1048576) : FS Try.prog 26 [] [.fz 2 (rw_ State.c xs), .int .i64 id] (.int .i64 (plainGone xs id)) [] := by
  refine FS.of (X := X26) (ac := A26) (os := O26) Try.func26 (by rfl) (by rfl) (by kernel_rfl) o26 (Nat.le_of_ble_eq_true rfl) ?_
  show AWP X26 A26 (Ends X26.vs O26 0 _ _) [.fz 2 (rw_ State.c xs), .int .i64 id, .tup [], .tup [], .tup [], .tup [], .tup [], .tup [], .tup [], .tup [], .tup [], .tup []] []
  obtain ⟨Q, hQ⟩ : ∃ Q, Q = Ends X26.vs O26 0 (.int .i64 (plainGone xs id)) [] := ⟨_, rfl⟩
  rw [← hQ]
  have hx : xs.length ≤ 1048576 := by unfold szS at h; omega
  have fin : ∀ L σ v, resVs O26 (look X26.vs L) σ = some [v] → v = (.int .i64 (plainGone xs id)) → Q .ret L σ := by
    intro L σ v h1 h2
    rw [hQ]
    exact Ends.is (.inl rfl) h1 (by simp only [packV, h2]) rfl
  refine awp_sr ?_
  simp only [go_sem, R26_0, v26, p26]
  refine awp_sr ?_
  simp only [go_sem, R26_1, v26, p26]
  refine awp_sr2 ?_
  simp only [go_sem, R26_2, v26, p26]
  obtain ⟨I, hI⟩ : ∃ I : Nat → List V → Store → Prop, I = fun mM L σ => ∃ i rest y4 y7 y8 y9 y13 y31, mM = xs.length - i ∧ i ≤ xs.length ∧ (True) ∧ L = [.fz 2 (rw_ State.c xs), .int .i64 id, y4, .int .i64 ((xs.take i).foldl (goneF id) 0), y7, y8, y9, .fz 2 (rw_ State.c xs), .int .i64 (xs.length : Nat), .int .i64 (i : Nat), y13, y31] ∧ σ = rest := ⟨_, rfl⟩
  first | refine awp_for I xs.length ?_ ?_ | refine awp_seq (awp_for I xs.length ?_ ?_)
  · rw [hI]; refine ⟨0, _, _, _, _, _, _, _, rfl, Nat.zero_le _, ?_, rfl, rfl⟩
    trivial
  intro mM L σ hIn
  rw [hI] at hIn
  obtain ⟨i, rest, y4, y7, y8, y9, y13, y31, rfl, hi, hP, rfl, rfl⟩ := hIn
  refine awp_sr ?_
  simp only [go_sem, R26_3, v26, p26]
  refine awp_seq ?_
  refine awp_if rfl ?_ ?_
  · intro h1
    have h1 : i < xs.length := by omega
    have hs : xs[i].sz ≤ 1048576 := size_of (a := xs[i]) h h1 (by have := sumBy_get State.sz h1; unfold szS at h; omega)
    have hs2 := State.items_le xs[i]
    refine awp_skip ?_
    simp only [go_sem]
    refine awp_seq (awp_block ?_)
    refine awp_sr ?_
    simp only [go_sem, R26_4, v26, p26, rw_at _ h1, State.c]
    refine awp_sr ?_
    simp only [go_sem, R26_5, v26, p26, State.c]
    refine run_see (implEntryOf_ok xs[i] id (by omega)) false (Views.refl rfl) rfl (fun j hj => by first | omega | ((have hj0 : j = 0 := by omega); subst hj0; first | rfl | (simp only [Nat.add_zero, app_get, app_getk, sapp_get, sapp_getk, Nat.add_assoc, Nat.reduceAdd, List.getElem?_cons_zero, List.getElem?_cons_succ]; done) | simp)) (fun h => by cases h) ?_
    simp only [go_sem, v26, p26, entryV, Entry.c]
    obtain ⟨K3, hK3⟩ : ∃ K : List V → Store → Prop, K = fun L σ => ∃ q rest y4 y7 y9 y13, L = [.fz 2 (rw_ State.c xs), .int .i64 id, y4, .int .i64 ((xs.take i).foldl (goneF id) 0), y7, .ptr (rest.length + 1) 5 0 0, y9, .fz 2 (rw_ State.c xs), .int .i64 (xs.length : Nat), .int .i64 (i : Nat), y13, .bool q] ∧ σ = rest ++ [.live ⟨2, [xs[i].c]⟩, .live ⟨5, [(entryOf xs[i] id).1.c]⟩] ∧ q = decide (goneP id xs[i]) := ⟨_, rfl⟩
    refine awp_srK (K3) ?_ ?_
    · simp only [go_sem, R26_6, v26, p26]
      repeat' first
        | (refine selP_if rfl (fun hG => ?_) (fun hG => ?_) <;> first | simp only [go_sem, v26, p26, eq_false hG, rw_at _ h1, State.c] | simp only [go_sem, v26, p26, eq_true hG, rw_at _ h1, State.c])
        | (refine selP_ifn rfl (fun hG => ?_) (fun hG => ?_) <;> first | simp only [go_sem, v26, p26, eq_false hG, rw_at _ h1, State.c] | simp only [go_sem, v26, p26, eq_true hG, rw_at _ h1, State.c])
        | (refine selN_if rfl (fun hG => ?_) (fun hG => ?_) <;> first | simp only [go_sem, v26, p26, eq_false hG, rw_at _ h1, State.c] | simp only [go_sem, v26, p26, eq_true hG, rw_at _ h1, State.c])
        | (refine selN_ifn rfl (fun hG => ?_) (fun hG => ?_) <;> first | simp only [go_sem, v26, p26, eq_false hG, rw_at _ h1, State.c] | simp only [go_sem, v26, p26, eq_true hG, rw_at _ h1, State.c])
        | (refine selB_if rfl (fun hG => ?_) (fun hG => ?_) <;> simp only [go_sem, v26, p26, hG, rw_at _ h1, State.c])
        | (refine selB_ifn rfl (fun hG => ?_) (fun hG => ?_) <;> simp only [go_sem, v26, p26, hG, rw_at _ h1, State.c])
        | (refine run_see (implStateOk_ok xs[i] hs) false (Views.refl rfl) rfl (fun j hj => by omega) (fun h => by cases h) ?_; simp only [go_sem, v26, p26, rw_at _ h1, State.c])
      all_goals rw [hK3]
      all_goals refine ⟨_, _, _, _, _, _, rfl, rfl, ?_⟩
      all_goals grind [goneP]
    intro L σ hq
    rw [hK3] at hq
    obtain ⟨q, rest, y4, y7, y9, y13, rfl, rfl, hq⟩ := hq
    subst hq
    have e1 := fold_take (goneF id) 0 h1
    obtain ⟨K4, hK4⟩ : ∃ K : List V → Store → Prop, K = fun L σ => ∃ rest y4 y7 y8 y9 y13 y31, L = [.fz 2 (rw_ State.c xs), .int .i64 id, y4, .int .i64 ((xs.take (i + 1)).foldl (goneF id) 0), y7, y8, y9, .fz 2 (rw_ State.c xs), .int .i64 (xs.length : Nat), .int .i64 (i : Nat), y13, y31] ∧ σ = rest ∧ True := ⟨_, rfl⟩
    refine awp_K K4 ?_ ?_
    · refine awp_if rfl ?_ ?_
      · intro h2
        refine awp_reg ?_
        simp only [go_sem, R26_7, v26, p26, Entry.c]
        rw [← goneF_if h2, ← e1]
        rw [hK4]
        refine ⟨_, _, _, _, _, _, _, rfl, rfl, ?_⟩
        trivial
      · intro h2
        refine awp_skip ?_
        simp only [go_sem]
        rw [goneF_no h2] at e1
        rw [← e1]
        rw [hK4]
        refine ⟨_, _, _, _, _, _, _, rfl, rfl, ?_⟩
        trivial
    · intro L σ hq
      rw [hK4] at hq
      obtain ⟨rest, y4, y7, y8, y9, y13, y31, rfl, rfl, hq⟩ := hq
      simp only [go_sem, v26, p26]
      refine awp_reg ?_
      simp only [go_sem, R26_8, v26, p26, wrap_succ (i := i) (by omega)]
      refine ⟨xs.length - (i + 1), by omega, ?_⟩
      rw [hI]
      refine ⟨i + 1, _, _, _, _, _, _, _, rfl, by omega, ?_, rfl, rfl⟩
      trivial
  · intro h1
    refine awp_exit ?_
    simp only [go_sem]
    refine awp_sr ?_
    simp only [go_sem, R26_9, v26, p26]
    refine awp_ret ?_
    try simp only [go_sem]
    have : i = xs.length := by omega
    subst this
    rw [List.take_length]
    exact fin _ _ _ rfl rfl
def R5_0 : List AR := [⟨(some 4), none, 0, (.mov (.k (.bool false)))⟩]
def R5_1 : List AR := [⟨(some 5), none, 0, (.mov (.k (.int .i64 1048576)))⟩]
def R5_2 : List AR := [⟨(some 9), none, 0, (.mov (.t 0))⟩, ⟨(some 10), none, 0, (.mov (.t 5))⟩, ⟨(some 11), none, 0, (.call false 0 0 23 [(.t 9), (.t 10)])⟩, ⟨(some 5), none, 0, (.mov (.t 11))⟩]
def R5_3 : List AR := [⟨(some 12), none, 0, (.mov (.t 5))⟩, ⟨(some 13), none, 0, (.bin .lss (.t 12) (.k (.int .i64 0)))⟩]
def R5_4 : List AR := [⟨(some 4), none, 0, (.mov (.k (.bool true)))⟩]
def R5_5 : List AR := [⟨(some 14), none, 0, (.mov (.t 0))⟩, ⟨(some 15), none, 0, (.call false 0 0 25 [(.t 14)])⟩, ⟨(some 16), none, 0, (.mov (.t 1))⟩, ⟨(some 17), none, 0, (.call false 0 0 24 [(.t 15), (.t 16)])⟩, ⟨(some 6), none, 0, (.mov (.t 17))⟩]
def R5_6 : List AR := [⟨(some 18), none, 0, (.mov (.t 0))⟩, ⟨(some 19), none, 0, (.call false 0 0 25 [(.t 18)])⟩, ⟨(some 7), none, 0, (.mov (.t 19))⟩]
def R5_7 : List AR := [⟨(some 20), none, 0, (.mov (.t 7))⟩, ⟨(some 21), none, 0, (.mov (.t 1))⟩, ⟨(some 22), none, 0, (.call false 0 0 26 [(.t 20), (.t 21)])⟩, ⟨(some 8), none, 0, (.mov (.t 22))⟩]
def R5_8 : List AR := [⟨(some 23), none, 0, (.mov (.t 8))⟩, ⟨(some 24), none, 0, (.mov (.t 6))⟩, ⟨(some 25), none, 0, (.bin .neq (.t 23) (.t 24))⟩]
def R5_9 : List AR := [⟨(some 4), none, 0, (.mov (.k (.bool false)))⟩]
def R5_10 : List AR := [⟨(some 26), none, 0, (.mov (.t 7))⟩, ⟨(some 27), none, 0, (.mov (.t 0))⟩, ⟨(some 28), none, 0, (.call false 0 0 25 [(.t 27)])⟩, ⟨(some 29), none, 0, (.call false 0 0 27 [(.t 26), (.t 28)])⟩, ⟨(some 30), none, 0, (.not (.t 29))⟩]
def R5_11 : List AR := [⟨(some 4), none, 0, (.mov (.k (.bool false)))⟩]
def R5_12 : List AR := [⟨(some 4), none, 0, (.mov (.k (.bool true)))⟩]
def A5_0 : AC := (.seq (.reg 0 R5_12) .ret)
def A5_1 : AC := (.seq (.seq (.reg 0 R5_10) (.cond (.t 30) (.seq (.reg 0 R5_11) .ret) .skip)) A5_0)
def A5_2 : AC := (.seq (.seq (.reg 0 R5_8) (.cond (.t 25) (.seq (.reg 0 R5_9) .ret) .skip)) A5_1)
def A5_3 : AC := (.seq (.reg 0 R5_7) A5_2)
def A5_4 : AC := (.seq (.reg 0 R5_6) A5_3)
def A5_5 : AC := (.seq (.reg 0 R5_5) A5_4)
def A5_6 : AC := (.seq (.seq (.reg 0 R5_3) (.cond (.t 13) (.seq (.reg 0 R5_4) .ret) .skip)) A5_5)
def A5_7 : AC := (.seq (.reg 0 R5_2) A5_6)
def A5_8 : AC := (.seq (.reg 0 R5_1) A5_7)
def A5 : AC := (.seq (.reg 0 R5_0) A5_8)
def O5 : List AO := [(.mov (.t 4))]
def G5 : Fns := ⟨fun f => false, fun f => 0, false⟩
noncomputable def X5 : Cx := ⟨Try.prog, G5, drawD, 31, [0, 1, 4, 5, 6, 7, 8, 13, 25, 30]⟩
theorem c5 : (Try.f5.body).bind (compC X5.P X5.Γ X5.D X5.nt) = some A5 := by kernel_rfl
theorem o5 : compRes X5.P Try.f5.results.toList = some O5 := by kernel_rfl
theorem v5 : X5.vs = [0, 1, 4, 5, 6, 7, 8, 13, 25, 30] := rfl
theorem p5 : X5.P = Try.prog := rfl
theorem exactPlainGone_ok (xs : List State) (id : Int) (ha : okS State.ok xs) : FS Try.prog 5 [] [.fz 2 (rw_ State.c xs), .int .i64 id] (.bool true) [] := by
  refine FS.of (X := X5) (ac := A5) (os := O5) Try.func5 (by rfl) (by rfl) (by kernel_rfl) o5 (Nat.le_of_ble_eq_true rfl) ?_
  show AWP X5 A5 (Ends X5.vs O5 0 _ _) [.fz 2 (rw_ State.c xs), .int .i64 id, .tup [], .tup [], .tup [], .tup [], .tup [], .tup [], .tup [], .tup []] []
  obtain ⟨Q, hQ⟩ : ∃ Q, Q = Ends X5.vs O5 0 (.bool true) [] := ⟨_, rfl⟩
  rw [← hQ]
  have fin : ∀ L σ v, resVs O5 (look X5.vs L) σ = some [v] → v = (.bool true) → Q .ret L σ := by
    intro L σ v h1 h2
    rw [hQ]
    exact Ends.is (.inl rfl) h1 (by simp only [packV, h2]) rfl
  refine awp_sr ?_
  simp only [go_sem, R5_0, v5, p5]
  refine awp_sr ?_
  simp only [go_sem, R5_1, v5, p5]
  refine awp_sr ?_
  simp only [go_sem, R5_2, v5, p5]
  refine run_see (szStateS_ok xs 1048576 (Nat.le_refl _) ha) false (Views.refl rfl) rfl (fun j hj => by omega) (fun h => by cases h) ?_
  simp only [go_sem, v5, p5]
  refine awp_sr2 ?_
  simp only [go_sem, R5_3, v5, p5]
  refine awp_if rfl ?_ ?_
  · intro h1
    refine awp_sr ?_
    simp only [go_sem, R5_4, v5, p5]
    refine awp_ret ?_
    try simp only [go_sem]
    exact fin _ _ _ rfl rfl
  intro h1
  obtain ⟨-, h2⟩ := left_pos h1
  have hl : xs.length ≤ 1048576 := by unfold szS at h2; omega
  refine awp_skip ?_
  simp only [go_sem]
  refine awp_sr ?_
  simp only [go_sem, R5_5, v5, p5]
  refine run_see (toStateS_ok xs h2) false (Views.refl rfl) rfl (fun j hj => by first | omega | ((have hj0 : j = 0 := by omega); subst hj0; first | rfl | (simp only [Nat.add_zero, app_get, app_getk, sapp_get, sapp_getk, Nat.add_assoc, Nat.reduceAdd, List.getElem?_cons_zero, List.getElem?_cons_succ]; done) | simp)) (fun h => by cases h) ?_
  simp only [go_sem, v5, p5]
  refine run_see (specPlainGone_ok xs id h2) false (Views.refl rfl) rfl (fun j hj => by first | omega | ((have hj0 : j = 0 := by omega); subst hj0; first | rfl | (simp only [Nat.add_zero, app_get, app_getk, sapp_get, sapp_getk, Nat.add_assoc, Nat.reduceAdd, List.getElem?_cons_zero, List.getElem?_cons_succ]; done) | simp)) (fun h => by cases h) ?_
  simp only [go_sem, v5, p5]
  refine awp_sr ?_
  simp only [go_sem, R5_6, v5, p5]
  refine run_see (toStateS_ok xs h2) false (Views.refl rfl) rfl (fun j hj => by first | omega | ((have hj0 : j = 0 := by omega); subst hj0; first | rfl | (simp only [Nat.add_zero, app_get, app_getk, sapp_get, sapp_getk, Nat.add_assoc, Nat.reduceAdd, List.getElem?_cons_zero, List.getElem?_cons_succ]; done) | simp)) (fun h => by cases h) ?_
  simp only [go_sem, v5, p5]
  refine awp_sr ?_
  simp only [go_sem, R5_7, v5, p5]
  refine run_see (implPlainGone_ok xs id h2) false (Views.refl rfl) rfl (fun j hj => by first | omega | ((have hj0 : j = 0 := by omega); subst hj0; first | rfl | (simp only [Nat.add_zero, app_get, app_getk, sapp_get, sapp_getk, Nat.add_assoc, Nat.reduceAdd, List.getElem?_cons_zero, List.getElem?_cons_succ]; done) | simp)) (fun h => by cases h) ?_
  simp only [go_sem, v5, p5]
  refine awp_sr2 ?_
  simp only [go_sem, R5_8, v5, p5]
  refine awp_if rfl ?_ ?_
  · intro h3; exact absurd rfl h3
  intro h3
  refine awp_skip ?_
  simp only [go_sem]
  refine awp_sr2 ?_
  simp only [go_sem, R5_10, v5, p5]
  refine run_see (toStateS_ok xs h2) false (Views.refl rfl) rfl (fun j hj => by first | omega | ((have hj0 : j = 0 := by omega); subst hj0; first | rfl | (simp only [Nat.add_zero, app_get, app_getk, sapp_get, sapp_getk, Nat.add_assoc, Nat.reduceAdd, List.getElem?_cons_zero, List.getElem?_cons_succ]; done) | simp)) (fun h => by cases h) ?_
  simp only [go_sem, v5, p5]
  refine run_see (eqStateS_ok xs xs (by omega) h2) false (Views.refl rfl) rfl (fun j hj => by first | omega | ((have hj0 : j = 0 := by omega); subst hj0; first | rfl | (simp only [Nat.add_zero, app_get, app_getk, sapp_get, sapp_getk, Nat.add_assoc, Nat.reduceAdd, List.getElem?_cons_zero, List.getElem?_cons_succ]; done) | simp)) (fun h => by cases h) ?_
  simp only [go_sem, v5, p5]
  refine awp_no rfl ?_
  refine awp_skip ?_
  simp only [go_sem]
  refine awp_sr ?_
  simp only [go_sem, R5_12, v5, p5]
  refine awp_ret ?_
  try simp only [go_sem]
  exact fin _ _ _ rfl rfl
end Go.Proofs.Ytffigokicddekaa.Abs
