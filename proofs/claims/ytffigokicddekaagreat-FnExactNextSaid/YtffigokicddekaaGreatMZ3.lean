/- Copies, sizes and equality, walked: Log, Sess, SessS, Rise, RiseS, IntSS, Node. No condition. -/
import Derived.Test.YtffigokicddekaaGreatMZ2
set_option linter.unusedVariables false
set_option linter.unusedSimpArgs false
set_option maxRecDepth 10000
namespace Go.Proofs.YtffigokicddekaaGreat.Abs
open Go Go.Proofs
def R175_0 : List AR := [⟨(some 1), none, 0, (.box 0 3 (.t 0))⟩, ⟨(some 2), none, 0, (.alloc 1 3 [(.int .i64 0), (.int .i64 0), .nl])⟩]
def R175_1 : List AR := [⟨(some 3), none, 0, (.alloc 0 3 [(.int .i64 0), (.int .i64 0), .nl])⟩]
def R175_2 : List AR := [⟨(some 4), none, 0, (.faddr 0 (.t 1))⟩, ⟨(some 5), none, 0, (.load 1 false (.t 4))⟩, ⟨(some 6), none, 0, (.faddr 0 (.t 3))⟩, ⟨none, none, 0, (.store 1 (.t 6) (.t 5))⟩]
def R175_3 : List AR := [⟨(some 7), none, 0, (.faddr 1 (.t 1))⟩, ⟨(some 8), none, 0, (.load 1 false (.t 7))⟩, ⟨(some 9), none, 0, (.faddr 1 (.t 3))⟩, ⟨none, none, 0, (.store 1 (.t 9) (.t 8))⟩]
def R175_4 : List AR := [⟨(some 10), none, 0, (.faddr 2 (.t 1))⟩, ⟨(some 11), none, 0, (.load 1 false (.t 10))⟩, ⟨(some 12), none, 0, (.call false 0 0 212 [(.t 11)])⟩, ⟨(some 13), none, 0, (.faddr 2 (.t 3))⟩, ⟨none, none, 0, (.store 1 (.t 13) (.t 12))⟩]
def R175_5 : List AR := [⟨(some 14), none, 0, (.load 3 true (.t 3))⟩, ⟨none, none, 0, (.store 3 (.t 2) (.t 14))⟩]
def A175_0 : AC := (.seq (.reg 0 R175_5) .ret)
def A175_1 : AC := (.seq (.reg 0 R175_4) A175_0)
def A175_2 : AC := (.seq (.reg 0 R175_3) A175_1)
def A175_3 : AC := (.seq (.reg 0 R175_2) A175_2)
def A175_4 : AC := (.seq (.reg 1 R175_1) A175_3)
def A175 : AC := (.seq (.reg 2 R175_0) A175_4)
def O175 : List AO := [(.load 3 true (.t 2))]
def G175 : Fns := ⟨fun f => false, fun f => 0, false⟩
noncomputable def X175 : Cx := ⟨Tryz.prog, G175, drawD, 15, [0, 1, 2, 3]⟩
theorem c175 : (Tryz.f175.body).bind (compC X175.P X175.Γ X175.D X175.nt) = some A175 := by kernel_rfl
theorem o175 : compRes X175.P Tryz.f175.results.toList = some O175 := by kernel_rfl
theorem v175 : X175.vs = [0, 1, 2, 3] := rfl
theorem p175 : X175.P = Tryz.prog := rfl
def R183_0 : List AR := [⟨(some 2), none, 0, (.box 0 3 (.t 0))⟩, ⟨(some 3), none, 0, (.box 1 3 (.t 1))⟩, ⟨(some 4), none, 0, (.mov (.k (.bool false)))⟩]
def R183_1 : List AR := [⟨(some 5), none, 0, (.faddr 0 (.t 2))⟩, ⟨(some 6), none, 0, (.load 1 false (.t 5))⟩, ⟨(some 7), none, 0, (.faddr 0 (.t 3))⟩, ⟨(some 8), none, 0, (.load 1 false (.t 7))⟩, ⟨(some 9), none, 0, (.bin .neq (.t 6) (.t 8))⟩]
def R183_2 : List AR := [⟨(some 4), none, 0, (.mov (.k (.bool false)))⟩]
def R183_3 : List AR := [⟨(some 10), none, 0, (.faddr 1 (.t 2))⟩, ⟨(some 11), none, 0, (.load 1 false (.t 10))⟩, ⟨(some 12), none, 0, (.faddr 1 (.t 3))⟩, ⟨(some 13), none, 0, (.load 1 false (.t 12))⟩, ⟨(some 14), none, 0, (.bin .neq (.t 11) (.t 13))⟩]
def R183_4 : List AR := [⟨(some 4), none, 0, (.mov (.k (.bool false)))⟩]
def R183_5 : List AR := [⟨(some 15), none, 0, (.faddr 2 (.t 2))⟩, ⟨(some 16), none, 0, (.load 1 false (.t 15))⟩, ⟨(some 17), none, 0, (.faddr 2 (.t 3))⟩, ⟨(some 18), none, 0, (.load 1 false (.t 17))⟩, ⟨(some 19), none, 0, (.call false 0 0 217 [(.t 16), (.t 18)])⟩, ⟨(some 20), none, 0, (.not (.t 19))⟩]
def R183_6 : List AR := [⟨(some 4), none, 0, (.mov (.k (.bool false)))⟩]
def R183_7 : List AR := [⟨(some 4), none, 0, (.mov (.k (.bool true)))⟩]
def A183_0 : AC := (.seq (.reg 0 R183_7) .ret)
def A183_1 : AC := (.seq (.seq (.reg 0 R183_5) (.cond (.t 20) (.seq (.reg 0 R183_6) .ret) .skip)) A183_0)
def A183_2 : AC := (.seq (.seq (.reg 0 R183_3) (.cond (.t 14) (.seq (.reg 0 R183_4) .ret) .skip)) A183_1)
def A183_3 : AC := (.seq (.seq (.reg 0 R183_1) (.cond (.t 9) (.seq (.reg 0 R183_2) .ret) .skip)) A183_2)
def A183 : AC := (.seq (.reg 2 R183_0) A183_3)
def O183 : List AO := [(.mov (.t 4))]
def G183 : Fns := ⟨fun f => false, fun f => 0, false⟩
noncomputable def X183 : Cx := ⟨Tryz.prog, G183, drawD, 21, [0, 1, 2, 3, 4, 9, 14, 20]⟩
theorem c183 : (Tryz.f183.body).bind (compC X183.P X183.Γ X183.D X183.nt) = some A183 := by kernel_rfl
theorem o183 : compRes X183.P Tryz.f183.results.toList = some O183 := by kernel_rfl
theorem v183 : X183.vs = [0, 1, 2, 3, 4, 9, 14, 20] := rfl
theorem p183 : X183.P = Tryz.prog := rfl
def R167_0 : List AR := [⟨(some 2), none, 0, (.box 0 3 (.t 0))⟩, ⟨(some 4), none, 0, (.mov (.k (.int .i64 0)))⟩]
def R167_1 : List AR := [⟨(some 5), none, 0, (.faddr 2 (.t 2))⟩, ⟨(some 6), none, 0, (.load 1 false (.t 5))⟩, ⟨(some 7), none, 0, (.mov (.t 1))⟩, ⟨(some 8), none, 0, (.call false 0 0 209 [(.t 6), (.t 7)])⟩, ⟨(some 1), none, 0, (.mov (.t 8))⟩]
def R167_2 : List AR := [⟨(some 9), none, 0, (.mov (.t 1))⟩, ⟨(some 10), none, 0, (.bin .lss (.t 9) (.k (.int .i64 0)))⟩]
def R167_3 : List AR := [⟨(some 4), none, 0, (.mov (.k (.int .i64 (-1))))⟩]
def R167_4 : List AR := [⟨(some 11), none, 0, (.mov (.t 1))⟩, ⟨(some 4), none, 0, (.mov (.t 11))⟩]
def A167_0 : AC := (.seq (.reg 0 R167_4) .ret)
def A167_1 : AC := (.seq (.seq (.reg 0 R167_2) (.cond (.t 10) (.seq (.reg 0 R167_3) .ret) .skip)) A167_0)
def A167_2 : AC := (.seq (.reg 0 R167_1) A167_1)
def A167 : AC := (.seq (.reg 1 R167_0) A167_2)
def O167 : List AO := [(.mov (.t 4))]
def G167 : Fns := ⟨fun f => false, fun f => 0, false⟩
noncomputable def X167 : Cx := ⟨Tryz.prog, G167, drawD, 12, [0, 1, 2, 4, 10]⟩
theorem c167 : (Tryz.f167.body).bind (compC X167.P X167.Γ X167.D X167.nt) = some A167 := by kernel_rfl
theorem o167 : compRes X167.P Tryz.f167.results.toList = some O167 := by kernel_rfl
theorem v167 : X167.vs = [0, 1, 2, 4, 10] := rfl
theorem p167 : X167.P = Tryz.prog := rfl
def R213_0 : List AR := [⟨(some 1), none, 0, (.box 0 4 (.t 0))⟩, ⟨(some 2), none, 0, (.alloc 1 4 [(.int .i64 0), (.int .i64 0), (.bool false), (.int .i64 0)])⟩]
def R213_1 : List AR := [⟨(some 3), none, 0, (.alloc 0 4 [(.int .i64 0), (.int .i64 0), (.bool false), (.int .i64 0)])⟩]
def R213_2 : List AR := [⟨(some 4), none, 0, (.faddr 0 (.t 1))⟩, ⟨(some 5), none, 0, (.load 1 false (.t 4))⟩, ⟨(some 6), none, 0, (.faddr 0 (.t 3))⟩, ⟨none, none, 0, (.store 1 (.t 6) (.t 5))⟩]
def R213_3 : List AR := [⟨(some 7), none, 0, (.faddr 1 (.t 1))⟩, ⟨(some 8), none, 0, (.load 1 false (.t 7))⟩, ⟨(some 9), none, 0, (.faddr 1 (.t 3))⟩, ⟨none, none, 0, (.store 1 (.t 9) (.t 8))⟩]
def R213_4 : List AR := [⟨(some 10), none, 0, (.faddr 2 (.t 1))⟩, ⟨(some 11), none, 0, (.load 1 false (.t 10))⟩, ⟨(some 12), none, 0, (.faddr 2 (.t 3))⟩, ⟨none, none, 0, (.store 1 (.t 12) (.t 11))⟩]
def R213_5 : List AR := [⟨(some 13), none, 0, (.faddr 3 (.t 1))⟩, ⟨(some 14), none, 0, (.load 1 false (.t 13))⟩, ⟨(some 15), none, 0, (.faddr 3 (.t 3))⟩, ⟨none, none, 0, (.store 1 (.t 15) (.t 14))⟩]
def R213_6 : List AR := [⟨(some 16), none, 0, (.load 4 true (.t 3))⟩, ⟨none, none, 0, (.store 4 (.t 2) (.t 16))⟩]
def A213_0 : AC := (.seq (.reg 0 R213_6) .ret)
def A213_1 : AC := (.seq (.reg 0 R213_5) A213_0)
def A213_2 : AC := (.seq (.reg 0 R213_4) A213_1)
def A213_3 : AC := (.seq (.reg 0 R213_3) A213_2)
def A213_4 : AC := (.seq (.reg 0 R213_2) A213_3)
def A213_5 : AC := (.seq (.reg 1 R213_1) A213_4)
def A213 : AC := (.seq (.reg 2 R213_0) A213_5)
def O213 : List AO := [(.load 4 true (.t 2))]
def G213 : Fns := ⟨fun f => false, fun f => 0, false⟩
noncomputable def X213 : Cx := ⟨Tryz.prog, G213, drawD, 17, [0, 1, 2, 3]⟩
theorem c213 : (Tryz.f213.body).bind (compC X213.P X213.Γ X213.D X213.nt) = some A213 := by kernel_rfl
theorem o213 : compRes X213.P Tryz.f213.results.toList = some O213 := by kernel_rfl
theorem v213 : X213.vs = [0, 1, 2, 3] := rfl
theorem p213 : X213.P = Tryz.prog := rfl
def R218_0 : List AR := [⟨(some 2), none, 0, (.box 0 4 (.t 0))⟩, ⟨(some 3), none, 0, (.box 1 4 (.t 1))⟩, ⟨(some 4), none, 0, (.mov (.k (.bool false)))⟩]
def R218_1 : List AR := [⟨(some 5), none, 0, (.faddr 0 (.t 2))⟩, ⟨(some 6), none, 0, (.load 1 false (.t 5))⟩, ⟨(some 7), none, 0, (.faddr 0 (.t 3))⟩, ⟨(some 8), none, 0, (.load 1 false (.t 7))⟩, ⟨(some 9), none, 0, (.bin .neq (.t 6) (.t 8))⟩]
def R218_2 : List AR := [⟨(some 4), none, 0, (.mov (.k (.bool false)))⟩]
def R218_3 : List AR := [⟨(some 10), none, 0, (.faddr 1 (.t 2))⟩, ⟨(some 11), none, 0, (.load 1 false (.t 10))⟩, ⟨(some 12), none, 0, (.faddr 1 (.t 3))⟩, ⟨(some 13), none, 0, (.load 1 false (.t 12))⟩, ⟨(some 14), none, 0, (.bin .neq (.t 11) (.t 13))⟩]
def R218_4 : List AR := [⟨(some 4), none, 0, (.mov (.k (.bool false)))⟩]
def R218_5 : List AR := [⟨(some 15), none, 0, (.faddr 2 (.t 2))⟩, ⟨(some 16), none, 0, (.load 1 false (.t 15))⟩, ⟨(some 17), none, 0, (.faddr 2 (.t 3))⟩, ⟨(some 18), none, 0, (.load 1 false (.t 17))⟩, ⟨(some 19), none, 0, (.beq true (.t 16) (.t 18))⟩]
def R218_6 : List AR := [⟨(some 4), none, 0, (.mov (.k (.bool false)))⟩]
def R218_7 : List AR := [⟨(some 20), none, 0, (.faddr 3 (.t 2))⟩, ⟨(some 21), none, 0, (.load 1 false (.t 20))⟩, ⟨(some 22), none, 0, (.faddr 3 (.t 3))⟩, ⟨(some 23), none, 0, (.load 1 false (.t 22))⟩, ⟨(some 24), none, 0, (.bin .neq (.t 21) (.t 23))⟩]
def R218_8 : List AR := [⟨(some 4), none, 0, (.mov (.k (.bool false)))⟩]
def R218_9 : List AR := [⟨(some 4), none, 0, (.mov (.k (.bool true)))⟩]
def A218_0 : AC := (.seq (.reg 0 R218_9) .ret)
def A218_1 : AC := (.seq (.seq (.reg 0 R218_7) (.cond (.t 24) (.seq (.reg 0 R218_8) .ret) .skip)) A218_0)
def A218_2 : AC := (.seq (.seq (.reg 0 R218_5) (.cond (.t 19) (.seq (.reg 0 R218_6) .ret) .skip)) A218_1)
def A218_3 : AC := (.seq (.seq (.reg 0 R218_3) (.cond (.t 14) (.seq (.reg 0 R218_4) .ret) .skip)) A218_2)
def A218_4 : AC := (.seq (.seq (.reg 0 R218_1) (.cond (.t 9) (.seq (.reg 0 R218_2) .ret) .skip)) A218_3)
def A218 : AC := (.seq (.reg 2 R218_0) A218_4)
def O218 : List AO := [(.mov (.t 4))]
def G218 : Fns := ⟨fun f => false, fun f => 0, false⟩
noncomputable def X218 : Cx := ⟨Tryz.prog, G218, drawD, 25, [0, 1, 2, 3, 4, 9, 14, 19, 24]⟩
theorem c218 : (Tryz.f218.body).bind (compC X218.P X218.Γ X218.D X218.nt) = some A218 := by kernel_rfl
theorem o218 : compRes X218.P Tryz.f218.results.toList = some O218 := by kernel_rfl
theorem v218 : X218.vs = [0, 1, 2, 3, 4, 9, 14, 19, 24] := rfl
theorem p218 : X218.P = Tryz.prog := rfl
def R178_0 : List AR := [⟨(some 2), none, 0, (.mov (.k .nl))⟩]
def R178_1 : List AR := [⟨(some 5), none, 0, (.mov (.t 0))⟩, ⟨(some 6), none, 0, (.len (.t 5))⟩, ⟨(some 7), none, 0, (.mks 0 4 32 [(.int .i64 0), (.int .i64 0), (.bool false), (.int .i64 0)] (.t 6) (.t 6))⟩, ⟨(some 3), none, 0, (.mov (.t 7))⟩]
def R178_2 : List AR := [⟨(some 4), none, 0, (.mov (.k (.int .i64 0)))⟩]
def R178_3 : List AR := [⟨(some 8), none, 0, (.mov (.t 4))⟩, ⟨(some 9), none, 0, (.mov (.t 0))⟩, ⟨(some 10), none, 0, (.len (.t 9))⟩, ⟨(some 11), none, 0, (.bin .lss (.t 8) (.t 10))⟩]
def R178_4 : List AR := [⟨(some 14), none, 0, (.mov (.t 3))⟩, ⟨(some 15), none, 0, (.mov (.t 4))⟩, ⟨(some 16), none, 0, (.mov (.t 0))⟩, ⟨(some 17), none, 0, (.mov (.t 4))⟩, ⟨(some 18), none, 0, (.iaddr 4 (.t 16) (.t 17))⟩, ⟨(some 19), none, 0, (.load 4 true (.t 18))⟩, ⟨(some 20), none, 0, (.call false 0 0 213 [(.t 19)])⟩, ⟨(some 21), none, 0, (.iaddr 4 (.t 14) (.t 15))⟩, ⟨none, none, 0, (.store 4 (.t 21) (.t 20))⟩]
def R178_5 : List AR := [⟨(some 12), none, 0, (.mov (.t 4))⟩, ⟨(some 13), none, 0, (.bin .add (.t 12) (.k (.int .i64 1)))⟩, ⟨(some 4), none, 0, (.mov (.t 13))⟩]
def A178_0 : AC := (.seq (.block 1 (.reg 0 R178_4)) (.reg 0 R178_5))
def L178_0 : AC := (.seq (.seq (.reg 0 R178_3) (.cond (.t 11) .skip (.exit 0))) A178_0)
def R178_6 : List AR := [⟨(some 22), none, 0, (.mov (.t 3))⟩, ⟨(some 2), none, 0, (.mov (.t 22))⟩]
def A178_1 : AC := (.seq (.reg 0 R178_6) .ret)
def A178_2 : AC := (.seq (.seq (.reg 0 R178_2) (.block 0 (.loop L178_0))) A178_1)
def A178_3 : AC := (.seq (.reg 1 R178_1) A178_2)
def A178 : AC := (.seq (.reg 0 R178_0) A178_3)
def O178 : List AO := [(.mov (.t 2))]
def G178 : Fns := ⟨fun f => false, fun f => 0, false⟩
noncomputable def X178 : Cx := ⟨Tryz.prog, G178, drawD, 23, [0, 2, 3, 4, 11]⟩
theorem c178 : (Tryz.f178.body).bind (compC X178.P X178.Γ X178.D X178.nt) = some A178 := by kernel_rfl
theorem o178 : compRes X178.P Tryz.f178.results.toList = some O178 := by kernel_rfl
theorem v178 : X178.vs = [0, 2, 3, 4, 11] := rfl
theorem p178 : X178.P = Tryz.prog := rfl
def R186_0 : List AR := [⟨(some 4), none, 0, (.mov (.k (.bool false)))⟩]
def R186_1 : List AR := [⟨(some 6), none, 0, (.mov (.t 0))⟩, ⟨(some 7), none, 0, (.len (.t 6))⟩, ⟨(some 8), none, 0, (.mov (.t 1))⟩, ⟨(some 9), none, 0, (.len (.t 8))⟩, ⟨(some 10), none, 0, (.bin .neq (.t 7) (.t 9))⟩]
def R186_2 : List AR := [⟨(some 4), none, 0, (.mov (.k (.bool false)))⟩]
def R186_3 : List AR := [⟨(some 5), none, 0, (.mov (.k (.int .i64 0)))⟩]
def R186_4 : List AR := [⟨(some 11), none, 0, (.mov (.t 5))⟩, ⟨(some 12), none, 0, (.mov (.t 0))⟩, ⟨(some 13), none, 0, (.len (.t 12))⟩, ⟨(some 14), none, 0, (.bin .lss (.t 11) (.t 13))⟩]
def R186_5 : List AR := [⟨(some 17), none, 0, (.mov (.t 0))⟩, ⟨(some 18), none, 0, (.mov (.t 5))⟩, ⟨(some 19), none, 0, (.iaddr 4 (.t 17) (.t 18))⟩, ⟨(some 20), none, 0, (.load 4 true (.t 19))⟩, ⟨(some 21), none, 0, (.mov (.t 1))⟩, ⟨(some 22), none, 0, (.mov (.t 5))⟩, ⟨(some 23), none, 0, (.iaddr 4 (.t 21) (.t 22))⟩, ⟨(some 24), none, 0, (.load 4 true (.t 23))⟩, ⟨(some 25), none, 0, (.call false 0 0 218 [(.t 20), (.t 24)])⟩, ⟨(some 26), none, 0, (.not (.t 25))⟩]
def R186_6 : List AR := [⟨(some 4), none, 0, (.mov (.k (.bool false)))⟩]
def R186_7 : List AR := [⟨(some 15), none, 0, (.mov (.t 5))⟩, ⟨(some 16), none, 0, (.bin .add (.t 15) (.k (.int .i64 1)))⟩, ⟨(some 5), none, 0, (.mov (.t 16))⟩]
def A186_0 : AC := (.seq (.block 1 (.seq (.draw 0 R186_5) (.cond (.t 26) (.seq (.reg 0 R186_6) .ret) .skip))) (.reg 0 R186_7))
def L186_0 : AC := (.seq (.seq (.reg 0 R186_4) (.cond (.t 14) .skip (.exit 0))) A186_0)
def R186_8 : List AR := [⟨(some 4), none, 0, (.mov (.k (.bool true)))⟩]
def A186_1 : AC := (.seq (.reg 0 R186_8) .ret)
def A186_2 : AC := (.seq (.seq (.reg 0 R186_3) (.block 0 (.loop L186_0))) A186_1)
def A186_3 : AC := (.seq (.seq (.reg 0 R186_1) (.cond (.t 10) (.seq (.reg 0 R186_2) .ret) .skip)) A186_2)
def A186 : AC := (.seq (.reg 0 R186_0) A186_3)
def O186 : List AO := [(.mov (.t 4))]
def G186 : Fns := ⟨fun f => false, fun f => 0, false⟩
noncomputable def X186 : Cx := ⟨Tryz.prog, G186, drawD, 27, [0, 1, 4, 5, 10, 14, 26]⟩
theorem c186 : (Tryz.f186.body).bind (compC X186.P X186.Γ X186.D X186.nt) = some A186 := by kernel_rfl
theorem o186 : compRes X186.P Tryz.f186.results.toList = some O186 := by kernel_rfl
theorem v186 : X186.vs = [0, 1, 4, 5, 10, 14, 26] := rfl
theorem p186 : X186.P = Tryz.prog := rfl
def R170_0 : List AR := [⟨(some 4), none, 0, (.mov (.k (.int .i64 0)))⟩]
def R170_1 : List AR := [⟨(some 5), none, 0, (.mov (.t 1))⟩, ⟨(some 6), none, 0, (.mov (.t 0))⟩, ⟨(some 7), none, 0, (.len (.t 6))⟩, ⟨(some 8), none, 0, (.bin .sub (.t 5) (.t 7))⟩, ⟨(some 1), none, 0, (.mov (.t 8))⟩]
def R170_2 : List AR := [⟨(some 9), none, 0, (.mov (.t 1))⟩, ⟨(some 10), none, 0, (.bin .lss (.t 9) (.k (.int .i64 0)))⟩]
def R170_3 : List AR := [⟨(some 4), none, 0, (.mov (.k (.int .i64 (-1))))⟩]
def R170_4 : List AR := [⟨(some 11), none, 0, (.mov (.t 1))⟩, ⟨(some 4), none, 0, (.mov (.t 11))⟩]
def A170_0 : AC := (.seq (.reg 0 R170_4) .ret)
def A170_1 : AC := (.seq (.seq (.reg 0 R170_2) (.cond (.t 10) (.seq (.reg 0 R170_3) .ret) .skip)) A170_0)
def A170_2 : AC := (.seq (.reg 0 R170_1) A170_1)
def A170 : AC := (.seq (.reg 0 R170_0) A170_2)
def O170 : List AO := [(.mov (.t 4))]
def G170 : Fns := ⟨fun f => false, fun f => 0, false⟩
noncomputable def X170 : Cx := ⟨Tryz.prog, G170, drawD, 12, [0, 1, 4, 10]⟩
theorem c170 : (Tryz.f170.body).bind (compC X170.P X170.Γ X170.D X170.nt) = some A170 := by kernel_rfl
theorem o170 : compRes X170.P Tryz.f170.results.toList = some O170 := by kernel_rfl
theorem v170 : X170.vs = [0, 1, 4, 10] := rfl
theorem p170 : X170.P = Tryz.prog := rfl
def R214_0 : List AR := [⟨(some 1), none, 0, (.box 0 3 (.t 0))⟩, ⟨(some 2), none, 0, (.alloc 1 3 [(.int .i64 0), (.int .i64 0), (.int .i64 0)])⟩]
def R214_1 : List AR := [⟨(some 3), none, 0, (.alloc 0 3 [(.int .i64 0), (.int .i64 0), (.int .i64 0)])⟩]
def R214_2 : List AR := [⟨(some 4), none, 0, (.faddr 0 (.t 1))⟩, ⟨(some 5), none, 0, (.load 1 false (.t 4))⟩, ⟨(some 6), none, 0, (.faddr 0 (.t 3))⟩, ⟨none, none, 0, (.store 1 (.t 6) (.t 5))⟩]
def R214_3 : List AR := [⟨(some 7), none, 0, (.faddr 1 (.t 1))⟩, ⟨(some 8), none, 0, (.load 1 false (.t 7))⟩, ⟨(some 9), none, 0, (.faddr 1 (.t 3))⟩, ⟨none, none, 0, (.store 1 (.t 9) (.t 8))⟩]
def R214_4 : List AR := [⟨(some 10), none, 0, (.faddr 2 (.t 1))⟩, ⟨(some 11), none, 0, (.load 1 false (.t 10))⟩, ⟨(some 12), none, 0, (.faddr 2 (.t 3))⟩, ⟨none, none, 0, (.store 1 (.t 12) (.t 11))⟩]
def R214_5 : List AR := [⟨(some 13), none, 0, (.load 3 true (.t 3))⟩, ⟨none, none, 0, (.store 3 (.t 2) (.t 13))⟩]
def A214_0 : AC := (.seq (.reg 0 R214_5) .ret)
def A214_1 : AC := (.seq (.reg 0 R214_4) A214_0)
def A214_2 : AC := (.seq (.reg 0 R214_3) A214_1)
def A214_3 : AC := (.seq (.reg 0 R214_2) A214_2)
def A214_4 : AC := (.seq (.reg 1 R214_1) A214_3)
def A214 : AC := (.seq (.reg 2 R214_0) A214_4)
def O214 : List AO := [(.load 3 true (.t 2))]
def G214 : Fns := ⟨fun f => false, fun f => 0, false⟩
noncomputable def X214 : Cx := ⟨Tryz.prog, G214, drawD, 14, [0, 1, 2, 3]⟩
theorem c214 : (Tryz.f214.body).bind (compC X214.P X214.Γ X214.D X214.nt) = some A214 := by kernel_rfl
theorem o214 : compRes X214.P Tryz.f214.results.toList = some O214 := by kernel_rfl
theorem v214 : X214.vs = [0, 1, 2, 3] := rfl
theorem p214 : X214.P = Tryz.prog := rfl
def R219_0 : List AR := [⟨(some 2), none, 0, (.box 0 3 (.t 0))⟩, ⟨(some 3), none, 0, (.box 1 3 (.t 1))⟩, ⟨(some 4), none, 0, (.mov (.k (.bool false)))⟩]
def R219_1 : List AR := [⟨(some 5), none, 0, (.faddr 0 (.t 2))⟩, ⟨(some 6), none, 0, (.load 1 false (.t 5))⟩, ⟨(some 7), none, 0, (.faddr 0 (.t 3))⟩, ⟨(some 8), none, 0, (.load 1 false (.t 7))⟩, ⟨(some 9), none, 0, (.bin .neq (.t 6) (.t 8))⟩]
def R219_2 : List AR := [⟨(some 4), none, 0, (.mov (.k (.bool false)))⟩]
def R219_3 : List AR := [⟨(some 10), none, 0, (.faddr 1 (.t 2))⟩, ⟨(some 11), none, 0, (.load 1 false (.t 10))⟩, ⟨(some 12), none, 0, (.faddr 1 (.t 3))⟩, ⟨(some 13), none, 0, (.load 1 false (.t 12))⟩, ⟨(some 14), none, 0, (.bin .neq (.t 11) (.t 13))⟩]
def R219_4 : List AR := [⟨(some 4), none, 0, (.mov (.k (.bool false)))⟩]
def R219_5 : List AR := [⟨(some 15), none, 0, (.faddr 2 (.t 2))⟩, ⟨(some 16), none, 0, (.load 1 false (.t 15))⟩, ⟨(some 17), none, 0, (.faddr 2 (.t 3))⟩, ⟨(some 18), none, 0, (.load 1 false (.t 17))⟩, ⟨(some 19), none, 0, (.bin .neq (.t 16) (.t 18))⟩]
def R219_6 : List AR := [⟨(some 4), none, 0, (.mov (.k (.bool false)))⟩]
def R219_7 : List AR := [⟨(some 4), none, 0, (.mov (.k (.bool true)))⟩]
def A219_0 : AC := (.seq (.reg 0 R219_7) .ret)
def A219_1 : AC := (.seq (.seq (.reg 0 R219_5) (.cond (.t 19) (.seq (.reg 0 R219_6) .ret) .skip)) A219_0)
def A219_2 : AC := (.seq (.seq (.reg 0 R219_3) (.cond (.t 14) (.seq (.reg 0 R219_4) .ret) .skip)) A219_1)
def A219_3 : AC := (.seq (.seq (.reg 0 R219_1) (.cond (.t 9) (.seq (.reg 0 R219_2) .ret) .skip)) A219_2)
def A219 : AC := (.seq (.reg 2 R219_0) A219_3)
def O219 : List AO := [(.mov (.t 4))]
def G219 : Fns := ⟨fun f => false, fun f => 0, false⟩
noncomputable def X219 : Cx := ⟨Tryz.prog, G219, drawD, 20, [0, 1, 2, 3, 4, 9, 14, 19]⟩
theorem c219 : (Tryz.f219.body).bind (compC X219.P X219.Γ X219.D X219.nt) = some A219 := by kernel_rfl
theorem o219 : compRes X219.P Tryz.f219.results.toList = some O219 := by kernel_rfl
theorem v219 : X219.vs = [0, 1, 2, 3, 4, 9, 14, 19] := rfl
theorem p219 : X219.P = Tryz.prog := rfl
def R179_0 : List AR := [⟨(some 2), none, 0, (.mov (.k .nl))⟩]
def R179_1 : List AR := [⟨(some 5), none, 0, (.mov (.t 0))⟩, ⟨(some 6), none, 0, (.len (.t 5))⟩, ⟨(some 7), none, 0, (.mks 0 3 24 [(.int .i64 0), (.int .i64 0), (.int .i64 0)] (.t 6) (.t 6))⟩, ⟨(some 3), none, 0, (.mov (.t 7))⟩]
def R179_2 : List AR := [⟨(some 4), none, 0, (.mov (.k (.int .i64 0)))⟩]
def R179_3 : List AR := [⟨(some 8), none, 0, (.mov (.t 4))⟩, ⟨(some 9), none, 0, (.mov (.t 0))⟩, ⟨(some 10), none, 0, (.len (.t 9))⟩, ⟨(some 11), none, 0, (.bin .lss (.t 8) (.t 10))⟩]
def R179_4 : List AR := [⟨(some 14), none, 0, (.mov (.t 3))⟩, ⟨(some 15), none, 0, (.mov (.t 4))⟩, ⟨(some 16), none, 0, (.mov (.t 0))⟩, ⟨(some 17), none, 0, (.mov (.t 4))⟩, ⟨(some 18), none, 0, (.iaddr 3 (.t 16) (.t 17))⟩, ⟨(some 19), none, 0, (.load 3 true (.t 18))⟩, ⟨(some 20), none, 0, (.call false 0 0 214 [(.t 19)])⟩, ⟨(some 21), none, 0, (.iaddr 3 (.t 14) (.t 15))⟩, ⟨none, none, 0, (.store 3 (.t 21) (.t 20))⟩]
def R179_5 : List AR := [⟨(some 12), none, 0, (.mov (.t 4))⟩, ⟨(some 13), none, 0, (.bin .add (.t 12) (.k (.int .i64 1)))⟩, ⟨(some 4), none, 0, (.mov (.t 13))⟩]
def A179_0 : AC := (.seq (.block 1 (.reg 0 R179_4)) (.reg 0 R179_5))
def L179_0 : AC := (.seq (.seq (.reg 0 R179_3) (.cond (.t 11) .skip (.exit 0))) A179_0)
def R179_6 : List AR := [⟨(some 22), none, 0, (.mov (.t 3))⟩, ⟨(some 2), none, 0, (.mov (.t 22))⟩]
def A179_1 : AC := (.seq (.reg 0 R179_6) .ret)
def A179_2 : AC := (.seq (.seq (.reg 0 R179_2) (.block 0 (.loop L179_0))) A179_1)
def A179_3 : AC := (.seq (.reg 1 R179_1) A179_2)
def A179 : AC := (.seq (.reg 0 R179_0) A179_3)
def O179 : List AO := [(.mov (.t 2))]
def G179 : Fns := ⟨fun f => false, fun f => 0, false⟩
noncomputable def X179 : Cx := ⟨Tryz.prog, G179, drawD, 23, [0, 2, 3, 4, 11]⟩
theorem c179 : (Tryz.f179.body).bind (compC X179.P X179.Γ X179.D X179.nt) = some A179 := by kernel_rfl
theorem o179 : compRes X179.P Tryz.f179.results.toList = some O179 := by kernel_rfl
theorem v179 : X179.vs = [0, 2, 3, 4, 11] := rfl
theorem p179 : X179.P = Tryz.prog := rfl
def R187_0 : List AR := [⟨(some 4), none, 0, (.mov (.k (.bool false)))⟩]
def R187_1 : List AR := [⟨(some 6), none, 0, (.mov (.t 0))⟩, ⟨(some 7), none, 0, (.len (.t 6))⟩, ⟨(some 8), none, 0, (.mov (.t 1))⟩, ⟨(some 9), none, 0, (.len (.t 8))⟩, ⟨(some 10), none, 0, (.bin .neq (.t 7) (.t 9))⟩]
def R187_2 : List AR := [⟨(some 4), none, 0, (.mov (.k (.bool false)))⟩]
def R187_3 : List AR := [⟨(some 5), none, 0, (.mov (.k (.int .i64 0)))⟩]
def R187_4 : List AR := [⟨(some 11), none, 0, (.mov (.t 5))⟩, ⟨(some 12), none, 0, (.mov (.t 0))⟩, ⟨(some 13), none, 0, (.len (.t 12))⟩, ⟨(some 14), none, 0, (.bin .lss (.t 11) (.t 13))⟩]
def R187_5 : List AR := [⟨(some 17), none, 0, (.mov (.t 0))⟩, ⟨(some 18), none, 0, (.mov (.t 5))⟩, ⟨(some 19), none, 0, (.iaddr 3 (.t 17) (.t 18))⟩, ⟨(some 20), none, 0, (.load 3 true (.t 19))⟩, ⟨(some 21), none, 0, (.mov (.t 1))⟩, ⟨(some 22), none, 0, (.mov (.t 5))⟩, ⟨(some 23), none, 0, (.iaddr 3 (.t 21) (.t 22))⟩, ⟨(some 24), none, 0, (.load 3 true (.t 23))⟩, ⟨(some 25), none, 0, (.call false 0 0 219 [(.t 20), (.t 24)])⟩, ⟨(some 26), none, 0, (.not (.t 25))⟩]
def R187_6 : List AR := [⟨(some 4), none, 0, (.mov (.k (.bool false)))⟩]
def R187_7 : List AR := [⟨(some 15), none, 0, (.mov (.t 5))⟩, ⟨(some 16), none, 0, (.bin .add (.t 15) (.k (.int .i64 1)))⟩, ⟨(some 5), none, 0, (.mov (.t 16))⟩]
def A187_0 : AC := (.seq (.block 1 (.seq (.draw 0 R187_5) (.cond (.t 26) (.seq (.reg 0 R187_6) .ret) .skip))) (.reg 0 R187_7))
def L187_0 : AC := (.seq (.seq (.reg 0 R187_4) (.cond (.t 14) .skip (.exit 0))) A187_0)
def R187_8 : List AR := [⟨(some 4), none, 0, (.mov (.k (.bool true)))⟩]
def A187_1 : AC := (.seq (.reg 0 R187_8) .ret)
def A187_2 : AC := (.seq (.seq (.reg 0 R187_3) (.block 0 (.loop L187_0))) A187_1)
def A187_3 : AC := (.seq (.seq (.reg 0 R187_1) (.cond (.t 10) (.seq (.reg 0 R187_2) .ret) .skip)) A187_2)
def A187 : AC := (.seq (.reg 0 R187_0) A187_3)
def O187 : List AO := [(.mov (.t 4))]
def G187 : Fns := ⟨fun f => false, fun f => 0, false⟩
noncomputable def X187 : Cx := ⟨Tryz.prog, G187, drawD, 27, [0, 1, 4, 5, 10, 14, 26]⟩
theorem c187 : (Tryz.f187.body).bind (compC X187.P X187.Γ X187.D X187.nt) = some A187 := by kernel_rfl
theorem o187 : compRes X187.P Tryz.f187.results.toList = some O187 := by kernel_rfl
theorem v187 : X187.vs = [0, 1, 4, 5, 10, 14, 26] := rfl
theorem p187 : X187.P = Tryz.prog := rfl
def R171_0 : List AR := [⟨(some 4), none, 0, (.mov (.k (.int .i64 0)))⟩]
def R171_1 : List AR := [⟨(some 5), none, 0, (.mov (.t 1))⟩, ⟨(some 6), none, 0, (.mov (.t 0))⟩, ⟨(some 7), none, 0, (.len (.t 6))⟩, ⟨(some 8), none, 0, (.bin .sub (.t 5) (.t 7))⟩, ⟨(some 1), none, 0, (.mov (.t 8))⟩]
def R171_2 : List AR := [⟨(some 9), none, 0, (.mov (.t 1))⟩, ⟨(some 10), none, 0, (.bin .lss (.t 9) (.k (.int .i64 0)))⟩]
def R171_3 : List AR := [⟨(some 4), none, 0, (.mov (.k (.int .i64 (-1))))⟩]
def R171_4 : List AR := [⟨(some 11), none, 0, (.mov (.t 1))⟩, ⟨(some 4), none, 0, (.mov (.t 11))⟩]
def A171_0 : AC := (.seq (.reg 0 R171_4) .ret)
def A171_1 : AC := (.seq (.seq (.reg 0 R171_2) (.cond (.t 10) (.seq (.reg 0 R171_3) .ret) .skip)) A171_0)
def A171_2 : AC := (.seq (.reg 0 R171_1) A171_1)
def A171 : AC := (.seq (.reg 0 R171_0) A171_2)
def O171 : List AO := [(.mov (.t 4))]
def G171 : Fns := ⟨fun f => false, fun f => 0, false⟩
noncomputable def X171 : Cx := ⟨Tryz.prog, G171, drawD, 12, [0, 1, 4, 10]⟩
theorem c171 : (Tryz.f171.body).bind (compC X171.P X171.Γ X171.D X171.nt) = some A171 := by kernel_rfl
theorem o171 : compRes X171.P Tryz.f171.results.toList = some O171 := by kernel_rfl
theorem v171 : X171.vs = [0, 1, 4, 10] := rfl
theorem p171 : X171.P = Tryz.prog := rfl
def R177_0 : List AR := [⟨(some 2), none, 0, (.mov (.k .nl))⟩]
def R177_1 : List AR := [⟨(some 5), none, 0, (.mov (.t 0))⟩, ⟨(some 6), none, 0, (.len (.t 5))⟩, ⟨(some 7), none, 0, (.mks 0 1 24 [.nl] (.t 6) (.t 6))⟩, ⟨(some 3), none, 0, (.mov (.t 7))⟩]
def R177_2 : List AR := [⟨(some 4), none, 0, (.mov (.k (.int .i64 0)))⟩]
def R177_3 : List AR := [⟨(some 8), none, 0, (.mov (.t 4))⟩, ⟨(some 9), none, 0, (.mov (.t 0))⟩, ⟨(some 10), none, 0, (.len (.t 9))⟩, ⟨(some 11), none, 0, (.bin .lss (.t 8) (.t 10))⟩]
def R177_4 : List AR := [⟨(some 14), none, 0, (.mov (.t 3))⟩, ⟨(some 15), none, 0, (.mov (.t 4))⟩, ⟨(some 16), none, 0, (.mov (.t 0))⟩, ⟨(some 17), none, 0, (.mov (.t 4))⟩, ⟨(some 18), none, 0, (.iaddr 1 (.t 16) (.t 17))⟩, ⟨(some 19), none, 0, (.load 1 false (.t 18))⟩, ⟨(some 20), none, 0, (.call false 0 0 176 [(.t 19)])⟩, ⟨(some 21), none, 0, (.iaddr 1 (.t 14) (.t 15))⟩, ⟨none, none, 0, (.store 1 (.t 21) (.t 20))⟩]
def R177_5 : List AR := [⟨(some 12), none, 0, (.mov (.t 4))⟩, ⟨(some 13), none, 0, (.bin .add (.t 12) (.k (.int .i64 1)))⟩, ⟨(some 4), none, 0, (.mov (.t 13))⟩]
def A177_0 : AC := (.seq (.block 1 (.reg 0 R177_4)) (.reg 0 R177_5))
def L177_0 : AC := (.seq (.seq (.reg 0 R177_3) (.cond (.t 11) .skip (.exit 0))) A177_0)
def R177_6 : List AR := [⟨(some 22), none, 0, (.mov (.t 3))⟩, ⟨(some 2), none, 0, (.mov (.t 22))⟩]
def A177_1 : AC := (.seq (.reg 0 R177_6) .ret)
def A177_2 : AC := (.seq (.seq (.reg 0 R177_2) (.block 0 (.loop L177_0))) A177_1)
def A177_3 : AC := (.seq (.reg 1 R177_1) A177_2)
def A177 : AC := (.seq (.reg 0 R177_0) A177_3)
def O177 : List AO := [(.mov (.t 2))]
def G177 : Fns := ⟨fun f => false, fun f => 0, false⟩
noncomputable def X177 : Cx := ⟨Tryz.prog, G177, drawD, 23, [0, 2, 3, 4, 11]⟩
theorem c177 : (Tryz.f177.body).bind (compC X177.P X177.Γ X177.D X177.nt) = some A177 := by kernel_rfl
theorem o177 : compRes X177.P Tryz.f177.results.toList = some O177 := by kernel_rfl
theorem v177 : X177.vs = [0, 2, 3, 4, 11] := rfl
theorem p177 : X177.P = Tryz.prog := rfl
def R185_0 : List AR := [⟨(some 4), none, 0, (.mov (.k (.bool false)))⟩]
def R185_1 : List AR := [⟨(some 6), none, 0, (.mov (.t 0))⟩, ⟨(some 7), none, 0, (.len (.t 6))⟩, ⟨(some 8), none, 0, (.mov (.t 1))⟩, ⟨(some 9), none, 0, (.len (.t 8))⟩, ⟨(some 10), none, 0, (.bin .neq (.t 7) (.t 9))⟩]
def R185_2 : List AR := [⟨(some 4), none, 0, (.mov (.k (.bool false)))⟩]
def R185_3 : List AR := [⟨(some 5), none, 0, (.mov (.k (.int .i64 0)))⟩]
def R185_4 : List AR := [⟨(some 11), none, 0, (.mov (.t 5))⟩, ⟨(some 12), none, 0, (.mov (.t 0))⟩, ⟨(some 13), none, 0, (.len (.t 12))⟩, ⟨(some 14), none, 0, (.bin .lss (.t 11) (.t 13))⟩]
def R185_5 : List AR := [⟨(some 17), none, 0, (.mov (.t 0))⟩, ⟨(some 18), none, 0, (.mov (.t 5))⟩, ⟨(some 19), none, 0, (.iaddr 1 (.t 17) (.t 18))⟩, ⟨(some 20), none, 0, (.load 1 false (.t 19))⟩, ⟨(some 21), none, 0, (.mov (.t 1))⟩, ⟨(some 22), none, 0, (.mov (.t 5))⟩, ⟨(some 23), none, 0, (.iaddr 1 (.t 21) (.t 22))⟩, ⟨(some 24), none, 0, (.load 1 false (.t 23))⟩, ⟨(some 25), none, 0, (.call false 0 0 184 [(.t 20), (.t 24)])⟩, ⟨(some 26), none, 0, (.not (.t 25))⟩]
def R185_6 : List AR := [⟨(some 4), none, 0, (.mov (.k (.bool false)))⟩]
def R185_7 : List AR := [⟨(some 15), none, 0, (.mov (.t 5))⟩, ⟨(some 16), none, 0, (.bin .add (.t 15) (.k (.int .i64 1)))⟩, ⟨(some 5), none, 0, (.mov (.t 16))⟩]
def A185_0 : AC := (.seq (.block 1 (.seq (.draw 0 R185_5) (.cond (.t 26) (.seq (.reg 0 R185_6) .ret) .skip))) (.reg 0 R185_7))
def L185_0 : AC := (.seq (.seq (.reg 0 R185_4) (.cond (.t 14) .skip (.exit 0))) A185_0)
def R185_8 : List AR := [⟨(some 4), none, 0, (.mov (.k (.bool true)))⟩]
def A185_1 : AC := (.seq (.reg 0 R185_8) .ret)
def A185_2 : AC := (.seq (.seq (.reg 0 R185_3) (.block 0 (.loop L185_0))) A185_1)
def A185_3 : AC := (.seq (.seq (.reg 0 R185_1) (.cond (.t 10) (.seq (.reg 0 R185_2) .ret) .skip)) A185_2)
def A185 : AC := (.seq (.reg 0 R185_0) A185_3)
def O185 : List AO := [(.mov (.t 4))]
def G185 : Fns := ⟨fun f => false, fun f => 0, false⟩
noncomputable def X185 : Cx := ⟨Tryz.prog, G185, drawD, 27, [0, 1, 4, 5, 10, 14, 26]⟩
theorem c185 : (Tryz.f185.body).bind (compC X185.P X185.Γ X185.D X185.nt) = some A185 := by kernel_rfl
theorem o185 : compRes X185.P Tryz.f185.results.toList = some O185 := by kernel_rfl
theorem v185 : X185.vs = [0, 1, 4, 5, 10, 14, 26] := rfl
theorem p185 : X185.P = Tryz.prog := rfl
def R169_0 : List AR := [⟨(some 4), none, 0, (.mov (.k (.int .i64 0)))⟩]
def R169_1 : List AR := [⟨(some 6), none, 0, (.mov (.t 1))⟩, ⟨(some 7), none, 0, (.mov (.t 0))⟩, ⟨(some 8), none, 0, (.len (.t 7))⟩, ⟨(some 9), none, 0, (.bin .sub (.t 6) (.t 8))⟩, ⟨(some 1), none, 0, (.mov (.t 9))⟩]
def R169_2 : List AR := [⟨(some 10), none, 0, (.mov (.t 1))⟩, ⟨(some 11), none, 0, (.bin .lss (.t 10) (.k (.int .i64 0)))⟩]
def R169_3 : List AR := [⟨(some 4), none, 0, (.mov (.k (.int .i64 (-1))))⟩]
def R169_4 : List AR := [⟨(some 5), none, 0, (.mov (.k (.int .i64 0)))⟩]
def R169_5 : List AR := [⟨(some 12), none, 0, (.mov (.t 5))⟩, ⟨(some 13), none, 0, (.mov (.t 0))⟩, ⟨(some 14), none, 0, (.len (.t 13))⟩, ⟨(some 15), none, 0, (.bin .lss (.t 12) (.t 14))⟩]
def R169_6 : List AR := [⟨(some 18), none, 0, (.mov (.t 0))⟩, ⟨(some 19), none, 0, (.mov (.t 5))⟩, ⟨(some 20), none, 0, (.iaddr 1 (.t 18) (.t 19))⟩, ⟨(some 21), none, 0, (.load 1 false (.t 20))⟩, ⟨(some 22), none, 0, (.mov (.t 1))⟩, ⟨(some 23), none, 0, (.call false 0 0 168 [(.t 21), (.t 22)])⟩, ⟨(some 1), none, 0, (.mov (.t 23))⟩]
def R169_7 : List AR := [⟨(some 24), none, 0, (.mov (.t 1))⟩, ⟨(some 25), none, 0, (.bin .lss (.t 24) (.k (.int .i64 0)))⟩]
def R169_8 : List AR := [⟨(some 4), none, 0, (.mov (.k (.int .i64 (-1))))⟩]
def A169_0 : AC := (.seq (.reg 0 R169_7) (.cond (.t 25) (.seq (.reg 0 R169_8) .ret) .skip))
def R169_9 : List AR := [⟨(some 16), none, 0, (.mov (.t 5))⟩, ⟨(some 17), none, 0, (.bin .add (.t 16) (.k (.int .i64 1)))⟩, ⟨(some 5), none, 0, (.mov (.t 17))⟩]
def A169_1 : AC := (.seq (.block 1 (.seq (.reg 0 R169_6) A169_0)) (.reg 0 R169_9))
def L169_0 : AC := (.seq (.seq (.reg 0 R169_5) (.cond (.t 15) .skip (.exit 0))) A169_1)
def R169_10 : List AR := [⟨(some 26), none, 0, (.mov (.t 1))⟩, ⟨(some 4), none, 0, (.mov (.t 26))⟩]
def A169_2 : AC := (.seq (.reg 0 R169_10) .ret)
def A169_3 : AC := (.seq (.seq (.reg 0 R169_4) (.block 0 (.loop L169_0))) A169_2)
def A169_4 : AC := (.seq (.seq (.reg 0 R169_2) (.cond (.t 11) (.seq (.reg 0 R169_3) .ret) .skip)) A169_3)
def A169_5 : AC := (.seq (.reg 0 R169_1) A169_4)
def A169 : AC := (.seq (.reg 0 R169_0) A169_5)
def O169 : List AO := [(.mov (.t 4))]
def G169 : Fns := ⟨fun f => false, fun f => 0, false⟩
noncomputable def X169 : Cx := ⟨Tryz.prog, G169, drawD, 27, [0, 1, 4, 5, 11, 15, 25]⟩
theorem c169 : (Tryz.f169.body).bind (compC X169.P X169.Γ X169.D X169.nt) = some A169 := by kernel_rfl
theorem o169 : compRes X169.P Tryz.f169.results.toList = some O169 := by kernel_rfl
theorem v169 : X169.vs = [0, 1, 4, 5, 11, 15, 25] := rfl
theorem p169 : X169.P = Tryz.prog := rfl
def R126_0 : List AR := [⟨(some 1), none, 0, (.box 0 19 (.t 0))⟩, ⟨(some 2), none, 0, (.alloc 1 19 [(.int .i64 0), (.int .i64 0), .nl, .nl, .nl, (.int .i64 0), (.int .i64 0), (.int .i64 0), .nl, .nl, .nl, .nl, (.int .i64 0), (.int .i64 0), .nl, (.int .i64 0), (.int .i64 0), (.int .i64 0), .nl])⟩]
def R126_1 : List AR := [⟨(some 3), none, 0, (.alloc 0 19 [(.int .i64 0), (.int .i64 0), .nl, .nl, .nl, (.int .i64 0), (.int .i64 0), (.int .i64 0), .nl, .nl, .nl, .nl, (.int .i64 0), (.int .i64 0), .nl, (.int .i64 0), (.int .i64 0), (.int .i64 0), .nl])⟩]
def R126_2 : List AR := [⟨(some 4), none, 0, (.faddr 0 (.t 1))⟩, ⟨(some 5), none, 0, (.load 1 false (.t 4))⟩, ⟨(some 6), none, 0, (.faddr 0 (.t 3))⟩, ⟨none, none, 0, (.store 1 (.t 6) (.t 5))⟩]
def R126_3 : List AR := [⟨(some 7), none, 0, (.faddr 1 (.t 1))⟩, ⟨(some 8), none, 0, (.load 1 false (.t 7))⟩, ⟨(some 9), none, 0, (.faddr 1 (.t 3))⟩, ⟨none, none, 0, (.store 1 (.t 9) (.t 8))⟩]
def R126_4 : List AR := [⟨(some 10), none, 0, (.faddr 2 (.t 1))⟩, ⟨(some 11), none, 0, (.load 2 true (.t 10))⟩, ⟨(some 12), none, 0, (.call false 0 0 173 [(.t 11)])⟩, ⟨(some 13), none, 0, (.faddr 2 (.t 3))⟩, ⟨none, none, 0, (.store 2 (.t 13) (.t 12))⟩]
def R126_5 : List AR := [⟨(some 14), none, 0, (.faddr 4 (.t 1))⟩, ⟨(some 15), none, 0, (.load 2 true (.t 14))⟩, ⟨(some 16), none, 0, (.call false 0 0 174 [(.t 15)])⟩, ⟨(some 17), none, 0, (.faddr 4 (.t 3))⟩, ⟨none, none, 0, (.store 2 (.t 17) (.t 16))⟩]
def R126_6 : List AR := [⟨(some 18), none, 0, (.faddr 6 (.t 1))⟩, ⟨(some 19), none, 0, (.load 3 true (.t 18))⟩, ⟨(some 20), none, 0, (.call false 0 0 175 [(.t 19)])⟩, ⟨(some 21), none, 0, (.faddr 6 (.t 3))⟩, ⟨none, none, 0, (.store 3 (.t 21) (.t 20))⟩]
def R126_7 : List AR := [⟨(some 22), none, 0, (.faddr 9 (.t 1))⟩, ⟨(some 23), none, 0, (.load 1 false (.t 22))⟩, ⟨(some 24), none, 0, (.call false 0 0 176 [(.t 23)])⟩, ⟨(some 25), none, 0, (.faddr 9 (.t 3))⟩, ⟨none, none, 0, (.store 1 (.t 25) (.t 24))⟩]
def R126_8 : List AR := [⟨(some 26), none, 0, (.faddr 10 (.t 1))⟩, ⟨(some 27), none, 0, (.load 1 false (.t 26))⟩, ⟨(some 28), none, 0, (.call false 0 0 176 [(.t 27)])⟩, ⟨(some 29), none, 0, (.faddr 10 (.t 3))⟩, ⟨none, none, 0, (.store 1 (.t 29) (.t 28))⟩]
def R126_9 : List AR := [⟨(some 30), none, 0, (.faddr 11 (.t 1))⟩, ⟨(some 31), none, 0, (.load 1 false (.t 30))⟩, ⟨(some 32), none, 0, (.call false 0 0 177 [(.t 31)])⟩, ⟨(some 33), none, 0, (.faddr 11 (.t 3))⟩, ⟨none, none, 0, (.store 1 (.t 33) (.t 32))⟩]
def R126_10 : List AR := [⟨(some 34), none, 0, (.faddr 12 (.t 1))⟩, ⟨(some 35), none, 0, (.load 1 false (.t 34))⟩, ⟨(some 36), none, 0, (.faddr 12 (.t 3))⟩, ⟨none, none, 0, (.store 1 (.t 36) (.t 35))⟩]
def R126_11 : List AR := [⟨(some 37), none, 0, (.faddr 13 (.t 1))⟩, ⟨(some 38), none, 0, (.load 1 false (.t 37))⟩, ⟨(some 39), none, 0, (.faddr 13 (.t 3))⟩, ⟨none, none, 0, (.store 1 (.t 39) (.t 38))⟩]
def R126_12 : List AR := [⟨(some 40), none, 0, (.faddr 14 (.t 1))⟩, ⟨(some 41), none, 0, (.load 1 false (.t 40))⟩, ⟨(some 42), none, 0, (.call false 0 0 178 [(.t 41)])⟩, ⟨(some 43), none, 0, (.faddr 14 (.t 3))⟩, ⟨none, none, 0, (.store 1 (.t 43) (.t 42))⟩]
def R126_13 : List AR := [⟨(some 44), none, 0, (.faddr 15 (.t 1))⟩, ⟨(some 45), none, 0, (.load 1 false (.t 44))⟩, ⟨(some 46), none, 0, (.faddr 15 (.t 3))⟩, ⟨none, none, 0, (.store 1 (.t 46) (.t 45))⟩]
def R126_14 : List AR := [⟨(some 47), none, 0, (.faddr 16 (.t 1))⟩, ⟨(some 48), none, 0, (.load 1 false (.t 47))⟩, ⟨(some 49), none, 0, (.faddr 16 (.t 3))⟩, ⟨none, none, 0, (.store 1 (.t 49) (.t 48))⟩]
def R126_15 : List AR := [⟨(some 50), none, 0, (.faddr 17 (.t 1))⟩, ⟨(some 51), none, 0, (.load 1 false (.t 50))⟩, ⟨(some 52), none, 0, (.faddr 17 (.t 3))⟩, ⟨none, none, 0, (.store 1 (.t 52) (.t 51))⟩]
def R126_16 : List AR := [⟨(some 53), none, 0, (.faddr 18 (.t 1))⟩, ⟨(some 54), none, 0, (.load 1 false (.t 53))⟩, ⟨(some 55), none, 0, (.call false 0 0 179 [(.t 54)])⟩, ⟨(some 56), none, 0, (.faddr 18 (.t 3))⟩, ⟨none, none, 0, (.store 1 (.t 56) (.t 55))⟩]
def R126_17 : List AR := [⟨(some 57), none, 0, (.load 19 true (.t 3))⟩, ⟨none, none, 0, (.store 19 (.t 2) (.t 57))⟩]
def A126_0 : AC := (.seq (.reg 0 R126_17) .ret)
def A126_1 : AC := (.seq (.reg 0 R126_16) A126_0)
def A126_2 : AC := (.seq (.reg 0 R126_15) A126_1)
def A126_3 : AC := (.seq (.reg 0 R126_14) A126_2)
def A126_4 : AC := (.seq (.reg 0 R126_13) A126_3)
def A126_5 : AC := (.seq (.reg 0 R126_12) A126_4)
def A126_6 : AC := (.seq (.reg 0 R126_11) A126_5)
def A126_7 : AC := (.seq (.reg 0 R126_10) A126_6)
def A126_8 : AC := (.seq (.reg 0 R126_9) A126_7)
def A126_9 : AC := (.seq (.reg 0 R126_8) A126_8)
def A126_10 : AC := (.seq (.reg 0 R126_7) A126_9)
def A126_11 : AC := (.seq (.reg 0 R126_6) A126_10)
def A126_12 : AC := (.seq (.reg 0 R126_5) A126_11)
def A126_13 : AC := (.seq (.reg 0 R126_4) A126_12)
def A126_14 : AC := (.seq (.reg 0 R126_3) A126_13)
def A126_15 : AC := (.seq (.reg 0 R126_2) A126_14)
def A126_16 : AC := (.seq (.reg 1 R126_1) A126_15)
def A126 : AC := (.seq (.reg 2 R126_0) A126_16)
def O126 : List AO := [(.load 19 true (.t 2))]
def G126 : Fns := ⟨fun f => false, fun f => 0, false⟩
noncomputable def X126 : Cx := ⟨Tryz.prog, G126, drawD, 58, [0, 1, 2, 3]⟩
theorem c126 : (Tryz.f126.body).bind (compC X126.P X126.Γ X126.D X126.nt) = some A126 := by kernel_rfl
theorem o126 : compRes X126.P Tryz.f126.results.toList = some O126 := by kernel_rfl
theorem v126 : X126.vs = [0, 1, 2, 3] := rfl
theorem p126 : X126.P = Tryz.prog := rfl
def R129_0 : List AR := [⟨(some 2), none, 0, (.box 0 19 (.t 0))⟩, ⟨(some 3), none, 0, (.box 1 19 (.t 1))⟩, ⟨(some 4), none, 0, (.mov (.k (.bool false)))⟩]
def R129_1 : List AR := [⟨(some 5), none, 0, (.faddr 0 (.t 2))⟩, ⟨(some 6), none, 0, (.load 1 false (.t 5))⟩, ⟨(some 7), none, 0, (.faddr 0 (.t 3))⟩, ⟨(some 8), none, 0, (.load 1 false (.t 7))⟩, ⟨(some 9), none, 0, (.bin .neq (.t 6) (.t 8))⟩]
def R129_2 : List AR := [⟨(some 4), none, 0, (.mov (.k (.bool false)))⟩]
def R129_3 : List AR := [⟨(some 10), none, 0, (.faddr 1 (.t 2))⟩, ⟨(some 11), none, 0, (.load 1 false (.t 10))⟩, ⟨(some 12), none, 0, (.faddr 1 (.t 3))⟩, ⟨(some 13), none, 0, (.load 1 false (.t 12))⟩, ⟨(some 14), none, 0, (.bin .neq (.t 11) (.t 13))⟩]
def R129_4 : List AR := [⟨(some 4), none, 0, (.mov (.k (.bool false)))⟩]
def R129_5 : List AR := [⟨(some 15), none, 0, (.faddr 2 (.t 2))⟩, ⟨(some 16), none, 0, (.load 2 true (.t 15))⟩, ⟨(some 17), none, 0, (.faddr 2 (.t 3))⟩, ⟨(some 18), none, 0, (.load 2 true (.t 17))⟩, ⟨(some 19), none, 0, (.call false 0 0 181 [(.t 16), (.t 18)])⟩, ⟨(some 20), none, 0, (.not (.t 19))⟩]
def R129_6 : List AR := [⟨(some 4), none, 0, (.mov (.k (.bool false)))⟩]
def R129_7 : List AR := [⟨(some 21), none, 0, (.faddr 4 (.t 2))⟩, ⟨(some 22), none, 0, (.load 2 true (.t 21))⟩, ⟨(some 23), none, 0, (.faddr 4 (.t 3))⟩, ⟨(some 24), none, 0, (.load 2 true (.t 23))⟩, ⟨(some 25), none, 0, (.call false 0 0 182 [(.t 22), (.t 24)])⟩, ⟨(some 26), none, 0, (.not (.t 25))⟩]
def R129_8 : List AR := [⟨(some 4), none, 0, (.mov (.k (.bool false)))⟩]
def R129_9 : List AR := [⟨(some 27), none, 0, (.faddr 6 (.t 2))⟩, ⟨(some 28), none, 0, (.load 3 true (.t 27))⟩, ⟨(some 29), none, 0, (.faddr 6 (.t 3))⟩, ⟨(some 30), none, 0, (.load 3 true (.t 29))⟩, ⟨(some 31), none, 0, (.call false 0 0 183 [(.t 28), (.t 30)])⟩, ⟨(some 32), none, 0, (.not (.t 31))⟩]
def R129_10 : List AR := [⟨(some 4), none, 0, (.mov (.k (.bool false)))⟩]
def R129_11 : List AR := [⟨(some 33), none, 0, (.faddr 9 (.t 2))⟩, ⟨(some 34), none, 0, (.load 1 false (.t 33))⟩, ⟨(some 35), none, 0, (.faddr 9 (.t 3))⟩, ⟨(some 36), none, 0, (.load 1 false (.t 35))⟩, ⟨(some 37), none, 0, (.call false 0 0 184 [(.t 34), (.t 36)])⟩, ⟨(some 38), none, 0, (.not (.t 37))⟩]
def R129_12 : List AR := [⟨(some 4), none, 0, (.mov (.k (.bool false)))⟩]
def R129_13 : List AR := [⟨(some 39), none, 0, (.faddr 10 (.t 2))⟩, ⟨(some 40), none, 0, (.load 1 false (.t 39))⟩, ⟨(some 41), none, 0, (.faddr 10 (.t 3))⟩, ⟨(some 42), none, 0, (.load 1 false (.t 41))⟩, ⟨(some 43), none, 0, (.call false 0 0 184 [(.t 40), (.t 42)])⟩, ⟨(some 44), none, 0, (.not (.t 43))⟩]
def R129_14 : List AR := [⟨(some 4), none, 0, (.mov (.k (.bool false)))⟩]
def R129_15 : List AR := [⟨(some 45), none, 0, (.faddr 11 (.t 2))⟩, ⟨(some 46), none, 0, (.load 1 false (.t 45))⟩, ⟨(some 47), none, 0, (.faddr 11 (.t 3))⟩, ⟨(some 48), none, 0, (.load 1 false (.t 47))⟩, ⟨(some 49), none, 0, (.call false 0 0 185 [(.t 46), (.t 48)])⟩, ⟨(some 50), none, 0, (.not (.t 49))⟩]
def R129_16 : List AR := [⟨(some 4), none, 0, (.mov (.k (.bool false)))⟩]
def R129_17 : List AR := [⟨(some 51), none, 0, (.faddr 12 (.t 2))⟩, ⟨(some 52), none, 0, (.load 1 false (.t 51))⟩, ⟨(some 53), none, 0, (.faddr 12 (.t 3))⟩, ⟨(some 54), none, 0, (.load 1 false (.t 53))⟩, ⟨(some 55), none, 0, (.bin .neq (.t 52) (.t 54))⟩]
def R129_18 : List AR := [⟨(some 4), none, 0, (.mov (.k (.bool false)))⟩]
def R129_19 : List AR := [⟨(some 56), none, 0, (.faddr 13 (.t 2))⟩, ⟨(some 57), none, 0, (.load 1 false (.t 56))⟩, ⟨(some 58), none, 0, (.faddr 13 (.t 3))⟩, ⟨(some 59), none, 0, (.load 1 false (.t 58))⟩, ⟨(some 60), none, 0, (.bin .neq (.t 57) (.t 59))⟩]
def R129_20 : List AR := [⟨(some 4), none, 0, (.mov (.k (.bool false)))⟩]
def R129_21 : List AR := [⟨(some 61), none, 0, (.faddr 14 (.t 2))⟩, ⟨(some 62), none, 0, (.load 1 false (.t 61))⟩, ⟨(some 63), none, 0, (.faddr 14 (.t 3))⟩, ⟨(some 64), none, 0, (.load 1 false (.t 63))⟩, ⟨(some 65), none, 0, (.call false 0 0 186 [(.t 62), (.t 64)])⟩, ⟨(some 66), none, 0, (.not (.t 65))⟩]
def R129_22 : List AR := [⟨(some 4), none, 0, (.mov (.k (.bool false)))⟩]
def R129_23 : List AR := [⟨(some 67), none, 0, (.faddr 15 (.t 2))⟩, ⟨(some 68), none, 0, (.load 1 false (.t 67))⟩, ⟨(some 69), none, 0, (.faddr 15 (.t 3))⟩, ⟨(some 70), none, 0, (.load 1 false (.t 69))⟩, ⟨(some 71), none, 0, (.bin .neq (.t 68) (.t 70))⟩]
def R129_24 : List AR := [⟨(some 4), none, 0, (.mov (.k (.bool false)))⟩]
def R129_25 : List AR := [⟨(some 72), none, 0, (.faddr 16 (.t 2))⟩, ⟨(some 73), none, 0, (.load 1 false (.t 72))⟩, ⟨(some 74), none, 0, (.faddr 16 (.t 3))⟩, ⟨(some 75), none, 0, (.load 1 false (.t 74))⟩, ⟨(some 76), none, 0, (.bin .neq (.t 73) (.t 75))⟩]
def R129_26 : List AR := [⟨(some 4), none, 0, (.mov (.k (.bool false)))⟩]
def R129_27 : List AR := [⟨(some 77), none, 0, (.faddr 17 (.t 2))⟩, ⟨(some 78), none, 0, (.load 1 false (.t 77))⟩, ⟨(some 79), none, 0, (.faddr 17 (.t 3))⟩, ⟨(some 80), none, 0, (.load 1 false (.t 79))⟩, ⟨(some 81), none, 0, (.bin .neq (.t 78) (.t 80))⟩]
def R129_28 : List AR := [⟨(some 4), none, 0, (.mov (.k (.bool false)))⟩]
def R129_29 : List AR := [⟨(some 82), none, 0, (.faddr 18 (.t 2))⟩, ⟨(some 83), none, 0, (.load 1 false (.t 82))⟩, ⟨(some 84), none, 0, (.faddr 18 (.t 3))⟩, ⟨(some 85), none, 0, (.load 1 false (.t 84))⟩, ⟨(some 86), none, 0, (.call false 0 0 187 [(.t 83), (.t 85)])⟩, ⟨(some 87), none, 0, (.not (.t 86))⟩]
def R129_30 : List AR := [⟨(some 4), none, 0, (.mov (.k (.bool false)))⟩]
def R129_31 : List AR := [⟨(some 4), none, 0, (.mov (.k (.bool true)))⟩]
def A129_0 : AC := (.seq (.reg 0 R129_31) .ret)
def A129_1 : AC := (.seq (.seq (.reg 0 R129_29) (.cond (.t 87) (.seq (.reg 0 R129_30) .ret) .skip)) A129_0)
def A129_2 : AC := (.seq (.seq (.reg 0 R129_27) (.cond (.t 81) (.seq (.reg 0 R129_28) .ret) .skip)) A129_1)
def A129_3 : AC := (.seq (.seq (.reg 0 R129_25) (.cond (.t 76) (.seq (.reg 0 R129_26) .ret) .skip)) A129_2)
def A129_4 : AC := (.seq (.seq (.reg 0 R129_23) (.cond (.t 71) (.seq (.reg 0 R129_24) .ret) .skip)) A129_3)
def A129_5 : AC := (.seq (.seq (.reg 0 R129_21) (.cond (.t 66) (.seq (.reg 0 R129_22) .ret) .skip)) A129_4)
def A129_6 : AC := (.seq (.seq (.reg 0 R129_19) (.cond (.t 60) (.seq (.reg 0 R129_20) .ret) .skip)) A129_5)
def A129_7 : AC := (.seq (.seq (.reg 0 R129_17) (.cond (.t 55) (.seq (.reg 0 R129_18) .ret) .skip)) A129_6)
def A129_8 : AC := (.seq (.seq (.reg 0 R129_15) (.cond (.t 50) (.seq (.reg 0 R129_16) .ret) .skip)) A129_7)
def A129_9 : AC := (.seq (.seq (.reg 0 R129_13) (.cond (.t 44) (.seq (.reg 0 R129_14) .ret) .skip)) A129_8)
def A129_10 : AC := (.seq (.seq (.reg 0 R129_11) (.cond (.t 38) (.seq (.reg 0 R129_12) .ret) .skip)) A129_9)
def A129_11 : AC := (.seq (.seq (.reg 0 R129_9) (.cond (.t 32) (.seq (.reg 0 R129_10) .ret) .skip)) A129_10)
def A129_12 : AC := (.seq (.seq (.reg 0 R129_7) (.cond (.t 26) (.seq (.reg 0 R129_8) .ret) .skip)) A129_11)
def A129_13 : AC := (.seq (.seq (.reg 0 R129_5) (.cond (.t 20) (.seq (.reg 0 R129_6) .ret) .skip)) A129_12)
def A129_14 : AC := (.seq (.seq (.reg 0 R129_3) (.cond (.t 14) (.seq (.reg 0 R129_4) .ret) .skip)) A129_13)
def A129_15 : AC := (.seq (.seq (.reg 0 R129_1) (.cond (.t 9) (.seq (.reg 0 R129_2) .ret) .skip)) A129_14)
def A129 : AC := (.seq (.reg 2 R129_0) A129_15)
def O129 : List AO := [(.mov (.t 4))]
def G129 : Fns := ⟨fun f => false, fun f => 0, false⟩
noncomputable def X129 : Cx := ⟨Tryz.prog, G129, drawD, 88, [0, 1, 2, 3, 4, 9, 14, 20, 26, 32, 38, 44, 50, 55, 60, 66, 71, 76, 81, 87]⟩
theorem c129 : (Tryz.f129.body).bind (compC X129.P X129.Γ X129.D X129.nt) = some A129 := by kernel_rfl
theorem o129 : compRes X129.P Tryz.f129.results.toList = some O129 := by kernel_rfl
theorem v129 : X129.vs = [0, 1, 2, 3, 4, 9, 14, 20, 26, 32, 38, 44, 50, 55, 60, 66, 71, 76, 81, 87] := rfl
theorem p129 : X129.P = Tryz.prog := rfl
def R123_0 : List AR := [⟨(some 2), none, 0, (.box 0 19 (.t 0))⟩, ⟨(some 4), none, 0, (.mov (.k (.int .i64 0)))⟩]
def R123_1 : List AR := [⟨(some 5), none, 0, (.faddr 2 (.t 2))⟩, ⟨(some 6), none, 0, (.load 2 true (.t 5))⟩, ⟨(some 7), none, 0, (.mov (.t 1))⟩, ⟨(some 8), none, 0, (.call false 0 0 165 [(.t 6), (.t 7)])⟩, ⟨(some 1), none, 0, (.mov (.t 8))⟩]
def R123_2 : List AR := [⟨(some 9), none, 0, (.mov (.t 1))⟩, ⟨(some 10), none, 0, (.bin .lss (.t 9) (.k (.int .i64 0)))⟩]
def R123_3 : List AR := [⟨(some 4), none, 0, (.mov (.k (.int .i64 (-1))))⟩]
def R123_4 : List AR := [⟨(some 11), none, 0, (.faddr 4 (.t 2))⟩, ⟨(some 12), none, 0, (.load 2 true (.t 11))⟩, ⟨(some 13), none, 0, (.mov (.t 1))⟩, ⟨(some 14), none, 0, (.call false 0 0 166 [(.t 12), (.t 13)])⟩, ⟨(some 1), none, 0, (.mov (.t 14))⟩]
def R123_5 : List AR := [⟨(some 15), none, 0, (.mov (.t 1))⟩, ⟨(some 16), none, 0, (.bin .lss (.t 15) (.k (.int .i64 0)))⟩]
def R123_6 : List AR := [⟨(some 4), none, 0, (.mov (.k (.int .i64 (-1))))⟩]
def R123_7 : List AR := [⟨(some 17), none, 0, (.faddr 6 (.t 2))⟩, ⟨(some 18), none, 0, (.load 3 true (.t 17))⟩, ⟨(some 19), none, 0, (.mov (.t 1))⟩, ⟨(some 20), none, 0, (.call false 0 0 167 [(.t 18), (.t 19)])⟩, ⟨(some 1), none, 0, (.mov (.t 20))⟩]
def R123_8 : List AR := [⟨(some 21), none, 0, (.mov (.t 1))⟩, ⟨(some 22), none, 0, (.bin .lss (.t 21) (.k (.int .i64 0)))⟩]
def R123_9 : List AR := [⟨(some 4), none, 0, (.mov (.k (.int .i64 (-1))))⟩]
def R123_10 : List AR := [⟨(some 23), none, 0, (.faddr 9 (.t 2))⟩, ⟨(some 24), none, 0, (.load 1 false (.t 23))⟩, ⟨(some 25), none, 0, (.mov (.t 1))⟩, ⟨(some 26), none, 0, (.call false 0 0 168 [(.t 24), (.t 25)])⟩, ⟨(some 1), none, 0, (.mov (.t 26))⟩]
def R123_11 : List AR := [⟨(some 27), none, 0, (.mov (.t 1))⟩, ⟨(some 28), none, 0, (.bin .lss (.t 27) (.k (.int .i64 0)))⟩]
def R123_12 : List AR := [⟨(some 4), none, 0, (.mov (.k (.int .i64 (-1))))⟩]
def R123_13 : List AR := [⟨(some 29), none, 0, (.faddr 10 (.t 2))⟩, ⟨(some 30), none, 0, (.load 1 false (.t 29))⟩, ⟨(some 31), none, 0, (.mov (.t 1))⟩, ⟨(some 32), none, 0, (.call false 0 0 168 [(.t 30), (.t 31)])⟩, ⟨(some 1), none, 0, (.mov (.t 32))⟩]
def R123_14 : List AR := [⟨(some 33), none, 0, (.mov (.t 1))⟩, ⟨(some 34), none, 0, (.bin .lss (.t 33) (.k (.int .i64 0)))⟩]
def R123_15 : List AR := [⟨(some 4), none, 0, (.mov (.k (.int .i64 (-1))))⟩]
def R123_16 : List AR := [⟨(some 35), none, 0, (.faddr 11 (.t 2))⟩, ⟨(some 36), none, 0, (.load 1 false (.t 35))⟩, ⟨(some 37), none, 0, (.mov (.t 1))⟩, ⟨(some 38), none, 0, (.call false 0 0 169 [(.t 36), (.t 37)])⟩, ⟨(some 1), none, 0, (.mov (.t 38))⟩]
def R123_17 : List AR := [⟨(some 39), none, 0, (.mov (.t 1))⟩, ⟨(some 40), none, 0, (.bin .lss (.t 39) (.k (.int .i64 0)))⟩]
def R123_18 : List AR := [⟨(some 4), none, 0, (.mov (.k (.int .i64 (-1))))⟩]
def R123_19 : List AR := [⟨(some 41), none, 0, (.faddr 14 (.t 2))⟩, ⟨(some 42), none, 0, (.load 1 false (.t 41))⟩, ⟨(some 43), none, 0, (.mov (.t 1))⟩, ⟨(some 44), none, 0, (.call false 0 0 170 [(.t 42), (.t 43)])⟩, ⟨(some 1), none, 0, (.mov (.t 44))⟩]
def R123_20 : List AR := [⟨(some 45), none, 0, (.mov (.t 1))⟩, ⟨(some 46), none, 0, (.bin .lss (.t 45) (.k (.int .i64 0)))⟩]
def R123_21 : List AR := [⟨(some 4), none, 0, (.mov (.k (.int .i64 (-1))))⟩]
def R123_22 : List AR := [⟨(some 47), none, 0, (.faddr 18 (.t 2))⟩, ⟨(some 48), none, 0, (.load 1 false (.t 47))⟩, ⟨(some 49), none, 0, (.mov (.t 1))⟩, ⟨(some 50), none, 0, (.call false 0 0 171 [(.t 48), (.t 49)])⟩, ⟨(some 1), none, 0, (.mov (.t 50))⟩]
def R123_23 : List AR := [⟨(some 51), none, 0, (.mov (.t 1))⟩, ⟨(some 52), none, 0, (.bin .lss (.t 51) (.k (.int .i64 0)))⟩]
def R123_24 : List AR := [⟨(some 4), none, 0, (.mov (.k (.int .i64 (-1))))⟩]
def R123_25 : List AR := [⟨(some 53), none, 0, (.mov (.t 1))⟩, ⟨(some 4), none, 0, (.mov (.t 53))⟩]
def A123_0 : AC := (.seq (.reg 0 R123_25) .ret)
def A123_1 : AC := (.seq (.seq (.reg 0 R123_23) (.cond (.t 52) (.seq (.reg 0 R123_24) .ret) .skip)) A123_0)
def A123_2 : AC := (.seq (.reg 0 R123_22) A123_1)
def A123_3 : AC := (.seq (.seq (.reg 0 R123_20) (.cond (.t 46) (.seq (.reg 0 R123_21) .ret) .skip)) A123_2)
def A123_4 : AC := (.seq (.reg 0 R123_19) A123_3)
def A123_5 : AC := (.seq (.seq (.reg 0 R123_17) (.cond (.t 40) (.seq (.reg 0 R123_18) .ret) .skip)) A123_4)
def A123_6 : AC := (.seq (.reg 0 R123_16) A123_5)
def A123_7 : AC := (.seq (.seq (.reg 0 R123_14) (.cond (.t 34) (.seq (.reg 0 R123_15) .ret) .skip)) A123_6)
def A123_8 : AC := (.seq (.reg 0 R123_13) A123_7)
def A123_9 : AC := (.seq (.seq (.reg 0 R123_11) (.cond (.t 28) (.seq (.reg 0 R123_12) .ret) .skip)) A123_8)
def A123_10 : AC := (.seq (.reg 0 R123_10) A123_9)
def A123_11 : AC := (.seq (.seq (.reg 0 R123_8) (.cond (.t 22) (.seq (.reg 0 R123_9) .ret) .skip)) A123_10)
def A123_12 : AC := (.seq (.reg 0 R123_7) A123_11)
def A123_13 : AC := (.seq (.seq (.reg 0 R123_5) (.cond (.t 16) (.seq (.reg 0 R123_6) .ret) .skip)) A123_12)
def A123_14 : AC := (.seq (.reg 0 R123_4) A123_13)
def A123_15 : AC := (.seq (.seq (.reg 0 R123_2) (.cond (.t 10) (.seq (.reg 0 R123_3) .ret) .skip)) A123_14)
def A123_16 : AC := (.seq (.reg 0 R123_1) A123_15)
def A123 : AC := (.seq (.reg 1 R123_0) A123_16)
def O123 : List AO := [(.mov (.t 4))]
def G123 : Fns := ⟨fun f => false, fun f => 0, false⟩
noncomputable def X123 : Cx := ⟨Tryz.prog, G123, drawD, 54, [0, 1, 2, 4, 10, 16, 22, 28, 34, 40, 46, 52]⟩
theorem c123 : (Tryz.f123.body).bind (compC X123.P X123.Γ X123.D X123.nt) = some A123 := by kernel_rfl
theorem o123 : compRes X123.P Tryz.f123.results.toList = some O123 := by kernel_rfl
theorem v123 : X123.vs = [0, 1, 2, 4, 10, 16, 22, 28, 34, 40, 46, 52] := rfl
theorem p123 : X123.P = Tryz.prog := rfl
theorem toLog_ok (a : Log) (h : a.sz ≤ 1048576) : FS Tryz.prog 175 [] [.agg a.c] (.agg a.c) [] := by
  have hl : szS State.sz a.list ≤ 1048576 := h
  have hs_list := szS_len State.sz a.list
  refine FS.of (X := X175) (ac := A175) (os := O175) Tryz.func175 (by rfl) (by rfl) (by kernel_rfl) o175 (Nat.le_of_ble_eq_true rfl) ?_
  show AWP X175 A175 (Ends X175.vs O175 0 _ _) [.agg a.c, .tup [], .tup [], .tup []] []
  obtain ⟨Q, hQ⟩ : ∃ Q, Q = Ends X175.vs O175 0 (.agg a.c) [] := ⟨_, rfl⟩
  rw [← hQ]
  refine awp_sr ?_
  simp only [go_sem, R175_0, v175, p175, Log.c]
  refine awp_sr ?_
  simp only [go_sem, R175_1, v175, p175]
  refine awp_sr ?_
  simp only [go_sem, R175_2, v175, p175]
  refine awp_sr ?_
  simp only [go_sem, R175_3, v175, p175]
  refine awp_sr ?_
  simp only [go_sem, R175_4, v175, p175]
  refine run_see (toStateS_ok a.list (by omega)) false (Views.refl rfl) rfl (fun j hj => by omega) (fun h => by cases h) ?_
  simp only [go_sem, v175, p175]
  refine awp_sr ?_
  simp only [go_sem, R175_5, v175, p175]
  refine awp_ret ?_
  try simp only [go_sem]
  rw [hQ]
  exact Ends.plain (.inl rfl) rfl (.refl _) rfl
theorem eqLog_ok (a b : Log) (h : a.sz ≤ 1048576) : FS Tryz.prog 183 [] [.agg a.c, .agg b.c] (.bool (decide (a = b))) [] := by
  have hl : szS State.sz a.list ≤ 1048576 := h
  have hs_list := szS_len State.sz a.list
  refine FS.of (X := X183) (ac := A183) (os := O183) Tryz.func183 (by rfl) (by rfl) (by kernel_rfl) o183 (Nat.le_of_ble_eq_true rfl) ?_
  show AWP X183 A183 (Ends X183.vs O183 0 _ _) [.agg a.c, .agg b.c, .tup [], .tup [], .tup [], .tup [], .tup [], .tup []] []
  obtain ⟨Q, hQ⟩ : ∃ Q, Q = Ends X183.vs O183 0 (.bool (decide (a = b))) [] := ⟨_, rfl⟩
  rw [← hQ]
  have fin : ∀ L σ q, look X183.vs L 4 = .bool q → q = decide (a = b) → Q .ret L σ := by
    intro L σ q h1 h2
    rw [hQ]
    refine Ends.is (.inl rfl) (rs := [.bool q]) (by simp only [go_sem, O183, h1]) ?_ rfl
    simp [packV, h2]
  refine awp_sr ?_
  simp only [go_sem, R183_0, v183, p183, Log.c]
  refine awp_sr2 ?_
  simp only [go_sem, R183_1, v183, p183]
  refine awp_if rfl ?_ ?_
  · intro h
    refine awp_sr ?_
    simp only [go_sem, R183_2, v183, p183]
    refine awp_ret ?_
    try simp only [go_sem]
    exact fin _ _ _ rfl (decide_eq_false fun e => h (by rw [e])).symm
  intro h0
  refine awp_skip ?_
  simp only [go_sem]
  refine awp_sr2 ?_
  simp only [go_sem, R183_3, v183, p183]
  refine awp_if rfl ?_ ?_
  · intro h
    refine awp_sr ?_
    simp only [go_sem, R183_4, v183, p183]
    refine awp_ret ?_
    try simp only [go_sem]
    exact fin _ _ _ rfl (decide_eq_false fun e => h (by rw [e])).symm
  intro h1
  refine awp_skip ?_
  simp only [go_sem]
  refine awp_sr2 ?_
  simp only [go_sem, R183_5, v183, p183]
  refine run_see (eqStateS_ok a.list b.list (by omega) (by omega)) false (Views.refl rfl) rfl (fun j hj => by omega) (fun h => by cases h) ?_
  simp only [go_sem, v183, p183]
  refine awp_if' rfl ?_ ?_
  · intro h
    refine awp_sr ?_
    simp only [go_sem, R183_6, v183, p183]
    refine awp_ret ?_
    try simp only [go_sem]
    exact fin _ _ _ rfl (decide_eq_false fun e => h (by rw [e])).symm
  intro h2
  refine awp_skip ?_
  simp only [go_sem]
  refine awp_sr ?_
  simp only [go_sem, R183_7, v183, p183]
  refine awp_ret ?_
  try simp only [go_sem]
  refine fin _ _ _ rfl (decide_eq_true ?_).symm
  cases a; cases b
  simp at h0 h1 h2
  simp [h0, h1, h2]
theorem szLog_ok (a : Log) (n : Nat) (hn : n ≤ 1048576) (ha : a.ok) : FS Tryz.prog 167 [] [.agg a.c, .int .i64 n] (.int .i64 (left n a.sz)) [] := by
  refine FS.of (X := X167) (ac := A167) (os := O167) Tryz.func167 (by rfl) (by rfl) (by kernel_rfl) o167 (Nat.le_of_ble_eq_true rfl) ?_
  show AWP X167 A167 (Ends X167.vs O167 0 _ _) [.agg a.c, .int .i64 n, .tup [], .tup [], .tup []] []
  obtain ⟨Q, hQ⟩ : ∃ Q, Q = Ends X167.vs O167 0 (.int .i64 (left n a.sz)) [] := ⟨_, rfl⟩
  rw [← hQ]
  have p0 := ha
  have tot : a.sz = szS State.sz a.list := rfl
  refine awp_sr ?_
  simp only [go_sem, R167_0, v167, p167, Log.c]
  refine awp_sr ?_
  simp only [go_sem, R167_1, v167, p167]
  refine run_see (szStateS_ok a.list n (by omega) p0) false (Views.refl rfl) rfl (fun j hj => by omega) (fun h => by cases h) ?_
  simp only [go_sem, v167, p167]
  refine awp_sr2 ?_
  simp only [go_sem, R167_2, v167, p167]
  refine awp_if rfl ?_ ?_
  · intro h
    refine awp_sr ?_
    simp only [go_sem, R167_3, v167, p167]
    refine awp_ret ?_
    try simp only [go_sem]
    rw [hQ]
    refine Ends.is (.inl rfl) rfl (congrArg (V.int .i64) (left_no ?_).symm) rfl
    have : ¬ szS State.sz a.list ≤ n := fun e => by rw [left_is e] at h; omega
    omega
  intro h0
  obtain ⟨e0, g0⟩ := left_pos h0
  rw [e0]
  refine awp_skip ?_
  simp only [go_sem]
  refine awp_sr ?_
  simp only [go_sem, R167_4, v167, p167]
  refine awp_ret ?_
  try simp only [go_sem]
  rw [hQ]
  refine Ends.is (.inl rfl) rfl (congrArg (V.int .i64) ?_) rfl
  rw [left_is (by omega)]
  omega
theorem toSess_ok (a : Sess) : FS Tryz.prog 213 [] [.agg a.c] (.agg a.c) [] := by
  refine FS.of (X := X213) (ac := A213) (os := O213) Tryz.func213 (by rfl) (by rfl) (by kernel_rfl) o213 (Nat.le_of_ble_eq_true rfl) ?_
  show AWP X213 A213 (Ends X213.vs O213 0 _ _) [.agg a.c, .tup [], .tup [], .tup []] []
  obtain ⟨Q, hQ⟩ : ∃ Q, Q = Ends X213.vs O213 0 (.agg a.c) [] := ⟨_, rfl⟩
  rw [← hQ]
  refine awp_sr ?_
  simp only [go_sem, R213_0, v213, p213, Sess.c]
  refine awp_sr ?_
  simp only [go_sem, R213_1, v213, p213]
  refine awp_sr ?_
  simp only [go_sem, R213_2, v213, p213]
  refine awp_sr ?_
  simp only [go_sem, R213_3, v213, p213]
  refine awp_sr ?_
  simp only [go_sem, R213_4, v213, p213]
  refine awp_sr ?_
  simp only [go_sem, R213_5, v213, p213]
  refine awp_sr ?_
  simp only [go_sem, R213_6, v213, p213]
  refine awp_ret ?_
  try simp only [go_sem]
  rw [hQ]
  exact Ends.plain (.inl rfl) rfl (.refl _) rfl
theorem eqSess_ok (a b : Sess) : FS Tryz.prog 218 [] [.agg a.c, .agg b.c] (.bool (decide (a = b))) [] := by
  refine FS.of (X := X218) (ac := A218) (os := O218) Tryz.func218 (by rfl) (by rfl) (by kernel_rfl) o218 (Nat.le_of_ble_eq_true rfl) ?_
  show AWP X218 A218 (Ends X218.vs O218 0 _ _) [.agg a.c, .agg b.c, .tup [], .tup [], .tup [], .tup [], .tup [], .tup [], .tup []] []
  obtain ⟨Q, hQ⟩ : ∃ Q, Q = Ends X218.vs O218 0 (.bool (decide (a = b))) [] := ⟨_, rfl⟩
  rw [← hQ]
  have fin : ∀ L σ q, look X218.vs L 4 = .bool q → q = decide (a = b) → Q .ret L σ := by
    intro L σ q h1 h2
    rw [hQ]
    refine Ends.is (.inl rfl) (rs := [.bool q]) (by simp only [go_sem, O218, h1]) ?_ rfl
    simp [packV, h2]
  refine awp_sr ?_
  simp only [go_sem, R218_0, v218, p218, Sess.c]
  refine awp_sr2 ?_
  simp only [go_sem, R218_1, v218, p218]
  refine awp_if rfl ?_ ?_
  · intro h
    refine awp_sr ?_
    simp only [go_sem, R218_2, v218, p218]
    refine awp_ret ?_
    try simp only [go_sem]
    exact fin _ _ _ rfl (decide_eq_false fun e => h (by rw [e])).symm
  intro h0
  refine awp_skip ?_
  simp only [go_sem]
  refine awp_sr2 ?_
  simp only [go_sem, R218_3, v218, p218]
  refine awp_if rfl ?_ ?_
  · intro h
    refine awp_sr ?_
    simp only [go_sem, R218_4, v218, p218]
    refine awp_ret ?_
    try simp only [go_sem]
    exact fin _ _ _ rfl (decide_eq_false fun e => h (by rw [e])).symm
  intro h1
  refine awp_skip ?_
  simp only [go_sem]
  refine awp_sr2 ?_
  simp only [go_sem, R218_5, v218, p218]
  refine awp_if' rfl ?_ ?_
  · intro h
    refine awp_sr ?_
    simp only [go_sem, R218_6, v218, p218]
    refine awp_ret ?_
    try simp only [go_sem]
    exact fin _ _ _ rfl (decide_eq_false fun e => h (by rw [e])).symm
  intro h2
  refine awp_skip ?_
  simp only [go_sem]
  refine awp_sr2 ?_
  simp only [go_sem, R218_7, v218, p218]
  refine awp_if rfl ?_ ?_
  · intro h
    refine awp_sr ?_
    simp only [go_sem, R218_8, v218, p218]
    refine awp_ret ?_
    try simp only [go_sem]
    exact fin _ _ _ rfl (decide_eq_false fun e => h (by rw [e])).symm
  intro h3
  refine awp_skip ?_
  simp only [go_sem]
  refine awp_sr ?_
  simp only [go_sem, R218_9, v218, p218]
  refine awp_ret ?_
  try simp only [go_sem]
  refine fin _ _ _ rfl (decide_eq_true ?_).symm
  cases a; cases b
  simp at h0 h1 h2 h3
  simp [h0, h1, h2, h3]
theorem toSessS_ok (xs : List Sess) (h : xs.length ≤ 1048576) : FS Tryz.prog 178 [] [.fz 4 (rw_ Sess.c xs)] (.fz 4 (rw_ Sess.c xs)) [] := by
  have hx : xs.length ≤ 1048576 := by exact h
  refine FS.of (X := X178) (ac := A178) (os := O178) Tryz.func178 (by rfl) (by rfl) (by kernel_rfl) o178 (Nat.le_of_ble_eq_true rfl) ?_
  show AWP X178 A178 (Ends X178.vs O178 0 _ _) [.fz 4 (rw_ Sess.c xs), .tup [], .tup [], .tup [], .tup []] []
  obtain ⟨Q, hQ⟩ : ∃ Q, Q = Ends X178.vs O178 0 (.fz 4 (rw_ Sess.c xs)) [] := ⟨_, rfl⟩
  rw [← hQ]
  refine awp_sr ?_
  simp only [go_sem, R178_0, v178, p178]
  refine awp_sr ?_
  simp only [go_sem, R178_1, v178, p178]
  refine ⟨by omega, ?_⟩
  refine awp_sr2 ?_
  simp only [go_sem, R178_2, v178, p178]
  refine awp_for (fun m L σ => ∃ i x11 ys, m = xs.length - i ∧ i ≤ xs.length ∧ ys.length = xs.length ∧ ys.take i = xs.take i ∧ L = [.fz 4 (rw_ Sess.c xs), .nl, .sl 0 4 0 xs.length, .int .i64 (i : Nat), x11] ∧ σ = [.live ⟨4, rw_ Sess.c ys⟩]) xs.length
    ⟨0, _, List.replicate xs.length Sess.zero, rfl, Nat.zero_le _, by simp, by simp, rfl, congrArg (fun r => [Slot.live ⟨4, r⟩]) (rw_rep Sess.c xs.length Sess.zero)⟩ ?_
  rintro m L σ ⟨i, x11, ys, rfl, hi, hl, ht, rfl, rfl⟩
  refine awp_sr2 ?_
  simp only [go_sem, R178_3, v178, p178]
  refine awp_if rfl ?_ ?_
  · intro h1
    have h1 : i < xs.length := by omega
    have h2 : i < ys.length := by omega
    refine awp_skip ?_
    simp only [go_sem]
    refine awp_seq (awp_block ?_)
    refine awp_reg ?_
    simp only [go_sem, R178_4, v178, p178, rw_at _ h1, Sess.c]
    refine run_see (toSess_ok xs[i]) false (Views.refl rfl) rfl (fun j hj => by omega) (fun h => by cases h) ?_
    simp only [go_sem, v178, p178, rw_at _ h2, Sess.c]
    refine ⟨by omega, ?_⟩
    refine awp_reg ?_
    simp only [go_sem, R178_5, v178, p178, wrap_succ (i := i) (by omega)]
    refine ⟨xs.length - (i + 1), by omega, i + 1, _, ys.set i xs[i], rfl, by omega, by simpa using hl, ?_, rfl, congrArg (fun r => [Slot.live ⟨4, r⟩]) (rw_set Sess.c ys i xs[i])⟩
    rw [List.take_succ_eq_append_getElem h1, List.take_succ_eq_append_getElem (by simpa using h2), List.take_set_of_le (Nat.le_refl _), ht]
    simp
  · intro h1
    refine awp_exit ?_
    simp only [go_sem]
    refine awp_sr ?_
    simp only [go_sem, R178_6, v178, p178]
    refine awp_ret ?_
    try simp only [go_sem]
    have : i = xs.length := by omega
    subst this
    rw [List.take_length, ← hl, List.take_length] at ht
    subst ht
    rw [hQ]
    exact Ends.frzSl (.inl rfl) rfl rfl (by simp [rw_]) (rw_closed Sess.c_closed _)
theorem szSessS_ok (xs : List Sess) (n : Nat) (hn : n ≤ 1048576) (ha : xs.length ≤ big) : FS Tryz.prog 170 [] [.fz 4 (rw_ Sess.c xs), .int .i64 n] (.int .i64 (left n xs.length)) [] := by
  refine FS.of (X := X170) (ac := A170) (os := O170) Tryz.func170 (by rfl) (by rfl) (by kernel_rfl) o170 (Nat.le_of_ble_eq_true rfl) ?_
  show AWP X170 A170 (Ends X170.vs O170 0 _ _) [.fz 4 (rw_ Sess.c xs), .int .i64 n, .tup [], .tup []] []
  obtain ⟨Q, hQ⟩ : ∃ Q, Q = Ends X170.vs O170 0 (.int .i64 (left n xs.length)) [] := ⟨_, rfl⟩
  rw [← hQ]
  have ha : xs.length ≤ 1000000000000000 := ha
  refine awp_sr ?_
  simp only [go_sem, R170_0, v170, p170]
  refine awp_sr ?_
  simp only [go_sem, R170_1, v170, p170, wrap_i64 (n := (n : Int) - xs.length) (by omega) (by omega)]
  refine awp_sr2 ?_
  simp only [go_sem, R170_2, v170, p170]
  refine awp_if rfl ?_ ?_
  · intro h
    refine awp_sr ?_
    simp only [go_sem, R170_3, v170, p170]
    refine awp_ret ?_
    try simp only [go_sem]
    rw [hQ]
    exact Ends.is (.inl rfl) rfl (congrArg (V.int .i64) (left_no (by omega)).symm) rfl
  intro h
  refine awp_skip ?_
  simp only [go_sem]
  refine awp_sr ?_
  simp only [go_sem, R170_4, v170, p170]
  refine awp_ret ?_
  try simp only [go_sem]
  rw [hQ]
  exact Ends.is (.inl rfl) rfl (congrArg (V.int .i64) (by rw [left_is (by omega)]; omega)) rfl
theorem eqSessS_ok (xs ys : List Sess) (hx : xs.length ≤ 1000000000) : FS Tryz.prog 186 [] [.fz 4 (rw_ Sess.c xs), .fz 4 (rw_ Sess.c ys)] (.bool (decide (xs = ys))) [] := by
  refine FS.of (X := X186) (ac := A186) (os := O186) Tryz.func186 (by rfl) (by rfl) (by kernel_rfl) o186 (Nat.le_of_ble_eq_true rfl) ?_
  show AWP X186 A186 (Ends X186.vs O186 0 _ _) [.fz 4 (rw_ Sess.c xs), .fz 4 (rw_ Sess.c ys), .tup [], .tup [], .tup [], .tup [], .tup []] []
  obtain ⟨Q, hQ⟩ : ∃ Q, Q = Ends X186.vs O186 0 (.bool (decide (xs = ys))) [] := ⟨_, rfl⟩
  rw [← hQ]
  have fin : ∀ L σ b, look X186.vs L 4 = .bool b → b = decide (xs = ys) → Q .ret L σ := by
    intro L σ b h1 h2
    rw [hQ]
    refine Ends.is (.inl rfl) (rs := [.bool b]) (by simp only [go_sem, O186, h1]) ?_ rfl
    simp [packV, h2]
  refine awp_sr ?_
  simp only [go_sem, R186_0, v186, p186]
  refine awp_sr2 ?_
  simp only [go_sem, R186_1, v186, p186]
  refine awp_if rfl ?_ ?_
  · intro h
    refine awp_sr ?_
    simp only [go_sem, R186_2, v186, p186]
    refine awp_ret ?_
    try simp only [go_sem]
    refine fin _ _ false rfl ?_
    symm; simp; intro e; subst e; exact h rfl
  intro hne
  have hl : xs.length = ys.length := by omega
  refine awp_skip ?_
  simp only [go_sem]
  refine awp_sr2 ?_
  simp only [go_sem, R186_3, v186, p186]
  refine awp_for (fun m L σ => ∃ i x10 x14 x25, m = xs.length - i ∧ i ≤ xs.length ∧ xs.take i = ys.take i ∧ L = [.fz 4 (rw_ Sess.c xs), .fz 4 (rw_ Sess.c ys), .bool false, .int .i64 (i : Nat), x10, x14, x25]) xs.length ⟨0, _, _, _, rfl, Nat.zero_le _, by simp, rfl⟩ ?_
  rintro m L σ ⟨i, x10, x14, x25, rfl, hi, ht, rfl⟩
  refine awp_sr2 ?_
  simp only [go_sem, R186_4, v186, p186]
  refine awp_if rfl ?_ ?_
  · intro h1
    have h1 : i < xs.length := by omega
    have h2 : i < ys.length := by omega
    refine awp_skip ?_
    simp only [go_sem]
    refine awp_seq (awp_block ?_)
    refine awp_sd mixed rfl (by rfl) ?_
    simp only [go_sem, R186_5, v186, p186, rw_at _ h1, rw_at _ h2, Sess.c]
    refine run_see (eqSess_ok xs[i] ys[i]) false (Views.refl rfl) rfl (fun j hj => by omega) (fun h => by cases h) ?_
    simp only [go_sem, v186, p186]
    refine awp_if' rfl ?_ ?_
    · intro h3
      refine awp_sr ?_
      simp only [go_sem, R186_6, v186, p186]
      refine awp_ret ?_
      try simp only [go_sem]
      refine fin _ _ false rfl ?_
      symm; simp; intro e; subst e; exact h3 rfl
    · intro h3
      refine awp_skip ?_
      simp only [go_sem]
      refine awp_reg ?_
      simp only [go_sem, R186_7, v186, p186, wrap_succ (i := i) (by omega)]
      refine ⟨xs.length - (i + 1), by omega, i + 1, _, _, _, rfl, by omega, ?_, rfl⟩
      rw [List.take_succ_eq_append_getElem h1, List.take_succ_eq_append_getElem h2, ht, h3]
  · intro h1
    refine awp_exit ?_
    simp only [go_sem]
    refine awp_sr ?_
    simp only [go_sem, R186_8, v186, p186]
    refine awp_ret ?_
    try simp only [go_sem]
    refine fin _ _ true rfl ?_
    have : i = xs.length := by omega
    subst this
    rw [List.take_length, hl, List.take_length] at ht
    simp [ht]
theorem toRise_ok (a : Rise) : FS Tryz.prog 214 [] [.agg a.c] (.agg a.c) [] := by
  refine FS.of (X := X214) (ac := A214) (os := O214) Tryz.func214 (by rfl) (by rfl) (by kernel_rfl) o214 (Nat.le_of_ble_eq_true rfl) ?_
  show AWP X214 A214 (Ends X214.vs O214 0 _ _) [.agg a.c, .tup [], .tup [], .tup []] []
  obtain ⟨Q, hQ⟩ : ∃ Q, Q = Ends X214.vs O214 0 (.agg a.c) [] := ⟨_, rfl⟩
  rw [← hQ]
  refine awp_sr ?_
  simp only [go_sem, R214_0, v214, p214, Rise.c]
  refine awp_sr ?_
  simp only [go_sem, R214_1, v214, p214]
  refine awp_sr ?_
  simp only [go_sem, R214_2, v214, p214]
  refine awp_sr ?_
  simp only [go_sem, R214_3, v214, p214]
  refine awp_sr ?_
  simp only [go_sem, R214_4, v214, p214]
  refine awp_sr ?_
  simp only [go_sem, R214_5, v214, p214]
  refine awp_ret ?_
  try simp only [go_sem]
  rw [hQ]
  exact Ends.plain (.inl rfl) rfl (.refl _) rfl
theorem eqRise_ok (a b : Rise) : FS Tryz.prog 219 [] [.agg a.c, .agg b.c] (.bool (decide (a = b))) [] := by
  refine FS.of (X := X219) (ac := A219) (os := O219) Tryz.func219 (by rfl) (by rfl) (by kernel_rfl) o219 (Nat.le_of_ble_eq_true rfl) ?_
  show AWP X219 A219 (Ends X219.vs O219 0 _ _) [.agg a.c, .agg b.c, .tup [], .tup [], .tup [], .tup [], .tup [], .tup []] []
  obtain ⟨Q, hQ⟩ : ∃ Q, Q = Ends X219.vs O219 0 (.bool (decide (a = b))) [] := ⟨_, rfl⟩
  rw [← hQ]
  have fin : ∀ L σ q, look X219.vs L 4 = .bool q → q = decide (a = b) → Q .ret L σ := by
    intro L σ q h1 h2
    rw [hQ]
    refine Ends.is (.inl rfl) (rs := [.bool q]) (by simp only [go_sem, O219, h1]) ?_ rfl
    simp [packV, h2]
  refine awp_sr ?_
  simp only [go_sem, R219_0, v219, p219, Rise.c]
  refine awp_sr2 ?_
  simp only [go_sem, R219_1, v219, p219]
  refine awp_if rfl ?_ ?_
  · intro h
    refine awp_sr ?_
    simp only [go_sem, R219_2, v219, p219]
    refine awp_ret ?_
    try simp only [go_sem]
    exact fin _ _ _ rfl (decide_eq_false fun e => h (by rw [e])).symm
  intro h0
  refine awp_skip ?_
  simp only [go_sem]
  refine awp_sr2 ?_
  simp only [go_sem, R219_3, v219, p219]
  refine awp_if rfl ?_ ?_
  · intro h
    refine awp_sr ?_
    simp only [go_sem, R219_4, v219, p219]
    refine awp_ret ?_
    try simp only [go_sem]
    exact fin _ _ _ rfl (decide_eq_false fun e => h (by rw [e])).symm
  intro h1
  refine awp_skip ?_
  simp only [go_sem]
  refine awp_sr2 ?_
  simp only [go_sem, R219_5, v219, p219]
  refine awp_if rfl ?_ ?_
  · intro h
    refine awp_sr ?_
    simp only [go_sem, R219_6, v219, p219]
    refine awp_ret ?_
    try simp only [go_sem]
    exact fin _ _ _ rfl (decide_eq_false fun e => h (by rw [e])).symm
  intro h2
  refine awp_skip ?_
  simp only [go_sem]
  refine awp_sr ?_
  simp only [go_sem, R219_7, v219, p219]
  refine awp_ret ?_
  try simp only [go_sem]
  refine fin _ _ _ rfl (decide_eq_true ?_).symm
  cases a; cases b
  simp at h0 h1 h2
  simp [h0, h1, h2]
theorem toRiseS_ok (xs : List Rise) (h : xs.length ≤ 1048576) : FS Tryz.prog 179 [] [.fz 3 (rw_ Rise.c xs)] (.fz 3 (rw_ Rise.c xs)) [] := by
  have hx : xs.length ≤ 1048576 := by exact h
  refine FS.of (X := X179) (ac := A179) (os := O179) Tryz.func179 (by rfl) (by rfl) (by kernel_rfl) o179 (Nat.le_of_ble_eq_true rfl) ?_
  show AWP X179 A179 (Ends X179.vs O179 0 _ _) [.fz 3 (rw_ Rise.c xs), .tup [], .tup [], .tup [], .tup []] []
  obtain ⟨Q, hQ⟩ : ∃ Q, Q = Ends X179.vs O179 0 (.fz 3 (rw_ Rise.c xs)) [] := ⟨_, rfl⟩
  rw [← hQ]
  refine awp_sr ?_
  simp only [go_sem, R179_0, v179, p179]
  refine awp_sr ?_
  simp only [go_sem, R179_1, v179, p179]
  refine ⟨by omega, ?_⟩
  refine awp_sr2 ?_
  simp only [go_sem, R179_2, v179, p179]
  refine awp_for (fun m L σ => ∃ i x11 ys, m = xs.length - i ∧ i ≤ xs.length ∧ ys.length = xs.length ∧ ys.take i = xs.take i ∧ L = [.fz 3 (rw_ Rise.c xs), .nl, .sl 0 3 0 xs.length, .int .i64 (i : Nat), x11] ∧ σ = [.live ⟨3, rw_ Rise.c ys⟩]) xs.length
    ⟨0, _, List.replicate xs.length Rise.zero, rfl, Nat.zero_le _, by simp, by simp, rfl, congrArg (fun r => [Slot.live ⟨3, r⟩]) (rw_rep Rise.c xs.length Rise.zero)⟩ ?_
  rintro m L σ ⟨i, x11, ys, rfl, hi, hl, ht, rfl, rfl⟩
  refine awp_sr2 ?_
  simp only [go_sem, R179_3, v179, p179]
  refine awp_if rfl ?_ ?_
  · intro h1
    have h1 : i < xs.length := by omega
    have h2 : i < ys.length := by omega
    refine awp_skip ?_
    simp only [go_sem]
    refine awp_seq (awp_block ?_)
    refine awp_reg ?_
    simp only [go_sem, R179_4, v179, p179, rw_at _ h1, Rise.c]
    refine run_see (toRise_ok xs[i]) false (Views.refl rfl) rfl (fun j hj => by omega) (fun h => by cases h) ?_
    simp only [go_sem, v179, p179, rw_at _ h2, Rise.c]
    refine ⟨by omega, ?_⟩
    refine awp_reg ?_
    simp only [go_sem, R179_5, v179, p179, wrap_succ (i := i) (by omega)]
    refine ⟨xs.length - (i + 1), by omega, i + 1, _, ys.set i xs[i], rfl, by omega, by simpa using hl, ?_, rfl, congrArg (fun r => [Slot.live ⟨3, r⟩]) (rw_set Rise.c ys i xs[i])⟩
    rw [List.take_succ_eq_append_getElem h1, List.take_succ_eq_append_getElem (by simpa using h2), List.take_set_of_le (Nat.le_refl _), ht]
    simp
  · intro h1
    refine awp_exit ?_
    simp only [go_sem]
    refine awp_sr ?_
    simp only [go_sem, R179_6, v179, p179]
    refine awp_ret ?_
    try simp only [go_sem]
    have : i = xs.length := by omega
    subst this
    rw [List.take_length, ← hl, List.take_length] at ht
    subst ht
    rw [hQ]
    exact Ends.frzSl (.inl rfl) rfl rfl (by simp [rw_]) (rw_closed Rise.c_closed _)
theorem szRiseS_ok (xs : List Rise) (n : Nat) (hn : n ≤ 1048576) (ha : xs.length ≤ big) : FS Tryz.prog 171 [] [.fz 3 (rw_ Rise.c xs), .int .i64 n] (.int .i64 (left n xs.length)) [] := by
  refine FS.of (X := X171) (ac := A171) (os := O171) Tryz.func171 (by rfl) (by rfl) (by kernel_rfl) o171 (Nat.le_of_ble_eq_true rfl) ?_
  show AWP X171 A171 (Ends X171.vs O171 0 _ _) [.fz 3 (rw_ Rise.c xs), .int .i64 n, .tup [], .tup []] []
  obtain ⟨Q, hQ⟩ : ∃ Q, Q = Ends X171.vs O171 0 (.int .i64 (left n xs.length)) [] := ⟨_, rfl⟩
  rw [← hQ]
  have ha : xs.length ≤ 1000000000000000 := ha
  refine awp_sr ?_
  simp only [go_sem, R171_0, v171, p171]
  refine awp_sr ?_
  simp only [go_sem, R171_1, v171, p171, wrap_i64 (n := (n : Int) - xs.length) (by omega) (by omega)]
  refine awp_sr2 ?_
  simp only [go_sem, R171_2, v171, p171]
  refine awp_if rfl ?_ ?_
  · intro h
    refine awp_sr ?_
    simp only [go_sem, R171_3, v171, p171]
    refine awp_ret ?_
    try simp only [go_sem]
    rw [hQ]
    exact Ends.is (.inl rfl) rfl (congrArg (V.int .i64) (left_no (by omega)).symm) rfl
  intro h
  refine awp_skip ?_
  simp only [go_sem]
  refine awp_sr ?_
  simp only [go_sem, R171_4, v171, p171]
  refine awp_ret ?_
  try simp only [go_sem]
  rw [hQ]
  exact Ends.is (.inl rfl) rfl (congrArg (V.int .i64) (by rw [left_is (by omega)]; omega)) rfl
theorem eqRiseS_ok (xs ys : List Rise) (hx : xs.length ≤ 1000000000) : FS Tryz.prog 187 [] [.fz 3 (rw_ Rise.c xs), .fz 3 (rw_ Rise.c ys)] (.bool (decide (xs = ys))) [] := by
  refine FS.of (X := X187) (ac := A187) (os := O187) Tryz.func187 (by rfl) (by rfl) (by kernel_rfl) o187 (Nat.le_of_ble_eq_true rfl) ?_
  show AWP X187 A187 (Ends X187.vs O187 0 _ _) [.fz 3 (rw_ Rise.c xs), .fz 3 (rw_ Rise.c ys), .tup [], .tup [], .tup [], .tup [], .tup []] []
  obtain ⟨Q, hQ⟩ : ∃ Q, Q = Ends X187.vs O187 0 (.bool (decide (xs = ys))) [] := ⟨_, rfl⟩
  rw [← hQ]
  have fin : ∀ L σ b, look X187.vs L 4 = .bool b → b = decide (xs = ys) → Q .ret L σ := by
    intro L σ b h1 h2
    rw [hQ]
    refine Ends.is (.inl rfl) (rs := [.bool b]) (by simp only [go_sem, O187, h1]) ?_ rfl
    simp [packV, h2]
  refine awp_sr ?_
  simp only [go_sem, R187_0, v187, p187]
  refine awp_sr2 ?_
  simp only [go_sem, R187_1, v187, p187]
  refine awp_if rfl ?_ ?_
  · intro h
    refine awp_sr ?_
    simp only [go_sem, R187_2, v187, p187]
    refine awp_ret ?_
    try simp only [go_sem]
    refine fin _ _ false rfl ?_
    symm; simp; intro e; subst e; exact h rfl
  intro hne
  have hl : xs.length = ys.length := by omega
  refine awp_skip ?_
  simp only [go_sem]
  refine awp_sr2 ?_
  simp only [go_sem, R187_3, v187, p187]
  refine awp_for (fun m L σ => ∃ i x10 x14 x25, m = xs.length - i ∧ i ≤ xs.length ∧ xs.take i = ys.take i ∧ L = [.fz 3 (rw_ Rise.c xs), .fz 3 (rw_ Rise.c ys), .bool false, .int .i64 (i : Nat), x10, x14, x25]) xs.length ⟨0, _, _, _, rfl, Nat.zero_le _, by simp, rfl⟩ ?_
  rintro m L σ ⟨i, x10, x14, x25, rfl, hi, ht, rfl⟩
  refine awp_sr2 ?_
  simp only [go_sem, R187_4, v187, p187]
  refine awp_if rfl ?_ ?_
  · intro h1
    have h1 : i < xs.length := by omega
    have h2 : i < ys.length := by omega
    refine awp_skip ?_
    simp only [go_sem]
    refine awp_seq (awp_block ?_)
    refine awp_sd mixed rfl (by rfl) ?_
    simp only [go_sem, R187_5, v187, p187, rw_at _ h1, rw_at _ h2, Rise.c]
    refine run_see (eqRise_ok xs[i] ys[i]) false (Views.refl rfl) rfl (fun j hj => by omega) (fun h => by cases h) ?_
    simp only [go_sem, v187, p187]
    refine awp_if' rfl ?_ ?_
    · intro h3
      refine awp_sr ?_
      simp only [go_sem, R187_6, v187, p187]
      refine awp_ret ?_
      try simp only [go_sem]
      refine fin _ _ false rfl ?_
      symm; simp; intro e; subst e; exact h3 rfl
    · intro h3
      refine awp_skip ?_
      simp only [go_sem]
      refine awp_reg ?_
      simp only [go_sem, R187_7, v187, p187, wrap_succ (i := i) (by omega)]
      refine ⟨xs.length - (i + 1), by omega, i + 1, _, _, _, rfl, by omega, ?_, rfl⟩
      rw [List.take_succ_eq_append_getElem h1, List.take_succ_eq_append_getElem h2, ht, h3]
  · intro h1
    refine awp_exit ?_
    simp only [go_sem]
    refine awp_sr ?_
    simp only [go_sem, R187_8, v187, p187]
    refine awp_ret ?_
    try simp only [go_sem]
    refine fin _ _ true rfl ?_
    have : i = xs.length := by omega
    subst this
    rw [List.take_length, hl, List.take_length] at ht
    simp [ht]
theorem toIntSS_ok (xs : List (List Int)) (h : szS List.length xs ≤ 1048576) : FS Tryz.prog 177 [] [.fz 1 (rw_ rowC xs)] (.fz 1 (rw_ rowC xs)) [] := by
  have hx : xs.length ≤ 1048576 := by unfold szS at h; omega
  refine FS.of (X := X177) (ac := A177) (os := O177) Tryz.func177 (by rfl) (by rfl) (by kernel_rfl) o177 (Nat.le_of_ble_eq_true rfl) ?_
  show AWP X177 A177 (Ends X177.vs O177 0 _ _) [.fz 1 (rw_ rowC xs), .tup [], .tup [], .tup [], .tup []] []
  obtain ⟨Q, hQ⟩ : ∃ Q, Q = Ends X177.vs O177 0 (.fz 1 (rw_ rowC xs)) [] := ⟨_, rfl⟩
  rw [← hQ]
  refine awp_sr ?_
  simp only [go_sem, R177_0, v177, p177]
  refine awp_sr ?_
  simp only [go_sem, R177_1, v177, p177]
  refine ⟨by omega, ?_⟩
  refine awp_obj ⟨1, List.replicate xs.length (rowC [])⟩ (o := 0) rfl (ObLe.rep rfl fun j u v h1 h2 => ?_) ?_
  · cases j with
    | zero => simp at h1; simp [rowC, rw_] at h2; subst h1; subst h2; exact .nl 1
    | succ j =>
      simp at h1
  show AWP X177 _ _ _ [.live ⟨1, List.replicate xs.length (rowC [])⟩]
  refine awp_sr2 ?_
  simp only [go_sem, R177_2, v177, p177]
  refine awp_for (fun m L σ => ∃ i x11 ys, m = xs.length - i ∧ i ≤ xs.length ∧ ys.length = xs.length ∧ ys.take i = xs.take i ∧ L = [.fz 1 (rw_ rowC xs), .nl, .sl 0 1 0 xs.length, .int .i64 (i : Nat), x11] ∧ σ = [.live ⟨1, rw_ rowC ys⟩]) xs.length
    ⟨0, _, List.replicate xs.length [], rfl, Nat.zero_le _, by simp, by simp, rfl, congrArg (fun r => [Slot.live ⟨1, r⟩]) (rw_rep rowC xs.length [])⟩ ?_
  rintro m L σ ⟨i, x11, ys, rfl, hi, hl, ht, rfl, rfl⟩
  refine awp_sr2 ?_
  simp only [go_sem, R177_3, v177, p177]
  refine awp_if rfl ?_ ?_
  · intro h1
    have h1 : i < xs.length := by omega
    have h2 : i < ys.length := by omega
    refine awp_skip ?_
    simp only [go_sem]
    refine awp_seq (awp_block ?_)
    refine awp_reg ?_
    simp only [go_sem, R177_4, v177, p177, rw_at _ h1, rowC]
    refine run_see (toIntS_ok xs[i] (by have := sumBy_get List.length h1; unfold szS at h; omega)) false (Views.refl rfl) rfl (fun j hj => by omega) (fun h => by cases h) ?_
    simp only [go_sem, v177, p177, rw_at _ h2, rowC]
    refine ⟨by omega, ?_⟩
    refine awp_reg ?_
    simp only [go_sem, R177_5, v177, p177, wrap_succ (i := i) (by omega)]
    refine ⟨xs.length - (i + 1), by omega, i + 1, _, ys.set i xs[i], rfl, by omega, by simpa using hl, ?_, rfl, congrArg (fun r => [Slot.live ⟨1, r⟩]) (rw_set rowC ys i xs[i])⟩
    rw [List.take_succ_eq_append_getElem h1, List.take_succ_eq_append_getElem (by simpa using h2), List.take_set_of_le (Nat.le_refl _), ht]
    simp
  · intro h1
    refine awp_exit ?_
    simp only [go_sem]
    refine awp_sr ?_
    simp only [go_sem, R177_6, v177, p177]
    refine awp_ret ?_
    try simp only [go_sem]
    have : i = xs.length := by omega
    subst this
    rw [List.take_length, ← hl, List.take_length] at ht
    subst ht
    rw [hQ]
    exact Ends.frzSl (.inl rfl) rfl rfl (by simp [rw_]) (rw_closed rowC_closed _)
theorem szIntSS_ok (xs : List (List Int)) (n : Nat) (hn : n ≤ 1048576) (ha : okS rowOk xs) : FS Tryz.prog 169 [] [.fz 1 (rw_ rowC xs), .int .i64 n] (.int .i64 (left n (szS List.length xs))) [] := by
  refine FS.of (X := X169) (ac := A169) (os := O169) Tryz.func169 (by rfl) (by rfl) (by kernel_rfl) o169 (Nat.le_of_ble_eq_true rfl) ?_
  show AWP X169 A169 (Ends X169.vs O169 0 _ _) [.fz 1 (rw_ rowC xs), .int .i64 n, .tup [], .tup [], .tup [], .tup [], .tup []] []
  obtain ⟨Q, hQ⟩ : ∃ Q, Q = Ends X169.vs O169 0 (.int .i64 (left n (szS List.length xs))) [] := ⟨_, rfl⟩
  rw [← hQ]
  obtain ⟨ha1, ha2⟩ := ha
  have ha1 : xs.length ≤ 1000000000000000 := ha1
  refine awp_sr ?_
  simp only [go_sem, R169_0, v169, p169]
  refine awp_sr ?_
  simp only [go_sem, R169_1, v169, p169, wrap_i64 (n := (n : Int) - xs.length) (by omega) (by omega)]
  refine awp_sr2 ?_
  simp only [go_sem, R169_2, v169, p169]
  refine awp_if rfl ?_ ?_
  · intro h
    refine awp_sr ?_
    simp only [go_sem, R169_3, v169, p169]
    refine awp_ret ?_
    try simp only [go_sem]
    rw [hQ]
    exact Ends.is (.inl rfl) rfl (congrArg (V.int .i64) (left_no (by unfold szS; omega)).symm) rfl
  intro h
  have h0 : xs.length ≤ n := by omega
  refine awp_skip ?_
  simp only [go_sem]
  refine awp_sr2 ?_
  simp only [go_sem, R169_4, v169, p169]
  refine awp_for (fun m L σ => ∃ i x11 x15 x25, m = xs.length - i ∧ i ≤ xs.length ∧ xs.length + sumBy List.length (xs.take i) ≤ n ∧ L = [.fz 1 (rw_ rowC xs), .int .i64 ((n - (xs.length + sumBy List.length (xs.take i)) : Nat) : Int), .int .i64 0, .int .i64 (i : Nat), x11, x15, x25]) xs.length
    ⟨0, _, _, _, rfl, Nat.zero_le _, by simpa [sumBy] using h0, by rw [show ((n : Int) - xs.length) = ((n - (xs.length + sumBy List.length (xs.take 0)) : Nat) : Int) by simp [sumBy]; omega]; rfl⟩ ?_
  rintro m L σ ⟨i, x11, x15, x25, rfl, hi, hs, rfl⟩
  refine awp_sr2 ?_
  simp only [go_sem, R169_5, v169, p169]
  refine awp_if rfl ?_ ?_
  · intro h1
    have h1 : i < xs.length := by omega
    refine awp_skip ?_
    simp only [go_sem]
    refine awp_seq (awp_block ?_)
    refine awp_sr ?_
    simp only [go_sem, R169_6, v169, p169, rw_at _ h1, rowC]
    refine run_see (szIntS_ok xs[i] (n - (xs.length + sumBy List.length (xs.take i))) (by omega) (ha2 _ (List.getElem_mem h1))) false (Views.refl rfl) rfl (fun j hj => by omega) (fun h => by cases h) ?_
    simp only [go_sem, v169, p169]
    have e1 := sumBy_take List.length h1
    have e2 := sumBy_le List.length xs (i + 1)
    refine awp_sr ?_
    simp only [go_sem, R169_7, v169, p169]
    refine awp_if rfl ?_ ?_
    · intro h2
      refine awp_sr ?_
      simp only [go_sem, R169_8, v169, p169]
      refine awp_ret ?_
      try simp only [go_sem]
      rw [hQ]
      refine Ends.is (.inl rfl) rfl (congrArg (V.int .i64) (left_no ?_).symm) rfl
      have : ¬ List.length xs[i] ≤ n - (xs.length + sumBy List.length (xs.take i)) := fun e => by rw [left_is e] at h2; omega
      unfold szS; omega
    · intro h2
      obtain ⟨e3, e4⟩ := left_pos h2
      refine awp_skip ?_
      simp only [go_sem]
      refine awp_reg ?_
      simp only [go_sem, R169_9, v169, p169, wrap_succ (i := i) (by omega)]
      rw [e3, show (n - (xs.length + sumBy List.length (xs.take i)) - List.length xs[i] : Nat) = n - (xs.length + sumBy List.length (xs.take (i + 1))) by omega]
      exact ⟨xs.length - (i + 1), by omega, i + 1, _, _, _, rfl, by omega, by omega, rfl⟩
  · intro h1
    refine awp_exit ?_
    simp only [go_sem]
    refine awp_sr ?_
    simp only [go_sem, R169_10, v169, p169]
    refine awp_ret ?_
    try simp only [go_sem]
    have : i = xs.length := by omega
    subst this
    rw [hQ]
    refine Ends.is (.inl rfl) rfl (congrArg (V.int .i64) ?_) rfl
    rw [left_is (by unfold szS; rw [List.take_length] at hs; omega), List.take_length]
    rfl
theorem eqIntSS_ok (xs ys : List (List Int)) (hx : xs.length ≤ 1000000000) (h : szS List.length xs ≤ 1048576) : FS Tryz.prog 185 [] [.fz 1 (rw_ rowC xs), .fz 1 (rw_ rowC ys)] (.bool (decide (xs = ys))) [] := by
  refine FS.of (X := X185) (ac := A185) (os := O185) Tryz.func185 (by rfl) (by rfl) (by kernel_rfl) o185 (Nat.le_of_ble_eq_true rfl) ?_
  show AWP X185 A185 (Ends X185.vs O185 0 _ _) [.fz 1 (rw_ rowC xs), .fz 1 (rw_ rowC ys), .tup [], .tup [], .tup [], .tup [], .tup []] []
  obtain ⟨Q, hQ⟩ : ∃ Q, Q = Ends X185.vs O185 0 (.bool (decide (xs = ys))) [] := ⟨_, rfl⟩
  rw [← hQ]
  have fin : ∀ L σ b, look X185.vs L 4 = .bool b → b = decide (xs = ys) → Q .ret L σ := by
    intro L σ b h1 h2
    rw [hQ]
    refine Ends.is (.inl rfl) (rs := [.bool b]) (by simp only [go_sem, O185, h1]) ?_ rfl
    simp [packV, h2]
  refine awp_sr ?_
  simp only [go_sem, R185_0, v185, p185]
  refine awp_sr2 ?_
  simp only [go_sem, R185_1, v185, p185]
  refine awp_if rfl ?_ ?_
  · intro h
    refine awp_sr ?_
    simp only [go_sem, R185_2, v185, p185]
    refine awp_ret ?_
    try simp only [go_sem]
    refine fin _ _ false rfl ?_
    symm; simp; intro e; subst e; exact h rfl
  intro hne
  have hl : xs.length = ys.length := by omega
  refine awp_skip ?_
  simp only [go_sem]
  refine awp_sr2 ?_
  simp only [go_sem, R185_3, v185, p185]
  refine awp_for (fun m L σ => ∃ i x10 x14 x25, m = xs.length - i ∧ i ≤ xs.length ∧ xs.take i = ys.take i ∧ L = [.fz 1 (rw_ rowC xs), .fz 1 (rw_ rowC ys), .bool false, .int .i64 (i : Nat), x10, x14, x25]) xs.length ⟨0, _, _, _, rfl, Nat.zero_le _, by simp, rfl⟩ ?_
  rintro m L σ ⟨i, x10, x14, x25, rfl, hi, ht, rfl⟩
  refine awp_sr2 ?_
  simp only [go_sem, R185_4, v185, p185]
  refine awp_if rfl ?_ ?_
  · intro h1
    have h1 : i < xs.length := by omega
    have h2 : i < ys.length := by omega
    refine awp_skip ?_
    simp only [go_sem]
    refine awp_seq (awp_block ?_)
    refine awp_sd mixed rfl (by rfl) ?_
    simp only [go_sem, R185_5, v185, p185, rw_at _ h1, rw_at _ h2, rowC]
    refine run_see (eqIntS_ok xs[i] ys[i] (by have := sumBy_get List.length h1; have h : xs.length + sumBy List.length xs ≤ 1048576 := h; omega)) false (Views.refl rfl) rfl (fun j hj => by omega) (fun h => by cases h) ?_
    simp only [go_sem, v185, p185]
    refine awp_if' rfl ?_ ?_
    · intro h3
      refine awp_sr ?_
      simp only [go_sem, R185_6, v185, p185]
      refine awp_ret ?_
      try simp only [go_sem]
      refine fin _ _ false rfl ?_
      symm; simp; intro e; subst e; exact h3 rfl
    · intro h3
      refine awp_skip ?_
      simp only [go_sem]
      refine awp_reg ?_
      simp only [go_sem, R185_7, v185, p185, wrap_succ (i := i) (by omega)]
      refine ⟨xs.length - (i + 1), by omega, i + 1, _, _, _, rfl, by omega, ?_, rfl⟩
      rw [List.take_succ_eq_append_getElem h1, List.take_succ_eq_append_getElem h2, ht, h3]
  · intro h1
    refine awp_exit ?_
    simp only [go_sem]
    refine awp_sr ?_
    simp only [go_sem, R185_8, v185, p185]
    refine awp_ret ?_
    try simp only [go_sem]
    refine fin _ _ true rfl ?_
    have : i = xs.length := by omega
    subst this
    rw [List.take_length, hl, List.take_length] at ht
    simp [ht]
theorem toNode_ok (a : Node) (h : a.sz ≤ 1048576) : FS Tryz.prog 126 [] [.agg a.c] (.agg a.c) [] := by
  have hl : a.state.sz + a.tree.sz + a.log.sz + a.got.length + a.acked.length + szS List.length a.seen + a.sess.length + a.rises.length ≤ 1048576 := h
  have hs_seen := szS_len List.length a.seen
  refine FS.of (X := X126) (ac := A126) (os := O126) Tryz.func126 (by rfl) (by rfl) (by kernel_rfl) o126 (Nat.le_of_ble_eq_true rfl) ?_
  show AWP X126 A126 (Ends X126.vs O126 0 _ _) [.agg a.c, .tup [], .tup [], .tup []] []
  obtain ⟨Q, hQ⟩ : ∃ Q, Q = Ends X126.vs O126 0 (.agg a.c) [] := ⟨_, rfl⟩
  rw [← hQ]
  refine awp_sr ?_
  simp only [go_sem, R126_0, v126, p126, Node.c]
  refine awp_sr ?_
  simp only [go_sem, R126_1, v126, p126]
  refine awp_sr ?_
  simp only [go_sem, R126_2, v126, p126]
  refine awp_sr ?_
  simp only [go_sem, R126_3, v126, p126]
  refine awp_sr ?_
  simp only [go_sem, R126_4, v126, p126]
  refine run_see (toState_ok a.state (by omega)) false (Views.refl rfl) rfl (fun j hj => by omega) (fun h => by cases h) ?_
  simp only [go_sem, v126, p126, State.c]
  refine awp_sr ?_
  simp only [go_sem, R126_5, v126, p126]
  refine run_see (toTree_ok a.tree (by omega)) false (Views.refl rfl) rfl (fun j hj => by omega) (fun h => by cases h) ?_
  simp only [go_sem, v126, p126, Tree.c]
  refine awp_sr ?_
  simp only [go_sem, R126_6, v126, p126]
  refine run_see (toLog_ok a.log (by omega)) false (Views.refl rfl) rfl (fun j hj => by omega) (fun h => by cases h) ?_
  simp only [go_sem, v126, p126, Log.c]
  refine awp_sr ?_
  simp only [go_sem, R126_7, v126, p126]
  refine run_see (toIntS_ok a.got (by omega)) false (Views.refl rfl) rfl (fun j hj => by omega) (fun h => by cases h) ?_
  simp only [go_sem, v126, p126]
  refine awp_sr ?_
  simp only [go_sem, R126_8, v126, p126]
  refine run_see (toIntS_ok a.acked (by omega)) false (Views.refl rfl) rfl (fun j hj => by omega) (fun h => by cases h) ?_
  simp only [go_sem, v126, p126]
  refine awp_sr ?_
  simp only [go_sem, R126_9, v126, p126]
  refine run_see (toIntSS_ok a.seen (by omega)) false (Views.refl rfl) rfl (fun j hj => by omega) (fun h => by cases h) ?_
  simp only [go_sem, v126, p126]
  refine awp_sr ?_
  simp only [go_sem, R126_10, v126, p126]
  refine awp_sr ?_
  simp only [go_sem, R126_11, v126, p126]
  refine awp_sr ?_
  simp only [go_sem, R126_12, v126, p126]
  refine run_see (toSessS_ok a.sess (by omega)) false (Views.refl rfl) rfl (fun j hj => by omega) (fun h => by cases h) ?_
  simp only [go_sem, v126, p126]
  refine awp_sr ?_
  simp only [go_sem, R126_13, v126, p126]
  refine awp_sr ?_
  simp only [go_sem, R126_14, v126, p126]
  refine awp_sr ?_
  simp only [go_sem, R126_15, v126, p126]
  refine awp_sr ?_
  simp only [go_sem, R126_16, v126, p126]
  refine run_see (toRiseS_ok a.rises (by omega)) false (Views.refl rfl) rfl (fun j hj => by omega) (fun h => by cases h) ?_
  simp only [go_sem, v126, p126]
  refine awp_sr ?_
  simp only [go_sem, R126_17, v126, p126]
  refine awp_ret ?_
  try simp only [go_sem]
  rw [hQ]
  exact Ends.plain (.inl rfl) rfl (.refl _) rfl
theorem eqNode_ok (a b : Node) (h : a.sz ≤ 1048576) : FS Tryz.prog 129 [] [.agg a.c, .agg b.c] (.bool (decide (a = b))) [] := by
  have hl : a.state.sz + a.tree.sz + a.log.sz + a.got.length + a.acked.length + szS List.length a.seen + a.sess.length + a.rises.length ≤ 1048576 := h
  have hs_seen := szS_len List.length a.seen
  refine FS.of (X := X129) (ac := A129) (os := O129) Tryz.func129 (by rfl) (by rfl) (by kernel_rfl) o129 (Nat.le_of_ble_eq_true rfl) ?_
  show AWP X129 A129 (Ends X129.vs O129 0 _ _) [.agg a.c, .agg b.c, .tup [], .tup [], .tup [], .tup [], .tup [], .tup [], .tup [], .tup [], .tup [], .tup [], .tup [], .tup [], .tup [], .tup [], .tup [], .tup [], .tup [], .tup []] []
  obtain ⟨Q, hQ⟩ : ∃ Q, Q = Ends X129.vs O129 0 (.bool (decide (a = b))) [] := ⟨_, rfl⟩
  rw [← hQ]
  have fin : ∀ L σ q, look X129.vs L 4 = .bool q → q = decide (a = b) → Q .ret L σ := by
    intro L σ q h1 h2
    rw [hQ]
    refine Ends.is (.inl rfl) (rs := [.bool q]) (by simp only [go_sem, O129, h1]) ?_ rfl
    simp [packV, h2]
  refine awp_sr ?_
  simp only [go_sem, R129_0, v129, p129, Node.c]
  refine awp_sr2 ?_
  simp only [go_sem, R129_1, v129, p129]
  refine awp_if rfl ?_ ?_
  · intro h
    refine awp_sr ?_
    simp only [go_sem, R129_2, v129, p129]
    refine awp_ret ?_
    try simp only [go_sem]
    exact fin _ _ _ rfl (decide_eq_false fun e => h (by rw [e])).symm
  intro h0
  refine awp_skip ?_
  simp only [go_sem]
  refine awp_sr2 ?_
  simp only [go_sem, R129_3, v129, p129]
  refine awp_if rfl ?_ ?_
  · intro h
    refine awp_sr ?_
    simp only [go_sem, R129_4, v129, p129]
    refine awp_ret ?_
    try simp only [go_sem]
    exact fin _ _ _ rfl (decide_eq_false fun e => h (by rw [e])).symm
  intro h1
  refine awp_skip ?_
  simp only [go_sem]
  refine awp_sr2 ?_
  simp only [go_sem, R129_5, v129, p129]
  refine run_see (eqState_ok a.state b.state (by omega)) false (Views.refl rfl) rfl (fun j hj => by omega) (fun h => by cases h) ?_
  simp only [go_sem, v129, p129]
  refine awp_if' rfl ?_ ?_
  · intro h
    refine awp_sr ?_
    simp only [go_sem, R129_6, v129, p129]
    refine awp_ret ?_
    try simp only [go_sem]
    exact fin _ _ _ rfl (decide_eq_false fun e => h (by rw [e])).symm
  intro h2
  refine awp_skip ?_
  simp only [go_sem]
  refine awp_sr2 ?_
  simp only [go_sem, R129_7, v129, p129]
  refine run_see (eqTree_ok a.tree b.tree (by omega)) false (Views.refl rfl) rfl (fun j hj => by omega) (fun h => by cases h) ?_
  simp only [go_sem, v129, p129]
  refine awp_if' rfl ?_ ?_
  · intro h
    refine awp_sr ?_
    simp only [go_sem, R129_8, v129, p129]
    refine awp_ret ?_
    try simp only [go_sem]
    exact fin _ _ _ rfl (decide_eq_false fun e => h (by rw [e])).symm
  intro h3
  refine awp_skip ?_
  simp only [go_sem]
  refine awp_sr2 ?_
  simp only [go_sem, R129_9, v129, p129]
  refine run_see (eqLog_ok a.log b.log (by omega)) false (Views.refl rfl) rfl (fun j hj => by omega) (fun h => by cases h) ?_
  simp only [go_sem, v129, p129]
  refine awp_if' rfl ?_ ?_
  · intro h
    refine awp_sr ?_
    simp only [go_sem, R129_10, v129, p129]
    refine awp_ret ?_
    try simp only [go_sem]
    exact fin _ _ _ rfl (decide_eq_false fun e => h (by rw [e])).symm
  intro h4
  refine awp_skip ?_
  simp only [go_sem]
  refine awp_sr2 ?_
  simp only [go_sem, R129_11, v129, p129]
  refine run_see (eqIntS_ok a.got b.got (by omega)) false (Views.refl rfl) rfl (fun j hj => by omega) (fun h => by cases h) ?_
  simp only [go_sem, v129, p129]
  refine awp_if' rfl ?_ ?_
  · intro h
    refine awp_sr ?_
    simp only [go_sem, R129_12, v129, p129]
    refine awp_ret ?_
    try simp only [go_sem]
    exact fin _ _ _ rfl (decide_eq_false fun e => h (by rw [e])).symm
  intro h5
  refine awp_skip ?_
  simp only [go_sem]
  refine awp_sr2 ?_
  simp only [go_sem, R129_13, v129, p129]
  refine run_see (eqIntS_ok a.acked b.acked (by omega)) false (Views.refl rfl) rfl (fun j hj => by omega) (fun h => by cases h) ?_
  simp only [go_sem, v129, p129]
  refine awp_if' rfl ?_ ?_
  · intro h
    refine awp_sr ?_
    simp only [go_sem, R129_14, v129, p129]
    refine awp_ret ?_
    try simp only [go_sem]
    exact fin _ _ _ rfl (decide_eq_false fun e => h (by rw [e])).symm
  intro h6
  refine awp_skip ?_
  simp only [go_sem]
  refine awp_sr2 ?_
  simp only [go_sem, R129_15, v129, p129]
  refine run_see (eqIntSS_ok a.seen b.seen (by omega) (by omega)) false (Views.refl rfl) rfl (fun j hj => by omega) (fun h => by cases h) ?_
  simp only [go_sem, v129, p129]
  refine awp_if' rfl ?_ ?_
  · intro h
    refine awp_sr ?_
    simp only [go_sem, R129_16, v129, p129]
    refine awp_ret ?_
    try simp only [go_sem]
    exact fin _ _ _ rfl (decide_eq_false fun e => h (by rw [e])).symm
  intro h7
  refine awp_skip ?_
  simp only [go_sem]
  refine awp_sr2 ?_
  simp only [go_sem, R129_17, v129, p129]
  refine awp_if rfl ?_ ?_
  · intro h
    refine awp_sr ?_
    simp only [go_sem, R129_18, v129, p129]
    refine awp_ret ?_
    try simp only [go_sem]
    exact fin _ _ _ rfl (decide_eq_false fun e => h (by rw [e])).symm
  intro h8
  refine awp_skip ?_
  simp only [go_sem]
  refine awp_sr2 ?_
  simp only [go_sem, R129_19, v129, p129]
  refine awp_if rfl ?_ ?_
  · intro h
    refine awp_sr ?_
    simp only [go_sem, R129_20, v129, p129]
    refine awp_ret ?_
    try simp only [go_sem]
    exact fin _ _ _ rfl (decide_eq_false fun e => h (by rw [e])).symm
  intro h9
  refine awp_skip ?_
  simp only [go_sem]
  refine awp_sr2 ?_
  simp only [go_sem, R129_21, v129, p129]
  refine run_see (eqSessS_ok a.sess b.sess (by omega)) false (Views.refl rfl) rfl (fun j hj => by omega) (fun h => by cases h) ?_
  simp only [go_sem, v129, p129]
  refine awp_if' rfl ?_ ?_
  · intro h
    refine awp_sr ?_
    simp only [go_sem, R129_22, v129, p129]
    refine awp_ret ?_
    try simp only [go_sem]
    exact fin _ _ _ rfl (decide_eq_false fun e => h (by rw [e])).symm
  intro h10
  refine awp_skip ?_
  simp only [go_sem]
  refine awp_sr2 ?_
  simp only [go_sem, R129_23, v129, p129]
  refine awp_if rfl ?_ ?_
  · intro h
    refine awp_sr ?_
    simp only [go_sem, R129_24, v129, p129]
    refine awp_ret ?_
    try simp only [go_sem]
    exact fin _ _ _ rfl (decide_eq_false fun e => h (by rw [e])).symm
  intro h11
  refine awp_skip ?_
  simp only [go_sem]
  refine awp_sr2 ?_
  simp only [go_sem, R129_25, v129, p129]
  refine awp_if rfl ?_ ?_
  · intro h
    refine awp_sr ?_
    simp only [go_sem, R129_26, v129, p129]
    refine awp_ret ?_
    try simp only [go_sem]
    exact fin _ _ _ rfl (decide_eq_false fun e => h (by rw [e])).symm
  intro h12
  refine awp_skip ?_
  simp only [go_sem]
  refine awp_sr2 ?_
  simp only [go_sem, R129_27, v129, p129]
  refine awp_if rfl ?_ ?_
  · intro h
    refine awp_sr ?_
    simp only [go_sem, R129_28, v129, p129]
    refine awp_ret ?_
    try simp only [go_sem]
    exact fin _ _ _ rfl (decide_eq_false fun e => h (by rw [e])).symm
  intro h13
  refine awp_skip ?_
  simp only [go_sem]
  refine awp_sr2 ?_
  simp only [go_sem, R129_29, v129, p129]
  refine run_see (eqRiseS_ok a.rises b.rises (by omega)) false (Views.refl rfl) rfl (fun j hj => by omega) (fun h => by cases h) ?_
  simp only [go_sem, v129, p129]
  refine awp_if' rfl ?_ ?_
  · intro h
    refine awp_sr ?_
    simp only [go_sem, R129_30, v129, p129]
    refine awp_ret ?_
    try simp only [go_sem]
    exact fin _ _ _ rfl (decide_eq_false fun e => h (by rw [e])).symm
  intro h14
  refine awp_skip ?_
  simp only [go_sem]
  refine awp_sr ?_
  simp only [go_sem, R129_31, v129, p129]
  refine awp_ret ?_
  try simp only [go_sem]
  refine fin _ _ _ rfl (decide_eq_true ?_).symm
  cases a; cases b
  simp at h0 h1 h2 h3 h4 h5 h6 h7 h8 h9 h10 h11 h12 h13 h14
  simp [h0, h1, h2, h3, h4, h5, h6, h7, h8, h9, h10, h11, h12, h13, h14]
theorem szNode_ok (a : Node) (n : Nat) (hn : n ≤ 1048576) (ha : a.ok) : FS Tryz.prog 123 [] [.agg a.c, .int .i64 n] (.int .i64 (left n a.sz)) [] := by
  refine FS.of (X := X123) (ac := A123) (os := O123) Tryz.func123 (by rfl) (by rfl) (by kernel_rfl) o123 (Nat.le_of_ble_eq_true rfl) ?_
  show AWP X123 A123 (Ends X123.vs O123 0 _ _) [.agg a.c, .int .i64 n, .tup [], .tup [], .tup [], .tup [], .tup [], .tup [], .tup [], .tup [], .tup [], .tup []] []
  obtain ⟨Q, hQ⟩ : ∃ Q, Q = Ends X123.vs O123 0 (.int .i64 (left n a.sz)) [] := ⟨_, rfl⟩
  rw [← hQ]
  obtain ⟨p0, p1, p2, p3, p4, p5, p6, p7⟩ := ha
  have tot : a.sz = a.state.sz + a.tree.sz + a.log.sz + a.got.length + a.acked.length + szS List.length a.seen + a.sess.length + a.rises.length := rfl
  refine awp_sr ?_
  simp only [go_sem, R123_0, v123, p123, Node.c]
  refine awp_sr ?_
  simp only [go_sem, R123_1, v123, p123]
  refine run_see (szState_ok a.state n (by omega) p0) false (Views.refl rfl) rfl (fun j hj => by omega) (fun h => by cases h) ?_
  simp only [go_sem, v123, p123]
  refine awp_sr2 ?_
  simp only [go_sem, R123_2, v123, p123]
  refine awp_if rfl ?_ ?_
  · intro h
    refine awp_sr ?_
    simp only [go_sem, R123_3, v123, p123]
    refine awp_ret ?_
    try simp only [go_sem]
    rw [hQ]
    refine Ends.is (.inl rfl) rfl (congrArg (V.int .i64) (left_no ?_).symm) rfl
    have : ¬ a.state.sz ≤ n := fun e => by rw [left_is e] at h; omega
    omega
  intro h0
  obtain ⟨e0, g0⟩ := left_pos h0
  rw [e0]
  refine awp_skip ?_
  simp only [go_sem]
  refine awp_sr ?_
  simp only [go_sem, R123_4, v123, p123]
  refine run_see (szTree_ok a.tree (n - a.state.sz) (by omega) p1) false (Views.refl rfl) rfl (fun j hj => by omega) (fun h => by cases h) ?_
  simp only [go_sem, v123, p123]
  refine awp_sr2 ?_
  simp only [go_sem, R123_5, v123, p123]
  refine awp_if rfl ?_ ?_
  · intro h
    refine awp_sr ?_
    simp only [go_sem, R123_6, v123, p123]
    refine awp_ret ?_
    try simp only [go_sem]
    rw [hQ]
    refine Ends.is (.inl rfl) rfl (congrArg (V.int .i64) (left_no ?_).symm) rfl
    have : ¬ a.tree.sz ≤ (n - a.state.sz) := fun e => by rw [left_is e] at h; omega
    omega
  intro h1
  obtain ⟨e1, g1⟩ := left_pos h1
  rw [e1]
  refine awp_skip ?_
  simp only [go_sem]
  refine awp_sr ?_
  simp only [go_sem, R123_7, v123, p123]
  refine run_see (szLog_ok a.log ((n - a.state.sz) - a.tree.sz) (by omega) p2) false (Views.refl rfl) rfl (fun j hj => by omega) (fun h => by cases h) ?_
  simp only [go_sem, v123, p123]
  refine awp_sr2 ?_
  simp only [go_sem, R123_8, v123, p123]
  refine awp_if rfl ?_ ?_
  · intro h
    refine awp_sr ?_
    simp only [go_sem, R123_9, v123, p123]
    refine awp_ret ?_
    try simp only [go_sem]
    rw [hQ]
    refine Ends.is (.inl rfl) rfl (congrArg (V.int .i64) (left_no ?_).symm) rfl
    have : ¬ a.log.sz ≤ ((n - a.state.sz) - a.tree.sz) := fun e => by rw [left_is e] at h; omega
    omega
  intro h2
  obtain ⟨e2, g2⟩ := left_pos h2
  rw [e2]
  refine awp_skip ?_
  simp only [go_sem]
  refine awp_sr ?_
  simp only [go_sem, R123_10, v123, p123]
  refine run_see (szIntS_ok a.got (((n - a.state.sz) - a.tree.sz) - a.log.sz) (by omega) p3) false (Views.refl rfl) rfl (fun j hj => by omega) (fun h => by cases h) ?_
  simp only [go_sem, v123, p123]
  refine awp_sr2 ?_
  simp only [go_sem, R123_11, v123, p123]
  refine awp_if rfl ?_ ?_
  · intro h
    refine awp_sr ?_
    simp only [go_sem, R123_12, v123, p123]
    refine awp_ret ?_
    try simp only [go_sem]
    rw [hQ]
    refine Ends.is (.inl rfl) rfl (congrArg (V.int .i64) (left_no ?_).symm) rfl
    have : ¬ a.got.length ≤ (((n - a.state.sz) - a.tree.sz) - a.log.sz) := fun e => by rw [left_is e] at h; omega
    omega
  intro h3
  obtain ⟨e3, g3⟩ := left_pos h3
  rw [e3]
  refine awp_skip ?_
  simp only [go_sem]
  refine awp_sr ?_
  simp only [go_sem, R123_13, v123, p123]
  refine run_see (szIntS_ok a.acked ((((n - a.state.sz) - a.tree.sz) - a.log.sz) - a.got.length) (by omega) p4) false (Views.refl rfl) rfl (fun j hj => by omega) (fun h => by cases h) ?_
  simp only [go_sem, v123, p123]
  refine awp_sr2 ?_
  simp only [go_sem, R123_14, v123, p123]
  refine awp_if rfl ?_ ?_
  · intro h
    refine awp_sr ?_
    simp only [go_sem, R123_15, v123, p123]
    refine awp_ret ?_
    try simp only [go_sem]
    rw [hQ]
    refine Ends.is (.inl rfl) rfl (congrArg (V.int .i64) (left_no ?_).symm) rfl
    have : ¬ a.acked.length ≤ ((((n - a.state.sz) - a.tree.sz) - a.log.sz) - a.got.length) := fun e => by rw [left_is e] at h; omega
    omega
  intro h4
  obtain ⟨e4, g4⟩ := left_pos h4
  rw [e4]
  refine awp_skip ?_
  simp only [go_sem]
  refine awp_sr ?_
  simp only [go_sem, R123_16, v123, p123]
  refine run_see (szIntSS_ok a.seen (((((n - a.state.sz) - a.tree.sz) - a.log.sz) - a.got.length) - a.acked.length) (by omega) p5) false (Views.refl rfl) rfl (fun j hj => by omega) (fun h => by cases h) ?_
  simp only [go_sem, v123, p123]
  refine awp_sr2 ?_
  simp only [go_sem, R123_17, v123, p123]
  refine awp_if rfl ?_ ?_
  · intro h
    refine awp_sr ?_
    simp only [go_sem, R123_18, v123, p123]
    refine awp_ret ?_
    try simp only [go_sem]
    rw [hQ]
    refine Ends.is (.inl rfl) rfl (congrArg (V.int .i64) (left_no ?_).symm) rfl
    have : ¬ szS List.length a.seen ≤ (((((n - a.state.sz) - a.tree.sz) - a.log.sz) - a.got.length) - a.acked.length) := fun e => by rw [left_is e] at h; omega
    omega
  intro h5
  obtain ⟨e5, g5⟩ := left_pos h5
  rw [e5]
  refine awp_skip ?_
  simp only [go_sem]
  refine awp_sr ?_
  simp only [go_sem, R123_19, v123, p123]
  refine run_see (szSessS_ok a.sess ((((((n - a.state.sz) - a.tree.sz) - a.log.sz) - a.got.length) - a.acked.length) - szS List.length a.seen) (by omega) p6) false (Views.refl rfl) rfl (fun j hj => by omega) (fun h => by cases h) ?_
  simp only [go_sem, v123, p123]
  refine awp_sr2 ?_
  simp only [go_sem, R123_20, v123, p123]
  refine awp_if rfl ?_ ?_
  · intro h
    refine awp_sr ?_
    simp only [go_sem, R123_21, v123, p123]
    refine awp_ret ?_
    try simp only [go_sem]
    rw [hQ]
    refine Ends.is (.inl rfl) rfl (congrArg (V.int .i64) (left_no ?_).symm) rfl
    have : ¬ a.sess.length ≤ ((((((n - a.state.sz) - a.tree.sz) - a.log.sz) - a.got.length) - a.acked.length) - szS List.length a.seen) := fun e => by rw [left_is e] at h; omega
    omega
  intro h6
  obtain ⟨e6, g6⟩ := left_pos h6
  rw [e6]
  refine awp_skip ?_
  simp only [go_sem]
  refine awp_sr ?_
  simp only [go_sem, R123_22, v123, p123]
  refine run_see (szRiseS_ok a.rises (((((((n - a.state.sz) - a.tree.sz) - a.log.sz) - a.got.length) - a.acked.length) - szS List.length a.seen) - a.sess.length) (by omega) p7) false (Views.refl rfl) rfl (fun j hj => by omega) (fun h => by cases h) ?_
  simp only [go_sem, v123, p123]
  refine awp_sr2 ?_
  simp only [go_sem, R123_23, v123, p123]
  refine awp_if rfl ?_ ?_
  · intro h
    refine awp_sr ?_
    simp only [go_sem, R123_24, v123, p123]
    refine awp_ret ?_
    try simp only [go_sem]
    rw [hQ]
    refine Ends.is (.inl rfl) rfl (congrArg (V.int .i64) (left_no ?_).symm) rfl
    have : ¬ a.rises.length ≤ (((((((n - a.state.sz) - a.tree.sz) - a.log.sz) - a.got.length) - a.acked.length) - szS List.length a.seen) - a.sess.length) := fun e => by rw [left_is e] at h; omega
    omega
  intro h7
  obtain ⟨e7, g7⟩ := left_pos h7
  rw [e7]
  refine awp_skip ?_
  simp only [go_sem]
  refine awp_sr ?_
  simp only [go_sem, R123_25, v123, p123]
  refine awp_ret ?_
  try simp only [go_sem]
  rw [hQ]
  refine Ends.is (.inl rfl) rfl (congrArg (V.int .i64) ?_) rfl
  rw [left_is (by omega)]
  omega
end Go.Proofs.YtffigokicddekaaGreat.Abs
/- Rows of bytes: copies, sizes, equality. No condition. -/
set_option linter.unusedVariables false
set_option linter.unusedSimpArgs false
set_option maxRecDepth 10000
namespace Go.Proofs.YtffigokicddekaaGreat.Abs
open Go Go.Proofs
def R180_0 : List AR := [⟨(some 2), none, 0, (.mov (.k .nl))⟩]
def R180_1 : List AR := [⟨(some 5), none, 0, (.mov (.t 0))⟩, ⟨(some 6), none, 0, (.len (.t 5))⟩, ⟨(some 7), none, 0, (.mks 0 1 1 [(.int .u8 0)] (.t 6) (.t 6))⟩, ⟨(some 3), none, 0, (.mov (.t 7))⟩]
def R180_2 : List AR := [⟨(some 4), none, 0, (.mov (.k (.int .i64 0)))⟩]
def R180_3 : List AR := [⟨(some 8), none, 0, (.mov (.t 4))⟩, ⟨(some 9), none, 0, (.mov (.t 0))⟩, ⟨(some 10), none, 0, (.len (.t 9))⟩, ⟨(some 11), none, 0, (.bin .lss (.t 8) (.t 10))⟩]
def R180_4 : List AR := [⟨(some 14), none, 0, (.mov (.t 3))⟩, ⟨(some 15), none, 0, (.mov (.t 4))⟩, ⟨(some 16), none, 0, (.mov (.t 0))⟩, ⟨(some 17), none, 0, (.mov (.t 4))⟩, ⟨(some 18), none, 0, (.iaddr 1 (.t 16) (.t 17))⟩, ⟨(some 19), none, 0, (.load 1 false (.t 18))⟩, ⟨(some 20), none, 0, (.iaddr 1 (.t 14) (.t 15))⟩, ⟨none, none, 0, (.store 1 (.t 20) (.t 19))⟩]
def R180_5 : List AR := [⟨(some 12), none, 0, (.mov (.t 4))⟩, ⟨(some 13), none, 0, (.bin .add (.t 12) (.k (.int .i64 1)))⟩, ⟨(some 4), none, 0, (.mov (.t 13))⟩]
def A180_0 : AC := (.seq (.block 1 (.reg 0 R180_4)) (.reg 0 R180_5))
def L180_0 : AC := (.seq (.seq (.reg 0 R180_3) (.cond (.t 11) .skip (.exit 0))) A180_0)
def R180_6 : List AR := [⟨(some 21), none, 0, (.mov (.t 3))⟩, ⟨(some 2), none, 0, (.mov (.t 21))⟩]
def A180_1 : AC := (.seq (.reg 0 R180_6) .ret)
def A180_2 : AC := (.seq (.seq (.reg 0 R180_2) (.block 0 (.loop L180_0))) A180_1)
def A180_3 : AC := (.seq (.reg 1 R180_1) A180_2)
def A180 : AC := (.seq (.reg 0 R180_0) A180_3)
def O180 : List AO := [(.mov (.t 2))]
def G180 : Fns := ⟨fun f => false, fun f => 0, false⟩
noncomputable def X180 : Cx := ⟨Tryz.prog, G180, drawD, 22, [0, 2, 3, 4, 11]⟩
theorem c180 : (Tryz.f180.body).bind (compC X180.P X180.Γ X180.D X180.nt) = some A180 := by kernel_rfl
theorem o180 : compRes X180.P Tryz.f180.results.toList = some O180 := by kernel_rfl
theorem v180 : X180.vs = [0, 2, 3, 4, 11] := rfl
theorem p180 : X180.P = Tryz.prog := rfl
def R188_0 : List AR := [⟨(some 4), none, 0, (.mov (.k (.bool false)))⟩]
def R188_1 : List AR := [⟨(some 6), none, 0, (.mov (.t 0))⟩, ⟨(some 7), none, 0, (.len (.t 6))⟩, ⟨(some 8), none, 0, (.mov (.t 1))⟩, ⟨(some 9), none, 0, (.len (.t 8))⟩, ⟨(some 10), none, 0, (.bin .neq (.t 7) (.t 9))⟩]
def R188_2 : List AR := [⟨(some 4), none, 0, (.mov (.k (.bool false)))⟩]
def R188_3 : List AR := [⟨(some 5), none, 0, (.mov (.k (.int .i64 0)))⟩]
def R188_4 : List AR := [⟨(some 11), none, 0, (.mov (.t 5))⟩, ⟨(some 12), none, 0, (.mov (.t 0))⟩, ⟨(some 13), none, 0, (.len (.t 12))⟩, ⟨(some 14), none, 0, (.bin .lss (.t 11) (.t 13))⟩]
def R188_5 : List AR := [⟨(some 17), none, 0, (.mov (.t 0))⟩, ⟨(some 18), none, 0, (.mov (.t 5))⟩, ⟨(some 19), none, 0, (.iaddr 1 (.t 17) (.t 18))⟩, ⟨(some 20), none, 0, (.load 1 false (.t 19))⟩, ⟨(some 21), none, 0, (.mov (.t 1))⟩, ⟨(some 22), none, 0, (.mov (.t 5))⟩, ⟨(some 23), none, 0, (.iaddr 1 (.t 21) (.t 22))⟩, ⟨(some 24), none, 0, (.load 1 false (.t 23))⟩, ⟨(some 25), none, 0, (.bin .neq (.t 20) (.t 24))⟩]
def R188_6 : List AR := [⟨(some 4), none, 0, (.mov (.k (.bool false)))⟩]
def R188_7 : List AR := [⟨(some 15), none, 0, (.mov (.t 5))⟩, ⟨(some 16), none, 0, (.bin .add (.t 15) (.k (.int .i64 1)))⟩, ⟨(some 5), none, 0, (.mov (.t 16))⟩]
def A188_0 : AC := (.seq (.block 1 (.seq (.draw 0 R188_5) (.cond (.t 25) (.seq (.reg 0 R188_6) .ret) .skip))) (.reg 0 R188_7))
def L188_0 : AC := (.seq (.seq (.reg 0 R188_4) (.cond (.t 14) .skip (.exit 0))) A188_0)
def R188_8 : List AR := [⟨(some 4), none, 0, (.mov (.k (.bool true)))⟩]
def A188_1 : AC := (.seq (.reg 0 R188_8) .ret)
def A188_2 : AC := (.seq (.seq (.reg 0 R188_3) (.block 0 (.loop L188_0))) A188_1)
def A188_3 : AC := (.seq (.seq (.reg 0 R188_1) (.cond (.t 10) (.seq (.reg 0 R188_2) .ret) .skip)) A188_2)
def A188 : AC := (.seq (.reg 0 R188_0) A188_3)
def O188 : List AO := [(.mov (.t 4))]
def G188 : Fns := ⟨fun f => false, fun f => 0, false⟩
noncomputable def X188 : Cx := ⟨Tryz.prog, G188, drawD, 26, [0, 1, 4, 5, 10, 14, 25]⟩
theorem c188 : (Tryz.f188.body).bind (compC X188.P X188.Γ X188.D X188.nt) = some A188 := by kernel_rfl
theorem o188 : compRes X188.P Tryz.f188.results.toList = some O188 := by kernel_rfl
theorem v188 : X188.vs = [0, 1, 4, 5, 10, 14, 25] := rfl
theorem p188 : X188.P = Tryz.prog := rfl
def R172_0 : List AR := [⟨(some 4), none, 0, (.mov (.k (.int .i64 0)))⟩]
def R172_1 : List AR := [⟨(some 5), none, 0, (.mov (.t 1))⟩, ⟨(some 6), none, 0, (.mov (.t 0))⟩, ⟨(some 7), none, 0, (.len (.t 6))⟩, ⟨(some 8), none, 0, (.bin .sub (.t 5) (.t 7))⟩, ⟨(some 1), none, 0, (.mov (.t 8))⟩]
def R172_2 : List AR := [⟨(some 9), none, 0, (.mov (.t 1))⟩, ⟨(some 10), none, 0, (.bin .lss (.t 9) (.k (.int .i64 0)))⟩]
def R172_3 : List AR := [⟨(some 4), none, 0, (.mov (.k (.int .i64 (-1))))⟩]
def R172_4 : List AR := [⟨(some 11), none, 0, (.mov (.t 1))⟩, ⟨(some 4), none, 0, (.mov (.t 11))⟩]
def A172_0 : AC := (.seq (.reg 0 R172_4) .ret)
def A172_1 : AC := (.seq (.seq (.reg 0 R172_2) (.cond (.t 10) (.seq (.reg 0 R172_3) .ret) .skip)) A172_0)
def A172_2 : AC := (.seq (.reg 0 R172_1) A172_1)
def A172 : AC := (.seq (.reg 0 R172_0) A172_2)
def O172 : List AO := [(.mov (.t 4))]
def G172 : Fns := ⟨fun f => false, fun f => 0, false⟩
noncomputable def X172 : Cx := ⟨Tryz.prog, G172, drawD, 12, [0, 1, 4, 10]⟩
theorem c172 : (Tryz.f172.body).bind (compC X172.P X172.Γ X172.D X172.nt) = some A172 := by kernel_rfl
theorem o172 : compRes X172.P Tryz.f172.results.toList = some O172 := by kernel_rfl
theorem v172 : X172.vs = [0, 1, 4, 10] := rfl
theorem p172 : X172.P = Tryz.prog := rfl
theorem byte_ne {a b : UInt8} : a ≠ b ↔ (a.toNat : Int) ≠ (b.toNat : Int) := by
  constructor
  · intro h e; exact h (UInt8.toNat_inj.1 (by omega))
  · intro h e; exact h (by rw [e])
theorem toByteS_ok (xs : List UInt8) (h : xs.length ≤ 1048576) : FS Tryz.prog 180 [] [.fz 1 (rw_ byteC xs)] (.fz 1 (rw_ byteC xs)) [] := by
  refine FS.of (X := X180) (ac := A180) (os := O180) Tryz.func180 (by rfl) (by rfl) (by kernel_rfl) o180 (Nat.le_of_ble_eq_true rfl) ?_
  show AWP X180 A180 (Ends X180.vs O180 0 _ _) [.fz 1 (rw_ byteC xs), .tup [], .tup [], .tup [], .tup []] []
  obtain ⟨Q, hQ⟩ : ∃ Q, Q = Ends X180.vs O180 0 (.fz 1 (rw_ byteC xs)) [] := ⟨_, rfl⟩
  rw [← hQ]
  refine awp_sr ?_
  simp only [go_sem, R180_0, v180, p180]
  refine awp_sr ?_
  simp only [go_sem, R180_1, v180, p180]
  refine ⟨by omega, ?_⟩
  refine (fun G : AWP X180 _ _ _ [.live ⟨1, List.replicate xs.length (byteC 0)⟩] => G) ?_
  rw [rw_rep byteC]
  refine awp_sr2 ?_
  simp only [go_sem, R180_2, v180, p180]
  obtain ⟨I, hI⟩ : ∃ I : Nat → List V → Store → Prop, I = fun mM L σ => ∃ i ys y11, xs.length - i = mM ∧ (i ≤ xs.length ∧ ys.length = xs.length ∧ ys.take i = xs.take i) ∧ L = [.fz 1 (rw_ byteC xs), .nl, .sl 0 1 0 xs.length, .int .i64 (i : Nat), y11] ∧ σ = [.live ⟨1, rw_ byteC ys⟩] := ⟨_, rfl⟩
  first | refine awp_for I (xs.length) ?_ ?_ | refine awp_seq (awp_for I (xs.length) ?_ ?_)
  · rw [hI]
    refine ⟨0, List.replicate xs.length 0, _, rfl, ?_, rfl, rfl⟩
    exact ⟨Nat.zero_le _, by simp, by simp⟩
  intro mM L σ hIn
  rw [hI] at hIn
  obtain ⟨i, ys, y11, rfl, hP, rfl, rfl⟩ := hIn
  obtain ⟨hi, hl, ht⟩ := hP
  refine awp_sr2 ?_
  simp only [go_sem, R180_3, v180, p180]
  refine awp_if rfl ?_ ?_
  · intro h1
    have h1 : i < xs.length := by omega
    have h2 : i < ys.length := by omega
    refine awp_skip ?_
    simp only [go_sem]
    refine awp_seq (awp_block ?_)
    refine awp_reg ?_
    simp only [go_sem, R180_4, v180, p180, rw_at _ h1, rw_at _ h2, byteC]
    refine ⟨by omega, ?_⟩
    refine awp_reg ?_
    simp only [go_sem, R180_5, v180, p180, wrap_succ (i := i) (by omega)]
    rw [show [V.int .u8 (xs[i].toNat : Int)] = byteC xs[i] from rfl, rw_set byteC]
    refine ⟨xs.length - (i + 1), ?_, ?_⟩
    rotate_left
    rw [hI]
    refine ⟨i + 1, ys.set i xs[i], _, rfl, ?_, rfl, rfl⟩
    · refine ⟨by omega, by simpa using hl, ?_⟩
      rw [List.take_succ_eq_append_getElem h1, List.take_succ_eq_append_getElem (by simpa using h2), List.take_set_of_le (Nat.le_refl _), ht]
      simp
    · omega
  · intro h1
    refine awp_exit ?_
    simp only [go_sem]
    refine awp_sr ?_
    simp only [go_sem, R180_6, v180, p180]
    refine awp_ret ?_
    try simp only [go_sem]
    have : i = xs.length := by omega
    subst this
    rw [List.take_length, ← hl, List.take_length] at ht
    subst ht
    rw [hQ]
    exact Ends.frzSl (.inl rfl) rfl rfl (by simp [rw_]) (rw_closed byteC_closed _)
theorem eqByteS_ok (xs ys : List UInt8) (h : xs.length ≤ 1048576) : FS Tryz.prog 188 [] [.fz 1 (rw_ byteC xs), .fz 1 (rw_ byteC ys)] (.bool (decide (xs = ys))) [] := by
  refine FS.of (X := X188) (ac := A188) (os := O188) Tryz.func188 (by rfl) (by rfl) (by kernel_rfl) o188 (Nat.le_of_ble_eq_true rfl) ?_
  show AWP X188 A188 (Ends X188.vs O188 0 _ _) [.fz 1 (rw_ byteC xs), .fz 1 (rw_ byteC ys), .tup [], .tup [], .tup [], .tup [], .tup []] []
  obtain ⟨Q, hQ⟩ : ∃ Q, Q = Ends X188.vs O188 0 (.bool (decide (xs = ys))) [] := ⟨_, rfl⟩
  rw [← hQ]
  have fin : ∀ L σ vV, resVs O188 (look X188.vs L) σ = some [vV] → vV = (.bool (decide (xs = ys))) → Q .ret L σ := by
    intro L σ vV h1 h2
    rw [hQ]
    exact Ends.is (.inl rfl) h1 (by simp only [packV, h2]) rfl
  refine awp_sr ?_
  simp only [go_sem, R188_0, v188, p188]
  refine awp_sr2 ?_
  simp only [go_sem, R188_1, v188, p188]
  refine awp_if rfl ?_ ?_
  · intro h1
    refine awp_sr ?_
    simp only [go_sem, R188_2, v188, p188]
    refine awp_ret ?_
    try simp only [go_sem]
    exact fin _ _ (.bool false) rfl (congrArg V.bool (decide_eq_false fun e => h1 (by rw [e]))).symm
  intro h1
  have hl : xs.length = ys.length := by omega
  refine awp_skip ?_
  simp only [go_sem]
  refine awp_sr2 ?_
  simp only [go_sem, R188_3, v188, p188]
  obtain ⟨I, hI⟩ : ∃ I : Nat → List V → Store → Prop, I = fun mM L σ => ∃ i rest y10 y14 y25, mM = xs.length - i ∧ i ≤ xs.length ∧ (∀ j x y, j < i → xs[j]? = some x → ys[j]? = some y → x = y) ∧ L = [.fz 1 (rw_ byteC xs), .fz 1 (rw_ byteC ys), .bool false, .int .i64 (i : Nat), y10, y14, y25] ∧ σ = rest := ⟨_, rfl⟩
  first | refine awp_for I xs.length ?_ ?_ | refine awp_seq (awp_for I xs.length ?_ ?_)
  · rw [hI]; refine ⟨0, _, _, _, _, rfl, Nat.zero_le _, ?_, rfl, rfl⟩
    intro j x y h; omega
  intro mM L σ hIn
  rw [hI] at hIn
  obtain ⟨i, rest, y10, y14, y25, rfl, hi, hP, rfl, rfl⟩ := hIn
  refine awp_sr2 ?_
  simp only [go_sem, R188_4, v188, p188]
  refine awp_if rfl ?_ ?_
  · intro h2
    have h2 : i < xs.length := by omega
    have h3 : i < ys.length := by omega
    refine awp_skip ?_
    simp only [go_sem]
    first | refine awp_block ?_ | refine awp_seq (awp_block ?_)
    refine awp_sd mixed rfl (by rfl) ?_
    simp only [go_sem, R188_5, v188, p188, rw_at _ h2, rw_at _ h3, byteC]
    refine awp_if rfl ?_ ?_
    · intro h4
      refine awp_sr ?_
      simp only [go_sem, R188_6, v188, p188]
      refine awp_ret ?_
      try simp only [go_sem]
      exact fin _ _ (.bool false) rfl (congrArg V.bool (decide_eq_false fun e => by subst e; exact h4 rfl)).symm
    · intro h4
      refine awp_skip ?_
      simp only [go_sem]
      refine awp_reg ?_
      simp only [go_sem, R188_7, v188, p188, wrap_succ (i := i) (by omega)]
      refine ⟨xs.length - (i + 1), by omega, ?_⟩
      rw [hI]
      refine ⟨i + 1, _, _, _, _, rfl, by omega, ?_, rfl, rfl⟩
      intro j x y hj hx hy
      rcases Nat.lt_or_ge j i with h5 | h5
      · exact hP j x y h5 hx hy
      · have : j = i := by omega
        subst this
        rw [List.getElem?_eq_getElem h2] at hx
        rw [List.getElem?_eq_getElem h3] at hy
        cases hx; cases hy
        exact UInt8.toNat_inj.1 (by omega)
  · intro h2
    refine awp_exit ?_
    simp only [go_sem]
    refine awp_sr ?_
    simp only [go_sem, R188_8, v188, p188]
    refine awp_ret ?_
    try simp only [go_sem]
    refine fin _ _ (.bool true) rfl (congrArg V.bool (decide_eq_true ?_)).symm
    refine List.ext_getElem hl fun j h5 h6 => hP j _ _ (by omega) (List.getElem?_eq_getElem h5) (List.getElem?_eq_getElem h6)
theorem szByteS_ok (xs : List UInt8) (n : Nat) (hn : n ≤ 1048576) (ha : xs.length ≤ big) : FS Tryz.prog 172 [] [.fz 1 (rw_ byteC xs), .int .i64 n] (.int .i64 (left n xs.length)) [] := by
  refine FS.of (X := X172) (ac := A172) (os := O172) Tryz.func172 (by rfl) (by rfl) (by kernel_rfl) o172 (Nat.le_of_ble_eq_true rfl) ?_
  show AWP X172 A172 (Ends X172.vs O172 0 _ _) [.fz 1 (rw_ byteC xs), .int .i64 n, .tup [], .tup []] []
  obtain ⟨Q, hQ⟩ : ∃ Q, Q = Ends X172.vs O172 0 (.int .i64 (left n xs.length)) [] := ⟨_, rfl⟩
  rw [← hQ]
  have ha : xs.length ≤ 1000000000000000 := ha
  refine awp_sr ?_
  simp only [go_sem, R172_0, v172, p172]
  refine awp_sr ?_
  simp only [go_sem, R172_1, v172, p172, wrap_i64 (n := (n : Int) - xs.length) (by omega) (by omega)]
  refine awp_sr2 ?_
  simp only [go_sem, R172_2, v172, p172]
  refine awp_if rfl ?_ ?_
  · intro h
    refine awp_sr ?_
    simp only [go_sem, R172_3, v172, p172]
    refine awp_ret ?_
    try simp only [go_sem]
    rw [hQ]
    exact Ends.is (.inl rfl) rfl (congrArg (V.int .i64) (left_no (by omega)).symm) rfl
  intro h
  refine awp_skip ?_
  simp only [go_sem]
  refine awp_sr ?_
  simp only [go_sem, R172_4, v172, p172]
  refine awp_ret ?_
  try simp only [go_sem]
  rw [hQ]
  exact Ends.is (.inl rfl) rfl (congrArg (V.int .i64) (by rw [left_is (by omega)]; omega)) rfl
end Go.Proofs.YtffigokicddekaaGreat.Abs
/- Copies, sizes and equality, walked: Pack, PackS, Said, SaidS, NodeS, World. No condition. -/
set_option linter.unusedVariables false
set_option linter.unusedSimpArgs false
set_option maxRecDepth 10000
namespace Go.Proofs.YtffigokicddekaaGreat.Abs
open Go Go.Proofs
def R127_0 : List AR := [⟨(some 1), none, 0, (.box 0 3 (.t 0))⟩, ⟨(some 2), none, 0, (.alloc 1 3 [(.int .i64 0), .nl, (.bool false)])⟩]
def R127_1 : List AR := [⟨(some 3), none, 0, (.alloc 0 3 [(.int .i64 0), .nl, (.bool false)])⟩]
def R127_2 : List AR := [⟨(some 4), none, 0, (.faddr 0 (.t 1))⟩, ⟨(some 5), none, 0, (.load 1 false (.t 4))⟩, ⟨(some 6), none, 0, (.faddr 0 (.t 3))⟩, ⟨none, none, 0, (.store 1 (.t 6) (.t 5))⟩]
def R127_3 : List AR := [⟨(some 7), none, 0, (.faddr 1 (.t 1))⟩, ⟨(some 8), none, 0, (.load 1 false (.t 7))⟩, ⟨(some 9), none, 0, (.call false 0 0 180 [(.t 8)])⟩, ⟨(some 10), none, 0, (.faddr 1 (.t 3))⟩, ⟨none, none, 0, (.store 1 (.t 10) (.t 9))⟩]
def R127_4 : List AR := [⟨(some 11), none, 0, (.faddr 2 (.t 1))⟩, ⟨(some 12), none, 0, (.load 1 false (.t 11))⟩, ⟨(some 13), none, 0, (.faddr 2 (.t 3))⟩, ⟨none, none, 0, (.store 1 (.t 13) (.t 12))⟩]
def R127_5 : List AR := [⟨(some 14), none, 0, (.load 3 true (.t 3))⟩, ⟨none, none, 0, (.store 3 (.t 2) (.t 14))⟩]
def A127_0 : AC := (.seq (.reg 0 R127_5) .ret)
def A127_1 : AC := (.seq (.reg 0 R127_4) A127_0)
def A127_2 : AC := (.seq (.reg 0 R127_3) A127_1)
def A127_3 : AC := (.seq (.reg 0 R127_2) A127_2)
def A127_4 : AC := (.seq (.reg 1 R127_1) A127_3)
def A127 : AC := (.seq (.reg 2 R127_0) A127_4)
def O127 : List AO := [(.load 3 true (.t 2))]
def G127 : Fns := ⟨fun f => false, fun f => 0, false⟩
noncomputable def X127 : Cx := ⟨Tryz.prog, G127, drawD, 15, [0, 1, 2, 3]⟩
theorem c127 : (Tryz.f127.body).bind (compC X127.P X127.Γ X127.D X127.nt) = some A127 := by kernel_rfl
theorem o127 : compRes X127.P Tryz.f127.results.toList = some O127 := by kernel_rfl
theorem v127 : X127.vs = [0, 1, 2, 3] := rfl
theorem p127 : X127.P = Tryz.prog := rfl
def R130_0 : List AR := [⟨(some 2), none, 0, (.box 0 3 (.t 0))⟩, ⟨(some 3), none, 0, (.box 1 3 (.t 1))⟩, ⟨(some 4), none, 0, (.mov (.k (.bool false)))⟩]
def R130_1 : List AR := [⟨(some 5), none, 0, (.faddr 0 (.t 2))⟩, ⟨(some 6), none, 0, (.load 1 false (.t 5))⟩, ⟨(some 7), none, 0, (.faddr 0 (.t 3))⟩, ⟨(some 8), none, 0, (.load 1 false (.t 7))⟩, ⟨(some 9), none, 0, (.bin .neq (.t 6) (.t 8))⟩]
def R130_2 : List AR := [⟨(some 4), none, 0, (.mov (.k (.bool false)))⟩]
def R130_3 : List AR := [⟨(some 10), none, 0, (.faddr 1 (.t 2))⟩, ⟨(some 11), none, 0, (.load 1 false (.t 10))⟩, ⟨(some 12), none, 0, (.faddr 1 (.t 3))⟩, ⟨(some 13), none, 0, (.load 1 false (.t 12))⟩, ⟨(some 14), none, 0, (.call false 0 0 188 [(.t 11), (.t 13)])⟩, ⟨(some 15), none, 0, (.not (.t 14))⟩]
def R130_4 : List AR := [⟨(some 4), none, 0, (.mov (.k (.bool false)))⟩]
def R130_5 : List AR := [⟨(some 16), none, 0, (.faddr 2 (.t 2))⟩, ⟨(some 17), none, 0, (.load 1 false (.t 16))⟩, ⟨(some 18), none, 0, (.faddr 2 (.t 3))⟩, ⟨(some 19), none, 0, (.load 1 false (.t 18))⟩, ⟨(some 20), none, 0, (.beq true (.t 17) (.t 19))⟩]
def R130_6 : List AR := [⟨(some 4), none, 0, (.mov (.k (.bool false)))⟩]
def R130_7 : List AR := [⟨(some 4), none, 0, (.mov (.k (.bool true)))⟩]
def A130_0 : AC := (.seq (.reg 0 R130_7) .ret)
def A130_1 : AC := (.seq (.seq (.reg 0 R130_5) (.cond (.t 20) (.seq (.reg 0 R130_6) .ret) .skip)) A130_0)
def A130_2 : AC := (.seq (.seq (.reg 0 R130_3) (.cond (.t 15) (.seq (.reg 0 R130_4) .ret) .skip)) A130_1)
def A130_3 : AC := (.seq (.seq (.reg 0 R130_1) (.cond (.t 9) (.seq (.reg 0 R130_2) .ret) .skip)) A130_2)
def A130 : AC := (.seq (.reg 2 R130_0) A130_3)
def O130 : List AO := [(.mov (.t 4))]
def G130 : Fns := ⟨fun f => false, fun f => 0, false⟩
noncomputable def X130 : Cx := ⟨Tryz.prog, G130, drawD, 21, [0, 1, 2, 3, 4, 9, 15, 20]⟩
theorem c130 : (Tryz.f130.body).bind (compC X130.P X130.Γ X130.D X130.nt) = some A130 := by kernel_rfl
theorem o130 : compRes X130.P Tryz.f130.results.toList = some O130 := by kernel_rfl
theorem v130 : X130.vs = [0, 1, 2, 3, 4, 9, 15, 20] := rfl
theorem p130 : X130.P = Tryz.prog := rfl
def R124_0 : List AR := [⟨(some 2), none, 0, (.box 0 3 (.t 0))⟩, ⟨(some 4), none, 0, (.mov (.k (.int .i64 0)))⟩]
def R124_1 : List AR := [⟨(some 5), none, 0, (.faddr 1 (.t 2))⟩, ⟨(some 6), none, 0, (.load 1 false (.t 5))⟩, ⟨(some 7), none, 0, (.mov (.t 1))⟩, ⟨(some 8), none, 0, (.call false 0 0 172 [(.t 6), (.t 7)])⟩, ⟨(some 1), none, 0, (.mov (.t 8))⟩]
def R124_2 : List AR := [⟨(some 9), none, 0, (.mov (.t 1))⟩, ⟨(some 10), none, 0, (.bin .lss (.t 9) (.k (.int .i64 0)))⟩]
def R124_3 : List AR := [⟨(some 4), none, 0, (.mov (.k (.int .i64 (-1))))⟩]
def R124_4 : List AR := [⟨(some 11), none, 0, (.mov (.t 1))⟩, ⟨(some 4), none, 0, (.mov (.t 11))⟩]
def A124_0 : AC := (.seq (.reg 0 R124_4) .ret)
def A124_1 : AC := (.seq (.seq (.reg 0 R124_2) (.cond (.t 10) (.seq (.reg 0 R124_3) .ret) .skip)) A124_0)
def A124_2 : AC := (.seq (.reg 0 R124_1) A124_1)
def A124 : AC := (.seq (.reg 1 R124_0) A124_2)
def O124 : List AO := [(.mov (.t 4))]
def G124 : Fns := ⟨fun f => false, fun f => 0, false⟩
noncomputable def X124 : Cx := ⟨Tryz.prog, G124, drawD, 12, [0, 1, 2, 4, 10]⟩
theorem c124 : (Tryz.f124.body).bind (compC X124.P X124.Γ X124.D X124.nt) = some A124 := by kernel_rfl
theorem o124 : compRes X124.P Tryz.f124.results.toList = some O124 := by kernel_rfl
theorem v124 : X124.vs = [0, 1, 2, 4, 10] := rfl
theorem p124 : X124.P = Tryz.prog := rfl
def R78_0 : List AR := [⟨(some 2), none, 0, (.mov (.k .nl))⟩]
def R78_1 : List AR := [⟨(some 5), none, 0, (.mov (.t 0))⟩, ⟨(some 6), none, 0, (.len (.t 5))⟩, ⟨(some 7), none, 0, (.mks 0 3 40 [(.int .i64 0), .nl, (.bool false)] (.t 6) (.t 6))⟩, ⟨(some 3), none, 0, (.mov (.t 7))⟩]
def R78_2 : List AR := [⟨(some 4), none, 0, (.mov (.k (.int .i64 0)))⟩]
def R78_3 : List AR := [⟨(some 8), none, 0, (.mov (.t 4))⟩, ⟨(some 9), none, 0, (.mov (.t 0))⟩, ⟨(some 10), none, 0, (.len (.t 9))⟩, ⟨(some 11), none, 0, (.bin .lss (.t 8) (.t 10))⟩]
def R78_4 : List AR := [⟨(some 14), none, 0, (.mov (.t 3))⟩, ⟨(some 15), none, 0, (.mov (.t 4))⟩, ⟨(some 16), none, 0, (.mov (.t 0))⟩, ⟨(some 17), none, 0, (.mov (.t 4))⟩, ⟨(some 18), none, 0, (.iaddr 3 (.t 16) (.t 17))⟩, ⟨(some 19), none, 0, (.load 3 true (.t 18))⟩, ⟨(some 20), none, 0, (.call false 0 0 127 [(.t 19)])⟩, ⟨(some 21), none, 0, (.iaddr 3 (.t 14) (.t 15))⟩, ⟨none, none, 0, (.store 3 (.t 21) (.t 20))⟩]
def R78_5 : List AR := [⟨(some 12), none, 0, (.mov (.t 4))⟩, ⟨(some 13), none, 0, (.bin .add (.t 12) (.k (.int .i64 1)))⟩, ⟨(some 4), none, 0, (.mov (.t 13))⟩]
def A78_0 : AC := (.seq (.block 1 (.reg 0 R78_4)) (.reg 0 R78_5))
def L78_0 : AC := (.seq (.seq (.reg 0 R78_3) (.cond (.t 11) .skip (.exit 0))) A78_0)
def R78_6 : List AR := [⟨(some 22), none, 0, (.mov (.t 3))⟩, ⟨(some 2), none, 0, (.mov (.t 22))⟩]
def A78_1 : AC := (.seq (.reg 0 R78_6) .ret)
def A78_2 : AC := (.seq (.seq (.reg 0 R78_2) (.block 0 (.loop L78_0))) A78_1)
def A78_3 : AC := (.seq (.reg 1 R78_1) A78_2)
def A78 : AC := (.seq (.reg 0 R78_0) A78_3)
def O78 : List AO := [(.mov (.t 2))]
def G78 : Fns := ⟨fun f => false, fun f => 0, false⟩
noncomputable def X78 : Cx := ⟨Tryz.prog, G78, drawD, 23, [0, 2, 3, 4, 11]⟩
theorem c78 : (Tryz.f78.body).bind (compC X78.P X78.Γ X78.D X78.nt) = some A78 := by kernel_rfl
theorem o78 : compRes X78.P Tryz.f78.results.toList = some O78 := by kernel_rfl
theorem v78 : X78.vs = [0, 2, 3, 4, 11] := rfl
theorem p78 : X78.P = Tryz.prog := rfl
def R82_0 : List AR := [⟨(some 4), none, 0, (.mov (.k (.bool false)))⟩]
def R82_1 : List AR := [⟨(some 6), none, 0, (.mov (.t 0))⟩, ⟨(some 7), none, 0, (.len (.t 6))⟩, ⟨(some 8), none, 0, (.mov (.t 1))⟩, ⟨(some 9), none, 0, (.len (.t 8))⟩, ⟨(some 10), none, 0, (.bin .neq (.t 7) (.t 9))⟩]
def R82_2 : List AR := [⟨(some 4), none, 0, (.mov (.k (.bool false)))⟩]
def R82_3 : List AR := [⟨(some 5), none, 0, (.mov (.k (.int .i64 0)))⟩]
def R82_4 : List AR := [⟨(some 11), none, 0, (.mov (.t 5))⟩, ⟨(some 12), none, 0, (.mov (.t 0))⟩, ⟨(some 13), none, 0, (.len (.t 12))⟩, ⟨(some 14), none, 0, (.bin .lss (.t 11) (.t 13))⟩]
def R82_5 : List AR := [⟨(some 17), none, 0, (.mov (.t 0))⟩, ⟨(some 18), none, 0, (.mov (.t 5))⟩, ⟨(some 19), none, 0, (.iaddr 3 (.t 17) (.t 18))⟩, ⟨(some 20), none, 0, (.load 3 true (.t 19))⟩, ⟨(some 21), none, 0, (.mov (.t 1))⟩, ⟨(some 22), none, 0, (.mov (.t 5))⟩, ⟨(some 23), none, 0, (.iaddr 3 (.t 21) (.t 22))⟩, ⟨(some 24), none, 0, (.load 3 true (.t 23))⟩, ⟨(some 25), none, 0, (.call false 0 0 130 [(.t 20), (.t 24)])⟩, ⟨(some 26), none, 0, (.not (.t 25))⟩]
def R82_6 : List AR := [⟨(some 4), none, 0, (.mov (.k (.bool false)))⟩]
def R82_7 : List AR := [⟨(some 15), none, 0, (.mov (.t 5))⟩, ⟨(some 16), none, 0, (.bin .add (.t 15) (.k (.int .i64 1)))⟩, ⟨(some 5), none, 0, (.mov (.t 16))⟩]
def A82_0 : AC := (.seq (.block 1 (.seq (.draw 0 R82_5) (.cond (.t 26) (.seq (.reg 0 R82_6) .ret) .skip))) (.reg 0 R82_7))
def L82_0 : AC := (.seq (.seq (.reg 0 R82_4) (.cond (.t 14) .skip (.exit 0))) A82_0)
def R82_8 : List AR := [⟨(some 4), none, 0, (.mov (.k (.bool true)))⟩]
def A82_1 : AC := (.seq (.reg 0 R82_8) .ret)
def A82_2 : AC := (.seq (.seq (.reg 0 R82_3) (.block 0 (.loop L82_0))) A82_1)
def A82_3 : AC := (.seq (.seq (.reg 0 R82_1) (.cond (.t 10) (.seq (.reg 0 R82_2) .ret) .skip)) A82_2)
def A82 : AC := (.seq (.reg 0 R82_0) A82_3)
def O82 : List AO := [(.mov (.t 4))]
def G82 : Fns := ⟨fun f => false, fun f => 0, false⟩
noncomputable def X82 : Cx := ⟨Tryz.prog, G82, drawD, 27, [0, 1, 4, 5, 10, 14, 26]⟩
theorem c82 : (Tryz.f82.body).bind (compC X82.P X82.Γ X82.D X82.nt) = some A82 := by kernel_rfl
theorem o82 : compRes X82.P Tryz.f82.results.toList = some O82 := by kernel_rfl
theorem v82 : X82.vs = [0, 1, 4, 5, 10, 14, 26] := rfl
theorem p82 : X82.P = Tryz.prog := rfl
def R73_0 : List AR := [⟨(some 4), none, 0, (.mov (.k (.int .i64 0)))⟩]
def R73_1 : List AR := [⟨(some 6), none, 0, (.mov (.t 1))⟩, ⟨(some 7), none, 0, (.mov (.t 0))⟩, ⟨(some 8), none, 0, (.len (.t 7))⟩, ⟨(some 9), none, 0, (.bin .sub (.t 6) (.t 8))⟩, ⟨(some 1), none, 0, (.mov (.t 9))⟩]
def R73_2 : List AR := [⟨(some 10), none, 0, (.mov (.t 1))⟩, ⟨(some 11), none, 0, (.bin .lss (.t 10) (.k (.int .i64 0)))⟩]
def R73_3 : List AR := [⟨(some 4), none, 0, (.mov (.k (.int .i64 (-1))))⟩]
def R73_4 : List AR := [⟨(some 5), none, 0, (.mov (.k (.int .i64 0)))⟩]
def R73_5 : List AR := [⟨(some 12), none, 0, (.mov (.t 5))⟩, ⟨(some 13), none, 0, (.mov (.t 0))⟩, ⟨(some 14), none, 0, (.len (.t 13))⟩, ⟨(some 15), none, 0, (.bin .lss (.t 12) (.t 14))⟩]
def R73_6 : List AR := [⟨(some 18), none, 0, (.mov (.t 0))⟩, ⟨(some 19), none, 0, (.mov (.t 5))⟩, ⟨(some 20), none, 0, (.iaddr 3 (.t 18) (.t 19))⟩, ⟨(some 21), none, 0, (.load 3 true (.t 20))⟩, ⟨(some 22), none, 0, (.mov (.t 1))⟩, ⟨(some 23), none, 0, (.call false 0 0 124 [(.t 21), (.t 22)])⟩, ⟨(some 1), none, 0, (.mov (.t 23))⟩]
def R73_7 : List AR := [⟨(some 24), none, 0, (.mov (.t 1))⟩, ⟨(some 25), none, 0, (.bin .lss (.t 24) (.k (.int .i64 0)))⟩]
def R73_8 : List AR := [⟨(some 4), none, 0, (.mov (.k (.int .i64 (-1))))⟩]
def A73_0 : AC := (.seq (.reg 0 R73_7) (.cond (.t 25) (.seq (.reg 0 R73_8) .ret) .skip))
def R73_9 : List AR := [⟨(some 16), none, 0, (.mov (.t 5))⟩, ⟨(some 17), none, 0, (.bin .add (.t 16) (.k (.int .i64 1)))⟩, ⟨(some 5), none, 0, (.mov (.t 17))⟩]
def A73_1 : AC := (.seq (.block 1 (.seq (.reg 0 R73_6) A73_0)) (.reg 0 R73_9))
def L73_0 : AC := (.seq (.seq (.reg 0 R73_5) (.cond (.t 15) .skip (.exit 0))) A73_1)
def R73_10 : List AR := [⟨(some 26), none, 0, (.mov (.t 1))⟩, ⟨(some 4), none, 0, (.mov (.t 26))⟩]
def A73_2 : AC := (.seq (.reg 0 R73_10) .ret)
def A73_3 : AC := (.seq (.seq (.reg 0 R73_4) (.block 0 (.loop L73_0))) A73_2)
def A73_4 : AC := (.seq (.seq (.reg 0 R73_2) (.cond (.t 11) (.seq (.reg 0 R73_3) .ret) .skip)) A73_3)
def A73_5 : AC := (.seq (.reg 0 R73_1) A73_4)
def A73 : AC := (.seq (.reg 0 R73_0) A73_5)
def O73 : List AO := [(.mov (.t 4))]
def G73 : Fns := ⟨fun f => false, fun f => 0, false⟩
noncomputable def X73 : Cx := ⟨Tryz.prog, G73, drawD, 27, [0, 1, 4, 5, 11, 15, 25]⟩
theorem c73 : (Tryz.f73.body).bind (compC X73.P X73.Γ X73.D X73.nt) = some A73 := by kernel_rfl
theorem o73 : compRes X73.P Tryz.f73.results.toList = some O73 := by kernel_rfl
theorem v73 : X73.vs = [0, 1, 4, 5, 11, 15, 25] := rfl
theorem p73 : X73.P = Tryz.prog := rfl
def R128_0 : List AR := [⟨(some 1), none, 0, (.box 0 3 (.t 0))⟩, ⟨(some 2), none, 0, (.alloc 1 3 [(.int .i64 0), .nl, .nl])⟩]
def R128_1 : List AR := [⟨(some 3), none, 0, (.alloc 0 3 [(.int .i64 0), .nl, .nl])⟩]
def R128_2 : List AR := [⟨(some 4), none, 0, (.faddr 0 (.t 1))⟩, ⟨(some 5), none, 0, (.load 1 false (.t 4))⟩, ⟨(some 6), none, 0, (.faddr 0 (.t 3))⟩, ⟨none, none, 0, (.store 1 (.t 6) (.t 5))⟩]
def R128_3 : List AR := [⟨(some 7), none, 0, (.faddr 1 (.t 1))⟩, ⟨(some 8), none, 0, (.load 2 true (.t 7))⟩, ⟨(some 9), none, 0, (.call false 0 0 173 [(.t 8)])⟩, ⟨(some 10), none, 0, (.faddr 1 (.t 3))⟩, ⟨none, none, 0, (.store 2 (.t 10) (.t 9))⟩]
def R128_4 : List AR := [⟨(some 11), none, 0, (.load 3 true (.t 3))⟩, ⟨none, none, 0, (.store 3 (.t 2) (.t 11))⟩]
def A128_0 : AC := (.seq (.reg 0 R128_4) .ret)
def A128_1 : AC := (.seq (.reg 0 R128_3) A128_0)
def A128_2 : AC := (.seq (.reg 0 R128_2) A128_1)
def A128_3 : AC := (.seq (.reg 1 R128_1) A128_2)
def A128 : AC := (.seq (.reg 2 R128_0) A128_3)
def O128 : List AO := [(.load 3 true (.t 2))]
def G128 : Fns := ⟨fun f => false, fun f => 0, false⟩
noncomputable def X128 : Cx := ⟨Tryz.prog, G128, drawD, 12, [0, 1, 2, 3]⟩
theorem c128 : (Tryz.f128.body).bind (compC X128.P X128.Γ X128.D X128.nt) = some A128 := by kernel_rfl
theorem o128 : compRes X128.P Tryz.f128.results.toList = some O128 := by kernel_rfl
theorem v128 : X128.vs = [0, 1, 2, 3] := rfl
theorem p128 : X128.P = Tryz.prog := rfl
def R131_0 : List AR := [⟨(some 2), none, 0, (.box 0 3 (.t 0))⟩, ⟨(some 3), none, 0, (.box 1 3 (.t 1))⟩, ⟨(some 4), none, 0, (.mov (.k (.bool false)))⟩]
def R131_1 : List AR := [⟨(some 5), none, 0, (.faddr 0 (.t 2))⟩, ⟨(some 6), none, 0, (.load 1 false (.t 5))⟩, ⟨(some 7), none, 0, (.faddr 0 (.t 3))⟩, ⟨(some 8), none, 0, (.load 1 false (.t 7))⟩, ⟨(some 9), none, 0, (.bin .neq (.t 6) (.t 8))⟩]
def R131_2 : List AR := [⟨(some 4), none, 0, (.mov (.k (.bool false)))⟩]
def R131_3 : List AR := [⟨(some 10), none, 0, (.faddr 1 (.t 2))⟩, ⟨(some 11), none, 0, (.load 2 true (.t 10))⟩, ⟨(some 12), none, 0, (.faddr 1 (.t 3))⟩, ⟨(some 13), none, 0, (.load 2 true (.t 12))⟩, ⟨(some 14), none, 0, (.call false 0 0 181 [(.t 11), (.t 13)])⟩, ⟨(some 15), none, 0, (.not (.t 14))⟩]
def R131_4 : List AR := [⟨(some 4), none, 0, (.mov (.k (.bool false)))⟩]
def R131_5 : List AR := [⟨(some 4), none, 0, (.mov (.k (.bool true)))⟩]
def A131_0 : AC := (.seq (.reg 0 R131_5) .ret)
def A131_1 : AC := (.seq (.seq (.reg 0 R131_3) (.cond (.t 15) (.seq (.reg 0 R131_4) .ret) .skip)) A131_0)
def A131_2 : AC := (.seq (.seq (.reg 0 R131_1) (.cond (.t 9) (.seq (.reg 0 R131_2) .ret) .skip)) A131_1)
def A131 : AC := (.seq (.reg 2 R131_0) A131_2)
def O131 : List AO := [(.mov (.t 4))]
def G131 : Fns := ⟨fun f => false, fun f => 0, false⟩
noncomputable def X131 : Cx := ⟨Tryz.prog, G131, drawD, 16, [0, 1, 2, 3, 4, 9, 15]⟩
theorem c131 : (Tryz.f131.body).bind (compC X131.P X131.Γ X131.D X131.nt) = some A131 := by kernel_rfl
theorem o131 : compRes X131.P Tryz.f131.results.toList = some O131 := by kernel_rfl
theorem v131 : X131.vs = [0, 1, 2, 3, 4, 9, 15] := rfl
theorem p131 : X131.P = Tryz.prog := rfl
def R125_0 : List AR := [⟨(some 2), none, 0, (.box 0 3 (.t 0))⟩, ⟨(some 4), none, 0, (.mov (.k (.int .i64 0)))⟩]
def R125_1 : List AR := [⟨(some 5), none, 0, (.faddr 1 (.t 2))⟩, ⟨(some 6), none, 0, (.load 2 true (.t 5))⟩, ⟨(some 7), none, 0, (.mov (.t 1))⟩, ⟨(some 8), none, 0, (.call false 0 0 165 [(.t 6), (.t 7)])⟩, ⟨(some 1), none, 0, (.mov (.t 8))⟩]
def R125_2 : List AR := [⟨(some 9), none, 0, (.mov (.t 1))⟩, ⟨(some 10), none, 0, (.bin .lss (.t 9) (.k (.int .i64 0)))⟩]
def R125_3 : List AR := [⟨(some 4), none, 0, (.mov (.k (.int .i64 (-1))))⟩]
def R125_4 : List AR := [⟨(some 11), none, 0, (.mov (.t 1))⟩, ⟨(some 4), none, 0, (.mov (.t 11))⟩]
def A125_0 : AC := (.seq (.reg 0 R125_4) .ret)
def A125_1 : AC := (.seq (.seq (.reg 0 R125_2) (.cond (.t 10) (.seq (.reg 0 R125_3) .ret) .skip)) A125_0)
def A125_2 : AC := (.seq (.reg 0 R125_1) A125_1)
def A125 : AC := (.seq (.reg 1 R125_0) A125_2)
def O125 : List AO := [(.mov (.t 4))]
def G125 : Fns := ⟨fun f => false, fun f => 0, false⟩
noncomputable def X125 : Cx := ⟨Tryz.prog, G125, drawD, 12, [0, 1, 2, 4, 10]⟩
theorem c125 : (Tryz.f125.body).bind (compC X125.P X125.Γ X125.D X125.nt) = some A125 := by kernel_rfl
theorem o125 : compRes X125.P Tryz.f125.results.toList = some O125 := by kernel_rfl
theorem v125 : X125.vs = [0, 1, 2, 4, 10] := rfl
theorem p125 : X125.P = Tryz.prog := rfl
def R79_0 : List AR := [⟨(some 2), none, 0, (.mov (.k .nl))⟩]
def R79_1 : List AR := [⟨(some 5), none, 0, (.mov (.t 0))⟩, ⟨(some 6), none, 0, (.len (.t 5))⟩, ⟨(some 7), none, 0, (.mks 0 3 56 [(.int .i64 0), .nl, .nl] (.t 6) (.t 6))⟩, ⟨(some 3), none, 0, (.mov (.t 7))⟩]
def R79_2 : List AR := [⟨(some 4), none, 0, (.mov (.k (.int .i64 0)))⟩]
def R79_3 : List AR := [⟨(some 8), none, 0, (.mov (.t 4))⟩, ⟨(some 9), none, 0, (.mov (.t 0))⟩, ⟨(some 10), none, 0, (.len (.t 9))⟩, ⟨(some 11), none, 0, (.bin .lss (.t 8) (.t 10))⟩]
def R79_4 : List AR := [⟨(some 14), none, 0, (.mov (.t 3))⟩, ⟨(some 15), none, 0, (.mov (.t 4))⟩, ⟨(some 16), none, 0, (.mov (.t 0))⟩, ⟨(some 17), none, 0, (.mov (.t 4))⟩, ⟨(some 18), none, 0, (.iaddr 3 (.t 16) (.t 17))⟩, ⟨(some 19), none, 0, (.load 3 true (.t 18))⟩, ⟨(some 20), none, 0, (.call false 0 0 128 [(.t 19)])⟩, ⟨(some 21), none, 0, (.iaddr 3 (.t 14) (.t 15))⟩, ⟨none, none, 0, (.store 3 (.t 21) (.t 20))⟩]
def R79_5 : List AR := [⟨(some 12), none, 0, (.mov (.t 4))⟩, ⟨(some 13), none, 0, (.bin .add (.t 12) (.k (.int .i64 1)))⟩, ⟨(some 4), none, 0, (.mov (.t 13))⟩]
def A79_0 : AC := (.seq (.block 1 (.reg 0 R79_4)) (.reg 0 R79_5))
def L79_0 : AC := (.seq (.seq (.reg 0 R79_3) (.cond (.t 11) .skip (.exit 0))) A79_0)
def R79_6 : List AR := [⟨(some 22), none, 0, (.mov (.t 3))⟩, ⟨(some 2), none, 0, (.mov (.t 22))⟩]
def A79_1 : AC := (.seq (.reg 0 R79_6) .ret)
def A79_2 : AC := (.seq (.seq (.reg 0 R79_2) (.block 0 (.loop L79_0))) A79_1)
def A79_3 : AC := (.seq (.reg 1 R79_1) A79_2)
def A79 : AC := (.seq (.reg 0 R79_0) A79_3)
def O79 : List AO := [(.mov (.t 2))]
def G79 : Fns := ⟨fun f => false, fun f => 0, false⟩
noncomputable def X79 : Cx := ⟨Tryz.prog, G79, drawD, 23, [0, 2, 3, 4, 11]⟩
theorem c79 : (Tryz.f79.body).bind (compC X79.P X79.Γ X79.D X79.nt) = some A79 := by kernel_rfl
theorem o79 : compRes X79.P Tryz.f79.results.toList = some O79 := by kernel_rfl
theorem v79 : X79.vs = [0, 2, 3, 4, 11] := rfl
theorem p79 : X79.P = Tryz.prog := rfl
def R83_0 : List AR := [⟨(some 4), none, 0, (.mov (.k (.bool false)))⟩]
def R83_1 : List AR := [⟨(some 6), none, 0, (.mov (.t 0))⟩, ⟨(some 7), none, 0, (.len (.t 6))⟩, ⟨(some 8), none, 0, (.mov (.t 1))⟩, ⟨(some 9), none, 0, (.len (.t 8))⟩, ⟨(some 10), none, 0, (.bin .neq (.t 7) (.t 9))⟩]
def R83_2 : List AR := [⟨(some 4), none, 0, (.mov (.k (.bool false)))⟩]
def R83_3 : List AR := [⟨(some 5), none, 0, (.mov (.k (.int .i64 0)))⟩]
def R83_4 : List AR := [⟨(some 11), none, 0, (.mov (.t 5))⟩, ⟨(some 12), none, 0, (.mov (.t 0))⟩, ⟨(some 13), none, 0, (.len (.t 12))⟩, ⟨(some 14), none, 0, (.bin .lss (.t 11) (.t 13))⟩]
def R83_5 : List AR := [⟨(some 17), none, 0, (.mov (.t 0))⟩, ⟨(some 18), none, 0, (.mov (.t 5))⟩, ⟨(some 19), none, 0, (.iaddr 3 (.t 17) (.t 18))⟩, ⟨(some 20), none, 0, (.load 3 true (.t 19))⟩, ⟨(some 21), none, 0, (.mov (.t 1))⟩, ⟨(some 22), none, 0, (.mov (.t 5))⟩, ⟨(some 23), none, 0, (.iaddr 3 (.t 21) (.t 22))⟩, ⟨(some 24), none, 0, (.load 3 true (.t 23))⟩, ⟨(some 25), none, 0, (.call false 0 0 131 [(.t 20), (.t 24)])⟩, ⟨(some 26), none, 0, (.not (.t 25))⟩]
def R83_6 : List AR := [⟨(some 4), none, 0, (.mov (.k (.bool false)))⟩]
def R83_7 : List AR := [⟨(some 15), none, 0, (.mov (.t 5))⟩, ⟨(some 16), none, 0, (.bin .add (.t 15) (.k (.int .i64 1)))⟩, ⟨(some 5), none, 0, (.mov (.t 16))⟩]
def A83_0 : AC := (.seq (.block 1 (.seq (.draw 0 R83_5) (.cond (.t 26) (.seq (.reg 0 R83_6) .ret) .skip))) (.reg 0 R83_7))
def L83_0 : AC := (.seq (.seq (.reg 0 R83_4) (.cond (.t 14) .skip (.exit 0))) A83_0)
def R83_8 : List AR := [⟨(some 4), none, 0, (.mov (.k (.bool true)))⟩]
def A83_1 : AC := (.seq (.reg 0 R83_8) .ret)
def A83_2 : AC := (.seq (.seq (.reg 0 R83_3) (.block 0 (.loop L83_0))) A83_1)
def A83_3 : AC := (.seq (.seq (.reg 0 R83_1) (.cond (.t 10) (.seq (.reg 0 R83_2) .ret) .skip)) A83_2)
def A83 : AC := (.seq (.reg 0 R83_0) A83_3)
def O83 : List AO := [(.mov (.t 4))]
def G83 : Fns := ⟨fun f => false, fun f => 0, false⟩
noncomputable def X83 : Cx := ⟨Tryz.prog, G83, drawD, 27, [0, 1, 4, 5, 10, 14, 26]⟩
theorem c83 : (Tryz.f83.body).bind (compC X83.P X83.Γ X83.D X83.nt) = some A83 := by kernel_rfl
theorem o83 : compRes X83.P Tryz.f83.results.toList = some O83 := by kernel_rfl
theorem v83 : X83.vs = [0, 1, 4, 5, 10, 14, 26] := rfl
theorem p83 : X83.P = Tryz.prog := rfl
def R74_0 : List AR := [⟨(some 4), none, 0, (.mov (.k (.int .i64 0)))⟩]
def R74_1 : List AR := [⟨(some 6), none, 0, (.mov (.t 1))⟩, ⟨(some 7), none, 0, (.mov (.t 0))⟩, ⟨(some 8), none, 0, (.len (.t 7))⟩, ⟨(some 9), none, 0, (.bin .sub (.t 6) (.t 8))⟩, ⟨(some 1), none, 0, (.mov (.t 9))⟩]
def R74_2 : List AR := [⟨(some 10), none, 0, (.mov (.t 1))⟩, ⟨(some 11), none, 0, (.bin .lss (.t 10) (.k (.int .i64 0)))⟩]
def R74_3 : List AR := [⟨(some 4), none, 0, (.mov (.k (.int .i64 (-1))))⟩]
def R74_4 : List AR := [⟨(some 5), none, 0, (.mov (.k (.int .i64 0)))⟩]
def R74_5 : List AR := [⟨(some 12), none, 0, (.mov (.t 5))⟩, ⟨(some 13), none, 0, (.mov (.t 0))⟩, ⟨(some 14), none, 0, (.len (.t 13))⟩, ⟨(some 15), none, 0, (.bin .lss (.t 12) (.t 14))⟩]
def R74_6 : List AR := [⟨(some 18), none, 0, (.mov (.t 0))⟩, ⟨(some 19), none, 0, (.mov (.t 5))⟩, ⟨(some 20), none, 0, (.iaddr 3 (.t 18) (.t 19))⟩, ⟨(some 21), none, 0, (.load 3 true (.t 20))⟩, ⟨(some 22), none, 0, (.mov (.t 1))⟩, ⟨(some 23), none, 0, (.call false 0 0 125 [(.t 21), (.t 22)])⟩, ⟨(some 1), none, 0, (.mov (.t 23))⟩]
def R74_7 : List AR := [⟨(some 24), none, 0, (.mov (.t 1))⟩, ⟨(some 25), none, 0, (.bin .lss (.t 24) (.k (.int .i64 0)))⟩]
def R74_8 : List AR := [⟨(some 4), none, 0, (.mov (.k (.int .i64 (-1))))⟩]
def A74_0 : AC := (.seq (.reg 0 R74_7) (.cond (.t 25) (.seq (.reg 0 R74_8) .ret) .skip))
def R74_9 : List AR := [⟨(some 16), none, 0, (.mov (.t 5))⟩, ⟨(some 17), none, 0, (.bin .add (.t 16) (.k (.int .i64 1)))⟩, ⟨(some 5), none, 0, (.mov (.t 17))⟩]
def A74_1 : AC := (.seq (.block 1 (.seq (.reg 0 R74_6) A74_0)) (.reg 0 R74_9))
def L74_0 : AC := (.seq (.seq (.reg 0 R74_5) (.cond (.t 15) .skip (.exit 0))) A74_1)
def R74_10 : List AR := [⟨(some 26), none, 0, (.mov (.t 1))⟩, ⟨(some 4), none, 0, (.mov (.t 26))⟩]
def A74_2 : AC := (.seq (.reg 0 R74_10) .ret)
def A74_3 : AC := (.seq (.seq (.reg 0 R74_4) (.block 0 (.loop L74_0))) A74_2)
def A74_4 : AC := (.seq (.seq (.reg 0 R74_2) (.cond (.t 11) (.seq (.reg 0 R74_3) .ret) .skip)) A74_3)
def A74_5 : AC := (.seq (.reg 0 R74_1) A74_4)
def A74 : AC := (.seq (.reg 0 R74_0) A74_5)
def O74 : List AO := [(.mov (.t 4))]
def G74 : Fns := ⟨fun f => false, fun f => 0, false⟩
noncomputable def X74 : Cx := ⟨Tryz.prog, G74, drawD, 27, [0, 1, 4, 5, 11, 15, 25]⟩
theorem c74 : (Tryz.f74.body).bind (compC X74.P X74.Γ X74.D X74.nt) = some A74 := by kernel_rfl
theorem o74 : compRes X74.P Tryz.f74.results.toList = some O74 := by kernel_rfl
theorem v74 : X74.vs = [0, 1, 4, 5, 11, 15, 25] := rfl
theorem p74 : X74.P = Tryz.prog := rfl
def R77_0 : List AR := [⟨(some 2), none, 0, (.mov (.k .nl))⟩]
def R77_1 : List AR := [⟨(some 5), none, 0, (.mov (.t 0))⟩, ⟨(some 6), none, 0, (.len (.t 5))⟩, ⟨(some 7), none, 0, (.mks 0 19 296 [(.int .i64 0), (.int .i64 0), .nl, .nl, .nl, (.int .i64 0), (.int .i64 0), (.int .i64 0), .nl, .nl, .nl, .nl, (.int .i64 0), (.int .i64 0), .nl, (.int .i64 0), (.int .i64 0), (.int .i64 0), .nl] (.t 6) (.t 6))⟩, ⟨(some 3), none, 0, (.mov (.t 7))⟩]
def R77_2 : List AR := [⟨(some 4), none, 0, (.mov (.k (.int .i64 0)))⟩]
def R77_3 : List AR := [⟨(some 8), none, 0, (.mov (.t 4))⟩, ⟨(some 9), none, 0, (.mov (.t 0))⟩, ⟨(some 10), none, 0, (.len (.t 9))⟩, ⟨(some 11), none, 0, (.bin .lss (.t 8) (.t 10))⟩]
def R77_4 : List AR := [⟨(some 14), none, 0, (.mov (.t 3))⟩, ⟨(some 15), none, 0, (.mov (.t 4))⟩, ⟨(some 16), none, 0, (.mov (.t 0))⟩, ⟨(some 17), none, 0, (.mov (.t 4))⟩, ⟨(some 18), none, 0, (.iaddr 19 (.t 16) (.t 17))⟩, ⟨(some 19), none, 0, (.load 19 true (.t 18))⟩, ⟨(some 20), none, 0, (.call false 0 0 126 [(.t 19)])⟩, ⟨(some 21), none, 0, (.iaddr 19 (.t 14) (.t 15))⟩, ⟨none, none, 0, (.store 19 (.t 21) (.t 20))⟩]
def R77_5 : List AR := [⟨(some 12), none, 0, (.mov (.t 4))⟩, ⟨(some 13), none, 0, (.bin .add (.t 12) (.k (.int .i64 1)))⟩, ⟨(some 4), none, 0, (.mov (.t 13))⟩]
def A77_0 : AC := (.seq (.block 1 (.reg 0 R77_4)) (.reg 0 R77_5))
def L77_0 : AC := (.seq (.seq (.reg 0 R77_3) (.cond (.t 11) .skip (.exit 0))) A77_0)
def R77_6 : List AR := [⟨(some 22), none, 0, (.mov (.t 3))⟩, ⟨(some 2), none, 0, (.mov (.t 22))⟩]
def A77_1 : AC := (.seq (.reg 0 R77_6) .ret)
def A77_2 : AC := (.seq (.seq (.reg 0 R77_2) (.block 0 (.loop L77_0))) A77_1)
def A77_3 : AC := (.seq (.reg 1 R77_1) A77_2)
def A77 : AC := (.seq (.reg 0 R77_0) A77_3)
def O77 : List AO := [(.mov (.t 2))]
def G77 : Fns := ⟨fun f => false, fun f => 0, false⟩
noncomputable def X77 : Cx := ⟨Tryz.prog, G77, drawD, 23, [0, 2, 3, 4, 11]⟩
theorem c77 : (Tryz.f77.body).bind (compC X77.P X77.Γ X77.D X77.nt) = some A77 := by kernel_rfl
theorem o77 : compRes X77.P Tryz.f77.results.toList = some O77 := by kernel_rfl
theorem v77 : X77.vs = [0, 2, 3, 4, 11] := rfl
theorem p77 : X77.P = Tryz.prog := rfl
def R81_0 : List AR := [⟨(some 4), none, 0, (.mov (.k (.bool false)))⟩]
def R81_1 : List AR := [⟨(some 6), none, 0, (.mov (.t 0))⟩, ⟨(some 7), none, 0, (.len (.t 6))⟩, ⟨(some 8), none, 0, (.mov (.t 1))⟩, ⟨(some 9), none, 0, (.len (.t 8))⟩, ⟨(some 10), none, 0, (.bin .neq (.t 7) (.t 9))⟩]
def R81_2 : List AR := [⟨(some 4), none, 0, (.mov (.k (.bool false)))⟩]
def R81_3 : List AR := [⟨(some 5), none, 0, (.mov (.k (.int .i64 0)))⟩]
def R81_4 : List AR := [⟨(some 11), none, 0, (.mov (.t 5))⟩, ⟨(some 12), none, 0, (.mov (.t 0))⟩, ⟨(some 13), none, 0, (.len (.t 12))⟩, ⟨(some 14), none, 0, (.bin .lss (.t 11) (.t 13))⟩]
def R81_5 : List AR := [⟨(some 17), none, 0, (.mov (.t 0))⟩, ⟨(some 18), none, 0, (.mov (.t 5))⟩, ⟨(some 19), none, 0, (.iaddr 19 (.t 17) (.t 18))⟩, ⟨(some 20), none, 0, (.load 19 true (.t 19))⟩, ⟨(some 21), none, 0, (.mov (.t 1))⟩, ⟨(some 22), none, 0, (.mov (.t 5))⟩, ⟨(some 23), none, 0, (.iaddr 19 (.t 21) (.t 22))⟩, ⟨(some 24), none, 0, (.load 19 true (.t 23))⟩, ⟨(some 25), none, 0, (.call false 0 0 129 [(.t 20), (.t 24)])⟩, ⟨(some 26), none, 0, (.not (.t 25))⟩]
def R81_6 : List AR := [⟨(some 4), none, 0, (.mov (.k (.bool false)))⟩]
def R81_7 : List AR := [⟨(some 15), none, 0, (.mov (.t 5))⟩, ⟨(some 16), none, 0, (.bin .add (.t 15) (.k (.int .i64 1)))⟩, ⟨(some 5), none, 0, (.mov (.t 16))⟩]
def A81_0 : AC := (.seq (.block 1 (.seq (.draw 0 R81_5) (.cond (.t 26) (.seq (.reg 0 R81_6) .ret) .skip))) (.reg 0 R81_7))
def L81_0 : AC := (.seq (.seq (.reg 0 R81_4) (.cond (.t 14) .skip (.exit 0))) A81_0)
def R81_8 : List AR := [⟨(some 4), none, 0, (.mov (.k (.bool true)))⟩]
def A81_1 : AC := (.seq (.reg 0 R81_8) .ret)
def A81_2 : AC := (.seq (.seq (.reg 0 R81_3) (.block 0 (.loop L81_0))) A81_1)
def A81_3 : AC := (.seq (.seq (.reg 0 R81_1) (.cond (.t 10) (.seq (.reg 0 R81_2) .ret) .skip)) A81_2)
def A81 : AC := (.seq (.reg 0 R81_0) A81_3)
def O81 : List AO := [(.mov (.t 4))]
def G81 : Fns := ⟨fun f => false, fun f => 0, false⟩
noncomputable def X81 : Cx := ⟨Tryz.prog, G81, drawD, 27, [0, 1, 4, 5, 10, 14, 26]⟩
theorem c81 : (Tryz.f81.body).bind (compC X81.P X81.Γ X81.D X81.nt) = some A81 := by kernel_rfl
theorem o81 : compRes X81.P Tryz.f81.results.toList = some O81 := by kernel_rfl
theorem v81 : X81.vs = [0, 1, 4, 5, 10, 14, 26] := rfl
theorem p81 : X81.P = Tryz.prog := rfl
def R72_0 : List AR := [⟨(some 4), none, 0, (.mov (.k (.int .i64 0)))⟩]
def R72_1 : List AR := [⟨(some 6), none, 0, (.mov (.t 1))⟩, ⟨(some 7), none, 0, (.mov (.t 0))⟩, ⟨(some 8), none, 0, (.len (.t 7))⟩, ⟨(some 9), none, 0, (.bin .sub (.t 6) (.t 8))⟩, ⟨(some 1), none, 0, (.mov (.t 9))⟩]
def R72_2 : List AR := [⟨(some 10), none, 0, (.mov (.t 1))⟩, ⟨(some 11), none, 0, (.bin .lss (.t 10) (.k (.int .i64 0)))⟩]
def R72_3 : List AR := [⟨(some 4), none, 0, (.mov (.k (.int .i64 (-1))))⟩]
def R72_4 : List AR := [⟨(some 5), none, 0, (.mov (.k (.int .i64 0)))⟩]
def R72_5 : List AR := [⟨(some 12), none, 0, (.mov (.t 5))⟩, ⟨(some 13), none, 0, (.mov (.t 0))⟩, ⟨(some 14), none, 0, (.len (.t 13))⟩, ⟨(some 15), none, 0, (.bin .lss (.t 12) (.t 14))⟩]
def R72_6 : List AR := [⟨(some 18), none, 0, (.mov (.t 0))⟩, ⟨(some 19), none, 0, (.mov (.t 5))⟩, ⟨(some 20), none, 0, (.iaddr 19 (.t 18) (.t 19))⟩, ⟨(some 21), none, 0, (.load 19 true (.t 20))⟩, ⟨(some 22), none, 0, (.mov (.t 1))⟩, ⟨(some 23), none, 0, (.call false 0 0 123 [(.t 21), (.t 22)])⟩, ⟨(some 1), none, 0, (.mov (.t 23))⟩]
def R72_7 : List AR := [⟨(some 24), none, 0, (.mov (.t 1))⟩, ⟨(some 25), none, 0, (.bin .lss (.t 24) (.k (.int .i64 0)))⟩]
def R72_8 : List AR := [⟨(some 4), none, 0, (.mov (.k (.int .i64 (-1))))⟩]
def A72_0 : AC := (.seq (.reg 0 R72_7) (.cond (.t 25) (.seq (.reg 0 R72_8) .ret) .skip))
def R72_9 : List AR := [⟨(some 16), none, 0, (.mov (.t 5))⟩, ⟨(some 17), none, 0, (.bin .add (.t 16) (.k (.int .i64 1)))⟩, ⟨(some 5), none, 0, (.mov (.t 17))⟩]
def A72_1 : AC := (.seq (.block 1 (.seq (.reg 0 R72_6) A72_0)) (.reg 0 R72_9))
def L72_0 : AC := (.seq (.seq (.reg 0 R72_5) (.cond (.t 15) .skip (.exit 0))) A72_1)
def R72_10 : List AR := [⟨(some 26), none, 0, (.mov (.t 1))⟩, ⟨(some 4), none, 0, (.mov (.t 26))⟩]
def A72_2 : AC := (.seq (.reg 0 R72_10) .ret)
def A72_3 : AC := (.seq (.seq (.reg 0 R72_4) (.block 0 (.loop L72_0))) A72_2)
def A72_4 : AC := (.seq (.seq (.reg 0 R72_2) (.cond (.t 11) (.seq (.reg 0 R72_3) .ret) .skip)) A72_3)
def A72_5 : AC := (.seq (.reg 0 R72_1) A72_4)
def A72 : AC := (.seq (.reg 0 R72_0) A72_5)
def O72 : List AO := [(.mov (.t 4))]
def G72 : Fns := ⟨fun f => false, fun f => 0, false⟩
noncomputable def X72 : Cx := ⟨Tryz.prog, G72, drawD, 27, [0, 1, 4, 5, 11, 15, 25]⟩
theorem c72 : (Tryz.f72.body).bind (compC X72.P X72.Γ X72.D X72.nt) = some A72 := by kernel_rfl
theorem o72 : compRes X72.P Tryz.f72.results.toList = some O72 := by kernel_rfl
theorem v72 : X72.vs = [0, 1, 4, 5, 11, 15, 25] := rfl
theorem p72 : X72.P = Tryz.prog := rfl
def R27_0 : List AR := [⟨(some 1), none, 0, (.box 0 3 (.t 0))⟩, ⟨(some 2), none, 0, (.alloc 1 3 [.nl, .nl, .nl])⟩]
def R27_1 : List AR := [⟨(some 3), none, 0, (.alloc 0 3 [.nl, .nl, .nl])⟩]
def R27_2 : List AR := [⟨(some 4), none, 0, (.faddr 0 (.t 1))⟩, ⟨(some 5), none, 0, (.load 1 false (.t 4))⟩, ⟨(some 6), none, 0, (.call false 0 0 77 [(.t 5)])⟩, ⟨(some 7), none, 0, (.faddr 0 (.t 3))⟩, ⟨none, none, 0, (.store 1 (.t 7) (.t 6))⟩]
def R27_3 : List AR := [⟨(some 8), none, 0, (.faddr 1 (.t 1))⟩, ⟨(some 9), none, 0, (.load 1 false (.t 8))⟩, ⟨(some 10), none, 0, (.call false 0 0 78 [(.t 9)])⟩, ⟨(some 11), none, 0, (.faddr 1 (.t 3))⟩, ⟨none, none, 0, (.store 1 (.t 11) (.t 10))⟩]
def R27_4 : List AR := [⟨(some 12), none, 0, (.faddr 2 (.t 1))⟩, ⟨(some 13), none, 0, (.load 1 false (.t 12))⟩, ⟨(some 14), none, 0, (.call false 0 0 79 [(.t 13)])⟩, ⟨(some 15), none, 0, (.faddr 2 (.t 3))⟩, ⟨none, none, 0, (.store 1 (.t 15) (.t 14))⟩]
def R27_5 : List AR := [⟨(some 16), none, 0, (.load 3 true (.t 3))⟩, ⟨none, none, 0, (.store 3 (.t 2) (.t 16))⟩]
def A27_0 : AC := (.seq (.reg 0 R27_5) .ret)
def A27_1 : AC := (.seq (.reg 0 R27_4) A27_0)
def A27_2 : AC := (.seq (.reg 0 R27_3) A27_1)
def A27_3 : AC := (.seq (.reg 0 R27_2) A27_2)
def A27_4 : AC := (.seq (.reg 1 R27_1) A27_3)
def A27 : AC := (.seq (.reg 2 R27_0) A27_4)
def O27 : List AO := [(.load 3 true (.t 2))]
def G27 : Fns := ⟨fun f => false, fun f => 0, false⟩
noncomputable def X27 : Cx := ⟨Tryz.prog, G27, drawD, 17, [0, 1, 2, 3]⟩
theorem c27 : (Tryz.f27.body).bind (compC X27.P X27.Γ X27.D X27.nt) = some A27 := by kernel_rfl
theorem o27 : compRes X27.P Tryz.f27.results.toList = some O27 := by kernel_rfl
theorem v27 : X27.vs = [0, 1, 2, 3] := rfl
theorem p27 : X27.P = Tryz.prog := rfl
def R29_0 : List AR := [⟨(some 2), none, 0, (.box 0 3 (.t 0))⟩, ⟨(some 3), none, 0, (.box 1 3 (.t 1))⟩, ⟨(some 4), none, 0, (.mov (.k (.bool false)))⟩]
def R29_1 : List AR := [⟨(some 5), none, 0, (.faddr 0 (.t 2))⟩, ⟨(some 6), none, 0, (.load 1 false (.t 5))⟩, ⟨(some 7), none, 0, (.faddr 0 (.t 3))⟩, ⟨(some 8), none, 0, (.load 1 false (.t 7))⟩, ⟨(some 9), none, 0, (.call false 0 0 81 [(.t 6), (.t 8)])⟩, ⟨(some 10), none, 0, (.not (.t 9))⟩]
def R29_2 : List AR := [⟨(some 4), none, 0, (.mov (.k (.bool false)))⟩]
def R29_3 : List AR := [⟨(some 11), none, 0, (.faddr 1 (.t 2))⟩, ⟨(some 12), none, 0, (.load 1 false (.t 11))⟩, ⟨(some 13), none, 0, (.faddr 1 (.t 3))⟩, ⟨(some 14), none, 0, (.load 1 false (.t 13))⟩, ⟨(some 15), none, 0, (.call false 0 0 82 [(.t 12), (.t 14)])⟩, ⟨(some 16), none, 0, (.not (.t 15))⟩]
def R29_4 : List AR := [⟨(some 4), none, 0, (.mov (.k (.bool false)))⟩]
def R29_5 : List AR := [⟨(some 17), none, 0, (.faddr 2 (.t 2))⟩, ⟨(some 18), none, 0, (.load 1 false (.t 17))⟩, ⟨(some 19), none, 0, (.faddr 2 (.t 3))⟩, ⟨(some 20), none, 0, (.load 1 false (.t 19))⟩, ⟨(some 21), none, 0, (.call false 0 0 83 [(.t 18), (.t 20)])⟩, ⟨(some 22), none, 0, (.not (.t 21))⟩]
def R29_6 : List AR := [⟨(some 4), none, 0, (.mov (.k (.bool false)))⟩]
def R29_7 : List AR := [⟨(some 4), none, 0, (.mov (.k (.bool true)))⟩]
def A29_0 : AC := (.seq (.reg 0 R29_7) .ret)
def A29_1 : AC := (.seq (.seq (.reg 0 R29_5) (.cond (.t 22) (.seq (.reg 0 R29_6) .ret) .skip)) A29_0)
def A29_2 : AC := (.seq (.seq (.reg 0 R29_3) (.cond (.t 16) (.seq (.reg 0 R29_4) .ret) .skip)) A29_1)
def A29_3 : AC := (.seq (.seq (.reg 0 R29_1) (.cond (.t 10) (.seq (.reg 0 R29_2) .ret) .skip)) A29_2)
def A29 : AC := (.seq (.reg 2 R29_0) A29_3)
def O29 : List AO := [(.mov (.t 4))]
def G29 : Fns := ⟨fun f => false, fun f => 0, false⟩
noncomputable def X29 : Cx := ⟨Tryz.prog, G29, drawD, 23, [0, 1, 2, 3, 4, 10, 16, 22]⟩
theorem c29 : (Tryz.f29.body).bind (compC X29.P X29.Γ X29.D X29.nt) = some A29 := by kernel_rfl
theorem o29 : compRes X29.P Tryz.f29.results.toList = some O29 := by kernel_rfl
theorem v29 : X29.vs = [0, 1, 2, 3, 4, 10, 16, 22] := rfl
theorem p29 : X29.P = Tryz.prog := rfl
def R25_0 : List AR := [⟨(some 2), none, 0, (.box 0 3 (.t 0))⟩, ⟨(some 4), none, 0, (.mov (.k (.int .i64 0)))⟩]
def R25_1 : List AR := [⟨(some 5), none, 0, (.faddr 0 (.t 2))⟩, ⟨(some 6), none, 0, (.load 1 false (.t 5))⟩, ⟨(some 7), none, 0, (.mov (.t 1))⟩, ⟨(some 8), none, 0, (.call false 0 0 72 [(.t 6), (.t 7)])⟩, ⟨(some 1), none, 0, (.mov (.t 8))⟩]
def R25_2 : List AR := [⟨(some 9), none, 0, (.mov (.t 1))⟩, ⟨(some 10), none, 0, (.bin .lss (.t 9) (.k (.int .i64 0)))⟩]
def R25_3 : List AR := [⟨(some 4), none, 0, (.mov (.k (.int .i64 (-1))))⟩]
def R25_4 : List AR := [⟨(some 11), none, 0, (.faddr 1 (.t 2))⟩, ⟨(some 12), none, 0, (.load 1 false (.t 11))⟩, ⟨(some 13), none, 0, (.mov (.t 1))⟩, ⟨(some 14), none, 0, (.call false 0 0 73 [(.t 12), (.t 13)])⟩, ⟨(some 1), none, 0, (.mov (.t 14))⟩]
def R25_5 : List AR := [⟨(some 15), none, 0, (.mov (.t 1))⟩, ⟨(some 16), none, 0, (.bin .lss (.t 15) (.k (.int .i64 0)))⟩]
def R25_6 : List AR := [⟨(some 4), none, 0, (.mov (.k (.int .i64 (-1))))⟩]
def R25_7 : List AR := [⟨(some 17), none, 0, (.faddr 2 (.t 2))⟩, ⟨(some 18), none, 0, (.load 1 false (.t 17))⟩, ⟨(some 19), none, 0, (.mov (.t 1))⟩, ⟨(some 20), none, 0, (.call false 0 0 74 [(.t 18), (.t 19)])⟩, ⟨(some 1), none, 0, (.mov (.t 20))⟩]
def R25_8 : List AR := [⟨(some 21), none, 0, (.mov (.t 1))⟩, ⟨(some 22), none, 0, (.bin .lss (.t 21) (.k (.int .i64 0)))⟩]
def R25_9 : List AR := [⟨(some 4), none, 0, (.mov (.k (.int .i64 (-1))))⟩]
def R25_10 : List AR := [⟨(some 23), none, 0, (.mov (.t 1))⟩, ⟨(some 4), none, 0, (.mov (.t 23))⟩]
def A25_0 : AC := (.seq (.reg 0 R25_10) .ret)
def A25_1 : AC := (.seq (.seq (.reg 0 R25_8) (.cond (.t 22) (.seq (.reg 0 R25_9) .ret) .skip)) A25_0)
def A25_2 : AC := (.seq (.reg 0 R25_7) A25_1)
def A25_3 : AC := (.seq (.seq (.reg 0 R25_5) (.cond (.t 16) (.seq (.reg 0 R25_6) .ret) .skip)) A25_2)
def A25_4 : AC := (.seq (.reg 0 R25_4) A25_3)
def A25_5 : AC := (.seq (.seq (.reg 0 R25_2) (.cond (.t 10) (.seq (.reg 0 R25_3) .ret) .skip)) A25_4)
def A25_6 : AC := (.seq (.reg 0 R25_1) A25_5)
def A25 : AC := (.seq (.reg 1 R25_0) A25_6)
def O25 : List AO := [(.mov (.t 4))]
def G25 : Fns := ⟨fun f => false, fun f => 0, false⟩
noncomputable def X25 : Cx := ⟨Tryz.prog, G25, drawD, 24, [0, 1, 2, 4, 10, 16, 22]⟩
theorem c25 : (Tryz.f25.body).bind (compC X25.P X25.Γ X25.D X25.nt) = some A25 := by kernel_rfl
theorem o25 : compRes X25.P Tryz.f25.results.toList = some O25 := by kernel_rfl
theorem v25 : X25.vs = [0, 1, 2, 4, 10, 16, 22] := rfl
theorem p25 : X25.P = Tryz.prog := rfl
theorem toPack_ok (a : Pack) (h : a.sz ≤ 1048576) : FS Tryz.prog 127 [] [.agg a.c] (.agg a.c) [] := by
  have hl : a.bytes.length ≤ 1048576 := h
  refine FS.of (X := X127) (ac := A127) (os := O127) Tryz.func127 (by rfl) (by rfl) (by kernel_rfl) o127 (Nat.le_of_ble_eq_true rfl) ?_
  show AWP X127 A127 (Ends X127.vs O127 0 _ _) [.agg a.c, .tup [], .tup [], .tup []] []
  obtain ⟨Q, hQ⟩ : ∃ Q, Q = Ends X127.vs O127 0 (.agg a.c) [] := ⟨_, rfl⟩
  rw [← hQ]
  refine awp_sr ?_
  simp only [go_sem, R127_0, v127, p127, Pack.c]
  refine awp_sr ?_
  simp only [go_sem, R127_1, v127, p127]
  refine awp_sr ?_
  simp only [go_sem, R127_2, v127, p127]
  refine awp_sr ?_
  simp only [go_sem, R127_3, v127, p127]
  refine run_see (toByteS_ok a.bytes (by omega)) false (Views.refl rfl) rfl (fun j hj => by omega) (fun h => by cases h) ?_
  simp only [go_sem, v127, p127]
  refine awp_sr ?_
  simp only [go_sem, R127_4, v127, p127]
  refine awp_sr ?_
  simp only [go_sem, R127_5, v127, p127]
  refine awp_ret ?_
  try simp only [go_sem]
  rw [hQ]
  exact Ends.plain (.inl rfl) rfl (.refl _) rfl
theorem eqPack_ok (a b : Pack) (h : a.sz ≤ 1048576) : FS Tryz.prog 130 [] [.agg a.c, .agg b.c] (.bool (decide (a = b))) [] := by
  have hl : a.bytes.length ≤ 1048576 := h
  refine FS.of (X := X130) (ac := A130) (os := O130) Tryz.func130 (by rfl) (by rfl) (by kernel_rfl) o130 (Nat.le_of_ble_eq_true rfl) ?_
  show AWP X130 A130 (Ends X130.vs O130 0 _ _) [.agg a.c, .agg b.c, .tup [], .tup [], .tup [], .tup [], .tup [], .tup []] []
  obtain ⟨Q, hQ⟩ : ∃ Q, Q = Ends X130.vs O130 0 (.bool (decide (a = b))) [] := ⟨_, rfl⟩
  rw [← hQ]
  have fin : ∀ L σ q, look X130.vs L 4 = .bool q → q = decide (a = b) → Q .ret L σ := by
    intro L σ q h1 h2
    rw [hQ]
    refine Ends.is (.inl rfl) (rs := [.bool q]) (by simp only [go_sem, O130, h1]) ?_ rfl
    simp [packV, h2]
  refine awp_sr ?_
  simp only [go_sem, R130_0, v130, p130, Pack.c]
  refine awp_sr2 ?_
  simp only [go_sem, R130_1, v130, p130]
  refine awp_if rfl ?_ ?_
  · intro h
    refine awp_sr ?_
    simp only [go_sem, R130_2, v130, p130]
    refine awp_ret ?_
    try simp only [go_sem]
    exact fin _ _ _ rfl (decide_eq_false fun e => h (by rw [e])).symm
  intro h0
  refine awp_skip ?_
  simp only [go_sem]
  refine awp_sr2 ?_
  simp only [go_sem, R130_3, v130, p130]
  refine run_see (eqByteS_ok a.bytes b.bytes (by omega)) false (Views.refl rfl) rfl (fun j hj => by omega) (fun h => by cases h) ?_
  simp only [go_sem, v130, p130]
  refine awp_if' rfl ?_ ?_
  · intro h
    refine awp_sr ?_
    simp only [go_sem, R130_4, v130, p130]
    refine awp_ret ?_
    try simp only [go_sem]
    exact fin _ _ _ rfl (decide_eq_false fun e => h (by rw [e])).symm
  intro h1
  refine awp_skip ?_
  simp only [go_sem]
  refine awp_sr2 ?_
  simp only [go_sem, R130_5, v130, p130]
  refine awp_if' rfl ?_ ?_
  · intro h
    refine awp_sr ?_
    simp only [go_sem, R130_6, v130, p130]
    refine awp_ret ?_
    try simp only [go_sem]
    exact fin _ _ _ rfl (decide_eq_false fun e => h (by rw [e])).symm
  intro h2
  refine awp_skip ?_
  simp only [go_sem]
  refine awp_sr ?_
  simp only [go_sem, R130_7, v130, p130]
  refine awp_ret ?_
  try simp only [go_sem]
  refine fin _ _ _ rfl (decide_eq_true ?_).symm
  cases a; cases b
  simp at h0 h1 h2
  simp [h0, h1, h2]
theorem szPack_ok (a : Pack) (n : Nat) (hn : n ≤ 1048576) (ha : a.ok) : FS Tryz.prog 124 [] [.agg a.c, .int .i64 n] (.int .i64 (left n a.sz)) [] := by
  refine FS.of (X := X124) (ac := A124) (os := O124) Tryz.func124 (by rfl) (by rfl) (by kernel_rfl) o124 (Nat.le_of_ble_eq_true rfl) ?_
  show AWP X124 A124 (Ends X124.vs O124 0 _ _) [.agg a.c, .int .i64 n, .tup [], .tup [], .tup []] []
  obtain ⟨Q, hQ⟩ : ∃ Q, Q = Ends X124.vs O124 0 (.int .i64 (left n a.sz)) [] := ⟨_, rfl⟩
  rw [← hQ]
  have p0 := ha
  have tot : a.sz = a.bytes.length := rfl
  refine awp_sr ?_
  simp only [go_sem, R124_0, v124, p124, Pack.c]
  refine awp_sr ?_
  simp only [go_sem, R124_1, v124, p124]
  refine run_see (szByteS_ok a.bytes n (by omega) p0) false (Views.refl rfl) rfl (fun j hj => by omega) (fun h => by cases h) ?_
  simp only [go_sem, v124, p124]
  refine awp_sr2 ?_
  simp only [go_sem, R124_2, v124, p124]
  refine awp_if rfl ?_ ?_
  · intro h
    refine awp_sr ?_
    simp only [go_sem, R124_3, v124, p124]
    refine awp_ret ?_
    try simp only [go_sem]
    rw [hQ]
    refine Ends.is (.inl rfl) rfl (congrArg (V.int .i64) (left_no ?_).symm) rfl
    have : ¬ a.bytes.length ≤ n := fun e => by rw [left_is e] at h; omega
    omega
  intro h0
  obtain ⟨e0, g0⟩ := left_pos h0
  rw [e0]
  refine awp_skip ?_
  simp only [go_sem]
  refine awp_sr ?_
  simp only [go_sem, R124_4, v124, p124]
  refine awp_ret ?_
  try simp only [go_sem]
  rw [hQ]
  refine Ends.is (.inl rfl) rfl (congrArg (V.int .i64) ?_) rfl
  rw [left_is (by omega)]
  omega
theorem toPackS_ok (xs : List Pack) (h : szS Pack.sz xs ≤ 1048576) : FS Tryz.prog 78 [] [.fz 3 (rw_ Pack.c xs)] (.fz 3 (rw_ Pack.c xs)) [] := by
  have hx : xs.length ≤ 1048576 := by unfold szS at h; omega
  refine FS.of (X := X78) (ac := A78) (os := O78) Tryz.func78 (by rfl) (by rfl) (by kernel_rfl) o78 (Nat.le_of_ble_eq_true rfl) ?_
  show AWP X78 A78 (Ends X78.vs O78 0 _ _) [.fz 3 (rw_ Pack.c xs), .tup [], .tup [], .tup [], .tup []] []
  obtain ⟨Q, hQ⟩ : ∃ Q, Q = Ends X78.vs O78 0 (.fz 3 (rw_ Pack.c xs)) [] := ⟨_, rfl⟩
  rw [← hQ]
  refine awp_sr ?_
  simp only [go_sem, R78_0, v78, p78]
  refine awp_sr ?_
  simp only [go_sem, R78_1, v78, p78]
  refine ⟨by omega, ?_⟩
  refine awp_obj ⟨3, List.replicate xs.length Pack.zero.c⟩ (o := 0) rfl (ObLe.rep rfl fun j u v h1 h2 => ?_) ?_
  · cases j with
    | zero => simp at h1; simp [Pack.zero, Pack.c, rw_] at h2; subst h1; subst h2; exact .refl _
    | succ j =>
      cases j with
      | zero => simp at h1; simp [Pack.zero, Pack.c, rw_] at h2; subst h1; subst h2; exact .nl 1
      | succ j =>
        cases j with
        | zero => simp at h1; simp [Pack.zero, Pack.c, rw_] at h2; subst h1; subst h2; exact .refl _
        | succ j =>
          simp at h1
  show AWP X78 _ _ _ [.live ⟨3, List.replicate xs.length Pack.zero.c⟩]
  refine awp_sr2 ?_
  simp only [go_sem, R78_2, v78, p78]
  refine awp_for (fun m L σ => ∃ i x11 ys, m = xs.length - i ∧ i ≤ xs.length ∧ ys.length = xs.length ∧ ys.take i = xs.take i ∧ L = [.fz 3 (rw_ Pack.c xs), .nl, .sl 0 3 0 xs.length, .int .i64 (i : Nat), x11] ∧ σ = [.live ⟨3, rw_ Pack.c ys⟩]) xs.length
    ⟨0, _, List.replicate xs.length Pack.zero, rfl, Nat.zero_le _, by simp, by simp, rfl, congrArg (fun r => [Slot.live ⟨3, r⟩]) (rw_rep Pack.c xs.length Pack.zero)⟩ ?_
  rintro m L σ ⟨i, x11, ys, rfl, hi, hl, ht, rfl, rfl⟩
  refine awp_sr2 ?_
  simp only [go_sem, R78_3, v78, p78]
  refine awp_if rfl ?_ ?_
  · intro h1
    have h1 : i < xs.length := by omega
    have h2 : i < ys.length := by omega
    refine awp_skip ?_
    simp only [go_sem]
    refine awp_seq (awp_block ?_)
    refine awp_reg ?_
    simp only [go_sem, R78_4, v78, p78, rw_at _ h1, Pack.c]
    refine run_see (toPack_ok xs[i] (by have := sumBy_get Pack.sz h1; unfold szS at h; omega)) false (Views.refl rfl) rfl (fun j hj => by omega) (fun h => by cases h) ?_
    simp only [go_sem, v78, p78, rw_at _ h2, Pack.c]
    refine ⟨by omega, ?_⟩
    refine awp_reg ?_
    simp only [go_sem, R78_5, v78, p78, wrap_succ (i := i) (by omega)]
    refine ⟨xs.length - (i + 1), by omega, i + 1, _, ys.set i xs[i], rfl, by omega, by simpa using hl, ?_, rfl, congrArg (fun r => [Slot.live ⟨3, r⟩]) (rw_set Pack.c ys i xs[i])⟩
    rw [List.take_succ_eq_append_getElem h1, List.take_succ_eq_append_getElem (by simpa using h2), List.take_set_of_le (Nat.le_refl _), ht]
    simp
  · intro h1
    refine awp_exit ?_
    simp only [go_sem]
    refine awp_sr ?_
    simp only [go_sem, R78_6, v78, p78]
    refine awp_ret ?_
    try simp only [go_sem]
    have : i = xs.length := by omega
    subst this
    rw [List.take_length, ← hl, List.take_length] at ht
    subst ht
    rw [hQ]
    exact Ends.frzSl (.inl rfl) rfl rfl (by simp [rw_]) (rw_closed Pack.c_closed _)
theorem szPackS_ok (xs : List Pack) (n : Nat) (hn : n ≤ 1048576) (ha : okS Pack.ok xs) : FS Tryz.prog 73 [] [.fz 3 (rw_ Pack.c xs), .int .i64 n] (.int .i64 (left n (szS Pack.sz xs))) [] := by
  refine FS.of (X := X73) (ac := A73) (os := O73) Tryz.func73 (by rfl) (by rfl) (by kernel_rfl) o73 (Nat.le_of_ble_eq_true rfl) ?_
  show AWP X73 A73 (Ends X73.vs O73 0 _ _) [.fz 3 (rw_ Pack.c xs), .int .i64 n, .tup [], .tup [], .tup [], .tup [], .tup []] []
  obtain ⟨Q, hQ⟩ : ∃ Q, Q = Ends X73.vs O73 0 (.int .i64 (left n (szS Pack.sz xs))) [] := ⟨_, rfl⟩
  rw [← hQ]
  obtain ⟨ha1, ha2⟩ := ha
  have ha1 : xs.length ≤ 1000000000000000 := ha1
  refine awp_sr ?_
  simp only [go_sem, R73_0, v73, p73]
  refine awp_sr ?_
  simp only [go_sem, R73_1, v73, p73, wrap_i64 (n := (n : Int) - xs.length) (by omega) (by omega)]
  refine awp_sr2 ?_
  simp only [go_sem, R73_2, v73, p73]
  refine awp_if rfl ?_ ?_
  · intro h
    refine awp_sr ?_
    simp only [go_sem, R73_3, v73, p73]
    refine awp_ret ?_
    try simp only [go_sem]
    rw [hQ]
    exact Ends.is (.inl rfl) rfl (congrArg (V.int .i64) (left_no (by unfold szS; omega)).symm) rfl
  intro h
  have h0 : xs.length ≤ n := by omega
  refine awp_skip ?_
  simp only [go_sem]
  refine awp_sr2 ?_
  simp only [go_sem, R73_4, v73, p73]
  refine awp_for (fun m L σ => ∃ i x11 x15 x25, m = xs.length - i ∧ i ≤ xs.length ∧ xs.length + sumBy Pack.sz (xs.take i) ≤ n ∧ L = [.fz 3 (rw_ Pack.c xs), .int .i64 ((n - (xs.length + sumBy Pack.sz (xs.take i)) : Nat) : Int), .int .i64 0, .int .i64 (i : Nat), x11, x15, x25]) xs.length
    ⟨0, _, _, _, rfl, Nat.zero_le _, by simpa [sumBy] using h0, by rw [show ((n : Int) - xs.length) = ((n - (xs.length + sumBy Pack.sz (xs.take 0)) : Nat) : Int) by simp [sumBy]; omega]; rfl⟩ ?_
  rintro m L σ ⟨i, x11, x15, x25, rfl, hi, hs, rfl⟩
  refine awp_sr2 ?_
  simp only [go_sem, R73_5, v73, p73]
  refine awp_if rfl ?_ ?_
  · intro h1
    have h1 : i < xs.length := by omega
    refine awp_skip ?_
    simp only [go_sem]
    refine awp_seq (awp_block ?_)
    refine awp_sr ?_
    simp only [go_sem, R73_6, v73, p73, rw_at _ h1, Pack.c]
    refine run_see (szPack_ok xs[i] (n - (xs.length + sumBy Pack.sz (xs.take i))) (by omega) (ha2 _ (List.getElem_mem h1))) false (Views.refl rfl) rfl (fun j hj => by omega) (fun h => by cases h) ?_
    simp only [go_sem, v73, p73]
    have e1 := sumBy_take Pack.sz h1
    have e2 := sumBy_le Pack.sz xs (i + 1)
    refine awp_sr ?_
    simp only [go_sem, R73_7, v73, p73]
    refine awp_if rfl ?_ ?_
    · intro h2
      refine awp_sr ?_
      simp only [go_sem, R73_8, v73, p73]
      refine awp_ret ?_
      try simp only [go_sem]
      rw [hQ]
      refine Ends.is (.inl rfl) rfl (congrArg (V.int .i64) (left_no ?_).symm) rfl
      have : ¬ Pack.sz xs[i] ≤ n - (xs.length + sumBy Pack.sz (xs.take i)) := fun e => by rw [left_is e] at h2; omega
      unfold szS; omega
    · intro h2
      obtain ⟨e3, e4⟩ := left_pos h2
      refine awp_skip ?_
      simp only [go_sem]
      refine awp_reg ?_
      simp only [go_sem, R73_9, v73, p73, wrap_succ (i := i) (by omega)]
      rw [e3, show (n - (xs.length + sumBy Pack.sz (xs.take i)) - Pack.sz xs[i] : Nat) = n - (xs.length + sumBy Pack.sz (xs.take (i + 1))) by omega]
      exact ⟨xs.length - (i + 1), by omega, i + 1, _, _, _, rfl, by omega, by omega, rfl⟩
  · intro h1
    refine awp_exit ?_
    simp only [go_sem]
    refine awp_sr ?_
    simp only [go_sem, R73_10, v73, p73]
    refine awp_ret ?_
    try simp only [go_sem]
    have : i = xs.length := by omega
    subst this
    rw [hQ]
    refine Ends.is (.inl rfl) rfl (congrArg (V.int .i64) ?_) rfl
    rw [left_is (by unfold szS; rw [List.take_length] at hs; omega), List.take_length]
    rfl
theorem eqPackS_ok (xs ys : List Pack) (hx : xs.length ≤ 1000000000) (h : szS Pack.sz xs ≤ 1048576) : FS Tryz.prog 82 [] [.fz 3 (rw_ Pack.c xs), .fz 3 (rw_ Pack.c ys)] (.bool (decide (xs = ys))) [] := by
  refine FS.of (X := X82) (ac := A82) (os := O82) Tryz.func82 (by rfl) (by rfl) (by kernel_rfl) o82 (Nat.le_of_ble_eq_true rfl) ?_
  show AWP X82 A82 (Ends X82.vs O82 0 _ _) [.fz 3 (rw_ Pack.c xs), .fz 3 (rw_ Pack.c ys), .tup [], .tup [], .tup [], .tup [], .tup []] []
  obtain ⟨Q, hQ⟩ : ∃ Q, Q = Ends X82.vs O82 0 (.bool (decide (xs = ys))) [] := ⟨_, rfl⟩
  rw [← hQ]
  have fin : ∀ L σ b, look X82.vs L 4 = .bool b → b = decide (xs = ys) → Q .ret L σ := by
    intro L σ b h1 h2
    rw [hQ]
    refine Ends.is (.inl rfl) (rs := [.bool b]) (by simp only [go_sem, O82, h1]) ?_ rfl
    simp [packV, h2]
  refine awp_sr ?_
  simp only [go_sem, R82_0, v82, p82]
  refine awp_sr2 ?_
  simp only [go_sem, R82_1, v82, p82]
  refine awp_if rfl ?_ ?_
  · intro h
    refine awp_sr ?_
    simp only [go_sem, R82_2, v82, p82]
    refine awp_ret ?_
    try simp only [go_sem]
    refine fin _ _ false rfl ?_
    symm; simp; intro e; subst e; exact h rfl
  intro hne
  have hl : xs.length = ys.length := by omega
  refine awp_skip ?_
  simp only [go_sem]
  refine awp_sr2 ?_
  simp only [go_sem, R82_3, v82, p82]
  refine awp_for (fun m L σ => ∃ i x10 x14 x25, m = xs.length - i ∧ i ≤ xs.length ∧ xs.take i = ys.take i ∧ L = [.fz 3 (rw_ Pack.c xs), .fz 3 (rw_ Pack.c ys), .bool false, .int .i64 (i : Nat), x10, x14, x25]) xs.length ⟨0, _, _, _, rfl, Nat.zero_le _, by simp, rfl⟩ ?_
  rintro m L σ ⟨i, x10, x14, x25, rfl, hi, ht, rfl⟩
  refine awp_sr2 ?_
  simp only [go_sem, R82_4, v82, p82]
  refine awp_if rfl ?_ ?_
  · intro h1
    have h1 : i < xs.length := by omega
    have h2 : i < ys.length := by omega
    refine awp_skip ?_
    simp only [go_sem]
    refine awp_seq (awp_block ?_)
    refine awp_sd mixed rfl (by rfl) ?_
    simp only [go_sem, R82_5, v82, p82, rw_at _ h1, rw_at _ h2, Pack.c]
    refine run_see (eqPack_ok xs[i] ys[i] (by have := sumBy_get Pack.sz h1; have h : xs.length + sumBy Pack.sz xs ≤ 1048576 := h; omega)) false (Views.refl rfl) rfl (fun j hj => by omega) (fun h => by cases h) ?_
    simp only [go_sem, v82, p82]
    refine awp_if' rfl ?_ ?_
    · intro h3
      refine awp_sr ?_
      simp only [go_sem, R82_6, v82, p82]
      refine awp_ret ?_
      try simp only [go_sem]
      refine fin _ _ false rfl ?_
      symm; simp; intro e; subst e; exact h3 rfl
    · intro h3
      refine awp_skip ?_
      simp only [go_sem]
      refine awp_reg ?_
      simp only [go_sem, R82_7, v82, p82, wrap_succ (i := i) (by omega)]
      refine ⟨xs.length - (i + 1), by omega, i + 1, _, _, _, rfl, by omega, ?_, rfl⟩
      rw [List.take_succ_eq_append_getElem h1, List.take_succ_eq_append_getElem h2, ht, h3]
  · intro h1
    refine awp_exit ?_
    simp only [go_sem]
    refine awp_sr ?_
    simp only [go_sem, R82_8, v82, p82]
    refine awp_ret ?_
    try simp only [go_sem]
    refine fin _ _ true rfl ?_
    have : i = xs.length := by omega
    subst this
    rw [List.take_length, hl, List.take_length] at ht
    simp [ht]
theorem toSaid_ok (a : Said) (h : a.sz ≤ 1048576) : FS Tryz.prog 128 [] [.agg a.c] (.agg a.c) [] := by
  have hl : a.part.sz ≤ 1048576 := h
  refine FS.of (X := X128) (ac := A128) (os := O128) Tryz.func128 (by rfl) (by rfl) (by kernel_rfl) o128 (Nat.le_of_ble_eq_true rfl) ?_
  show AWP X128 A128 (Ends X128.vs O128 0 _ _) [.agg a.c, .tup [], .tup [], .tup []] []
  obtain ⟨Q, hQ⟩ : ∃ Q, Q = Ends X128.vs O128 0 (.agg a.c) [] := ⟨_, rfl⟩
  rw [← hQ]
  refine awp_sr ?_
  simp only [go_sem, R128_0, v128, p128, Said.c]
  refine awp_sr ?_
  simp only [go_sem, R128_1, v128, p128]
  refine awp_sr ?_
  simp only [go_sem, R128_2, v128, p128]
  refine awp_sr ?_
  simp only [go_sem, R128_3, v128, p128]
  refine run_see (toState_ok a.part (by omega)) false (Views.refl rfl) rfl (fun j hj => by omega) (fun h => by cases h) ?_
  simp only [go_sem, v128, p128, State.c]
  refine awp_sr ?_
  simp only [go_sem, R128_4, v128, p128]
  refine awp_ret ?_
  try simp only [go_sem]
  rw [hQ]
  exact Ends.plain (.inl rfl) rfl (.refl _) rfl
theorem eqSaid_ok (a b : Said) (h : a.sz ≤ 1048576) : FS Tryz.prog 131 [] [.agg a.c, .agg b.c] (.bool (decide (a = b))) [] := by
  have hl : a.part.sz ≤ 1048576 := h
  refine FS.of (X := X131) (ac := A131) (os := O131) Tryz.func131 (by rfl) (by rfl) (by kernel_rfl) o131 (Nat.le_of_ble_eq_true rfl) ?_
  show AWP X131 A131 (Ends X131.vs O131 0 _ _) [.agg a.c, .agg b.c, .tup [], .tup [], .tup [], .tup [], .tup []] []
  obtain ⟨Q, hQ⟩ : ∃ Q, Q = Ends X131.vs O131 0 (.bool (decide (a = b))) [] := ⟨_, rfl⟩
  rw [← hQ]
  have fin : ∀ L σ q, look X131.vs L 4 = .bool q → q = decide (a = b) → Q .ret L σ := by
    intro L σ q h1 h2
    rw [hQ]
    refine Ends.is (.inl rfl) (rs := [.bool q]) (by simp only [go_sem, O131, h1]) ?_ rfl
    simp [packV, h2]
  refine awp_sr ?_
  simp only [go_sem, R131_0, v131, p131, Said.c]
  refine awp_sr2 ?_
  simp only [go_sem, R131_1, v131, p131]
  refine awp_if rfl ?_ ?_
  · intro h
    refine awp_sr ?_
    simp only [go_sem, R131_2, v131, p131]
    refine awp_ret ?_
    try simp only [go_sem]
    exact fin _ _ _ rfl (decide_eq_false fun e => h (by rw [e])).symm
  intro h0
  refine awp_skip ?_
  simp only [go_sem]
  refine awp_sr2 ?_
  simp only [go_sem, R131_3, v131, p131]
  refine run_see (eqState_ok a.part b.part (by omega)) false (Views.refl rfl) rfl (fun j hj => by omega) (fun h => by cases h) ?_
  simp only [go_sem, v131, p131]
  refine awp_if' rfl ?_ ?_
  · intro h
    refine awp_sr ?_
    simp only [go_sem, R131_4, v131, p131]
    refine awp_ret ?_
    try simp only [go_sem]
    exact fin _ _ _ rfl (decide_eq_false fun e => h (by rw [e])).symm
  intro h1
  refine awp_skip ?_
  simp only [go_sem]
  refine awp_sr ?_
  simp only [go_sem, R131_5, v131, p131]
  refine awp_ret ?_
  try simp only [go_sem]
  refine fin _ _ _ rfl (decide_eq_true ?_).symm
  cases a; cases b
  simp at h0 h1
  simp [h0, h1]
theorem szSaid_ok (a : Said) (n : Nat) (hn : n ≤ 1048576) (ha : a.ok) : FS Tryz.prog 125 [] [.agg a.c, .int .i64 n] (.int .i64 (left n a.sz)) [] := by
  refine FS.of (X := X125) (ac := A125) (os := O125) Tryz.func125 (by rfl) (by rfl) (by kernel_rfl) o125 (Nat.le_of_ble_eq_true rfl) ?_
  show AWP X125 A125 (Ends X125.vs O125 0 _ _) [.agg a.c, .int .i64 n, .tup [], .tup [], .tup []] []
  obtain ⟨Q, hQ⟩ : ∃ Q, Q = Ends X125.vs O125 0 (.int .i64 (left n a.sz)) [] := ⟨_, rfl⟩
  rw [← hQ]
  have p0 := ha
  have tot : a.sz = a.part.sz := rfl
  refine awp_sr ?_
  simp only [go_sem, R125_0, v125, p125, Said.c]
  refine awp_sr ?_
  simp only [go_sem, R125_1, v125, p125]
  refine run_see (szState_ok a.part n (by omega) p0) false (Views.refl rfl) rfl (fun j hj => by omega) (fun h => by cases h) ?_
  simp only [go_sem, v125, p125]
  refine awp_sr2 ?_
  simp only [go_sem, R125_2, v125, p125]
  refine awp_if rfl ?_ ?_
  · intro h
    refine awp_sr ?_
    simp only [go_sem, R125_3, v125, p125]
    refine awp_ret ?_
    try simp only [go_sem]
    rw [hQ]
    refine Ends.is (.inl rfl) rfl (congrArg (V.int .i64) (left_no ?_).symm) rfl
    have : ¬ a.part.sz ≤ n := fun e => by rw [left_is e] at h; omega
    omega
  intro h0
  obtain ⟨e0, g0⟩ := left_pos h0
  rw [e0]
  refine awp_skip ?_
  simp only [go_sem]
  refine awp_sr ?_
  simp only [go_sem, R125_4, v125, p125]
  refine awp_ret ?_
  try simp only [go_sem]
  rw [hQ]
  refine Ends.is (.inl rfl) rfl (congrArg (V.int .i64) ?_) rfl
  rw [left_is (by omega)]
  omega
theorem toSaidS_ok (xs : List Said) (h : szS Said.sz xs ≤ 1048576) : FS Tryz.prog 79 [] [.fz 3 (rw_ Said.c xs)] (.fz 3 (rw_ Said.c xs)) [] := by
  have hx : xs.length ≤ 1048576 := by unfold szS at h; omega
  refine FS.of (X := X79) (ac := A79) (os := O79) Tryz.func79 (by rfl) (by rfl) (by kernel_rfl) o79 (Nat.le_of_ble_eq_true rfl) ?_
  show AWP X79 A79 (Ends X79.vs O79 0 _ _) [.fz 3 (rw_ Said.c xs), .tup [], .tup [], .tup [], .tup []] []
  obtain ⟨Q, hQ⟩ : ∃ Q, Q = Ends X79.vs O79 0 (.fz 3 (rw_ Said.c xs)) [] := ⟨_, rfl⟩
  rw [← hQ]
  refine awp_sr ?_
  simp only [go_sem, R79_0, v79, p79]
  refine awp_sr ?_
  simp only [go_sem, R79_1, v79, p79]
  refine ⟨by omega, ?_⟩
  refine awp_obj ⟨3, List.replicate xs.length Said.zero.c⟩ (o := 0) rfl (ObLe.rep rfl fun j u v h1 h2 => ?_) ?_
  · cases j with
    | zero => simp at h1; simp [Said.zero, Said.c, rw_] at h2; subst h1; subst h2; exact .refl _
    | succ j =>
      cases j with
      | zero => simp at h1; simp [Said.zero, Said.c, rw_] at h2; subst h1; subst h2; exact .nl 6
      | succ j =>
        cases j with
        | zero => simp at h1; simp [Said.zero, Said.c, rw_] at h2; subst h1; subst h2; exact .nl 2
        | succ j =>
          simp at h1
  show AWP X79 _ _ _ [.live ⟨3, List.replicate xs.length Said.zero.c⟩]
  refine awp_sr2 ?_
  simp only [go_sem, R79_2, v79, p79]
  refine awp_for (fun m L σ => ∃ i x11 ys, m = xs.length - i ∧ i ≤ xs.length ∧ ys.length = xs.length ∧ ys.take i = xs.take i ∧ L = [.fz 3 (rw_ Said.c xs), .nl, .sl 0 3 0 xs.length, .int .i64 (i : Nat), x11] ∧ σ = [.live ⟨3, rw_ Said.c ys⟩]) xs.length
    ⟨0, _, List.replicate xs.length Said.zero, rfl, Nat.zero_le _, by simp, by simp, rfl, congrArg (fun r => [Slot.live ⟨3, r⟩]) (rw_rep Said.c xs.length Said.zero)⟩ ?_
  rintro m L σ ⟨i, x11, ys, rfl, hi, hl, ht, rfl, rfl⟩
  refine awp_sr2 ?_
  simp only [go_sem, R79_3, v79, p79]
  refine awp_if rfl ?_ ?_
  · intro h1
    have h1 : i < xs.length := by omega
    have h2 : i < ys.length := by omega
    refine awp_skip ?_
    simp only [go_sem]
    refine awp_seq (awp_block ?_)
    refine awp_reg ?_
    simp only [go_sem, R79_4, v79, p79, rw_at _ h1, Said.c]
    refine run_see (toSaid_ok xs[i] (by have := sumBy_get Said.sz h1; unfold szS at h; omega)) false (Views.refl rfl) rfl (fun j hj => by omega) (fun h => by cases h) ?_
    simp only [go_sem, v79, p79, rw_at _ h2, Said.c]
    refine ⟨by omega, ?_⟩
    refine awp_reg ?_
    simp only [go_sem, R79_5, v79, p79, wrap_succ (i := i) (by omega)]
    refine ⟨xs.length - (i + 1), by omega, i + 1, _, ys.set i xs[i], rfl, by omega, by simpa using hl, ?_, rfl, congrArg (fun r => [Slot.live ⟨3, r⟩]) (rw_set Said.c ys i xs[i])⟩
    rw [List.take_succ_eq_append_getElem h1, List.take_succ_eq_append_getElem (by simpa using h2), List.take_set_of_le (Nat.le_refl _), ht]
    simp
  · intro h1
    refine awp_exit ?_
    simp only [go_sem]
    refine awp_sr ?_
    simp only [go_sem, R79_6, v79, p79]
    refine awp_ret ?_
    try simp only [go_sem]
    have : i = xs.length := by omega
    subst this
    rw [List.take_length, ← hl, List.take_length] at ht
    subst ht
    rw [hQ]
    exact Ends.frzSl (.inl rfl) rfl rfl (by simp [rw_]) (rw_closed Said.c_closed _)
theorem szSaidS_ok (xs : List Said) (n : Nat) (hn : n ≤ 1048576) (ha : okS Said.ok xs) : FS Tryz.prog 74 [] [.fz 3 (rw_ Said.c xs), .int .i64 n] (.int .i64 (left n (szS Said.sz xs))) [] := by
  refine FS.of (X := X74) (ac := A74) (os := O74) Tryz.func74 (by rfl) (by rfl) (by kernel_rfl) o74 (Nat.le_of_ble_eq_true rfl) ?_
  show AWP X74 A74 (Ends X74.vs O74 0 _ _) [.fz 3 (rw_ Said.c xs), .int .i64 n, .tup [], .tup [], .tup [], .tup [], .tup []] []
  obtain ⟨Q, hQ⟩ : ∃ Q, Q = Ends X74.vs O74 0 (.int .i64 (left n (szS Said.sz xs))) [] := ⟨_, rfl⟩
  rw [← hQ]
  obtain ⟨ha1, ha2⟩ := ha
  have ha1 : xs.length ≤ 1000000000000000 := ha1
  refine awp_sr ?_
  simp only [go_sem, R74_0, v74, p74]
  refine awp_sr ?_
  simp only [go_sem, R74_1, v74, p74, wrap_i64 (n := (n : Int) - xs.length) (by omega) (by omega)]
  refine awp_sr2 ?_
  simp only [go_sem, R74_2, v74, p74]
  refine awp_if rfl ?_ ?_
  · intro h
    refine awp_sr ?_
    simp only [go_sem, R74_3, v74, p74]
    refine awp_ret ?_
    try simp only [go_sem]
    rw [hQ]
    exact Ends.is (.inl rfl) rfl (congrArg (V.int .i64) (left_no (by unfold szS; omega)).symm) rfl
  intro h
  have h0 : xs.length ≤ n := by omega
  refine awp_skip ?_
  simp only [go_sem]
  refine awp_sr2 ?_
  simp only [go_sem, R74_4, v74, p74]
  refine awp_for (fun m L σ => ∃ i x11 x15 x25, m = xs.length - i ∧ i ≤ xs.length ∧ xs.length + sumBy Said.sz (xs.take i) ≤ n ∧ L = [.fz 3 (rw_ Said.c xs), .int .i64 ((n - (xs.length + sumBy Said.sz (xs.take i)) : Nat) : Int), .int .i64 0, .int .i64 (i : Nat), x11, x15, x25]) xs.length
    ⟨0, _, _, _, rfl, Nat.zero_le _, by simpa [sumBy] using h0, by rw [show ((n : Int) - xs.length) = ((n - (xs.length + sumBy Said.sz (xs.take 0)) : Nat) : Int) by simp [sumBy]; omega]; rfl⟩ ?_
  rintro m L σ ⟨i, x11, x15, x25, rfl, hi, hs, rfl⟩
  refine awp_sr2 ?_
  simp only [go_sem, R74_5, v74, p74]
  refine awp_if rfl ?_ ?_
  · intro h1
    have h1 : i < xs.length := by omega
    refine awp_skip ?_
    simp only [go_sem]
    refine awp_seq (awp_block ?_)
    refine awp_sr ?_
    simp only [go_sem, R74_6, v74, p74, rw_at _ h1, Said.c]
    refine run_see (szSaid_ok xs[i] (n - (xs.length + sumBy Said.sz (xs.take i))) (by omega) (ha2 _ (List.getElem_mem h1))) false (Views.refl rfl) rfl (fun j hj => by omega) (fun h => by cases h) ?_
    simp only [go_sem, v74, p74]
    have e1 := sumBy_take Said.sz h1
    have e2 := sumBy_le Said.sz xs (i + 1)
    refine awp_sr ?_
    simp only [go_sem, R74_7, v74, p74]
    refine awp_if rfl ?_ ?_
    · intro h2
      refine awp_sr ?_
      simp only [go_sem, R74_8, v74, p74]
      refine awp_ret ?_
      try simp only [go_sem]
      rw [hQ]
      refine Ends.is (.inl rfl) rfl (congrArg (V.int .i64) (left_no ?_).symm) rfl
      have : ¬ Said.sz xs[i] ≤ n - (xs.length + sumBy Said.sz (xs.take i)) := fun e => by rw [left_is e] at h2; omega
      unfold szS; omega
    · intro h2
      obtain ⟨e3, e4⟩ := left_pos h2
      refine awp_skip ?_
      simp only [go_sem]
      refine awp_reg ?_
      simp only [go_sem, R74_9, v74, p74, wrap_succ (i := i) (by omega)]
      rw [e3, show (n - (xs.length + sumBy Said.sz (xs.take i)) - Said.sz xs[i] : Nat) = n - (xs.length + sumBy Said.sz (xs.take (i + 1))) by omega]
      exact ⟨xs.length - (i + 1), by omega, i + 1, _, _, _, rfl, by omega, by omega, rfl⟩
  · intro h1
    refine awp_exit ?_
    simp only [go_sem]
    refine awp_sr ?_
    simp only [go_sem, R74_10, v74, p74]
    refine awp_ret ?_
    try simp only [go_sem]
    have : i = xs.length := by omega
    subst this
    rw [hQ]
    refine Ends.is (.inl rfl) rfl (congrArg (V.int .i64) ?_) rfl
    rw [left_is (by unfold szS; rw [List.take_length] at hs; omega), List.take_length]
    rfl
theorem eqSaidS_ok (xs ys : List Said) (hx : xs.length ≤ 1000000000) (h : szS Said.sz xs ≤ 1048576) : FS Tryz.prog 83 [] [.fz 3 (rw_ Said.c xs), .fz 3 (rw_ Said.c ys)] (.bool (decide (xs = ys))) [] := by
  refine FS.of (X := X83) (ac := A83) (os := O83) Tryz.func83 (by rfl) (by rfl) (by kernel_rfl) o83 (Nat.le_of_ble_eq_true rfl) ?_
  show AWP X83 A83 (Ends X83.vs O83 0 _ _) [.fz 3 (rw_ Said.c xs), .fz 3 (rw_ Said.c ys), .tup [], .tup [], .tup [], .tup [], .tup []] []
  obtain ⟨Q, hQ⟩ : ∃ Q, Q = Ends X83.vs O83 0 (.bool (decide (xs = ys))) [] := ⟨_, rfl⟩
  rw [← hQ]
  have fin : ∀ L σ b, look X83.vs L 4 = .bool b → b = decide (xs = ys) → Q .ret L σ := by
    intro L σ b h1 h2
    rw [hQ]
    refine Ends.is (.inl rfl) (rs := [.bool b]) (by simp only [go_sem, O83, h1]) ?_ rfl
    simp [packV, h2]
  refine awp_sr ?_
  simp only [go_sem, R83_0, v83, p83]
  refine awp_sr2 ?_
  simp only [go_sem, R83_1, v83, p83]
  refine awp_if rfl ?_ ?_
  · intro h
    refine awp_sr ?_
    simp only [go_sem, R83_2, v83, p83]
    refine awp_ret ?_
    try simp only [go_sem]
    refine fin _ _ false rfl ?_
    symm; simp; intro e; subst e; exact h rfl
  intro hne
  have hl : xs.length = ys.length := by omega
  refine awp_skip ?_
  simp only [go_sem]
  refine awp_sr2 ?_
  simp only [go_sem, R83_3, v83, p83]
  refine awp_for (fun m L σ => ∃ i x10 x14 x25, m = xs.length - i ∧ i ≤ xs.length ∧ xs.take i = ys.take i ∧ L = [.fz 3 (rw_ Said.c xs), .fz 3 (rw_ Said.c ys), .bool false, .int .i64 (i : Nat), x10, x14, x25]) xs.length ⟨0, _, _, _, rfl, Nat.zero_le _, by simp, rfl⟩ ?_
  rintro m L σ ⟨i, x10, x14, x25, rfl, hi, ht, rfl⟩
  refine awp_sr2 ?_
  simp only [go_sem, R83_4, v83, p83]
  refine awp_if rfl ?_ ?_
  · intro h1
    have h1 : i < xs.length := by omega
    have h2 : i < ys.length := by omega
    refine awp_skip ?_
    simp only [go_sem]
    refine awp_seq (awp_block ?_)
    refine awp_sd mixed rfl (by rfl) ?_
    simp only [go_sem, R83_5, v83, p83, rw_at _ h1, rw_at _ h2, Said.c]
    refine run_see (eqSaid_ok xs[i] ys[i] (by have := sumBy_get Said.sz h1; have h : xs.length + sumBy Said.sz xs ≤ 1048576 := h; omega)) false (Views.refl rfl) rfl (fun j hj => by omega) (fun h => by cases h) ?_
    simp only [go_sem, v83, p83]
    refine awp_if' rfl ?_ ?_
    · intro h3
      refine awp_sr ?_
      simp only [go_sem, R83_6, v83, p83]
      refine awp_ret ?_
      try simp only [go_sem]
      refine fin _ _ false rfl ?_
      symm; simp; intro e; subst e; exact h3 rfl
    · intro h3
      refine awp_skip ?_
      simp only [go_sem]
      refine awp_reg ?_
      simp only [go_sem, R83_7, v83, p83, wrap_succ (i := i) (by omega)]
      refine ⟨xs.length - (i + 1), by omega, i + 1, _, _, _, rfl, by omega, ?_, rfl⟩
      rw [List.take_succ_eq_append_getElem h1, List.take_succ_eq_append_getElem h2, ht, h3]
  · intro h1
    refine awp_exit ?_
    simp only [go_sem]
    refine awp_sr ?_
    simp only [go_sem, R83_8, v83, p83]
    refine awp_ret ?_
    try simp only [go_sem]
    refine fin _ _ true rfl ?_
    have : i = xs.length := by omega
    subst this
    rw [List.take_length, hl, List.take_length] at ht
    simp [ht]
theorem toNodeS_ok (xs : List Node) (h : szS Node.sz xs ≤ 1048576) : FS Tryz.prog 77 [] [.fz 19 (rw_ Node.c xs)] (.fz 19 (rw_ Node.c xs)) [] := by
  have hx : xs.length ≤ 1048576 := by unfold szS at h; omega
  refine FS.of (X := X77) (ac := A77) (os := O77) Tryz.func77 (by rfl) (by rfl) (by kernel_rfl) o77 (Nat.le_of_ble_eq_true rfl) ?_
  show AWP X77 A77 (Ends X77.vs O77 0 _ _) [.fz 19 (rw_ Node.c xs), .tup [], .tup [], .tup [], .tup []] []
  obtain ⟨Q, hQ⟩ : ∃ Q, Q = Ends X77.vs O77 0 (.fz 19 (rw_ Node.c xs)) [] := ⟨_, rfl⟩
  rw [← hQ]
  refine awp_sr ?_
  simp only [go_sem, R77_0, v77, p77]
  refine awp_sr ?_
  simp only [go_sem, R77_1, v77, p77]
  refine ⟨by omega, ?_⟩
  refine awp_obj ⟨19, List.replicate xs.length Node.zero.c⟩ (o := 0) rfl (ObLe.rep rfl fun j u v h1 h2 => ?_) ?_
  · cases j with
    | zero => simp at h1; simp [Node.zero, Node.c, rw_] at h2; subst h1; subst h2; exact .refl _
    | succ j =>
      cases j with
      | zero => simp at h1; simp [Node.zero, Node.c, rw_] at h2; subst h1; subst h2; exact .refl _
      | succ j =>
        cases j with
        | zero => simp at h1; simp [Node.zero, Node.c, rw_] at h2; subst h1; subst h2; exact .nl 6
        | succ j =>
          cases j with
          | zero => simp at h1; simp [Node.zero, Node.c, rw_] at h2; subst h1; subst h2; exact .nl 2
          | succ j =>
            cases j with
            | zero => simp at h1; simp [Node.zero, Node.c, rw_] at h2; subst h1; subst h2; exact .nl 1
            | succ j =>
              cases j with
              | zero => simp at h1; simp [Node.zero, Node.c, rw_] at h2; subst h1; subst h2; exact .refl _
              | succ j =>
                cases j with
                | zero => simp at h1; simp [Node.zero, Node.c, rw_] at h2; subst h1; subst h2; exact .refl _
                | succ j =>
                  cases j with
                  | zero => simp at h1; simp [Node.zero, Node.c, rw_] at h2; subst h1; subst h2; exact .refl _
                  | succ j =>
                    cases j with
                    | zero => simp at h1; simp [Node.zero, Node.c, rw_] at h2; subst h1; subst h2; exact .nl 2
                    | succ j =>
                      cases j with
                      | zero => simp at h1; simp [Node.zero, Node.c, rw_] at h2; subst h1; subst h2; exact .nl 1
                      | succ j =>
                        cases j with
                        | zero => simp at h1; simp [Node.zero, Node.c, rw_] at h2; subst h1; subst h2; exact .nl 1
                        | succ j =>
                          cases j with
                          | zero => simp at h1; simp [Node.zero, Node.c, rw_] at h2; subst h1; subst h2; exact .nl 1
                          | succ j =>
                            cases j with
                            | zero => simp at h1; simp [Node.zero, Node.c, rw_] at h2; subst h1; subst h2; exact .refl _
                            | succ j =>
                              cases j with
                              | zero => simp at h1; simp [Node.zero, Node.c, rw_] at h2; subst h1; subst h2; exact .refl _
                              | succ j =>
                                cases j with
                                | zero => simp at h1; simp [Node.zero, Node.c, rw_] at h2; subst h1; subst h2; exact .nl 4
                                | succ j =>
                                  cases j with
                                  | zero => simp at h1; simp [Node.zero, Node.c, rw_] at h2; subst h1; subst h2; exact .refl _
                                  | succ j =>
                                    cases j with
                                    | zero => simp at h1; simp [Node.zero, Node.c, rw_] at h2; subst h1; subst h2; exact .refl _
                                    | succ j =>
                                      cases j with
                                      | zero => simp at h1; simp [Node.zero, Node.c, rw_] at h2; subst h1; subst h2; exact .refl _
                                      | succ j =>
                                        cases j with
                                        | zero => simp at h1; simp [Node.zero, Node.c, rw_] at h2; subst h1; subst h2; exact .nl 3
                                        | succ j =>
                                          simp at h1
  show AWP X77 _ _ _ [.live ⟨19, List.replicate xs.length Node.zero.c⟩]
  refine awp_sr2 ?_
  simp only [go_sem, R77_2, v77, p77]
  refine awp_for (fun m L σ => ∃ i x11 ys, m = xs.length - i ∧ i ≤ xs.length ∧ ys.length = xs.length ∧ ys.take i = xs.take i ∧ L = [.fz 19 (rw_ Node.c xs), .nl, .sl 0 19 0 xs.length, .int .i64 (i : Nat), x11] ∧ σ = [.live ⟨19, rw_ Node.c ys⟩]) xs.length
    ⟨0, _, List.replicate xs.length Node.zero, rfl, Nat.zero_le _, by simp, by simp, rfl, congrArg (fun r => [Slot.live ⟨19, r⟩]) (rw_rep Node.c xs.length Node.zero)⟩ ?_
  rintro m L σ ⟨i, x11, ys, rfl, hi, hl, ht, rfl, rfl⟩
  refine awp_sr2 ?_
  simp only [go_sem, R77_3, v77, p77]
  refine awp_if rfl ?_ ?_
  · intro h1
    have h1 : i < xs.length := by omega
    have h2 : i < ys.length := by omega
    refine awp_skip ?_
    simp only [go_sem]
    refine awp_seq (awp_block ?_)
    refine awp_reg ?_
    simp only [go_sem, R77_4, v77, p77, rw_at _ h1, Node.c]
    refine run_see (toNode_ok xs[i] (by have := sumBy_get Node.sz h1; unfold szS at h; omega)) false (Views.refl rfl) rfl (fun j hj => by omega) (fun h => by cases h) ?_
    simp only [go_sem, v77, p77, rw_at _ h2, Node.c]
    refine ⟨by omega, ?_⟩
    refine awp_reg ?_
    simp only [go_sem, R77_5, v77, p77, wrap_succ (i := i) (by omega)]
    refine ⟨xs.length - (i + 1), by omega, i + 1, _, ys.set i xs[i], rfl, by omega, by simpa using hl, ?_, rfl, congrArg (fun r => [Slot.live ⟨19, r⟩]) (rw_set Node.c ys i xs[i])⟩
    rw [List.take_succ_eq_append_getElem h1, List.take_succ_eq_append_getElem (by simpa using h2), List.take_set_of_le (Nat.le_refl _), ht]
    simp
  · intro h1
    refine awp_exit ?_
    simp only [go_sem]
    refine awp_sr ?_
    simp only [go_sem, R77_6, v77, p77]
    refine awp_ret ?_
    try simp only [go_sem]
    have : i = xs.length := by omega
    subst this
    rw [List.take_length, ← hl, List.take_length] at ht
    subst ht
    rw [hQ]
    exact Ends.frzSl (.inl rfl) rfl rfl (by simp [rw_]) (rw_closed Node.c_closed _)
theorem szNodeS_ok (xs : List Node) (n : Nat) (hn : n ≤ 1048576) (ha : okS Node.ok xs) : FS Tryz.prog 72 [] [.fz 19 (rw_ Node.c xs), .int .i64 n] (.int .i64 (left n (szS Node.sz xs))) [] := by
  refine FS.of (X := X72) (ac := A72) (os := O72) Tryz.func72 (by rfl) (by rfl) (by kernel_rfl) o72 (Nat.le_of_ble_eq_true rfl) ?_
  show AWP X72 A72 (Ends X72.vs O72 0 _ _) [.fz 19 (rw_ Node.c xs), .int .i64 n, .tup [], .tup [], .tup [], .tup [], .tup []] []
  obtain ⟨Q, hQ⟩ : ∃ Q, Q = Ends X72.vs O72 0 (.int .i64 (left n (szS Node.sz xs))) [] := ⟨_, rfl⟩
  rw [← hQ]
  obtain ⟨ha1, ha2⟩ := ha
  have ha1 : xs.length ≤ 1000000000000000 := ha1
  refine awp_sr ?_
  simp only [go_sem, R72_0, v72, p72]
  refine awp_sr ?_
  simp only [go_sem, R72_1, v72, p72, wrap_i64 (n := (n : Int) - xs.length) (by omega) (by omega)]
  refine awp_sr2 ?_
  simp only [go_sem, R72_2, v72, p72]
  refine awp_if rfl ?_ ?_
  · intro h
    refine awp_sr ?_
    simp only [go_sem, R72_3, v72, p72]
    refine awp_ret ?_
    try simp only [go_sem]
    rw [hQ]
    exact Ends.is (.inl rfl) rfl (congrArg (V.int .i64) (left_no (by unfold szS; omega)).symm) rfl
  intro h
  have h0 : xs.length ≤ n := by omega
  refine awp_skip ?_
  simp only [go_sem]
  refine awp_sr2 ?_
  simp only [go_sem, R72_4, v72, p72]
  refine awp_for (fun m L σ => ∃ i x11 x15 x25, m = xs.length - i ∧ i ≤ xs.length ∧ xs.length + sumBy Node.sz (xs.take i) ≤ n ∧ L = [.fz 19 (rw_ Node.c xs), .int .i64 ((n - (xs.length + sumBy Node.sz (xs.take i)) : Nat) : Int), .int .i64 0, .int .i64 (i : Nat), x11, x15, x25]) xs.length
    ⟨0, _, _, _, rfl, Nat.zero_le _, by simpa [sumBy] using h0, by rw [show ((n : Int) - xs.length) = ((n - (xs.length + sumBy Node.sz (xs.take 0)) : Nat) : Int) by simp [sumBy]; omega]; rfl⟩ ?_
  rintro m L σ ⟨i, x11, x15, x25, rfl, hi, hs, rfl⟩
  refine awp_sr2 ?_
  simp only [go_sem, R72_5, v72, p72]
  refine awp_if rfl ?_ ?_
  · intro h1
    have h1 : i < xs.length := by omega
    refine awp_skip ?_
    simp only [go_sem]
    refine awp_seq (awp_block ?_)
    refine awp_sr ?_
    simp only [go_sem, R72_6, v72, p72, rw_at _ h1, Node.c]
    refine run_see (szNode_ok xs[i] (n - (xs.length + sumBy Node.sz (xs.take i))) (by omega) (ha2 _ (List.getElem_mem h1))) false (Views.refl rfl) rfl (fun j hj => by omega) (fun h => by cases h) ?_
    simp only [go_sem, v72, p72]
    have e1 := sumBy_take Node.sz h1
    have e2 := sumBy_le Node.sz xs (i + 1)
    refine awp_sr ?_
    simp only [go_sem, R72_7, v72, p72]
    refine awp_if rfl ?_ ?_
    · intro h2
      refine awp_sr ?_
      simp only [go_sem, R72_8, v72, p72]
      refine awp_ret ?_
      try simp only [go_sem]
      rw [hQ]
      refine Ends.is (.inl rfl) rfl (congrArg (V.int .i64) (left_no ?_).symm) rfl
      have : ¬ Node.sz xs[i] ≤ n - (xs.length + sumBy Node.sz (xs.take i)) := fun e => by rw [left_is e] at h2; omega
      unfold szS; omega
    · intro h2
      obtain ⟨e3, e4⟩ := left_pos h2
      refine awp_skip ?_
      simp only [go_sem]
      refine awp_reg ?_
      simp only [go_sem, R72_9, v72, p72, wrap_succ (i := i) (by omega)]
      rw [e3, show (n - (xs.length + sumBy Node.sz (xs.take i)) - Node.sz xs[i] : Nat) = n - (xs.length + sumBy Node.sz (xs.take (i + 1))) by omega]
      exact ⟨xs.length - (i + 1), by omega, i + 1, _, _, _, rfl, by omega, by omega, rfl⟩
  · intro h1
    refine awp_exit ?_
    simp only [go_sem]
    refine awp_sr ?_
    simp only [go_sem, R72_10, v72, p72]
    refine awp_ret ?_
    try simp only [go_sem]
    have : i = xs.length := by omega
    subst this
    rw [hQ]
    refine Ends.is (.inl rfl) rfl (congrArg (V.int .i64) ?_) rfl
    rw [left_is (by unfold szS; rw [List.take_length] at hs; omega), List.take_length]
    rfl
theorem eqNodeS_ok (xs ys : List Node) (hx : xs.length ≤ 1000000000) (h : szS Node.sz xs ≤ 1048576) : FS Tryz.prog 81 [] [.fz 19 (rw_ Node.c xs), .fz 19 (rw_ Node.c ys)] (.bool (decide (xs = ys))) [] := by
  refine FS.of (X := X81) (ac := A81) (os := O81) Tryz.func81 (by rfl) (by rfl) (by kernel_rfl) o81 (Nat.le_of_ble_eq_true rfl) ?_
  show AWP X81 A81 (Ends X81.vs O81 0 _ _) [.fz 19 (rw_ Node.c xs), .fz 19 (rw_ Node.c ys), .tup [], .tup [], .tup [], .tup [], .tup []] []
  obtain ⟨Q, hQ⟩ : ∃ Q, Q = Ends X81.vs O81 0 (.bool (decide (xs = ys))) [] := ⟨_, rfl⟩
  rw [← hQ]
  have fin : ∀ L σ b, look X81.vs L 4 = .bool b → b = decide (xs = ys) → Q .ret L σ := by
    intro L σ b h1 h2
    rw [hQ]
    refine Ends.is (.inl rfl) (rs := [.bool b]) (by simp only [go_sem, O81, h1]) ?_ rfl
    simp [packV, h2]
  refine awp_sr ?_
  simp only [go_sem, R81_0, v81, p81]
  refine awp_sr2 ?_
  simp only [go_sem, R81_1, v81, p81]
  refine awp_if rfl ?_ ?_
  · intro h
    refine awp_sr ?_
    simp only [go_sem, R81_2, v81, p81]
    refine awp_ret ?_
    try simp only [go_sem]
    refine fin _ _ false rfl ?_
    symm; simp; intro e; subst e; exact h rfl
  intro hne
  have hl : xs.length = ys.length := by omega
  refine awp_skip ?_
  simp only [go_sem]
  refine awp_sr2 ?_
  simp only [go_sem, R81_3, v81, p81]
  refine awp_for (fun m L σ => ∃ i x10 x14 x25, m = xs.length - i ∧ i ≤ xs.length ∧ xs.take i = ys.take i ∧ L = [.fz 19 (rw_ Node.c xs), .fz 19 (rw_ Node.c ys), .bool false, .int .i64 (i : Nat), x10, x14, x25]) xs.length ⟨0, _, _, _, rfl, Nat.zero_le _, by simp, rfl⟩ ?_
  rintro m L σ ⟨i, x10, x14, x25, rfl, hi, ht, rfl⟩
  refine awp_sr2 ?_
  simp only [go_sem, R81_4, v81, p81]
  refine awp_if rfl ?_ ?_
  · intro h1
    have h1 : i < xs.length := by omega
    have h2 : i < ys.length := by omega
    refine awp_skip ?_
    simp only [go_sem]
    refine awp_seq (awp_block ?_)
    refine awp_sd mixed rfl (by rfl) ?_
    simp only [go_sem, R81_5, v81, p81, rw_at _ h1, rw_at _ h2, Node.c]
    refine run_see (eqNode_ok xs[i] ys[i] (by have := sumBy_get Node.sz h1; have h : xs.length + sumBy Node.sz xs ≤ 1048576 := h; omega)) false (Views.refl rfl) rfl (fun j hj => by omega) (fun h => by cases h) ?_
    simp only [go_sem, v81, p81]
    refine awp_if' rfl ?_ ?_
    · intro h3
      refine awp_sr ?_
      simp only [go_sem, R81_6, v81, p81]
      refine awp_ret ?_
      try simp only [go_sem]
      refine fin _ _ false rfl ?_
      symm; simp; intro e; subst e; exact h3 rfl
    · intro h3
      refine awp_skip ?_
      simp only [go_sem]
      refine awp_reg ?_
      simp only [go_sem, R81_7, v81, p81, wrap_succ (i := i) (by omega)]
      refine ⟨xs.length - (i + 1), by omega, i + 1, _, _, _, rfl, by omega, ?_, rfl⟩
      rw [List.take_succ_eq_append_getElem h1, List.take_succ_eq_append_getElem h2, ht, h3]
  · intro h1
    refine awp_exit ?_
    simp only [go_sem]
    refine awp_sr ?_
    simp only [go_sem, R81_8, v81, p81]
    refine awp_ret ?_
    try simp only [go_sem]
    refine fin _ _ true rfl ?_
    have : i = xs.length := by omega
    subst this
    rw [List.take_length, hl, List.take_length] at ht
    simp [ht]
theorem toWorld_ok (a : World) (h : a.sz ≤ 1048576) : FS Tryz.prog 27 [] [.agg a.c] (.agg a.c) [] := by
  have hl : szS Node.sz a.nodes + szS Pack.sz a.net + szS Said.sz a.said ≤ 1048576 := h
  have hs_nodes := szS_len Node.sz a.nodes
  have hs_net := szS_len Pack.sz a.net
  have hs_said := szS_len Said.sz a.said
  refine FS.of (X := X27) (ac := A27) (os := O27) Tryz.func27 (by rfl) (by rfl) (by kernel_rfl) o27 (Nat.le_of_ble_eq_true rfl) ?_
  show AWP X27 A27 (Ends X27.vs O27 0 _ _) [.agg a.c, .tup [], .tup [], .tup []] []
  obtain ⟨Q, hQ⟩ : ∃ Q, Q = Ends X27.vs O27 0 (.agg a.c) [] := ⟨_, rfl⟩
  rw [← hQ]
  refine awp_sr ?_
  simp only [go_sem, R27_0, v27, p27, World.c]
  refine awp_sr ?_
  simp only [go_sem, R27_1, v27, p27]
  refine awp_sr ?_
  simp only [go_sem, R27_2, v27, p27]
  refine run_see (toNodeS_ok a.nodes (by omega)) false (Views.refl rfl) rfl (fun j hj => by omega) (fun h => by cases h) ?_
  simp only [go_sem, v27, p27]
  refine awp_sr ?_
  simp only [go_sem, R27_3, v27, p27]
  refine run_see (toPackS_ok a.net (by omega)) false (Views.refl rfl) rfl (fun j hj => by omega) (fun h => by cases h) ?_
  simp only [go_sem, v27, p27]
  refine awp_sr ?_
  simp only [go_sem, R27_4, v27, p27]
  refine run_see (toSaidS_ok a.said (by omega)) false (Views.refl rfl) rfl (fun j hj => by omega) (fun h => by cases h) ?_
  simp only [go_sem, v27, p27]
  refine awp_sr ?_
  simp only [go_sem, R27_5, v27, p27]
  refine awp_ret ?_
  try simp only [go_sem]
  rw [hQ]
  exact Ends.plain (.inl rfl) rfl (.refl _) rfl
theorem eqWorld_ok (a b : World) (h : a.sz ≤ 1048576) : FS Tryz.prog 29 [] [.agg a.c, .agg b.c] (.bool (decide (a = b))) [] := by
  have hl : szS Node.sz a.nodes + szS Pack.sz a.net + szS Said.sz a.said ≤ 1048576 := h
  have hs_nodes := szS_len Node.sz a.nodes
  have hs_net := szS_len Pack.sz a.net
  have hs_said := szS_len Said.sz a.said
  refine FS.of (X := X29) (ac := A29) (os := O29) Tryz.func29 (by rfl) (by rfl) (by kernel_rfl) o29 (Nat.le_of_ble_eq_true rfl) ?_
  show AWP X29 A29 (Ends X29.vs O29 0 _ _) [.agg a.c, .agg b.c, .tup [], .tup [], .tup [], .tup [], .tup [], .tup []] []
  obtain ⟨Q, hQ⟩ : ∃ Q, Q = Ends X29.vs O29 0 (.bool (decide (a = b))) [] := ⟨_, rfl⟩
  rw [← hQ]
  have fin : ∀ L σ q, look X29.vs L 4 = .bool q → q = decide (a = b) → Q .ret L σ := by
    intro L σ q h1 h2
    rw [hQ]
    refine Ends.is (.inl rfl) (rs := [.bool q]) (by simp only [go_sem, O29, h1]) ?_ rfl
    simp [packV, h2]
  refine awp_sr ?_
  simp only [go_sem, R29_0, v29, p29, World.c]
  refine awp_sr2 ?_
  simp only [go_sem, R29_1, v29, p29]
  refine run_see (eqNodeS_ok a.nodes b.nodes (by omega) (by omega)) false (Views.refl rfl) rfl (fun j hj => by omega) (fun h => by cases h) ?_
  simp only [go_sem, v29, p29]
  refine awp_if' rfl ?_ ?_
  · intro h
    refine awp_sr ?_
    simp only [go_sem, R29_2, v29, p29]
    refine awp_ret ?_
    try simp only [go_sem]
    exact fin _ _ _ rfl (decide_eq_false fun e => h (by rw [e])).symm
  intro h0
  refine awp_skip ?_
  simp only [go_sem]
  refine awp_sr2 ?_
  simp only [go_sem, R29_3, v29, p29]
  refine run_see (eqPackS_ok a.net b.net (by omega) (by omega)) false (Views.refl rfl) rfl (fun j hj => by omega) (fun h => by cases h) ?_
  simp only [go_sem, v29, p29]
  refine awp_if' rfl ?_ ?_
  · intro h
    refine awp_sr ?_
    simp only [go_sem, R29_4, v29, p29]
    refine awp_ret ?_
    try simp only [go_sem]
    exact fin _ _ _ rfl (decide_eq_false fun e => h (by rw [e])).symm
  intro h1
  refine awp_skip ?_
  simp only [go_sem]
  refine awp_sr2 ?_
  simp only [go_sem, R29_5, v29, p29]
  refine run_see (eqSaidS_ok a.said b.said (by omega) (by omega)) false (Views.refl rfl) rfl (fun j hj => by omega) (fun h => by cases h) ?_
  simp only [go_sem, v29, p29]
  refine awp_if' rfl ?_ ?_
  · intro h
    refine awp_sr ?_
    simp only [go_sem, R29_6, v29, p29]
    refine awp_ret ?_
    try simp only [go_sem]
    exact fin _ _ _ rfl (decide_eq_false fun e => h (by rw [e])).symm
  intro h2
  refine awp_skip ?_
  simp only [go_sem]
  refine awp_sr ?_
  simp only [go_sem, R29_7, v29, p29]
  refine awp_ret ?_
  try simp only [go_sem]
  refine fin _ _ _ rfl (decide_eq_true ?_).symm
  cases a; cases b
  simp at h0 h1 h2
  simp [h0, h1, h2]
theorem szWorld_ok (a : World) (n : Nat) (hn : n ≤ 1048576) (ha : a.ok) : FS Tryz.prog 25 [] [.agg a.c, .int .i64 n] (.int .i64 (left n a.sz)) [] := by
  refine FS.of (X := X25) (ac := A25) (os := O25) Tryz.func25 (by rfl) (by rfl) (by kernel_rfl) o25 (Nat.le_of_ble_eq_true rfl) ?_
  show AWP X25 A25 (Ends X25.vs O25 0 _ _) [.agg a.c, .int .i64 n, .tup [], .tup [], .tup [], .tup [], .tup []] []
  obtain ⟨Q, hQ⟩ : ∃ Q, Q = Ends X25.vs O25 0 (.int .i64 (left n a.sz)) [] := ⟨_, rfl⟩
  rw [← hQ]
  obtain ⟨p0, p1, p2⟩ := ha
  have tot : a.sz = szS Node.sz a.nodes + szS Pack.sz a.net + szS Said.sz a.said := rfl
  refine awp_sr ?_
  simp only [go_sem, R25_0, v25, p25, World.c]
  refine awp_sr ?_
  simp only [go_sem, R25_1, v25, p25]
  refine run_see (szNodeS_ok a.nodes n (by omega) p0) false (Views.refl rfl) rfl (fun j hj => by omega) (fun h => by cases h) ?_
  simp only [go_sem, v25, p25]
  refine awp_sr2 ?_
  simp only [go_sem, R25_2, v25, p25]
  refine awp_if rfl ?_ ?_
  · intro h
    refine awp_sr ?_
    simp only [go_sem, R25_3, v25, p25]
    refine awp_ret ?_
    try simp only [go_sem]
    rw [hQ]
    refine Ends.is (.inl rfl) rfl (congrArg (V.int .i64) (left_no ?_).symm) rfl
    have : ¬ szS Node.sz a.nodes ≤ n := fun e => by rw [left_is e] at h; omega
    omega
  intro h0
  obtain ⟨e0, g0⟩ := left_pos h0
  rw [e0]
  refine awp_skip ?_
  simp only [go_sem]
  refine awp_sr ?_
  simp only [go_sem, R25_4, v25, p25]
  refine run_see (szPackS_ok a.net (n - szS Node.sz a.nodes) (by omega) p1) false (Views.refl rfl) rfl (fun j hj => by omega) (fun h => by cases h) ?_
  simp only [go_sem, v25, p25]
  refine awp_sr2 ?_
  simp only [go_sem, R25_5, v25, p25]
  refine awp_if rfl ?_ ?_
  · intro h
    refine awp_sr ?_
    simp only [go_sem, R25_6, v25, p25]
    refine awp_ret ?_
    try simp only [go_sem]
    rw [hQ]
    refine Ends.is (.inl rfl) rfl (congrArg (V.int .i64) (left_no ?_).symm) rfl
    have : ¬ szS Pack.sz a.net ≤ (n - szS Node.sz a.nodes) := fun e => by rw [left_is e] at h; omega
    omega
  intro h1
  obtain ⟨e1, g1⟩ := left_pos h1
  rw [e1]
  refine awp_skip ?_
  simp only [go_sem]
  refine awp_sr ?_
  simp only [go_sem, R25_7, v25, p25]
  refine run_see (szSaidS_ok a.said ((n - szS Node.sz a.nodes) - szS Pack.sz a.net) (by omega) p2) false (Views.refl rfl) rfl (fun j hj => by omega) (fun h => by cases h) ?_
  simp only [go_sem, v25, p25]
  refine awp_sr2 ?_
  simp only [go_sem, R25_8, v25, p25]
  refine awp_if rfl ?_ ?_
  · intro h
    refine awp_sr ?_
    simp only [go_sem, R25_9, v25, p25]
    refine awp_ret ?_
    try simp only [go_sem]
    rw [hQ]
    refine Ends.is (.inl rfl) rfl (congrArg (V.int .i64) (left_no ?_).symm) rfl
    have : ¬ szS Said.sz a.said ≤ ((n - szS Node.sz a.nodes) - szS Pack.sz a.net) := fun e => by rw [left_is e] at h; omega
    omega
  intro h2
  obtain ⟨e2, g2⟩ := left_pos h2
  rw [e2]
  refine awp_skip ?_
  simp only [go_sem]
  refine awp_sr ?_
  simp only [go_sem, R25_10, v25, p25]
  refine awp_ret ?_
  try simp only [go_sem]
  rw [hQ]
  refine Ends.is (.inl rfl) rfl (congrArg (V.int .i64) ?_) rfl
  rw [left_is (by omega)]
  omega
end Go.Proofs.YtffigokicddekaaGreat.Abs
/- An entry and a floor looked up, walked in both texts. No condition. -/
set_option linter.unusedVariables false
set_option linter.unusedSimpArgs false
set_option maxRecDepth 10000
namespace Go.Proofs.YtffigokicddekaaGreat.Abs
open Go Go.Proofs
def R148_0 : List AR := [⟨(some 2), none, 0, (.box 0 2 (.t 0))⟩, ⟨(some 4), none, 0, (.mov (.k (.int .i64 0)))⟩]
def R148_1 : List AR := [⟨(some 5), none, 0, (.mov (.k (.int .i64 0)))⟩]
def R148_2 : List AR := [⟨(some 6), none, 0, (.mov (.t 5))⟩, ⟨(some 7), none, 0, (.faddr 1 (.t 2))⟩, ⟨(some 8), none, 0, (.load 1 false (.t 7))⟩, ⟨(some 9), none, 0, (.len (.t 8))⟩, ⟨(some 10), none, 0, (.bin .lss (.t 6) (.t 9))⟩]
def R148_3 : List AR := [⟨(some 13), none, 0, (.faddr 1 (.t 2))⟩, ⟨(some 14), none, 0, (.load 1 false (.t 13))⟩, ⟨(some 15), none, 0, (.mov (.t 5))⟩, ⟨(some 16), none, 0, (.iaddr 2 (.t 14) (.t 15))⟩, ⟨(some 17), none, 0, (.faddr 0 (.t 16))⟩, ⟨(some 18), none, 0, (.load 1 false (.t 17))⟩, ⟨(some 19), none, 0, (.mov (.t 1))⟩, ⟨(some 20), none, 0, (.bin .eql (.t 18) (.t 19))⟩]
def R148_4 : List AR := [⟨(some 21), none, 0, (.faddr 1 (.t 2))⟩, ⟨(some 22), none, 0, (.load 1 false (.t 21))⟩, ⟨(some 23), none, 0, (.mov (.t 5))⟩, ⟨(some 24), none, 0, (.iaddr 2 (.t 22) (.t 23))⟩, ⟨(some 25), none, 0, (.faddr 1 (.t 24))⟩, ⟨(some 26), none, 0, (.load 1 false (.t 25))⟩, ⟨(some 4), none, 0, (.mov (.t 26))⟩]
def R148_5 : List AR := [⟨(some 11), none, 0, (.mov (.t 5))⟩, ⟨(some 12), none, 0, (.bin .add (.t 11) (.k (.int .i64 1)))⟩, ⟨(some 5), none, 0, (.mov (.t 12))⟩]
def A148_0 : AC := (.seq (.block 1 (.seq (.reg 0 R148_3) (.cond (.t 20) (.seq (.reg 0 R148_4) .ret) .skip))) (.reg 0 R148_5))
def L148_0 : AC := (.seq (.seq (.reg 0 R148_2) (.cond (.t 10) .skip (.exit 0))) A148_0)
def R148_6 : List AR := [⟨(some 4), none, 0, (.mov (.k (.int .i64 0)))⟩]
def A148_1 : AC := (.seq (.reg 0 R148_6) .ret)
def A148_2 : AC := (.seq (.seq (.reg 0 R148_1) (.block 0 (.loop L148_0))) A148_1)
def A148 : AC := (.seq (.reg 1 R148_0) A148_2)
def O148 : List AO := [(.mov (.t 4))]
def G148 : Fns := ⟨fun f => false, fun f => 0, false⟩
noncomputable def X148 : Cx := ⟨Tryz.prog, G148, drawD, 27, [0, 1, 2, 4, 5, 10, 20]⟩
theorem c148 : (Tryz.f148.body).bind (compC X148.P X148.Γ X148.D X148.nt) = some A148 := by kernel_rfl
theorem o148 : compRes X148.P Tryz.f148.results.toList = some O148 := by kernel_rfl
theorem v148 : X148.vs = [0, 1, 2, 4, 5, 10, 20] := rfl
theorem p148 : X148.P = Tryz.prog := rfl
def R120_0 : List AR := [⟨(some 2), none, 0, (.box 0 2 (.t 0))⟩, ⟨(some 4), none, 0, (.mov (.k (.int .i64 0)))⟩]
def R120_1 : List AR := [⟨(some 7), none, 0, (.faddr 1 (.t 2))⟩, ⟨(some 8), none, 0, (.load 1 false (.t 7))⟩, ⟨(some 9), none, 0, (.len (.t 8))⟩, ⟨(some 10), none, 0, (.mov (.k (.int .i64 0)))⟩]
def R120_2 : List AR := [⟨(some 11), none, 0, (.bin .lss (.t 10) (.t 9))⟩]
def R120_3 : List AR := [⟨(some 12), none, 0, (.iaddr 2 (.t 8) (.t 10))⟩, ⟨(some 13), none, 0, (.load 2 true (.t 12))⟩, ⟨(some 6), none, 0, (.alloc 0 2 [(.int .i64 0), (.int .i64 0)])⟩, ⟨none, none, 0, (.store 2 (.t 6) (.t 13))⟩]
def R120_4 : List AR := [⟨(some 14), none, 0, (.faddr 0 (.t 6))⟩, ⟨(some 15), none, 0, (.load 1 false (.t 14))⟩, ⟨(some 16), none, 0, (.mov (.t 1))⟩, ⟨(some 17), none, 0, (.bin .eql (.t 15) (.t 16))⟩]
def R120_5 : List AR := [⟨(some 18), none, 0, (.faddr 1 (.t 6))⟩, ⟨(some 19), none, 0, (.load 1 false (.t 18))⟩, ⟨(some 4), none, 0, (.mov (.t 19))⟩]
def A120_0 : AC := (.seq (.reg 0 R120_4) (.cond (.t 17) (.seq (.reg 0 R120_5) .ret) .skip))
def R120_6 : List AR := [⟨(some 20), none, 0, (.bin .add (.t 10) (.k (.int .i64 1)))⟩, ⟨(some 10), none, 0, (.mov (.t 20))⟩]
def A120_1 : AC := (.seq (.block 1 (.seq (.reg 1 R120_3) A120_0)) (.reg 0 R120_6))
def A120_2 : AC := (.seq (.cond (.t 11) .skip (.exit 0)) A120_1)
def L120_0 : AC := (.seq (.reg 0 R120_2) A120_2)
def R120_7 : List AR := [⟨(some 4), none, 0, (.mov (.k (.int .i64 0)))⟩]
def A120_3 : AC := (.seq (.reg 0 R120_7) .ret)
def A120_4 : AC := (.seq (.seq (.reg 0 R120_1) (.block 0 (.loop L120_0))) A120_3)
def A120 : AC := (.seq (.reg 1 R120_0) A120_4)
def O120 : List AO := [(.mov (.t 4))]
def G120 : Fns := ⟨fun f => false, fun f => 0, false⟩
noncomputable def X120 : Cx := ⟨Tryz.prog, G120, drawD, 21, [0, 1, 2, 4, 6, 8, 9, 10, 11, 17]⟩
theorem c120 : (Tryz.f120.body).bind (compC X120.P X120.Γ X120.D X120.nt) = some A120 := by kernel_rfl
theorem o120 : compRes X120.P Tryz.f120.results.toList = some O120 := by kernel_rfl
theorem v120 : X120.vs = [0, 1, 2, 4, 6, 8, 9, 10, 11, 17] := rfl
theorem p120 : X120.P = Tryz.prog := rfl
def floorL : List Floor → Int → Int
  | [], _ => 0
  | f :: fs, id => if f.id = id then f.inc else floorL fs id
def floorOf (s : State) (id : Int) : Int := floorL s.floors id
theorem floorL_at {xs : List Floor} {i : Nat} (h : i < xs.length) (id : Int) : floorL (xs.drop i) id = if xs[i].id = id then xs[i].inc else floorL (xs.drop (i + 1)) id := by
  rw [List.drop_eq_getElem_cons h]; rfl
theorem specFloorOf_ok (a : State) (id : Int) (h : a.floors.length ≤ 1000000000) : FS Tryz.prog 148 [] [.agg a.c, .int .i64 id] (.int .i64 (floorOf a id)) [] := by
  refine FS.of (X := X148) (ac := A148) (os := O148) Tryz.func148 (by rfl) (by rfl) (by kernel_rfl) o148 (Nat.le_of_ble_eq_true rfl) ?_
  show AWP X148 A148 (Ends X148.vs O148 0 _ _) [.agg a.c, .int .i64 id, .tup [], .tup [], .tup [], .tup [], .tup []] []
  obtain ⟨Q, hQ⟩ : ∃ Q, Q = Ends X148.vs O148 0 (.int .i64 (floorOf a id)) [] := ⟨_, rfl⟩
  rw [← hQ]
  have fin : ∀ L σ n, look X148.vs L 4 = .int .i64 n → n = floorOf a id → Q .ret L σ := by
    intro L σ n h1 h2
    rw [hQ]
    refine Ends.is (.inl rfl) (rs := [.int .i64 n]) (by simp only [go_sem, O148, h1]) ?_ rfl
    simp [packV, h2]
  refine awp_sr ?_
  simp only [go_sem, R148_0, v148, p148, State.c]
  refine awp_sr2 ?_
  simp only [go_sem, R148_1, v148, p148]
  refine awp_for (fun m L σ => ∃ i x10 x20, m = a.floors.length - i ∧ i ≤ a.floors.length ∧ floorOf a id = floorL (a.floors.drop i) id ∧ L = [.agg a.c, .int .i64 id, .ptr 0 2 0 0, .int .i64 0, .int .i64 (i : Nat), x10, x20] ∧ σ = [.live ⟨2, [a.c]⟩]) a.floors.length
    ⟨0, _, _, rfl, Nat.zero_le _, rfl, rfl, rfl⟩ ?_
  rintro n L σ ⟨i, x10, x20, rfl, hi, he, rfl, rfl⟩
  refine awp_sr2 ?_
  simp only [go_sem, R148_2, v148, p148, State.c]
  refine awp_if rfl ?_ ?_
  · intro h1
    have h1 : i < a.floors.length := by omega
    have e1 := floorL_at h1 id
    refine awp_skip ?_
    simp only [go_sem]
    refine awp_seq (awp_block ?_)
    refine awp_sr ?_
    simp only [go_sem, R148_3, v148, p148, rw_at _ h1, Floor.c]
    refine awp_if rfl ?_ ?_
    · intro h2
      refine awp_sr ?_
      simp only [go_sem, R148_4, v148, p148, rw_at _ h1, Floor.c]
      refine awp_ret ?_
      try simp only [go_sem]
      exact fin _ _ _ rfl (by rw [he, e1, if_pos h2])
    · intro h2
      refine awp_skip ?_
      simp only [go_sem]
      refine awp_reg ?_
      simp only [go_sem, R148_5, v148, p148, wrap_succ (i := i) (by omega)]
      exact ⟨a.floors.length - (i + 1), by omega, i + 1, _, _, rfl, by omega, by rw [he, e1, if_neg h2], rfl⟩
  · intro h1
    refine awp_exit ?_
    simp only [go_sem]
    refine awp_sr ?_
    simp only [go_sem, R148_6, v148, p148]
    refine awp_ret ?_
    try simp only [go_sem]
    exact fin _ _ _ rfl (by rw [he, List.drop_eq_nil_of_le (by omega)]; rfl)
theorem implFloorOf_ok (a : State) (id : Int) (h : a.floors.length ≤ 1000000000) : FS Tryz.prog 120 [] [.agg a.c, .int .i64 id] (.int .i64 (floorOf a id)) [] := by
  refine FS.of (X := X120) (ac := A120) (os := O120) Tryz.func120 (by rfl) (by rfl) (by kernel_rfl) o120 (Nat.le_of_ble_eq_true rfl) ?_
  show AWP X120 A120 (Ends X120.vs O120 0 _ _) [.agg a.c, .int .i64 id, .tup [], .tup [], .tup [], .tup [], .tup [], .tup [], .tup [], .tup []] []
  obtain ⟨Q, hQ⟩ : ∃ Q, Q = Ends X120.vs O120 0 (.int .i64 (floorOf a id)) [] := ⟨_, rfl⟩
  rw [← hQ]
  have fin : ∀ L σ n, look X120.vs L 4 = .int .i64 n → n = floorOf a id → Q .ret L σ := by
    intro L σ n h1 h2
    rw [hQ]
    refine Ends.is (.inl rfl) (rs := [.int .i64 n]) (by simp only [go_sem, O120, h1]) ?_ rfl
    simp [packV, h2]
  refine awp_sr ?_
  simp only [go_sem, R120_0, v120, p120, State.c]
  refine awp_sr2 ?_
  simp only [go_sem, R120_1, v120, p120]
  refine awp_for (fun m L σ => ∃ i x6 x11 x17, m = a.floors.length - i ∧ i ≤ a.floors.length ∧ floorOf a id = floorL (a.floors.drop i) id ∧ L = [.agg a.c, .int .i64 id, .ptr 0 2 0 0, .int .i64 0, x6, .fz 2 (rw_ Floor.c a.floors), .int .i64 a.floors.length, .int .i64 (i : Nat), x11, x17]) a.floors.length
    ⟨0, _, _, _, rfl, Nat.zero_le _, rfl, rfl⟩ ?_
  rintro n L σ ⟨i, x6, x11, x17, rfl, hi, he, rfl⟩
  refine awp_sr ?_
  simp only [go_sem, R120_2, v120, p120]
  refine awp_seq ?_
  refine awp_if rfl ?_ ?_
  · intro h1
    have h1 : i < a.floors.length := by omega
    have e1 := floorL_at h1 id
    refine awp_skip ?_
    simp only [go_sem]
    refine awp_seq (awp_block ?_)
    refine awp_sr ?_
    simp only [go_sem, R120_3, v120, p120, rw_at _ h1, Floor.c]
    refine awp_sr ?_
    simp only [go_sem, R120_4, v120, p120]
    refine awp_if rfl ?_ ?_
    · intro h2
      refine awp_sr ?_
      simp only [go_sem, R120_5, v120, p120]
      refine awp_ret ?_
      try simp only [go_sem]
      exact fin _ _ _ rfl (by rw [he, e1, if_pos h2])
    · intro h2
      refine awp_skip ?_
      simp only [go_sem]
      refine awp_reg ?_
      simp only [go_sem, R120_6, v120, p120, wrap_succ (i := i) (by omega)]
      exact ⟨a.floors.length - (i + 1), by omega, i + 1, _, _, _, rfl, by omega, by rw [he, e1, if_neg h2], rfl⟩
  · intro h1
    refine awp_exit ?_
    simp only [go_sem]
    refine awp_sr ?_
    simp only [go_sem, R120_7, v120, p120]
    refine awp_ret ?_
    try simp only [go_sem]
    exact fin _ _ _ rfl (by rw [he, List.drop_eq_nil_of_le (by omega)]; rfl)
end Go.Proofs.YtffigokicddekaaGreat.Abs
