/- Copies, sizes and equality, walked: floors, states. No condition. -/
import Derived.Test.YtffigokicddekaaME2
import Derived.Test.YtffigokicddekaaMA26
set_option linter.unusedVariables false
set_option linter.unusedSimpArgs false
set_option maxRecDepth 10000
namespace Go.Proofs.Ytffigokicddekaa.Abs
open Go Go.Proofs
def R144_0 : List AR := [⟨(some 1), none, 0, (.box 0 2 (.t 0))⟩, ⟨(some 2), none, 0, (.alloc 1 2 [(.int .i64 0), (.int .i64 0)])⟩]
def R144_1 : List AR := [⟨(some 3), none, 0, (.alloc 0 2 [(.int .i64 0), (.int .i64 0)])⟩]
def R144_2 : List AR := [⟨(some 4), none, 0, (.faddr 0 (.t 1))⟩, ⟨(some 5), none, 0, (.load 1 false (.t 4))⟩, ⟨(some 6), none, 0, (.faddr 0 (.t 3))⟩, ⟨none, none, 0, (.store 1 (.t 6) (.t 5))⟩]
def R144_3 : List AR := [⟨(some 7), none, 0, (.faddr 1 (.t 1))⟩, ⟨(some 8), none, 0, (.load 1 false (.t 7))⟩, ⟨(some 9), none, 0, (.faddr 1 (.t 3))⟩, ⟨none, none, 0, (.store 1 (.t 9) (.t 8))⟩]
def R144_4 : List AR := [⟨(some 10), none, 0, (.load 2 true (.t 3))⟩, ⟨none, none, 0, (.store 2 (.t 2) (.t 10))⟩]
def A144_0 : AC := (.seq (.reg 0 R144_4) .ret)
def A144_1 : AC := (.seq (.reg 0 R144_3) A144_0)
def A144_2 : AC := (.seq (.reg 0 R144_2) A144_1)
def A144_3 : AC := (.seq (.reg 1 R144_1) A144_2)
def A144 : AC := (.seq (.reg 2 R144_0) A144_3)
def O144 : List AO := [(.load 2 true (.t 2))]
def G144 : Fns := ⟨fun f => false, fun f => 0⟩
noncomputable def X144 : Cx := ⟨Try.prog, G144, drawD, 11, [0, 1, 2, 3]⟩
theorem c144 : (Try.f144.body).bind (compC X144.P X144.Γ X144.D X144.nt) = some A144 := by kernel_rfl
theorem o144 : compRes X144.P Try.f144.results.toList = some O144 := by kernel_rfl
theorem v144 : X144.vs = [0, 1, 2, 3] := rfl
theorem p144 : X144.P = Try.prog := rfl
def R103_0 : List AR := [⟨(some 2), none, 0, (.mov (.k .nl))⟩]
def R103_1 : List AR := [⟨(some 5), none, 0, (.mov (.t 0))⟩, ⟨(some 6), none, 0, (.len (.t 5))⟩, ⟨(some 7), none, 0, (.mks 0 2 16 [(.int .i64 0), (.int .i64 0)] (.t 6) (.t 6))⟩, ⟨(some 3), none, 0, (.mov (.t 7))⟩]
def R103_2 : List AR := [⟨(some 4), none, 0, (.mov (.k (.int .i64 0)))⟩]
def R103_3 : List AR := [⟨(some 8), none, 0, (.mov (.t 4))⟩, ⟨(some 9), none, 0, (.mov (.t 0))⟩, ⟨(some 10), none, 0, (.len (.t 9))⟩, ⟨(some 11), none, 0, (.bin .lss (.t 8) (.t 10))⟩]
def R103_4 : List AR := [⟨(some 14), none, 0, (.mov (.t 3))⟩, ⟨(some 15), none, 0, (.mov (.t 4))⟩, ⟨(some 16), none, 0, (.mov (.t 0))⟩, ⟨(some 17), none, 0, (.mov (.t 4))⟩, ⟨(some 18), none, 0, (.iaddr 2 (.t 16) (.t 17))⟩, ⟨(some 19), none, 0, (.load 2 true (.t 18))⟩, ⟨(some 20), none, 0, (.call false 0 0 144 [(.t 19)])⟩, ⟨(some 21), none, 0, (.iaddr 2 (.t 14) (.t 15))⟩, ⟨none, none, 0, (.store 2 (.t 21) (.t 20))⟩]
def R103_5 : List AR := [⟨(some 12), none, 0, (.mov (.t 4))⟩, ⟨(some 13), none, 0, (.bin .add (.t 12) (.k (.int .i64 1)))⟩, ⟨(some 4), none, 0, (.mov (.t 13))⟩]
def A103_0 : AC := (.seq (.block 1 (.reg 0 R103_4)) (.reg 0 R103_5))
def L103_0 : AC := (.seq (.seq (.reg 0 R103_3) (.cond (.t 11) .skip (.exit 0))) A103_0)
def R103_6 : List AR := [⟨(some 22), none, 0, (.mov (.t 3))⟩, ⟨(some 2), none, 0, (.mov (.t 22))⟩]
def A103_1 : AC := (.seq (.reg 0 R103_6) .ret)
def A103_2 : AC := (.seq (.seq (.reg 0 R103_2) (.block 0 (.loop L103_0))) A103_1)
def A103_3 : AC := (.seq (.reg 1 R103_1) A103_2)
def A103 : AC := (.seq (.reg 0 R103_0) A103_3)
def O103 : List AO := [(.mov (.t 2))]
def G103 : Fns := ⟨fun f => false, fun f => 0⟩
noncomputable def X103 : Cx := ⟨Try.prog, G103, drawD, 23, [0, 2, 3, 4, 11]⟩
theorem c103 : (Try.f103.body).bind (compC X103.P X103.Γ X103.D X103.nt) = some A103 := by kernel_rfl
theorem o103 : compRes X103.P Try.f103.results.toList = some O103 := by kernel_rfl
theorem v103 : X103.vs = [0, 2, 3, 4, 11] := rfl
theorem p103 : X103.P = Try.prog := rfl
def R145_0 : List AR := [⟨(some 2), none, 0, (.box 0 2 (.t 0))⟩, ⟨(some 3), none, 0, (.box 1 2 (.t 1))⟩, ⟨(some 4), none, 0, (.mov (.k (.bool false)))⟩]
def R145_1 : List AR := [⟨(some 5), none, 0, (.faddr 0 (.t 2))⟩, ⟨(some 6), none, 0, (.load 1 false (.t 5))⟩, ⟨(some 7), none, 0, (.faddr 0 (.t 3))⟩, ⟨(some 8), none, 0, (.load 1 false (.t 7))⟩, ⟨(some 9), none, 0, (.bin .neq (.t 6) (.t 8))⟩]
def R145_2 : List AR := [⟨(some 4), none, 0, (.mov (.k (.bool false)))⟩]
def R145_3 : List AR := [⟨(some 10), none, 0, (.faddr 1 (.t 2))⟩, ⟨(some 11), none, 0, (.load 1 false (.t 10))⟩, ⟨(some 12), none, 0, (.faddr 1 (.t 3))⟩, ⟨(some 13), none, 0, (.load 1 false (.t 12))⟩, ⟨(some 14), none, 0, (.bin .neq (.t 11) (.t 13))⟩]
def R145_4 : List AR := [⟨(some 4), none, 0, (.mov (.k (.bool false)))⟩]
def R145_5 : List AR := [⟨(some 4), none, 0, (.mov (.k (.bool true)))⟩]
def A145_0 : AC := (.seq (.reg 0 R145_5) .ret)
def A145_1 : AC := (.seq (.seq (.reg 0 R145_3) (.cond (.t 14) (.seq (.reg 0 R145_4) .ret) .skip)) A145_0)
def A145_2 : AC := (.seq (.seq (.reg 0 R145_1) (.cond (.t 9) (.seq (.reg 0 R145_2) .ret) .skip)) A145_1)
def A145 : AC := (.seq (.reg 2 R145_0) A145_2)
def O145 : List AO := [(.mov (.t 4))]
def G145 : Fns := ⟨fun f => false, fun f => 0⟩
noncomputable def X145 : Cx := ⟨Try.prog, G145, drawD, 15, [0, 1, 2, 3, 4, 9, 14]⟩
theorem c145 : (Try.f145.body).bind (compC X145.P X145.Γ X145.D X145.nt) = some A145 := by kernel_rfl
theorem o145 : compRes X145.P Try.f145.results.toList = some O145 := by kernel_rfl
theorem v145 : X145.vs = [0, 1, 2, 3, 4, 9, 14] := rfl
theorem p145 : X145.P = Try.prog := rfl
def R108_0 : List AR := [⟨(some 4), none, 0, (.mov (.k (.bool false)))⟩]
def R108_1 : List AR := [⟨(some 6), none, 0, (.mov (.t 0))⟩, ⟨(some 7), none, 0, (.len (.t 6))⟩, ⟨(some 8), none, 0, (.mov (.t 1))⟩, ⟨(some 9), none, 0, (.len (.t 8))⟩, ⟨(some 10), none, 0, (.bin .neq (.t 7) (.t 9))⟩]
def R108_2 : List AR := [⟨(some 4), none, 0, (.mov (.k (.bool false)))⟩]
def R108_3 : List AR := [⟨(some 5), none, 0, (.mov (.k (.int .i64 0)))⟩]
def R108_4 : List AR := [⟨(some 11), none, 0, (.mov (.t 5))⟩, ⟨(some 12), none, 0, (.mov (.t 0))⟩, ⟨(some 13), none, 0, (.len (.t 12))⟩, ⟨(some 14), none, 0, (.bin .lss (.t 11) (.t 13))⟩]
def R108_5 : List AR := [⟨(some 17), none, 0, (.mov (.t 0))⟩, ⟨(some 18), none, 0, (.mov (.t 5))⟩, ⟨(some 19), none, 0, (.iaddr 2 (.t 17) (.t 18))⟩, ⟨(some 20), none, 0, (.load 2 true (.t 19))⟩, ⟨(some 21), none, 0, (.mov (.t 1))⟩, ⟨(some 22), none, 0, (.mov (.t 5))⟩, ⟨(some 23), none, 0, (.iaddr 2 (.t 21) (.t 22))⟩, ⟨(some 24), none, 0, (.load 2 true (.t 23))⟩, ⟨(some 25), none, 0, (.call false 0 0 145 [(.t 20), (.t 24)])⟩, ⟨(some 26), none, 0, (.not (.t 25))⟩]
def R108_6 : List AR := [⟨(some 4), none, 0, (.mov (.k (.bool false)))⟩]
def R108_7 : List AR := [⟨(some 15), none, 0, (.mov (.t 5))⟩, ⟨(some 16), none, 0, (.bin .add (.t 15) (.k (.int .i64 1)))⟩, ⟨(some 5), none, 0, (.mov (.t 16))⟩]
def A108_0 : AC := (.seq (.block 1 (.seq (.draw 0 R108_5) (.cond (.t 26) (.seq (.reg 0 R108_6) .ret) .skip))) (.reg 0 R108_7))
def L108_0 : AC := (.seq (.seq (.reg 0 R108_4) (.cond (.t 14) .skip (.exit 0))) A108_0)
def R108_8 : List AR := [⟨(some 4), none, 0, (.mov (.k (.bool true)))⟩]
def A108_1 : AC := (.seq (.reg 0 R108_8) .ret)
def A108_2 : AC := (.seq (.seq (.reg 0 R108_3) (.block 0 (.loop L108_0))) A108_1)
def A108_3 : AC := (.seq (.seq (.reg 0 R108_1) (.cond (.t 10) (.seq (.reg 0 R108_2) .ret) .skip)) A108_2)
def A108 : AC := (.seq (.reg 0 R108_0) A108_3)
def O108 : List AO := [(.mov (.t 4))]
def G108 : Fns := ⟨fun f => false, fun f => 0⟩
noncomputable def X108 : Cx := ⟨Try.prog, G108, drawD, 27, [0, 1, 4, 5, 10, 14, 26]⟩
theorem c108 : (Try.f108.body).bind (compC X108.P X108.Γ X108.D X108.nt) = some A108 := by kernel_rfl
theorem o108 : compRes X108.P Try.f108.results.toList = some O108 := by kernel_rfl
theorem v108 : X108.vs = [0, 1, 4, 5, 10, 14, 26] := rfl
theorem p108 : X108.P = Try.prog := rfl
def R57_0 : List AR := [⟨(some 1), none, 0, (.box 0 2 (.t 0))⟩, ⟨(some 2), none, 0, (.alloc 1 2 [.nl, .nl])⟩]
def R57_1 : List AR := [⟨(some 3), none, 0, (.alloc 0 2 [.nl, .nl])⟩]
def R57_2 : List AR := [⟨(some 4), none, 0, (.faddr 0 (.t 1))⟩, ⟨(some 5), none, 0, (.load 1 false (.t 4))⟩, ⟨(some 6), none, 0, (.call false 0 0 102 [(.t 5)])⟩, ⟨(some 7), none, 0, (.faddr 0 (.t 3))⟩, ⟨none, none, 0, (.store 1 (.t 7) (.t 6))⟩]
def R57_3 : List AR := [⟨(some 8), none, 0, (.faddr 1 (.t 1))⟩, ⟨(some 9), none, 0, (.load 1 false (.t 8))⟩, ⟨(some 10), none, 0, (.call false 0 0 103 [(.t 9)])⟩, ⟨(some 11), none, 0, (.faddr 1 (.t 3))⟩, ⟨none, none, 0, (.store 1 (.t 11) (.t 10))⟩]
def R57_4 : List AR := [⟨(some 12), none, 0, (.load 2 true (.t 3))⟩, ⟨none, none, 0, (.store 2 (.t 2) (.t 12))⟩]
def A57_0 : AC := (.seq (.reg 0 R57_4) .ret)
def A57_1 : AC := (.seq (.reg 0 R57_3) A57_0)
def A57_2 : AC := (.seq (.reg 0 R57_2) A57_1)
def A57_3 : AC := (.seq (.reg 1 R57_1) A57_2)
def A57 : AC := (.seq (.reg 2 R57_0) A57_3)
def O57 : List AO := [(.load 2 true (.t 2))]
def G57 : Fns := ⟨fun f => false, fun f => 0⟩
noncomputable def X57 : Cx := ⟨Try.prog, G57, drawD, 13, [0, 1, 2, 3]⟩
theorem c57 : (Try.f57.body).bind (compC X57.P X57.Γ X57.D X57.nt) = some A57 := by kernel_rfl
theorem o57 : compRes X57.P Try.f57.results.toList = some O57 := by kernel_rfl
theorem v57 : X57.vs = [0, 1, 2, 3] := rfl
theorem p57 : X57.P = Try.prog := rfl
def R53_0 : List AR := [⟨(some 2), none, 0, (.box 0 2 (.t 0))⟩, ⟨(some 4), none, 0, (.mov (.k (.int .i64 0)))⟩]
def R53_1 : List AR := [⟨(some 5), none, 0, (.faddr 0 (.t 2))⟩, ⟨(some 6), none, 0, (.load 1 false (.t 5))⟩, ⟨(some 7), none, 0, (.mov (.t 1))⟩, ⟨(some 8), none, 0, (.call false 0 0 96 [(.t 6), (.t 7)])⟩, ⟨(some 1), none, 0, (.mov (.t 8))⟩]
def R53_2 : List AR := [⟨(some 9), none, 0, (.mov (.t 1))⟩, ⟨(some 10), none, 0, (.bin .lss (.t 9) (.k (.int .i64 0)))⟩]
def R53_3 : List AR := [⟨(some 4), none, 0, (.mov (.k (.int .i64 (-1))))⟩]
def R53_4 : List AR := [⟨(some 11), none, 0, (.faddr 1 (.t 2))⟩, ⟨(some 12), none, 0, (.load 1 false (.t 11))⟩, ⟨(some 13), none, 0, (.mov (.t 1))⟩, ⟨(some 14), none, 0, (.call false 0 0 97 [(.t 12), (.t 13)])⟩, ⟨(some 1), none, 0, (.mov (.t 14))⟩]
def R53_5 : List AR := [⟨(some 15), none, 0, (.mov (.t 1))⟩, ⟨(some 16), none, 0, (.bin .lss (.t 15) (.k (.int .i64 0)))⟩]
def R53_6 : List AR := [⟨(some 4), none, 0, (.mov (.k (.int .i64 (-1))))⟩]
def R53_7 : List AR := [⟨(some 17), none, 0, (.mov (.t 1))⟩, ⟨(some 4), none, 0, (.mov (.t 17))⟩]
def A53_0 : AC := (.seq (.reg 0 R53_7) .ret)
def A53_1 : AC := (.seq (.seq (.reg 0 R53_5) (.cond (.t 16) (.seq (.reg 0 R53_6) .ret) .skip)) A53_0)
def A53_2 : AC := (.seq (.reg 0 R53_4) A53_1)
def A53_3 : AC := (.seq (.seq (.reg 0 R53_2) (.cond (.t 10) (.seq (.reg 0 R53_3) .ret) .skip)) A53_2)
def A53_4 : AC := (.seq (.reg 0 R53_1) A53_3)
def A53 : AC := (.seq (.reg 1 R53_0) A53_4)
def O53 : List AO := [(.mov (.t 4))]
def G53 : Fns := ⟨fun f => false, fun f => 0⟩
noncomputable def X53 : Cx := ⟨Try.prog, G53, drawD, 18, [0, 1, 2, 4, 10, 16]⟩
theorem c53 : (Try.f53.body).bind (compC X53.P X53.Γ X53.D X53.nt) = some A53 := by kernel_rfl
theorem o53 : compRes X53.P Try.f53.results.toList = some O53 := by kernel_rfl
theorem v53 : X53.vs = [0, 1, 2, 4, 10, 16] := rfl
theorem p53 : X53.P = Try.prog := rfl
def R60_0 : List AR := [⟨(some 2), none, 0, (.box 0 2 (.t 0))⟩, ⟨(some 3), none, 0, (.box 1 2 (.t 1))⟩, ⟨(some 4), none, 0, (.mov (.k (.bool false)))⟩]
def R60_1 : List AR := [⟨(some 5), none, 0, (.faddr 0 (.t 2))⟩, ⟨(some 6), none, 0, (.load 1 false (.t 5))⟩, ⟨(some 7), none, 0, (.faddr 0 (.t 3))⟩, ⟨(some 8), none, 0, (.load 1 false (.t 7))⟩, ⟨(some 9), none, 0, (.call false 0 0 30 [(.t 6), (.t 8)])⟩, ⟨(some 10), none, 0, (.not (.t 9))⟩]
def R60_2 : List AR := [⟨(some 4), none, 0, (.mov (.k (.bool false)))⟩]
def R60_3 : List AR := [⟨(some 11), none, 0, (.faddr 1 (.t 2))⟩, ⟨(some 12), none, 0, (.load 1 false (.t 11))⟩, ⟨(some 13), none, 0, (.faddr 1 (.t 3))⟩, ⟨(some 14), none, 0, (.load 1 false (.t 13))⟩, ⟨(some 15), none, 0, (.call false 0 0 108 [(.t 12), (.t 14)])⟩, ⟨(some 16), none, 0, (.not (.t 15))⟩]
def R60_4 : List AR := [⟨(some 4), none, 0, (.mov (.k (.bool false)))⟩]
def R60_5 : List AR := [⟨(some 4), none, 0, (.mov (.k (.bool true)))⟩]
def A60_0 : AC := (.seq (.reg 0 R60_5) .ret)
def A60_1 : AC := (.seq (.seq (.reg 0 R60_3) (.cond (.t 16) (.seq (.reg 0 R60_4) .ret) .skip)) A60_0)
def A60_2 : AC := (.seq (.seq (.reg 0 R60_1) (.cond (.t 10) (.seq (.reg 0 R60_2) .ret) .skip)) A60_1)
def A60 : AC := (.seq (.reg 2 R60_0) A60_2)
def O60 : List AO := [(.mov (.t 4))]
def G60 : Fns := ⟨fun f => false, fun f => 0⟩
noncomputable def X60 : Cx := ⟨Try.prog, G60, drawD, 17, [0, 1, 2, 3, 4, 10, 16]⟩
theorem c60 : (Try.f60.body).bind (compC X60.P X60.Γ X60.D X60.nt) = some A60 := by kernel_rfl
theorem o60 : compRes X60.P Try.f60.results.toList = some O60 := by kernel_rfl
theorem v60 : X60.vs = [0, 1, 2, 3, 4, 10, 16] := rfl
theorem p60 : X60.P = Try.prog := rfl
def R25_0 : List AR := [⟨(some 2), none, 0, (.mov (.k .nl))⟩]
def R25_1 : List AR := [⟨(some 5), none, 0, (.mov (.t 0))⟩, ⟨(some 6), none, 0, (.len (.t 5))⟩, ⟨(some 7), none, 0, (.mks 0 2 48 [.nl, .nl] (.t 6) (.t 6))⟩, ⟨(some 3), none, 0, (.mov (.t 7))⟩]
def R25_2 : List AR := [⟨(some 4), none, 0, (.mov (.k (.int .i64 0)))⟩]
def R25_3 : List AR := [⟨(some 8), none, 0, (.mov (.t 4))⟩, ⟨(some 9), none, 0, (.mov (.t 0))⟩, ⟨(some 10), none, 0, (.len (.t 9))⟩, ⟨(some 11), none, 0, (.bin .lss (.t 8) (.t 10))⟩]
def R25_4 : List AR := [⟨(some 14), none, 0, (.mov (.t 3))⟩, ⟨(some 15), none, 0, (.mov (.t 4))⟩, ⟨(some 16), none, 0, (.mov (.t 0))⟩, ⟨(some 17), none, 0, (.mov (.t 4))⟩, ⟨(some 18), none, 0, (.iaddr 2 (.t 16) (.t 17))⟩, ⟨(some 19), none, 0, (.load 2 true (.t 18))⟩, ⟨(some 20), none, 0, (.call false 0 0 57 [(.t 19)])⟩, ⟨(some 21), none, 0, (.iaddr 2 (.t 14) (.t 15))⟩, ⟨none, none, 0, (.store 2 (.t 21) (.t 20))⟩]
def R25_5 : List AR := [⟨(some 12), none, 0, (.mov (.t 4))⟩, ⟨(some 13), none, 0, (.bin .add (.t 12) (.k (.int .i64 1)))⟩, ⟨(some 4), none, 0, (.mov (.t 13))⟩]
def A25_0 : AC := (.seq (.block 1 (.reg 0 R25_4)) (.reg 0 R25_5))
def L25_0 : AC := (.seq (.seq (.reg 0 R25_3) (.cond (.t 11) .skip (.exit 0))) A25_0)
def R25_6 : List AR := [⟨(some 22), none, 0, (.mov (.t 3))⟩, ⟨(some 2), none, 0, (.mov (.t 22))⟩]
def A25_1 : AC := (.seq (.reg 0 R25_6) .ret)
def A25_2 : AC := (.seq (.seq (.reg 0 R25_2) (.block 0 (.loop L25_0))) A25_1)
def A25_3 : AC := (.seq (.reg 1 R25_1) A25_2)
def A25 : AC := (.seq (.reg 0 R25_0) A25_3)
def O25 : List AO := [(.mov (.t 2))]
def G25 : Fns := ⟨fun f => false, fun f => 0⟩
noncomputable def X25 : Cx := ⟨Try.prog, G25, drawD, 23, [0, 2, 3, 4, 11]⟩
theorem c25 : (Try.f25.body).bind (compC X25.P X25.Γ X25.D X25.nt) = some A25 := by kernel_rfl
theorem o25 : compRes X25.P Try.f25.results.toList = some O25 := by kernel_rfl
theorem v25 : X25.vs = [0, 2, 3, 4, 11] := rfl
theorem p25 : X25.P = Try.prog := rfl
def R23_0 : List AR := [⟨(some 4), none, 0, (.mov (.k (.int .i64 0)))⟩]
def R23_1 : List AR := [⟨(some 6), none, 0, (.mov (.t 1))⟩, ⟨(some 7), none, 0, (.mov (.t 0))⟩, ⟨(some 8), none, 0, (.len (.t 7))⟩, ⟨(some 9), none, 0, (.bin .sub (.t 6) (.t 8))⟩, ⟨(some 1), none, 0, (.mov (.t 9))⟩]
def R23_2 : List AR := [⟨(some 10), none, 0, (.mov (.t 1))⟩, ⟨(some 11), none, 0, (.bin .lss (.t 10) (.k (.int .i64 0)))⟩]
def R23_3 : List AR := [⟨(some 4), none, 0, (.mov (.k (.int .i64 (-1))))⟩]
def R23_4 : List AR := [⟨(some 5), none, 0, (.mov (.k (.int .i64 0)))⟩]
def R23_5 : List AR := [⟨(some 12), none, 0, (.mov (.t 5))⟩, ⟨(some 13), none, 0, (.mov (.t 0))⟩, ⟨(some 14), none, 0, (.len (.t 13))⟩, ⟨(some 15), none, 0, (.bin .lss (.t 12) (.t 14))⟩]
def R23_6 : List AR := [⟨(some 18), none, 0, (.mov (.t 0))⟩, ⟨(some 19), none, 0, (.mov (.t 5))⟩, ⟨(some 20), none, 0, (.iaddr 2 (.t 18) (.t 19))⟩, ⟨(some 21), none, 0, (.load 2 true (.t 20))⟩, ⟨(some 22), none, 0, (.mov (.t 1))⟩, ⟨(some 23), none, 0, (.call false 0 0 53 [(.t 21), (.t 22)])⟩, ⟨(some 1), none, 0, (.mov (.t 23))⟩]
def R23_7 : List AR := [⟨(some 24), none, 0, (.mov (.t 1))⟩, ⟨(some 25), none, 0, (.bin .lss (.t 24) (.k (.int .i64 0)))⟩]
def R23_8 : List AR := [⟨(some 4), none, 0, (.mov (.k (.int .i64 (-1))))⟩]
def A23_0 : AC := (.seq (.reg 0 R23_7) (.cond (.t 25) (.seq (.reg 0 R23_8) .ret) .skip))
def R23_9 : List AR := [⟨(some 16), none, 0, (.mov (.t 5))⟩, ⟨(some 17), none, 0, (.bin .add (.t 16) (.k (.int .i64 1)))⟩, ⟨(some 5), none, 0, (.mov (.t 17))⟩]
def A23_1 : AC := (.seq (.block 1 (.seq (.reg 0 R23_6) A23_0)) (.reg 0 R23_9))
def L23_0 : AC := (.seq (.seq (.reg 0 R23_5) (.cond (.t 15) .skip (.exit 0))) A23_1)
def R23_10 : List AR := [⟨(some 26), none, 0, (.mov (.t 1))⟩, ⟨(some 4), none, 0, (.mov (.t 26))⟩]
def A23_2 : AC := (.seq (.reg 0 R23_10) .ret)
def A23_3 : AC := (.seq (.seq (.reg 0 R23_4) (.block 0 (.loop L23_0))) A23_2)
def A23_4 : AC := (.seq (.seq (.reg 0 R23_2) (.cond (.t 11) (.seq (.reg 0 R23_3) .ret) .skip)) A23_3)
def A23_5 : AC := (.seq (.reg 0 R23_1) A23_4)
def A23 : AC := (.seq (.reg 0 R23_0) A23_5)
def O23 : List AO := [(.mov (.t 4))]
def G23 : Fns := ⟨fun f => false, fun f => 0⟩
noncomputable def X23 : Cx := ⟨Try.prog, G23, drawD, 27, [0, 1, 4, 5, 11, 15, 25]⟩
theorem c23 : (Try.f23.body).bind (compC X23.P X23.Γ X23.D X23.nt) = some A23 := by kernel_rfl
theorem o23 : compRes X23.P Try.f23.results.toList = some O23 := by kernel_rfl
theorem v23 : X23.vs = [0, 1, 4, 5, 11, 15, 25] := rfl
theorem p23 : X23.P = Try.prog := rfl
def R27_0 : List AR := [⟨(some 4), none, 0, (.mov (.k (.bool false)))⟩]
def R27_1 : List AR := [⟨(some 6), none, 0, (.mov (.t 0))⟩, ⟨(some 7), none, 0, (.len (.t 6))⟩, ⟨(some 8), none, 0, (.mov (.t 1))⟩, ⟨(some 9), none, 0, (.len (.t 8))⟩, ⟨(some 10), none, 0, (.bin .neq (.t 7) (.t 9))⟩]
def R27_2 : List AR := [⟨(some 4), none, 0, (.mov (.k (.bool false)))⟩]
def R27_3 : List AR := [⟨(some 5), none, 0, (.mov (.k (.int .i64 0)))⟩]
def R27_4 : List AR := [⟨(some 11), none, 0, (.mov (.t 5))⟩, ⟨(some 12), none, 0, (.mov (.t 0))⟩, ⟨(some 13), none, 0, (.len (.t 12))⟩, ⟨(some 14), none, 0, (.bin .lss (.t 11) (.t 13))⟩]
def R27_5 : List AR := [⟨(some 17), none, 0, (.mov (.t 0))⟩, ⟨(some 18), none, 0, (.mov (.t 5))⟩, ⟨(some 19), none, 0, (.iaddr 2 (.t 17) (.t 18))⟩, ⟨(some 20), none, 0, (.load 2 true (.t 19))⟩, ⟨(some 21), none, 0, (.mov (.t 1))⟩, ⟨(some 22), none, 0, (.mov (.t 5))⟩, ⟨(some 23), none, 0, (.iaddr 2 (.t 21) (.t 22))⟩, ⟨(some 24), none, 0, (.load 2 true (.t 23))⟩, ⟨(some 25), none, 0, (.call false 0 0 60 [(.t 20), (.t 24)])⟩, ⟨(some 26), none, 0, (.not (.t 25))⟩]
def R27_6 : List AR := [⟨(some 4), none, 0, (.mov (.k (.bool false)))⟩]
def R27_7 : List AR := [⟨(some 15), none, 0, (.mov (.t 5))⟩, ⟨(some 16), none, 0, (.bin .add (.t 15) (.k (.int .i64 1)))⟩, ⟨(some 5), none, 0, (.mov (.t 16))⟩]
def A27_0 : AC := (.seq (.block 1 (.seq (.draw 0 R27_5) (.cond (.t 26) (.seq (.reg 0 R27_6) .ret) .skip))) (.reg 0 R27_7))
def L27_0 : AC := (.seq (.seq (.reg 0 R27_4) (.cond (.t 14) .skip (.exit 0))) A27_0)
def R27_8 : List AR := [⟨(some 4), none, 0, (.mov (.k (.bool true)))⟩]
def A27_1 : AC := (.seq (.reg 0 R27_8) .ret)
def A27_2 : AC := (.seq (.seq (.reg 0 R27_3) (.block 0 (.loop L27_0))) A27_1)
def A27_3 : AC := (.seq (.seq (.reg 0 R27_1) (.cond (.t 10) (.seq (.reg 0 R27_2) .ret) .skip)) A27_2)
def A27 : AC := (.seq (.reg 0 R27_0) A27_3)
def O27 : List AO := [(.mov (.t 4))]
def G27 : Fns := ⟨fun f => false, fun f => 0⟩
noncomputable def X27 : Cx := ⟨Try.prog, G27, drawD, 27, [0, 1, 4, 5, 10, 14, 26]⟩
theorem c27 : (Try.f27.body).bind (compC X27.P X27.Γ X27.D X27.nt) = some A27 := by kernel_rfl
theorem o27 : compRes X27.P Try.f27.results.toList = some O27 := by kernel_rfl
theorem v27 : X27.vs = [0, 1, 4, 5, 10, 14, 26] := rfl
theorem p27 : X27.P = Try.prog := rfl
theorem toFloor_ok (a : Floor) : FS Try.prog 144 [] [.agg a.c] (.agg a.c) [] := by
  refine FS.of (X := X144) (ac := A144) (os := O144) Try.func144 (by rfl) (by rfl) (by kernel_rfl) o144 (Nat.le_of_ble_eq_true rfl) ?_
  show AWP X144 A144 (Ends X144.vs O144 0 _ _) [.agg a.c, .tup [], .tup [], .tup []] []
  obtain ⟨Q, hQ⟩ : ∃ Q, Q = Ends X144.vs O144 0 (.agg a.c) [] := ⟨_, rfl⟩
  rw [← hQ]
  refine awp_sr ?_
  simp only [go_sem, R144_0, v144, p144, Nat.reduceEqDiff, Nat.reduceAdd, Nat.reduceLeDiff, Nat.reduceMul, Nat.reduceSub, Nat.reduceLT, Floor.c]
  refine awp_sr ?_
  simp only [go_sem, R144_1, v144, p144, Nat.reduceEqDiff, Nat.reduceAdd, Nat.reduceLeDiff, Nat.reduceMul, Nat.reduceSub, Nat.reduceLT]
  refine awp_sr ?_
  simp only [go_sem, R144_2, v144, p144, Nat.reduceEqDiff, Nat.reduceAdd, Nat.reduceLeDiff, Nat.reduceMul, Nat.reduceSub, Nat.reduceLT]
  refine awp_sr ?_
  simp only [go_sem, R144_3, v144, p144, Nat.reduceEqDiff, Nat.reduceAdd, Nat.reduceLeDiff, Nat.reduceMul, Nat.reduceSub, Nat.reduceLT]
  refine awp_sr ?_
  simp only [go_sem, R144_4, v144, p144, Nat.reduceEqDiff, Nat.reduceAdd, Nat.reduceLeDiff, Nat.reduceMul, Nat.reduceSub, Nat.reduceLT]
  refine awp_ret ?_
  try simp only [go_sem]
  rw [hQ]
  exact Ends.plain (.inl rfl) rfl (.refl _) rfl
theorem toFloorS_ok (xs : List Floor) (h : xs.length ≤ 1048576) : FS Try.prog 103 [] [.fz 2 (rw_ Floor.c xs)] (.fz 2 (rw_ Floor.c xs)) [] := by
  have hx : xs.length ≤ 1048576 := by exact h
  refine FS.of (X := X103) (ac := A103) (os := O103) Try.func103 (by rfl) (by rfl) (by kernel_rfl) o103 (Nat.le_of_ble_eq_true rfl) ?_
  show AWP X103 A103 (Ends X103.vs O103 0 _ _) [.fz 2 (rw_ Floor.c xs), .tup [], .tup [], .tup [], .tup []] []
  obtain ⟨Q, hQ⟩ : ∃ Q, Q = Ends X103.vs O103 0 (.fz 2 (rw_ Floor.c xs)) [] := ⟨_, rfl⟩
  rw [← hQ]
  refine awp_sr ?_
  simp only [go_sem, R103_0, v103, p103, Nat.reduceEqDiff, Nat.reduceAdd, Nat.reduceLeDiff, Nat.reduceMul, Nat.reduceSub, Nat.reduceLT]
  refine awp_sr ?_
  simp only [go_sem, R103_1, v103, p103, Nat.reduceEqDiff, Nat.reduceAdd, Nat.reduceLeDiff, Nat.reduceMul, Nat.reduceSub, Nat.reduceLT]
  refine ⟨by omega, ?_⟩
  refine awp_sr2 ?_
  simp only [go_sem, R103_2, v103, p103, Nat.reduceEqDiff, Nat.reduceAdd, Nat.reduceLeDiff, Nat.reduceMul, Nat.reduceSub, Nat.reduceLT]
  refine awp_for (fun m L σ => ∃ i x11 ys, m = xs.length - i ∧ i ≤ xs.length ∧ ys.length = xs.length ∧ ys.take i = xs.take i ∧ L = [.fz 2 (rw_ Floor.c xs), .nl, .sl 0 2 0 xs.length, .int .i64 (i : Nat), x11] ∧ σ = [.live ⟨2, rw_ Floor.c ys⟩]) xs.length
    ⟨0, _, List.replicate xs.length Floor.zero, rfl, Nat.zero_le _, by simp, by simp, rfl, congrArg (fun r => [Slot.live ⟨2, r⟩]) (rw_rep Floor.c xs.length Floor.zero)⟩ ?_
  rintro m L σ ⟨i, x11, ys, rfl, hi, hl, ht, rfl, rfl⟩
  refine awp_sr2 ?_
  simp only [go_sem, R103_3, v103, p103, Nat.reduceEqDiff, Nat.reduceAdd, Nat.reduceLeDiff, Nat.reduceMul, Nat.reduceSub, Nat.reduceLT]
  refine awp_if rfl ?_ ?_
  · intro h1
    have h1 : i < xs.length := by omega
    have h2 : i < ys.length := by omega
    refine awp_skip ?_
    simp only [go_sem]
    refine awp_seq (awp_block ?_)
    refine awp_reg ?_
    simp only [go_sem, R103_4, v103, p103, Nat.reduceEqDiff, Nat.reduceAdd, Nat.reduceLeDiff, Nat.reduceMul, Nat.reduceSub, Nat.reduceLT, rw_at _ h1, Floor.c]
    refine run_see (toFloor_ok xs[i]) false (Views.refl rfl) rfl (fun j hj => by omega) (fun h => by cases h) ?_
    simp only [go_sem, v103, p103, Nat.reduceEqDiff, Nat.reduceAdd, Nat.reduceLeDiff, Nat.reduceMul, Nat.reduceSub, Nat.reduceLT, rw_at _ h2, Floor.c]
    refine ⟨by omega, ?_⟩
    refine awp_reg ?_
    simp only [go_sem, R103_5, v103, p103, Nat.reduceEqDiff, Nat.reduceAdd, Nat.reduceLeDiff, Nat.reduceMul, Nat.reduceSub, Nat.reduceLT, wrap_succ (i := i) (by omega)]
    refine ⟨xs.length - (i + 1), by omega, i + 1, _, ys.set i xs[i], rfl, by omega, by simpa using hl, ?_, rfl, congrArg (fun r => [Slot.live ⟨2, r⟩]) (rw_set Floor.c ys i xs[i])⟩
    rw [List.take_succ_eq_append_getElem h1, List.take_succ_eq_append_getElem (by simpa using h2), List.take_set_of_le (Nat.le_refl _), ht]
    simp
  · intro h1
    refine awp_exit ?_
    simp only [go_sem]
    refine awp_sr ?_
    simp only [go_sem, R103_6, v103, p103, Nat.reduceEqDiff, Nat.reduceAdd, Nat.reduceLeDiff, Nat.reduceMul, Nat.reduceSub, Nat.reduceLT]
    refine awp_ret ?_
    try simp only [go_sem]
    have : i = xs.length := by omega
    subst this
    rw [List.take_length, ← hl, List.take_length] at ht
    subst ht
    rw [hQ]
    exact Ends.frzSl (.inl rfl) rfl rfl (by simp [rw_]) (rw_closed Floor.c_closed _)
theorem eqFloor_ok (a b : Floor) : FS Try.prog 145 [] [.agg a.c, .agg b.c] (.bool (decide (a = b))) [] := by
  refine FS.of (X := X145) (ac := A145) (os := O145) Try.func145 (by rfl) (by rfl) (by kernel_rfl) o145 (Nat.le_of_ble_eq_true rfl) ?_
  show AWP X145 A145 (Ends X145.vs O145 0 _ _) [.agg a.c, .agg b.c, .tup [], .tup [], .tup [], .tup [], .tup []] []
  obtain ⟨Q, hQ⟩ : ∃ Q, Q = Ends X145.vs O145 0 (.bool (decide (a = b))) [] := ⟨_, rfl⟩
  rw [← hQ]
  have fin : ∀ L σ q, look X145.vs L 4 = .bool q → q = decide (a = b) → Q .ret L σ := by
    intro L σ q h1 h2
    rw [hQ]
    refine Ends.is (.inl rfl) (rs := [.bool q]) (by simp only [go_sem, O145, h1]) ?_ rfl
    simp [packV, h2]
  refine awp_sr ?_
  simp only [go_sem, R145_0, v145, p145, Nat.reduceEqDiff, Nat.reduceAdd, Nat.reduceLeDiff, Nat.reduceMul, Nat.reduceSub, Nat.reduceLT, Floor.c]
  refine awp_sr2 ?_
  simp only [go_sem, R145_1, v145, p145, Nat.reduceEqDiff, Nat.reduceAdd, Nat.reduceLeDiff, Nat.reduceMul, Nat.reduceSub, Nat.reduceLT]
  refine awp_if rfl ?_ ?_
  · intro h
    refine awp_sr ?_
    simp only [go_sem, R145_2, v145, p145, Nat.reduceEqDiff, Nat.reduceAdd, Nat.reduceLeDiff, Nat.reduceMul, Nat.reduceSub, Nat.reduceLT]
    refine awp_ret ?_
    try simp only [go_sem]
    exact fin _ _ _ rfl (decide_eq_false fun e => h (by rw [e])).symm
  intro h0
  refine awp_skip ?_
  simp only [go_sem]
  refine awp_sr2 ?_
  simp only [go_sem, R145_3, v145, p145, Nat.reduceEqDiff, Nat.reduceAdd, Nat.reduceLeDiff, Nat.reduceMul, Nat.reduceSub, Nat.reduceLT]
  refine awp_if rfl ?_ ?_
  · intro h
    refine awp_sr ?_
    simp only [go_sem, R145_4, v145, p145, Nat.reduceEqDiff, Nat.reduceAdd, Nat.reduceLeDiff, Nat.reduceMul, Nat.reduceSub, Nat.reduceLT]
    refine awp_ret ?_
    try simp only [go_sem]
    exact fin _ _ _ rfl (decide_eq_false fun e => h (by rw [e])).symm
  intro h1
  refine awp_skip ?_
  simp only [go_sem]
  refine awp_sr ?_
  simp only [go_sem, R145_5, v145, p145, Nat.reduceEqDiff, Nat.reduceAdd, Nat.reduceLeDiff, Nat.reduceMul, Nat.reduceSub, Nat.reduceLT]
  refine awp_ret ?_
  try simp only [go_sem]
  refine fin _ _ _ rfl (decide_eq_true ?_).symm
  cases a; cases b
  simp at h0 h1
  simp [h0, h1]
theorem eqFloorS_ok (xs ys : List Floor) (hx : xs.length ≤ 1000000000) : FS Try.prog 108 [] [.fz 2 (rw_ Floor.c xs), .fz 2 (rw_ Floor.c ys)] (.bool (decide (xs = ys))) [] := by
  refine FS.of (X := X108) (ac := A108) (os := O108) Try.func108 (by rfl) (by rfl) (by kernel_rfl) o108 (Nat.le_of_ble_eq_true rfl) ?_
  show AWP X108 A108 (Ends X108.vs O108 0 _ _) [.fz 2 (rw_ Floor.c xs), .fz 2 (rw_ Floor.c ys), .tup [], .tup [], .tup [], .tup [], .tup []] []
  obtain ⟨Q, hQ⟩ : ∃ Q, Q = Ends X108.vs O108 0 (.bool (decide (xs = ys))) [] := ⟨_, rfl⟩
  rw [← hQ]
  have fin : ∀ L σ b, look X108.vs L 4 = .bool b → b = decide (xs = ys) → Q .ret L σ := by
    intro L σ b h1 h2
    rw [hQ]
    refine Ends.is (.inl rfl) (rs := [.bool b]) (by simp only [go_sem, O108, h1]) ?_ rfl
    simp [packV, h2]
  refine awp_sr ?_
  simp only [go_sem, R108_0, v108, p108, Nat.reduceEqDiff, Nat.reduceAdd, Nat.reduceLeDiff, Nat.reduceMul, Nat.reduceSub, Nat.reduceLT]
  refine awp_sr2 ?_
  simp only [go_sem, R108_1, v108, p108, Nat.reduceEqDiff, Nat.reduceAdd, Nat.reduceLeDiff, Nat.reduceMul, Nat.reduceSub, Nat.reduceLT]
  refine awp_if rfl ?_ ?_
  · intro h
    refine awp_sr ?_
    simp only [go_sem, R108_2, v108, p108, Nat.reduceEqDiff, Nat.reduceAdd, Nat.reduceLeDiff, Nat.reduceMul, Nat.reduceSub, Nat.reduceLT]
    refine awp_ret ?_
    try simp only [go_sem]
    refine fin _ _ false rfl ?_
    symm; simp; intro e; subst e; exact h rfl
  intro hne
  have hl : xs.length = ys.length := by omega
  refine awp_skip ?_
  simp only [go_sem]
  refine awp_sr2 ?_
  simp only [go_sem, R108_3, v108, p108, Nat.reduceEqDiff, Nat.reduceAdd, Nat.reduceLeDiff, Nat.reduceMul, Nat.reduceSub, Nat.reduceLT]
  refine awp_for (fun m L σ => ∃ i x10 x14 x25, m = xs.length - i ∧ i ≤ xs.length ∧ xs.take i = ys.take i ∧ L = [.fz 2 (rw_ Floor.c xs), .fz 2 (rw_ Floor.c ys), .bool false, .int .i64 (i : Nat), x10, x14, x25]) xs.length ⟨0, _, _, _, rfl, Nat.zero_le _, by simp, rfl⟩ ?_
  rintro m L σ ⟨i, x10, x14, x25, rfl, hi, ht, rfl⟩
  refine awp_sr2 ?_
  simp only [go_sem, R108_4, v108, p108, Nat.reduceEqDiff, Nat.reduceAdd, Nat.reduceLeDiff, Nat.reduceMul, Nat.reduceSub, Nat.reduceLT]
  refine awp_if rfl ?_ ?_
  · intro h1
    have h1 : i < xs.length := by omega
    have h2 : i < ys.length := by omega
    refine awp_skip ?_
    simp only [go_sem]
    refine awp_seq (awp_block ?_)
    refine awp_sd mixed rfl (by rfl) ?_
    simp only [go_sem, R108_5, v108, p108, Nat.reduceEqDiff, Nat.reduceAdd, Nat.reduceLeDiff, Nat.reduceMul, Nat.reduceSub, Nat.reduceLT, rw_at _ h1, rw_at _ h2, Floor.c]
    refine run_see (eqFloor_ok xs[i] ys[i]) false (Views.refl rfl) rfl (fun j hj => by omega) (fun h => by cases h) ?_
    simp only [go_sem, v108, p108, Nat.reduceEqDiff, Nat.reduceAdd, Nat.reduceLeDiff, Nat.reduceMul, Nat.reduceSub, Nat.reduceLT]
    refine awp_if' rfl ?_ ?_
    · intro h3
      refine awp_sr ?_
      simp only [go_sem, R108_6, v108, p108, Nat.reduceEqDiff, Nat.reduceAdd, Nat.reduceLeDiff, Nat.reduceMul, Nat.reduceSub, Nat.reduceLT]
      refine awp_ret ?_
      try simp only [go_sem]
      refine fin _ _ false rfl ?_
      symm; simp; intro e; subst e; exact h3 rfl
    · intro h3
      refine awp_skip ?_
      simp only [go_sem]
      refine awp_reg ?_
      simp only [go_sem, R108_7, v108, p108, Nat.reduceEqDiff, Nat.reduceAdd, Nat.reduceLeDiff, Nat.reduceMul, Nat.reduceSub, Nat.reduceLT, wrap_succ (i := i) (by omega)]
      refine ⟨xs.length - (i + 1), by omega, i + 1, _, _, _, rfl, by omega, ?_, rfl⟩
      rw [List.take_succ_eq_append_getElem h1, List.take_succ_eq_append_getElem h2, ht, h3]
  · intro h1
    refine awp_exit ?_
    simp only [go_sem]
    refine awp_sr ?_
    simp only [go_sem, R108_8, v108, p108, Nat.reduceEqDiff, Nat.reduceAdd, Nat.reduceLeDiff, Nat.reduceMul, Nat.reduceSub, Nat.reduceLT]
    refine awp_ret ?_
    try simp only [go_sem]
    refine fin _ _ true rfl ?_
    have : i = xs.length := by omega
    subst this
    rw [List.take_length, hl, List.take_length] at ht
    simp [ht]
theorem toState_ok (a : State) (h : a.sz ≤ 1048576) : FS Try.prog 57 [] [.agg a.c] (.agg a.c) [] := by
  have hh : szS Item.sz a.items + a.floors.length ≤ 1048576 := h
  have hl : a.items.length + sumBy Item.sz a.items + a.floors.length ≤ 1048576 := hh
  refine FS.of (X := X57) (ac := A57) (os := O57) Try.func57 (by rfl) (by rfl) (by kernel_rfl) o57 (Nat.le_of_ble_eq_true rfl) ?_
  show AWP X57 A57 (Ends X57.vs O57 0 _ _) [.agg a.c, .tup [], .tup [], .tup []] []
  obtain ⟨Q, hQ⟩ : ∃ Q, Q = Ends X57.vs O57 0 (.agg a.c) [] := ⟨_, rfl⟩
  rw [← hQ]
  refine awp_sr ?_
  simp only [go_sem, R57_0, v57, p57, Nat.reduceEqDiff, Nat.reduceAdd, Nat.reduceLeDiff, Nat.reduceMul, Nat.reduceSub, Nat.reduceLT, State.c]
  refine awp_sr ?_
  simp only [go_sem, R57_1, v57, p57, Nat.reduceEqDiff, Nat.reduceAdd, Nat.reduceLeDiff, Nat.reduceMul, Nat.reduceSub, Nat.reduceLT]
  refine awp_sr ?_
  simp only [go_sem, R57_2, v57, p57, Nat.reduceEqDiff, Nat.reduceAdd, Nat.reduceLeDiff, Nat.reduceMul, Nat.reduceSub, Nat.reduceLT]
  refine run_see (toItemS_ok a.items (by omega)) false (Views.refl rfl) rfl (fun j hj => by omega) (fun h => by cases h) ?_
  simp only [go_sem, v57, p57, Nat.reduceEqDiff, Nat.reduceAdd, Nat.reduceLeDiff, Nat.reduceMul, Nat.reduceSub, Nat.reduceLT]
  refine awp_sr ?_
  simp only [go_sem, R57_3, v57, p57, Nat.reduceEqDiff, Nat.reduceAdd, Nat.reduceLeDiff, Nat.reduceMul, Nat.reduceSub, Nat.reduceLT]
  refine run_see (toFloorS_ok a.floors (by omega)) false (Views.refl rfl) rfl (fun j hj => by omega) (fun h => by cases h) ?_
  simp only [go_sem, v57, p57, Nat.reduceEqDiff, Nat.reduceAdd, Nat.reduceLeDiff, Nat.reduceMul, Nat.reduceSub, Nat.reduceLT]
  refine awp_sr ?_
  simp only [go_sem, R57_4, v57, p57, Nat.reduceEqDiff, Nat.reduceAdd, Nat.reduceLeDiff, Nat.reduceMul, Nat.reduceSub, Nat.reduceLT]
  refine awp_ret ?_
  try simp only [go_sem]
  rw [hQ]
  exact Ends.plain (.inl rfl) rfl (.refl _) rfl
theorem szState_ok (a : State) (n : Nat) (hn : n ≤ 1048576) (ha : a.ok) : FS Try.prog 53 [] [.agg a.c, .int .i64 n] (.int .i64 (left n a.sz)) [] := by
  refine FS.of (X := X53) (ac := A53) (os := O53) Try.func53 (by rfl) (by rfl) (by kernel_rfl) o53 (Nat.le_of_ble_eq_true rfl) ?_
  show AWP X53 A53 (Ends X53.vs O53 0 _ _) [.agg a.c, .int .i64 n, .tup [], .tup [], .tup [], .tup []] []
  obtain ⟨Q, hQ⟩ : ∃ Q, Q = Ends X53.vs O53 0 (.int .i64 (left n a.sz)) [] := ⟨_, rfl⟩
  rw [← hQ]
  obtain ⟨p1, p2⟩ := ha
  have tot : a.sz = szS Item.sz a.items + a.floors.length := rfl
  refine awp_sr ?_
  simp only [go_sem, R53_0, v53, p53, Nat.reduceEqDiff, Nat.reduceAdd, Nat.reduceLeDiff, Nat.reduceMul, Nat.reduceSub, Nat.reduceLT, State.c]
  refine awp_sr ?_
  simp only [go_sem, R53_1, v53, p53, Nat.reduceEqDiff, Nat.reduceAdd, Nat.reduceLeDiff, Nat.reduceMul, Nat.reduceSub, Nat.reduceLT]
  refine run_see (szItemS_ok a.items n (by omega) p1) false (Views.refl rfl) rfl (fun j hj => by omega) (fun h => by cases h) ?_
  simp only [go_sem, v53, p53, Nat.reduceEqDiff, Nat.reduceAdd, Nat.reduceLeDiff, Nat.reduceMul, Nat.reduceSub, Nat.reduceLT]
  refine awp_sr2 ?_
  simp only [go_sem, R53_2, v53, p53, Nat.reduceEqDiff, Nat.reduceAdd, Nat.reduceLeDiff, Nat.reduceMul, Nat.reduceSub, Nat.reduceLT]
  refine awp_if rfl ?_ ?_
  · intro h
    refine awp_sr ?_
    simp only [go_sem, R53_3, v53, p53, Nat.reduceEqDiff, Nat.reduceAdd, Nat.reduceLeDiff, Nat.reduceMul, Nat.reduceSub, Nat.reduceLT]
    refine awp_ret ?_
    try simp only [go_sem]
    rw [hQ]
    refine Ends.is (.inl rfl) rfl (congrArg (V.int .i64) (left_no ?_).symm) rfl
    have : ¬ szS Item.sz a.items ≤ n := fun e => by rw [left_is e] at h; omega
    omega
  intro h0
  obtain ⟨e0, g0⟩ := left_pos h0
  rw [e0]
  refine awp_skip ?_
  simp only [go_sem]
  refine awp_sr ?_
  simp only [go_sem, R53_4, v53, p53, Nat.reduceEqDiff, Nat.reduceAdd, Nat.reduceLeDiff, Nat.reduceMul, Nat.reduceSub, Nat.reduceLT]
  refine run_see (szFloorS_ok a.floors (n - szS Item.sz a.items) (by omega) p2) false (Views.refl rfl) rfl (fun j hj => by omega) (fun h => by cases h) ?_
  simp only [go_sem, v53, p53, Nat.reduceEqDiff, Nat.reduceAdd, Nat.reduceLeDiff, Nat.reduceMul, Nat.reduceSub, Nat.reduceLT]
  refine awp_sr2 ?_
  simp only [go_sem, R53_5, v53, p53, Nat.reduceEqDiff, Nat.reduceAdd, Nat.reduceLeDiff, Nat.reduceMul, Nat.reduceSub, Nat.reduceLT]
  refine awp_if rfl ?_ ?_
  · intro h
    refine awp_sr ?_
    simp only [go_sem, R53_6, v53, p53, Nat.reduceEqDiff, Nat.reduceAdd, Nat.reduceLeDiff, Nat.reduceMul, Nat.reduceSub, Nat.reduceLT]
    refine awp_ret ?_
    try simp only [go_sem]
    rw [hQ]
    refine Ends.is (.inl rfl) rfl (congrArg (V.int .i64) (left_no ?_).symm) rfl
    have : ¬ a.floors.length ≤ (n - szS Item.sz a.items) := fun e => by rw [left_is e] at h; omega
    omega
  intro h1
  obtain ⟨e1, g1⟩ := left_pos h1
  rw [e1]
  refine awp_skip ?_
  simp only [go_sem]
  refine awp_sr ?_
  simp only [go_sem, R53_7, v53, p53, Nat.reduceEqDiff, Nat.reduceAdd, Nat.reduceLeDiff, Nat.reduceMul, Nat.reduceSub, Nat.reduceLT]
  refine awp_ret ?_
  try simp only [go_sem]
  rw [hQ]
  refine Ends.is (.inl rfl) rfl (congrArg (V.int .i64) ?_) rfl
  rw [left_is (by omega)]
  omega
theorem eqState_ok (a b : State) (h : a.sz ≤ 1048576) : FS Try.prog 60 [] [.agg a.c, .agg b.c] (.bool (decide (a = b))) [] := by
  have hh : szS Item.sz a.items + a.floors.length ≤ 1048576 := h
  have hl : a.items.length + sumBy Item.sz a.items + a.floors.length ≤ 1048576 := hh
  refine FS.of (X := X60) (ac := A60) (os := O60) Try.func60 (by rfl) (by rfl) (by kernel_rfl) o60 (Nat.le_of_ble_eq_true rfl) ?_
  show AWP X60 A60 (Ends X60.vs O60 0 _ _) [.agg a.c, .agg b.c, .tup [], .tup [], .tup [], .tup [], .tup []] []
  obtain ⟨Q, hQ⟩ : ∃ Q, Q = Ends X60.vs O60 0 (.bool (decide (a = b))) [] := ⟨_, rfl⟩
  rw [← hQ]
  have fin : ∀ L σ q, look X60.vs L 4 = .bool q → q = decide (a = b) → Q .ret L σ := by
    intro L σ q h1 h2
    rw [hQ]
    refine Ends.is (.inl rfl) (rs := [.bool q]) (by simp only [go_sem, O60, h1]) ?_ rfl
    simp [packV, h2]
  refine awp_sr ?_
  simp only [go_sem, R60_0, v60, p60, Nat.reduceEqDiff, Nat.reduceAdd, Nat.reduceLeDiff, Nat.reduceMul, Nat.reduceSub, Nat.reduceLT, State.c]
  refine awp_sr2 ?_
  simp only [go_sem, R60_1, v60, p60, Nat.reduceEqDiff, Nat.reduceAdd, Nat.reduceLeDiff, Nat.reduceMul, Nat.reduceSub, Nat.reduceLT]
  refine run_see (eqItemS_ok a.items b.items (by omega)) false (Views.refl rfl) rfl (fun j hj => by omega) (fun h => by cases h) ?_
  simp only [go_sem, v60, p60, Nat.reduceEqDiff, Nat.reduceAdd, Nat.reduceLeDiff, Nat.reduceMul, Nat.reduceSub, Nat.reduceLT]
  refine awp_if' rfl ?_ ?_
  · intro h
    refine awp_sr ?_
    simp only [go_sem, R60_2, v60, p60, Nat.reduceEqDiff, Nat.reduceAdd, Nat.reduceLeDiff, Nat.reduceMul, Nat.reduceSub, Nat.reduceLT]
    refine awp_ret ?_
    try simp only [go_sem]
    exact fin _ _ _ rfl (decide_eq_false fun e => h (by rw [e])).symm
  intro h0
  refine awp_skip ?_
  simp only [go_sem]
  refine awp_sr2 ?_
  simp only [go_sem, R60_3, v60, p60, Nat.reduceEqDiff, Nat.reduceAdd, Nat.reduceLeDiff, Nat.reduceMul, Nat.reduceSub, Nat.reduceLT]
  refine run_see (eqFloorS_ok a.floors b.floors (by omega)) false (Views.refl rfl) rfl (fun j hj => by omega) (fun h => by cases h) ?_
  simp only [go_sem, v60, p60, Nat.reduceEqDiff, Nat.reduceAdd, Nat.reduceLeDiff, Nat.reduceMul, Nat.reduceSub, Nat.reduceLT]
  refine awp_if' rfl ?_ ?_
  · intro h
    refine awp_sr ?_
    simp only [go_sem, R60_4, v60, p60, Nat.reduceEqDiff, Nat.reduceAdd, Nat.reduceLeDiff, Nat.reduceMul, Nat.reduceSub, Nat.reduceLT]
    refine awp_ret ?_
    try simp only [go_sem]
    exact fin _ _ _ rfl (decide_eq_false fun e => h (by rw [e])).symm
  intro h1
  refine awp_skip ?_
  simp only [go_sem]
  refine awp_sr ?_
  simp only [go_sem, R60_5, v60, p60, Nat.reduceEqDiff, Nat.reduceAdd, Nat.reduceLeDiff, Nat.reduceMul, Nat.reduceSub, Nat.reduceLT]
  refine awp_ret ?_
  try simp only [go_sem]
  refine fin _ _ _ rfl (decide_eq_true ?_).symm
  cases a; cases b
  simp at h0 h1
  simp [h0, h1]
theorem toStateS_ok (xs : List State) (h : szS State.sz xs ≤ 1048576) : FS Try.prog 25 [] [.fz 2 (rw_ State.c xs)] (.fz 2 (rw_ State.c xs)) [] := by
  have hx : xs.length ≤ 1048576 := by unfold szS at h; omega
  refine FS.of (X := X25) (ac := A25) (os := O25) Try.func25 (by rfl) (by rfl) (by kernel_rfl) o25 (Nat.le_of_ble_eq_true rfl) ?_
  show AWP X25 A25 (Ends X25.vs O25 0 _ _) [.fz 2 (rw_ State.c xs), .tup [], .tup [], .tup [], .tup []] []
  obtain ⟨Q, hQ⟩ : ∃ Q, Q = Ends X25.vs O25 0 (.fz 2 (rw_ State.c xs)) [] := ⟨_, rfl⟩
  rw [← hQ]
  refine awp_sr ?_
  simp only [go_sem, R25_0, v25, p25, Nat.reduceEqDiff, Nat.reduceAdd, Nat.reduceLeDiff, Nat.reduceMul, Nat.reduceSub, Nat.reduceLT]
  refine awp_sr ?_
  simp only [go_sem, R25_1, v25, p25, Nat.reduceEqDiff, Nat.reduceAdd, Nat.reduceLeDiff, Nat.reduceMul, Nat.reduceSub, Nat.reduceLT]
  refine ⟨by omega, ?_⟩
  refine awp_obj ⟨2, List.replicate xs.length State.zero.c⟩ (o := 0) rfl (ObLe.rep rfl fun j u v h1 h2 => ?_) ?_
  · cases j with
    | zero => simp at h1; simp [State.zero, State.c, rw_] at h2; subst h1; subst h2; exact .nl 6
    | succ j =>
      cases j with
      | zero => simp at h1; simp [State.zero, State.c, rw_] at h2; subst h1; subst h2; exact .nl 2
      | succ j =>
        simp at h1
  show AWP X25 _ _ _ [.live ⟨2, List.replicate xs.length State.zero.c⟩]
  refine awp_sr2 ?_
  simp only [go_sem, R25_2, v25, p25, Nat.reduceEqDiff, Nat.reduceAdd, Nat.reduceLeDiff, Nat.reduceMul, Nat.reduceSub, Nat.reduceLT]
  refine awp_for (fun m L σ => ∃ i x11 ys, m = xs.length - i ∧ i ≤ xs.length ∧ ys.length = xs.length ∧ ys.take i = xs.take i ∧ L = [.fz 2 (rw_ State.c xs), .nl, .sl 0 2 0 xs.length, .int .i64 (i : Nat), x11] ∧ σ = [.live ⟨2, rw_ State.c ys⟩]) xs.length
    ⟨0, _, List.replicate xs.length State.zero, rfl, Nat.zero_le _, by simp, by simp, rfl, congrArg (fun r => [Slot.live ⟨2, r⟩]) (rw_rep State.c xs.length State.zero)⟩ ?_
  rintro m L σ ⟨i, x11, ys, rfl, hi, hl, ht, rfl, rfl⟩
  refine awp_sr2 ?_
  simp only [go_sem, R25_3, v25, p25, Nat.reduceEqDiff, Nat.reduceAdd, Nat.reduceLeDiff, Nat.reduceMul, Nat.reduceSub, Nat.reduceLT]
  refine awp_if rfl ?_ ?_
  · intro h1
    have h1 : i < xs.length := by omega
    have h2 : i < ys.length := by omega
    refine awp_skip ?_
    simp only [go_sem]
    refine awp_seq (awp_block ?_)
    refine awp_reg ?_
    simp only [go_sem, R25_4, v25, p25, Nat.reduceEqDiff, Nat.reduceAdd, Nat.reduceLeDiff, Nat.reduceMul, Nat.reduceSub, Nat.reduceLT, rw_at _ h1, State.c]
    refine run_see (toState_ok xs[i] (by have := sumBy_get State.sz h1; unfold szS at h; omega)) false (Views.refl rfl) rfl (fun j hj => by omega) (fun h => by cases h) ?_
    simp only [go_sem, v25, p25, Nat.reduceEqDiff, Nat.reduceAdd, Nat.reduceLeDiff, Nat.reduceMul, Nat.reduceSub, Nat.reduceLT, rw_at _ h2, State.c]
    refine ⟨by omega, ?_⟩
    refine awp_reg ?_
    simp only [go_sem, R25_5, v25, p25, Nat.reduceEqDiff, Nat.reduceAdd, Nat.reduceLeDiff, Nat.reduceMul, Nat.reduceSub, Nat.reduceLT, wrap_succ (i := i) (by omega)]
    refine ⟨xs.length - (i + 1), by omega, i + 1, _, ys.set i xs[i], rfl, by omega, by simpa using hl, ?_, rfl, congrArg (fun r => [Slot.live ⟨2, r⟩]) (rw_set State.c ys i xs[i])⟩
    rw [List.take_succ_eq_append_getElem h1, List.take_succ_eq_append_getElem (by simpa using h2), List.take_set_of_le (Nat.le_refl _), ht]
    simp
  · intro h1
    refine awp_exit ?_
    simp only [go_sem]
    refine awp_sr ?_
    simp only [go_sem, R25_6, v25, p25, Nat.reduceEqDiff, Nat.reduceAdd, Nat.reduceLeDiff, Nat.reduceMul, Nat.reduceSub, Nat.reduceLT]
    refine awp_ret ?_
    try simp only [go_sem]
    have : i = xs.length := by omega
    subst this
    rw [List.take_length, ← hl, List.take_length] at ht
    subst ht
    rw [hQ]
    exact Ends.frzSl (.inl rfl) rfl rfl (by simp [rw_]) (rw_closed State.c_closed _)
theorem szStateS_ok (xs : List State) (n : Nat) (hn : n ≤ 1048576) (ha : okS State.ok xs) : FS Try.prog 23 [] [.fz 2 (rw_ State.c xs), .int .i64 n] (.int .i64 (left n (szS State.sz xs))) [] := by
  refine FS.of (X := X23) (ac := A23) (os := O23) Try.func23 (by rfl) (by rfl) (by kernel_rfl) o23 (Nat.le_of_ble_eq_true rfl) ?_
  show AWP X23 A23 (Ends X23.vs O23 0 _ _) [.fz 2 (rw_ State.c xs), .int .i64 n, .tup [], .tup [], .tup [], .tup [], .tup []] []
  obtain ⟨Q, hQ⟩ : ∃ Q, Q = Ends X23.vs O23 0 (.int .i64 (left n (szS State.sz xs))) [] := ⟨_, rfl⟩
  rw [← hQ]
  obtain ⟨ha1, ha2⟩ := ha
  have ha1 : xs.length ≤ 1000000000000000 := ha1
  refine awp_sr ?_
  simp only [go_sem, R23_0, v23, p23, Nat.reduceEqDiff, Nat.reduceAdd, Nat.reduceLeDiff, Nat.reduceMul, Nat.reduceSub, Nat.reduceLT]
  refine awp_sr ?_
  simp only [go_sem, R23_1, v23, p23, Nat.reduceEqDiff, Nat.reduceAdd, Nat.reduceLeDiff, Nat.reduceMul, Nat.reduceSub, Nat.reduceLT, wrap_i64 (n := (n : Int) - xs.length) (by omega) (by omega)]
  refine awp_sr2 ?_
  simp only [go_sem, R23_2, v23, p23, Nat.reduceEqDiff, Nat.reduceAdd, Nat.reduceLeDiff, Nat.reduceMul, Nat.reduceSub, Nat.reduceLT]
  refine awp_if rfl ?_ ?_
  · intro h
    refine awp_sr ?_
    simp only [go_sem, R23_3, v23, p23, Nat.reduceEqDiff, Nat.reduceAdd, Nat.reduceLeDiff, Nat.reduceMul, Nat.reduceSub, Nat.reduceLT]
    refine awp_ret ?_
    try simp only [go_sem]
    rw [hQ]
    exact Ends.is (.inl rfl) rfl (congrArg (V.int .i64) (left_no (by unfold szS; omega)).symm) rfl
  intro h
  have h0 : xs.length ≤ n := by omega
  refine awp_skip ?_
  simp only [go_sem]
  refine awp_sr2 ?_
  simp only [go_sem, R23_4, v23, p23, Nat.reduceEqDiff, Nat.reduceAdd, Nat.reduceLeDiff, Nat.reduceMul, Nat.reduceSub, Nat.reduceLT]
  refine awp_for (fun m L σ => ∃ i x11 x15 x25, m = xs.length - i ∧ i ≤ xs.length ∧ xs.length + sumBy State.sz (xs.take i) ≤ n ∧ L = [.fz 2 (rw_ State.c xs), .int .i64 ((n - (xs.length + sumBy State.sz (xs.take i)) : Nat) : Int), .int .i64 0, .int .i64 (i : Nat), x11, x15, x25]) xs.length
    ⟨0, _, _, _, rfl, Nat.zero_le _, by simpa [sumBy] using h0, by rw [show ((n : Int) - xs.length) = ((n - (xs.length + sumBy State.sz (xs.take 0)) : Nat) : Int) by simp [sumBy]; omega]; rfl⟩ ?_
  rintro m L σ ⟨i, x11, x15, x25, rfl, hi, hs, rfl⟩
  refine awp_sr2 ?_
  simp only [go_sem, R23_5, v23, p23, Nat.reduceEqDiff, Nat.reduceAdd, Nat.reduceLeDiff, Nat.reduceMul, Nat.reduceSub, Nat.reduceLT]
  refine awp_if rfl ?_ ?_
  · intro h1
    have h1 : i < xs.length := by omega
    refine awp_skip ?_
    simp only [go_sem]
    refine awp_seq (awp_block ?_)
    refine awp_sr ?_
    simp only [go_sem, R23_6, v23, p23, Nat.reduceEqDiff, Nat.reduceAdd, Nat.reduceLeDiff, Nat.reduceMul, Nat.reduceSub, Nat.reduceLT, rw_at _ h1, State.c]
    refine run_see (szState_ok xs[i] (n - (xs.length + sumBy State.sz (xs.take i))) (by omega) (ha2 _ (List.getElem_mem h1))) false (Views.refl rfl) rfl (fun j hj => by omega) (fun h => by cases h) ?_
    simp only [go_sem, v23, p23, Nat.reduceEqDiff, Nat.reduceAdd, Nat.reduceLeDiff, Nat.reduceMul, Nat.reduceSub, Nat.reduceLT]
    have e1 := sumBy_take State.sz h1
    have e2 := sumBy_le State.sz xs (i + 1)
    refine awp_sr ?_
    simp only [go_sem, R23_7, v23, p23, Nat.reduceEqDiff, Nat.reduceAdd, Nat.reduceLeDiff, Nat.reduceMul, Nat.reduceSub, Nat.reduceLT]
    refine awp_if rfl ?_ ?_
    · intro h2
      refine awp_sr ?_
      simp only [go_sem, R23_8, v23, p23, Nat.reduceEqDiff, Nat.reduceAdd, Nat.reduceLeDiff, Nat.reduceMul, Nat.reduceSub, Nat.reduceLT]
      refine awp_ret ?_
      try simp only [go_sem]
      rw [hQ]
      refine Ends.is (.inl rfl) rfl (congrArg (V.int .i64) (left_no ?_).symm) rfl
      have : ¬ State.sz xs[i] ≤ n - (xs.length + sumBy State.sz (xs.take i)) := fun e => by rw [left_is e] at h2; omega
      unfold szS; omega
    · intro h2
      obtain ⟨e3, e4⟩ := left_pos h2
      refine awp_skip ?_
      simp only [go_sem]
      refine awp_reg ?_
      simp only [go_sem, R23_9, v23, p23, Nat.reduceEqDiff, Nat.reduceAdd, Nat.reduceLeDiff, Nat.reduceMul, Nat.reduceSub, Nat.reduceLT, wrap_succ (i := i) (by omega)]
      rw [e3, show (n - (xs.length + sumBy State.sz (xs.take i)) - State.sz xs[i] : Nat) = n - (xs.length + sumBy State.sz (xs.take (i + 1))) by omega]
      exact ⟨xs.length - (i + 1), by omega, i + 1, _, _, _, rfl, by omega, by omega, rfl⟩
  · intro h1
    refine awp_exit ?_
    simp only [go_sem]
    refine awp_sr ?_
    simp only [go_sem, R23_10, v23, p23, Nat.reduceEqDiff, Nat.reduceAdd, Nat.reduceLeDiff, Nat.reduceMul, Nat.reduceSub, Nat.reduceLT]
    refine awp_ret ?_
    try simp only [go_sem]
    have : i = xs.length := by omega
    subst this
    rw [hQ]
    refine Ends.is (.inl rfl) rfl (congrArg (V.int .i64) ?_) rfl
    rw [left_is (by unfold szS; rw [List.take_length] at hs; omega), List.take_length]
    rfl
theorem eqStateS_ok (xs ys : List State) (hx : xs.length ≤ 1000000000) (h : szS State.sz xs ≤ 1048576) : FS Try.prog 27 [] [.fz 2 (rw_ State.c xs), .fz 2 (rw_ State.c ys)] (.bool (decide (xs = ys))) [] := by
  refine FS.of (X := X27) (ac := A27) (os := O27) Try.func27 (by rfl) (by rfl) (by kernel_rfl) o27 (Nat.le_of_ble_eq_true rfl) ?_
  show AWP X27 A27 (Ends X27.vs O27 0 _ _) [.fz 2 (rw_ State.c xs), .fz 2 (rw_ State.c ys), .tup [], .tup [], .tup [], .tup [], .tup []] []
  obtain ⟨Q, hQ⟩ : ∃ Q, Q = Ends X27.vs O27 0 (.bool (decide (xs = ys))) [] := ⟨_, rfl⟩
  rw [← hQ]
  have fin : ∀ L σ b, look X27.vs L 4 = .bool b → b = decide (xs = ys) → Q .ret L σ := by
    intro L σ b h1 h2
    rw [hQ]
    refine Ends.is (.inl rfl) (rs := [.bool b]) (by simp only [go_sem, O27, h1]) ?_ rfl
    simp [packV, h2]
  refine awp_sr ?_
  simp only [go_sem, R27_0, v27, p27, Nat.reduceEqDiff, Nat.reduceAdd, Nat.reduceLeDiff, Nat.reduceMul, Nat.reduceSub, Nat.reduceLT]
  refine awp_sr2 ?_
  simp only [go_sem, R27_1, v27, p27, Nat.reduceEqDiff, Nat.reduceAdd, Nat.reduceLeDiff, Nat.reduceMul, Nat.reduceSub, Nat.reduceLT]
  refine awp_if rfl ?_ ?_
  · intro h
    refine awp_sr ?_
    simp only [go_sem, R27_2, v27, p27, Nat.reduceEqDiff, Nat.reduceAdd, Nat.reduceLeDiff, Nat.reduceMul, Nat.reduceSub, Nat.reduceLT]
    refine awp_ret ?_
    try simp only [go_sem]
    refine fin _ _ false rfl ?_
    symm; simp; intro e; subst e; exact h rfl
  intro hne
  have hl : xs.length = ys.length := by omega
  refine awp_skip ?_
  simp only [go_sem]
  refine awp_sr2 ?_
  simp only [go_sem, R27_3, v27, p27, Nat.reduceEqDiff, Nat.reduceAdd, Nat.reduceLeDiff, Nat.reduceMul, Nat.reduceSub, Nat.reduceLT]
  refine awp_for (fun m L σ => ∃ i x10 x14 x25, m = xs.length - i ∧ i ≤ xs.length ∧ xs.take i = ys.take i ∧ L = [.fz 2 (rw_ State.c xs), .fz 2 (rw_ State.c ys), .bool false, .int .i64 (i : Nat), x10, x14, x25]) xs.length ⟨0, _, _, _, rfl, Nat.zero_le _, by simp, rfl⟩ ?_
  rintro m L σ ⟨i, x10, x14, x25, rfl, hi, ht, rfl⟩
  refine awp_sr2 ?_
  simp only [go_sem, R27_4, v27, p27, Nat.reduceEqDiff, Nat.reduceAdd, Nat.reduceLeDiff, Nat.reduceMul, Nat.reduceSub, Nat.reduceLT]
  refine awp_if rfl ?_ ?_
  · intro h1
    have h1 : i < xs.length := by omega
    have h2 : i < ys.length := by omega
    refine awp_skip ?_
    simp only [go_sem]
    refine awp_seq (awp_block ?_)
    refine awp_sd mixed rfl (by rfl) ?_
    simp only [go_sem, R27_5, v27, p27, Nat.reduceEqDiff, Nat.reduceAdd, Nat.reduceLeDiff, Nat.reduceMul, Nat.reduceSub, Nat.reduceLT, rw_at _ h1, rw_at _ h2, State.c]
    refine run_see (eqState_ok xs[i] ys[i] (by have := sumBy_get State.sz h1; have h : xs.length + sumBy State.sz xs ≤ 1048576 := h; omega)) false (Views.refl rfl) rfl (fun j hj => by omega) (fun h => by cases h) ?_
    simp only [go_sem, v27, p27, Nat.reduceEqDiff, Nat.reduceAdd, Nat.reduceLeDiff, Nat.reduceMul, Nat.reduceSub, Nat.reduceLT]
    refine awp_if' rfl ?_ ?_
    · intro h3
      refine awp_sr ?_
      simp only [go_sem, R27_6, v27, p27, Nat.reduceEqDiff, Nat.reduceAdd, Nat.reduceLeDiff, Nat.reduceMul, Nat.reduceSub, Nat.reduceLT]
      refine awp_ret ?_
      try simp only [go_sem]
      refine fin _ _ false rfl ?_
      symm; simp; intro e; subst e; exact h3 rfl
    · intro h3
      refine awp_skip ?_
      simp only [go_sem]
      refine awp_reg ?_
      simp only [go_sem, R27_7, v27, p27, Nat.reduceEqDiff, Nat.reduceAdd, Nat.reduceLeDiff, Nat.reduceMul, Nat.reduceSub, Nat.reduceLT, wrap_succ (i := i) (by omega)]
      refine ⟨xs.length - (i + 1), by omega, i + 1, _, _, _, rfl, by omega, ?_, rfl⟩
      rw [List.take_succ_eq_append_getElem h1, List.take_succ_eq_append_getElem h2, ht, h3]
  · intro h1
    refine awp_exit ?_
    simp only [go_sem]
    refine awp_sr ?_
    simp only [go_sem, R27_8, v27, p27, Nat.reduceEqDiff, Nat.reduceAdd, Nat.reduceLeDiff, Nat.reduceMul, Nat.reduceSub, Nat.reduceLT]
    refine awp_ret ?_
    try simp only [go_sem]
    refine fin _ _ true rfl ?_
    have : i = xs.length := by omega
    subst this
    rw [List.take_length, hl, List.take_length] at ht
    simp [ht]
end Go.Proofs.Ytffigokicddekaa.Abs
