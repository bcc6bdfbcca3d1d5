/- What a right state is, walked in both texts. No condition. -/
import Derived.Test.YtffigokicddekaaME6
set_option linter.unusedVariables false
set_option linter.unusedSimpArgs false
set_option maxRecDepth 10000
namespace Go.Proofs.Ytffigokicddekaa.Abs
open Go Go.Proofs
def R55_0 : List AR := [⟨(some 1), none, 0, (.box 0 2 (.t 0))⟩, ⟨(some 2), none, 0, (.mov (.k (.bool false)))⟩]
def R55_1 : List AR := [⟨(some 3), none, 0, (.mov (.k (.int .i64 0)))⟩]
def R55_2 : List AR := [⟨(some 7), none, 0, (.mov (.t 3))⟩, ⟨(some 8), none, 0, (.faddr 0 (.t 1))⟩, ⟨(some 9), none, 0, (.load 1 false (.t 8))⟩, ⟨(some 10), none, 0, (.len (.t 9))⟩, ⟨(some 11), none, 0, (.bin .lss (.t 7) (.t 10))⟩]
def R55_3 : List AR := [⟨(some 14), none, 0, (.faddr 0 (.t 1))⟩, ⟨(some 15), none, 0, (.load 1 false (.t 14))⟩, ⟨(some 16), none, 0, (.mov (.t 3))⟩, ⟨(some 17), none, 0, (.iaddr 6 (.t 15) (.t 16))⟩, ⟨(some 18), none, 0, (.load 6 true (.t 17))⟩, ⟨(some 4), none, 0, (.alloc 0 6 [(.int .i64 0), (.int .i64 0), (.int .i64 0), (.int .i64 0), (.int .i64 0), (.str ⟨⟨[]⟩⟩)])⟩, ⟨none, none, 0, (.store 6 (.t 4) (.t 18))⟩]
def R55_4 : List AR := [⟨(some 19), none, 0, (.faddr 0 (.t 4))⟩, ⟨(some 20), none, 0, (.load 1 false (.t 19))⟩, ⟨(some 21), none, 0, (.call false 0 0 98 [(.t 20)])⟩, ⟨(some 22), none, 0, (.not (.t 21))⟩, ⟨(some 23), none, 0, (.mov (.t 22))⟩, ⟨(some 24), (some (23, false)), 0, (.mov (.t 3))⟩, ⟨(some 25), (some (23, false)), 0, (.bin .gtr (.t 24) (.k (.int .i64 0)))⟩, ⟨(some 26), (some (23, false)), 0, (.mov (.t 25))⟩, ⟨(some 27), (some (26, true)), 0, (.faddr 0 (.t 4))⟩, ⟨(some 28), (some (26, true)), 0, (.load 1 false (.t 27))⟩, ⟨(some 29), (some (26, true)), 0, (.faddr 0 (.t 1))⟩, ⟨(some 30), (some (26, true)), 0, (.load 1 false (.t 29))⟩, ⟨(some 31), (some (26, true)), 0, (.mov (.t 3))⟩, ⟨(some 32), (some (26, true)), 0, (.bin .sub (.t 31) (.k (.int .i64 1)))⟩, ⟨(some 33), (some (26, true)), 0, (.iaddr 6 (.t 30) (.t 32))⟩, ⟨(some 34), (some (26, true)), 0, (.faddr 0 (.t 33))⟩, ⟨(some 35), (some (26, true)), 0, (.load 1 false (.t 34))⟩, ⟨(some 36), (some (26, true)), 0, (.bin .leq (.t 28) (.t 35))⟩, ⟨(some 37), (some (23, false)), 0, (.pick (.t 26) (.t 36) (.k (.bool false)))⟩, ⟨(some 38), none, 0, (.pick (.t 23) (.k (.bool true)) (.t 37))⟩, ⟨(some 39), none, 0, (.mov (.t 38))⟩, ⟨(some 40), (some (39, false)), 0, (.faddr 1 (.t 4))⟩, ⟨(some 41), (some (39, false)), 0, (.load 5 true (.t 40))⟩, ⟨(some 42), (some (39, false)), 0, (.call false 0 0 99 [(.t 41)])⟩, ⟨(some 43), (some (39, false)), 0, (.not (.t 42))⟩, ⟨(some 44), none, 0, (.pick (.t 39) (.k (.bool true)) (.t 43))⟩, ⟨(some 45), none, 0, (.mov (.t 44))⟩, ⟨(some 46), (some (45, false)), 0, (.faddr 1 (.t 4))⟩, ⟨(some 47), (some (45, false)), 0, (.faddr 0 (.t 46))⟩, ⟨(some 48), (some (45, false)), 0, (.load 1 false (.t 47))⟩, ⟨(some 49), (some (45, false)), 0, (.load 2 true (.t 1))⟩, ⟨(some 50), (some (45, false)), 0, (.faddr 0 (.t 4))⟩, ⟨(some 51), (some (45, false)), 0, (.load 1 false (.t 50))⟩, ⟨(some 52), (some (45, false)), 0, (.call false 0 0 100 [(.t 49), (.t 51)])⟩, ⟨(some 53), (some (45, false)), 0, (.bin .leq (.t 48) (.t 52))⟩, ⟨(some 54), none, 0, (.pick (.t 45) (.k (.bool true)) (.t 53))⟩]
def R55_5 : List AR := [⟨(some 2), none, 0, (.mov (.k (.bool false)))⟩]
def A55_0 : AC := (.seq (.draw 0 R55_4) (.cond (.t 54) (.seq (.reg 0 R55_5) .ret) .skip))
def R55_6 : List AR := [⟨(some 12), none, 0, (.mov (.t 3))⟩, ⟨(some 13), none, 0, (.bin .add (.t 12) (.k (.int .i64 1)))⟩, ⟨(some 3), none, 0, (.mov (.t 13))⟩]
def A55_1 : AC := (.seq (.block 1 (.seq (.reg 1 R55_3) A55_0)) (.reg 0 R55_6))
def L55_0 : AC := (.seq (.seq (.reg 0 R55_2) (.cond (.t 11) .skip (.exit 0))) A55_1)
def R55_7 : List AR := [⟨(some 5), none, 0, (.mov (.k (.int .i64 0)))⟩]
def R55_8 : List AR := [⟨(some 55), none, 0, (.mov (.t 5))⟩, ⟨(some 56), none, 0, (.faddr 1 (.t 1))⟩, ⟨(some 57), none, 0, (.load 1 false (.t 56))⟩, ⟨(some 58), none, 0, (.len (.t 57))⟩, ⟨(some 59), none, 0, (.bin .lss (.t 55) (.t 58))⟩]
def R55_9 : List AR := [⟨(some 62), none, 0, (.faddr 1 (.t 1))⟩, ⟨(some 63), none, 0, (.load 1 false (.t 62))⟩, ⟨(some 64), none, 0, (.mov (.t 5))⟩, ⟨(some 65), none, 0, (.iaddr 2 (.t 63) (.t 64))⟩, ⟨(some 66), none, 0, (.load 2 true (.t 65))⟩, ⟨(some 6), none, 0, (.alloc 0 2 [(.int .i64 0), (.int .i64 0)])⟩, ⟨none, none, 0, (.store 2 (.t 6) (.t 66))⟩]
def R55_10 : List AR := [⟨(some 67), none, 0, (.faddr 0 (.t 6))⟩, ⟨(some 68), none, 0, (.load 1 false (.t 67))⟩, ⟨(some 69), none, 0, (.call false 0 0 98 [(.t 68)])⟩, ⟨(some 70), none, 0, (.not (.t 69))⟩, ⟨(some 71), none, 0, (.mov (.t 70))⟩, ⟨(some 72), (some (71, false)), 0, (.mov (.t 5))⟩, ⟨(some 73), (some (71, false)), 0, (.bin .gtr (.t 72) (.k (.int .i64 0)))⟩, ⟨(some 74), (some (71, false)), 0, (.mov (.t 73))⟩, ⟨(some 75), (some (74, true)), 0, (.faddr 0 (.t 6))⟩, ⟨(some 76), (some (74, true)), 0, (.load 1 false (.t 75))⟩, ⟨(some 77), (some (74, true)), 0, (.faddr 1 (.t 1))⟩, ⟨(some 78), (some (74, true)), 0, (.load 1 false (.t 77))⟩, ⟨(some 79), (some (74, true)), 0, (.mov (.t 5))⟩, ⟨(some 80), (some (74, true)), 0, (.bin .sub (.t 79) (.k (.int .i64 1)))⟩, ⟨(some 81), (some (74, true)), 0, (.iaddr 2 (.t 78) (.t 80))⟩, ⟨(some 82), (some (74, true)), 0, (.faddr 0 (.t 81))⟩, ⟨(some 83), (some (74, true)), 0, (.load 1 false (.t 82))⟩, ⟨(some 84), (some (74, true)), 0, (.bin .leq (.t 76) (.t 83))⟩, ⟨(some 85), (some (71, false)), 0, (.pick (.t 74) (.t 84) (.k (.bool false)))⟩, ⟨(some 86), none, 0, (.pick (.t 71) (.k (.bool true)) (.t 85))⟩, ⟨(some 87), none, 0, (.mov (.t 86))⟩, ⟨(some 88), (some (87, false)), 0, (.faddr 1 (.t 6))⟩, ⟨(some 89), (some (87, false)), 0, (.load 1 false (.t 88))⟩, ⟨(some 90), (some (87, false)), 0, (.call false 0 0 101 [(.t 89), (.k (.int .i64 1)), (.k (.int .i64 1000))])⟩, ⟨(some 91), (some (87, false)), 0, (.not (.t 90))⟩, ⟨(some 92), none, 0, (.pick (.t 87) (.k (.bool true)) (.t 91))⟩]
def R55_11 : List AR := [⟨(some 2), none, 0, (.mov (.k (.bool false)))⟩]
def A55_2 : AC := (.seq (.draw 0 R55_10) (.cond (.t 92) (.seq (.reg 0 R55_11) .ret) .skip))
def R55_12 : List AR := [⟨(some 60), none, 0, (.mov (.t 5))⟩, ⟨(some 61), none, 0, (.bin .add (.t 60) (.k (.int .i64 1)))⟩, ⟨(some 5), none, 0, (.mov (.t 61))⟩]
def A55_3 : AC := (.seq (.block 3 (.seq (.reg 1 R55_9) A55_2)) (.reg 0 R55_12))
def L55_1 : AC := (.seq (.seq (.reg 0 R55_8) (.cond (.t 59) .skip (.exit 2))) A55_3)
def R55_13 : List AR := [⟨(some 2), none, 0, (.mov (.k (.bool true)))⟩]
def A55_4 : AC := (.seq (.reg 0 R55_13) .ret)
def A55_5 : AC := (.seq (.seq (.reg 0 R55_7) (.block 2 (.loop L55_1))) A55_4)
def A55_6 : AC := (.seq (.seq (.reg 0 R55_1) (.block 0 (.loop L55_0))) A55_5)
def A55 : AC := (.seq (.reg 1 R55_0) A55_6)
def O55 : List AO := [(.mov (.t 2))]
def G55 : Fns := ⟨fun f => false, fun f => 0⟩
noncomputable def X55 : Cx := ⟨Try.prog, G55, drawD, 93, [0, 1, 2, 3, 4, 5, 6, 11, 54, 59, 92]⟩
theorem c55 : (Try.f55.body).bind (compC X55.P X55.Γ X55.D X55.nt) = some A55 := by kernel_rfl
theorem o55 : compRes X55.P Try.f55.results.toList = some O55 := by kernel_rfl
theorem v55 : X55.vs = [0, 1, 2, 3, 4, 5, 6, 11, 54, 59, 92] := rfl
theorem p55 : X55.P = Try.prog := rfl
def R59_0 : List AR := [⟨(some 1), none, 0, (.box 0 2 (.t 0))⟩, ⟨(some 2), none, 0, (.mov (.k (.bool false)))⟩]
def R59_1 : List AR := [⟨(some 7), none, 0, (.faddr 1 (.t 1))⟩, ⟨(some 8), none, 0, (.load 1 false (.t 7))⟩, ⟨(some 9), none, 0, (.len (.t 8))⟩, ⟨(some 10), none, 0, (.mov (.k (.int .i64 0)))⟩]
def R59_2 : List AR := [⟨(some 11), none, 0, (.bin .lss (.t 10) (.t 9))⟩]
def R59_3 : List AR := [⟨(some 12), none, 0, (.mov (.t 10))⟩, ⟨(some 13), none, 0, (.iaddr 2 (.t 8) (.t 10))⟩, ⟨(some 14), none, 0, (.load 2 true (.t 13))⟩, ⟨(some 4), none, 0, (.alloc 0 2 [(.int .i64 0), (.int .i64 0)])⟩, ⟨(some 3), none, 0, (.mov (.t 12))⟩, ⟨none, none, 0, (.store 2 (.t 4) (.t 14))⟩]
def R59_4 : List AR := [⟨(some 15), none, 0, (.faddr 0 (.t 4))⟩, ⟨(some 16), none, 0, (.load 1 false (.t 15))⟩, ⟨(some 17), none, 0, (.call false 0 0 104 [(.t 16)])⟩, ⟨(some 18), none, 0, (.not (.t 17))⟩, ⟨(some 19), none, 0, (.mov (.t 18))⟩, ⟨(some 20), (some (19, false)), 0, (.faddr 1 (.t 4))⟩, ⟨(some 21), (some (19, false)), 0, (.load 1 false (.t 20))⟩, ⟨(some 22), (some (19, false)), 0, (.call false 0 0 105 [(.t 21), (.k (.int .i64 1)), (.k (.int .i64 1000))])⟩, ⟨(some 23), (some (19, false)), 0, (.not (.t 22))⟩, ⟨(some 24), none, 0, (.pick (.t 19) (.k (.bool true)) (.t 23))⟩, ⟨(some 25), none, 0, (.mov (.t 24))⟩, ⟨(some 26), (some (25, false)), 0, (.mov (.t 3))⟩, ⟨(some 27), (some (25, false)), 0, (.bin .gtr (.t 26) (.k (.int .i64 0)))⟩, ⟨(some 28), (some (25, false)), 0, (.mov (.t 27))⟩, ⟨(some 29), (some (28, true)), 0, (.faddr 1 (.t 1))⟩, ⟨(some 30), (some (28, true)), 0, (.load 1 false (.t 29))⟩, ⟨(some 31), (some (28, true)), 0, (.mov (.t 3))⟩, ⟨(some 32), (some (28, true)), 0, (.bin .sub (.t 31) (.k (.int .i64 1)))⟩, ⟨(some 33), (some (28, true)), 0, (.iaddr 2 (.t 30) (.t 32))⟩, ⟨(some 34), (some (28, true)), 0, (.faddr 0 (.t 33))⟩, ⟨(some 35), (some (28, true)), 0, (.load 1 false (.t 34))⟩, ⟨(some 36), (some (28, true)), 0, (.faddr 0 (.t 4))⟩, ⟨(some 37), (some (28, true)), 0, (.load 1 false (.t 36))⟩, ⟨(some 38), (some (28, true)), 0, (.bin .geq (.t 35) (.t 37))⟩, ⟨(some 39), (some (25, false)), 0, (.pick (.t 28) (.t 38) (.k (.bool false)))⟩, ⟨(some 40), none, 0, (.pick (.t 25) (.k (.bool true)) (.t 39))⟩]
def R59_5 : List AR := [⟨(some 2), none, 0, (.mov (.k (.bool false)))⟩]
def A59_0 : AC := (.seq (.draw 0 R59_4) (.cond (.t 40) (.seq (.reg 0 R59_5) .ret) .skip))
def R59_6 : List AR := [⟨(some 41), none, 0, (.bin .add (.t 10) (.k (.int .i64 1)))⟩, ⟨(some 10), none, 0, (.mov (.t 41))⟩]
def A59_1 : AC := (.seq (.block 1 (.seq (.reg 1 R59_3) A59_0)) (.reg 0 R59_6))
def A59_2 : AC := (.seq (.cond (.t 11) .skip (.exit 0)) A59_1)
def L59_0 : AC := (.seq (.reg 0 R59_2) A59_2)
def R59_7 : List AR := [⟨(some 42), none, 0, (.faddr 0 (.t 1))⟩, ⟨(some 43), none, 0, (.load 1 false (.t 42))⟩, ⟨(some 44), none, 0, (.len (.t 43))⟩, ⟨(some 45), none, 0, (.mov (.k (.int .i64 0)))⟩]
def R59_8 : List AR := [⟨(some 46), none, 0, (.bin .lss (.t 45) (.t 44))⟩]
def R59_9 : List AR := [⟨(some 47), none, 0, (.mov (.t 45))⟩, ⟨(some 48), none, 0, (.iaddr 6 (.t 43) (.t 45))⟩, ⟨(some 49), none, 0, (.load 6 true (.t 48))⟩, ⟨(some 6), none, 0, (.alloc 0 6 [(.int .i64 0), (.int .i64 0), (.int .i64 0), (.int .i64 0), (.int .i64 0), (.str ⟨⟨[]⟩⟩)])⟩, ⟨(some 5), none, 0, (.mov (.t 47))⟩, ⟨none, none, 0, (.store 6 (.t 6) (.t 49))⟩]
def R59_10 : List AR := [⟨(some 50), none, 0, (.faddr 0 (.t 6))⟩, ⟨(some 51), none, 0, (.load 1 false (.t 50))⟩, ⟨(some 52), none, 0, (.call false 0 0 104 [(.t 51)])⟩, ⟨(some 53), none, 0, (.not (.t 52))⟩, ⟨(some 54), none, 0, (.mov (.t 53))⟩, ⟨(some 55), (some (54, false)), 0, (.faddr 1 (.t 6))⟩, ⟨(some 56), (some (54, false)), 0, (.load 5 true (.t 55))⟩, ⟨(some 57), (some (54, false)), 0, (.call false 0 0 106 [(.t 56)])⟩, ⟨(some 58), (some (54, false)), 0, (.not (.t 57))⟩, ⟨(some 59), none, 0, (.pick (.t 54) (.k (.bool true)) (.t 58))⟩, ⟨(some 60), none, 0, (.mov (.t 59))⟩, ⟨(some 61), (some (60, false)), 0, (.faddr 1 (.t 6))⟩, ⟨(some 62), (some (60, false)), 0, (.faddr 0 (.t 61))⟩, ⟨(some 63), (some (60, false)), 0, (.load 1 false (.t 62))⟩, ⟨(some 64), (some (60, false)), 0, (.load 2 true (.t 1))⟩, ⟨(some 65), (some (60, false)), 0, (.faddr 0 (.t 6))⟩, ⟨(some 66), (some (60, false)), 0, (.load 1 false (.t 65))⟩, ⟨(some 67), (some (60, false)), 0, (.call false 0 0 107 [(.t 64), (.t 66)])⟩, ⟨(some 68), (some (60, false)), 0, (.bin .leq (.t 63) (.t 67))⟩, ⟨(some 69), none, 0, (.pick (.t 60) (.k (.bool true)) (.t 68))⟩, ⟨(some 70), none, 0, (.mov (.t 69))⟩, ⟨(some 71), (some (70, false)), 0, (.mov (.t 5))⟩, ⟨(some 72), (some (70, false)), 0, (.bin .gtr (.t 71) (.k (.int .i64 0)))⟩, ⟨(some 73), (some (70, false)), 0, (.mov (.t 72))⟩, ⟨(some 74), (some (73, true)), 0, (.faddr 0 (.t 1))⟩, ⟨(some 75), (some (73, true)), 0, (.load 1 false (.t 74))⟩, ⟨(some 76), (some (73, true)), 0, (.mov (.t 5))⟩, ⟨(some 77), (some (73, true)), 0, (.bin .sub (.t 76) (.k (.int .i64 1)))⟩, ⟨(some 78), (some (73, true)), 0, (.iaddr 6 (.t 75) (.t 77))⟩, ⟨(some 79), (some (73, true)), 0, (.faddr 0 (.t 78))⟩, ⟨(some 80), (some (73, true)), 0, (.load 1 false (.t 79))⟩, ⟨(some 81), (some (73, true)), 0, (.faddr 0 (.t 6))⟩, ⟨(some 82), (some (73, true)), 0, (.load 1 false (.t 81))⟩, ⟨(some 83), (some (73, true)), 0, (.bin .geq (.t 80) (.t 82))⟩, ⟨(some 84), (some (70, false)), 0, (.pick (.t 73) (.t 83) (.k (.bool false)))⟩, ⟨(some 85), none, 0, (.pick (.t 70) (.k (.bool true)) (.t 84))⟩]
def R59_11 : List AR := [⟨(some 2), none, 0, (.mov (.k (.bool false)))⟩]
def A59_3 : AC := (.seq (.draw 0 R59_10) (.cond (.t 85) (.seq (.reg 0 R59_11) .ret) .skip))
def R59_12 : List AR := [⟨(some 86), none, 0, (.bin .add (.t 45) (.k (.int .i64 1)))⟩, ⟨(some 45), none, 0, (.mov (.t 86))⟩]
def A59_4 : AC := (.seq (.block 3 (.seq (.reg 1 R59_9) A59_3)) (.reg 0 R59_12))
def A59_5 : AC := (.seq (.cond (.t 46) .skip (.exit 2)) A59_4)
def L59_1 : AC := (.seq (.reg 0 R59_8) A59_5)
def R59_13 : List AR := [⟨(some 2), none, 0, (.mov (.k (.bool true)))⟩]
def A59_6 : AC := (.seq (.reg 0 R59_13) .ret)
def A59_7 : AC := (.seq (.seq (.reg 0 R59_7) (.block 2 (.loop L59_1))) A59_6)
def A59_8 : AC := (.seq (.seq (.reg 0 R59_1) (.block 0 (.loop L59_0))) A59_7)
def A59 : AC := (.seq (.reg 1 R59_0) A59_8)
def O59 : List AO := [(.mov (.t 2))]
def G59 : Fns := ⟨fun f => false, fun f => 0⟩
noncomputable def X59 : Cx := ⟨Try.prog, G59, drawD, 87, [0, 1, 2, 3, 4, 5, 6, 8, 9, 10, 11, 40, 43, 44, 45, 46, 85]⟩
theorem c59 : (Try.f59.body).bind (compC X59.P X59.Γ X59.D X59.nt) = some A59 := by kernel_rfl
theorem o59 : compRes X59.P Try.f59.results.toList = some O59 := by kernel_rfl
theorem v59 : X59.vs = [0, 1, 2, 3, 4, 5, 6, 8, 9, 10, 11, 40, 43, 44, 45, 46, 85] := rfl
theorem p59 : X59.P = Try.prog := rfl
/-- the item at the place i is right -/
def itemR (s : State) (i : Nat) (x : Item) : Prop := (0 ≤ x.id ∧ x.id ≤ 4) ∧ (∀ y, 0 < i → s.items[i - 1]? = some y → y.id < x.id) ∧ x.entry.Right ∧ floorOf s x.id < x.entry.inc
def floorR (s : State) (i : Nat) (x : Floor) : Prop := (0 ≤ x.id ∧ x.id ≤ 4) ∧ (∀ y, 0 < i → s.floors[i - 1]? = some y → y.id < x.id) ∧ (1 ≤ x.inc ∧ x.inc ≤ 1000)
def State.Right (s : State) : Prop := (∀ i x, s.items[i]? = some x → itemR s i x) ∧ (∀ i x, s.floors[i]? = some x → floorR s i x)
noncomputable instance (s : State) : Decidable s.Right := Classical.propDecidable _
noncomputable instance (s : State) (i : Nat) (x : Item) : Decidable (itemR s i x) := Classical.propDecidable _
noncomputable instance (s : State) (i : Nat) (x : Floor) : Decidable (floorR s i x) := Classical.propDecidable _
/-- what holds of the first i holds of one more -/
theorem upto_succ {α : Type} {xs : List α} {p : Nat → α → Prop} {i : Nat} (hP : ∀ j x, j < i → xs[j]? = some x → p j x) (h1 : i < xs.length) (hy : p i xs[i]) : ∀ j x, j < i + 1 → xs[j]? = some x → p j x := by
  intro j x hj hx
  rcases Nat.lt_or_ge j i with h2 | h2
  · exact hP j x h2 hx
  · have : j = i := by omega
    subst this
    rw [List.getElem?_eq_getElem h1] at hx
    cases hx
    exact hy
theorem upto_all {α : Type} {xs : List α} {p : Nat → α → Prop} {i : Nat} (hP : ∀ j x, j < i → xs[j]? = some x → p j x) (h1 : ¬ i < xs.length) : ∀ j x, xs[j]? = some x → p j x := by
  intro j x hx
  have := (List.getElem?_eq_some_iff.1 hx).1
  exact hP j x (by omega) hx
theorem prev_lt {α : Type} {xs : List α} {i : Nat} {f : α → Int} {k : Int} (h1 : i < xs.length) (h : 0 < i → f xs[i - 1] < k) : ∀ y, 0 < i → xs[i - 1]? = some y → f y < k := by
  intro y h0 hy
  rw [List.getElem?_eq_getElem (by omega)] at hy
  cases hy
  exact h h0
theorem itemR_iff (a : State) {i : Nat} (h1 : i < a.items.length) (h3 : i - 1 < a.items.length) : itemR a i a.items[i] ↔ (0 ≤ a.items[i].id ∧ a.items[i].id ≤ 4) ∧ (0 < i → a.items[i - 1].id < a.items[i].id) ∧ a.items[i].entry.Right ∧ floorOf a a.items[i].id < a.items[i].entry.inc := by
  unfold itemR
  simp only [List.getElem?_eq_getElem h3, Option.some.injEq]
  grind
theorem floorR_iff (a : State) {i : Nat} (h1 : i < a.floors.length) (h3 : i - 1 < a.floors.length) : floorR a i a.floors[i] ↔ (0 ≤ a.floors[i].id ∧ a.floors[i].id ≤ 4) ∧ (0 < i → a.floors[i - 1].id < a.floors[i].id) ∧ (1 ≤ a.floors[i].inc ∧ a.floors[i].inc ≤ 1000) := by
  unfold floorR
  simp only [List.getElem?_eq_getElem h3, Option.some.injEq]
  grind
set_option maxHeartbeats 4000000 in
theorem specStateOk_ok (a : State) (h : a.sz ≤ 1048576) : FS Try.prog 55 [] [.agg a.c] (.bool (decide a.Right)) [] := by
  refine FS.of (X := X55) (ac := A55) (os := O55) Try.func55 (by rfl) (by rfl) (by kernel_rfl) o55 (Nat.le_of_ble_eq_true rfl) ?_
  show AWP X55 A55 (Ends X55.vs O55 0 _ _) [.agg a.c, .tup [], .tup [], .tup [], .tup [], .tup [], .tup [], .tup [], .tup [], .tup [], .tup []] []
  obtain ⟨Q, hQ⟩ : ∃ Q, Q = Ends X55.vs O55 0 (.bool (decide a.Right)) [] := ⟨_, rfl⟩
  rw [← hQ]
  have hl : a.items.length + sumBy Item.sz a.items + a.floors.length ≤ 1048576 := h
  have fin : ∀ L σ v, resVs O55 (look X55.vs L) σ = some [v] → v = (.bool (decide a.Right)) → Q .ret L σ := by
    intro L σ v h1 h2
    rw [hQ]
    exact Ends.is (.inl rfl) h1 (by simp only [packV, h2]) rfl
  refine awp_sr ?_
  simp only [go_sem, R55_0, v55, p55, Nat.reduceEqDiff, Nat.reduceAdd, Nat.reduceLeDiff, Nat.reduceMul, Nat.reduceSub, Nat.reduceLT, State.c]
  refine awp_sr2 ?_
  simp only [go_sem, R55_1, v55, p55, Nat.reduceEqDiff, Nat.reduceAdd, Nat.reduceLeDiff, Nat.reduceMul, Nat.reduceSub, Nat.reduceLT]
  obtain ⟨I, hI⟩ : ∃ I : Nat → List V → Store → Prop, I = fun m L σ => ∃ i rest y2 y4 y5 y6 y11 y54 y59 y92, m = a.items.length - i ∧ i ≤ a.items.length ∧ (∀ j x, j < i → a.items[j]? = some x → itemR a j x) ∧ L = [.agg a.c, .ptr 0 2 0 0, y2, .int .i64 (i : Nat), y4, y5, y6, y11, y54, y59, y92] ∧ σ = .live ⟨2, [a.c]⟩ :: rest := ⟨_, rfl⟩
  refine awp_for I a.items.length ?_ ?_
  · rw [hI]; refine ⟨0, _, _, _, _, _, _, _, _, _, rfl, Nat.zero_le _, ?_, rfl, rfl⟩
    intro j x h; omega
  intro m L σ hIn
  rw [hI] at hIn
  obtain ⟨i, rest, y2, y4, y5, y6, y11, y54, y59, y92, rfl, hi, hP, rfl, rfl⟩ := hIn
  refine awp_sr2 ?_
  simp only [go_sem, R55_2, v55, p55, Nat.reduceEqDiff, Nat.reduceAdd, Nat.reduceLeDiff, Nat.reduceMul, Nat.reduceSub, Nat.reduceLT, State.c]
  refine awp_if rfl ?_ ?_
  · intro h1
    have h1 : i < a.items.length := by omega
    have h3 : i - 1 < a.items.length := by omega
    refine awp_skip ?_
    simp only [go_sem]
    refine awp_seq (awp_block ?_)
    refine awp_sr ?_
    simp only [go_sem, R55_3, v55, p55, Nat.reduceEqDiff, Nat.reduceAdd, Nat.reduceLeDiff, Nat.reduceMul, Nat.reduceSub, Nat.reduceLT, rw_at _ h1, Item.c]
    refine awp_sdK (fun L σ => ∃ q rest y2 y4 y5 y6 y11 y59 y92, L = [.agg a.c, .ptr 0 2 0 0, y2, .int .i64 (i : Nat), y4, y5, y6, y11, .bool q, y59, y92] ∧ σ = .live ⟨2, [a.c]⟩ :: rest ∧ q = !decide (itemR a i a.items[i])) mixed rfl (by rfl) ?_ ?_
    · simp only [go_sem, R55_4, v55, p55, Nat.reduceEqDiff, Nat.reduceAdd, Nat.reduceLeDiff, Nat.reduceMul, Nat.reduceSub, Nat.reduceLT]
      repeat' first
        | (refine selP_if rfl (fun h => ?_) (fun h => ?_) <;> simp only [go_sem, v55, p55, Nat.reduceEqDiff, Nat.reduceAdd, Nat.reduceLeDiff, Nat.reduceMul, Nat.reduceSub, Nat.reduceLT, decide_true, decide_false, not_true_eq_false, not_false_eq_true, h, State.c, Item.c, rw_at _ h3, wrap_pred, show i < 9223372036854775807 by omega])
        | (refine selP_ifn rfl (fun h => ?_) (fun h => ?_) <;> simp only [go_sem, v55, p55, Nat.reduceEqDiff, Nat.reduceAdd, Nat.reduceLeDiff, Nat.reduceMul, Nat.reduceSub, Nat.reduceLT, decide_true, decide_false, not_true_eq_false, not_false_eq_true, h, State.c, Item.c, rw_at _ h3, wrap_pred, show i < 9223372036854775807 by omega])
        | (refine selN_if rfl (fun h => ?_) (fun h => ?_) <;> simp only [go_sem, v55, p55, Nat.reduceEqDiff, Nat.reduceAdd, Nat.reduceLeDiff, Nat.reduceMul, Nat.reduceSub, Nat.reduceLT, decide_true, decide_false, not_true_eq_false, not_false_eq_true, h, State.c, Item.c, rw_at _ h3, wrap_pred, show i < 9223372036854775807 by omega])
        | (refine selN_ifn rfl (fun h => ?_) (fun h => ?_) <;> simp only [go_sem, v55, p55, Nat.reduceEqDiff, Nat.reduceAdd, Nat.reduceLeDiff, Nat.reduceMul, Nat.reduceSub, Nat.reduceLT, decide_true, decide_false, not_true_eq_false, not_false_eq_true, h, State.c, Item.c, rw_at _ h3, wrap_pred, show i < 9223372036854775807 by omega])
        | (refine run_see (l3Node_ok _) false (Views.refl rfl) rfl (fun j hj => by omega) (fun h => by cases h) ?_; simp only [go_sem, v55, p55, Nat.reduceEqDiff, Nat.reduceAdd, Nat.reduceLeDiff, Nat.reduceMul, Nat.reduceSub, Nat.reduceLT, decide_true, decide_false, not_true_eq_false, not_false_eq_true, State.c, Item.c, rw_at _ h3, wrap_pred, show i < 9223372036854775807 by omega])
        | (refine run_see (specEntryOk_ok a.items[i].entry) false (Views.refl rfl) rfl (fun j hj => by omega) (fun h => by cases h) ?_; simp only [go_sem, v55, p55, Nat.reduceEqDiff, Nat.reduceAdd, Nat.reduceLeDiff, Nat.reduceMul, Nat.reduceSub, Nat.reduceLT, decide_true, decide_false, not_true_eq_false, not_false_eq_true, State.c, Item.c, rw_at _ h3, wrap_pred, show i < 9223372036854775807 by omega])
        | (refine run_see (specFloorOf_ok a _ (by omega)) false (Views.refl rfl) rfl (fun j hj => by omega) (fun h => by cases h) ?_; simp only [go_sem, v55, p55, Nat.reduceEqDiff, Nat.reduceAdd, Nat.reduceLeDiff, Nat.reduceMul, Nat.reduceSub, Nat.reduceLT, decide_true, decide_false, not_true_eq_false, not_false_eq_true, State.c, Item.c, rw_at _ h3, wrap_pred, show i < 9223372036854775807 by omega])
      all_goals refine ⟨_, _, _, _, _, _, _, _, _, rfl, rfl, ?_⟩
      all_goals have key := itemR_iff a h1 h3
      all_goals grind
    rintro L σ ⟨q, rest, y2, y4, y5, y6, y11, y59, y92, rfl, rfl, hq⟩
    subst hq
    refine awp_if' rfl ?_ ?_
    · intro h2
      refine awp_sr ?_
      simp only [go_sem, R55_5, v55, p55, Nat.reduceEqDiff, Nat.reduceAdd, Nat.reduceLeDiff, Nat.reduceMul, Nat.reduceSub, Nat.reduceLT]
      refine awp_ret ?_
      try simp only [go_sem]
      exact fin _ _ (.bool false) rfl (congrArg V.bool (decide_eq_false fun e => h2 (e.1 i _ (List.getElem?_eq_getElem h1))).symm)
    · intro h2
      refine awp_skip ?_
      simp only [go_sem]
      refine awp_reg ?_
      simp only [go_sem, R55_6, v55, p55, Nat.reduceEqDiff, Nat.reduceAdd, Nat.reduceLeDiff, Nat.reduceMul, Nat.reduceSub, Nat.reduceLT, wrap_succ (i := i) (by omega)]
      refine ⟨a.items.length - (i + 1), by omega, ?_⟩
      rw [hI]
      refine ⟨i + 1, _, _, _, _, _, _, _, _, _, rfl, by omega, ?_, rfl, rfl⟩
      exact upto_succ hP h1 h2
  · intro h1
    refine awp_exit ?_
    simp only [go_sem]
    have ha := upto_all hP (by omega)
    clear hP hi hI
    refine awp_sr2 ?_
    simp only [go_sem, R55_7, v55, p55, Nat.reduceEqDiff, Nat.reduceAdd, Nat.reduceLeDiff, Nat.reduceMul, Nat.reduceSub, Nat.reduceLT, State.c]
    obtain ⟨J, hJ⟩ : ∃ J : Nat → List V → Store → Prop, J = fun m L σ => ∃ i rest y2 y3 y4 y6 y11 y54 y59 y92, m = a.floors.length - i ∧ i ≤ a.floors.length ∧ (∀ j x, j < i → a.floors[j]? = some x → floorR a j x) ∧ L = [.agg a.c, .ptr 0 2 0 0, y2, y3, y4, .int .i64 (i : Nat), y6, y11, y54, y59, y92] ∧ σ = .live ⟨2, [a.c]⟩ :: rest := ⟨_, rfl⟩
    refine awp_for J a.floors.length ?_ ?_
    · rw [hJ]; refine ⟨0, _, _, _, _, _, _, _, _, _, rfl, Nat.zero_le _, ?_, rfl, rfl⟩
      intro j x h; omega
    intro m L σ hIn
    rw [hJ] at hIn
    obtain ⟨i, rest, y2, y3, y4, y6, y11, y54, y59, y92, rfl, hi, hP, rfl, rfl⟩ := hIn
    refine awp_sr2 ?_
    simp only [go_sem, R55_8, v55, p55, Nat.reduceEqDiff, Nat.reduceAdd, Nat.reduceLeDiff, Nat.reduceMul, Nat.reduceSub, Nat.reduceLT, State.c]
    refine awp_if rfl ?_ ?_
    · intro h1
      have h1 : i < a.floors.length := by omega
      have h3 : i - 1 < a.floors.length := by omega
      refine awp_skip ?_
      simp only [go_sem]
      refine awp_seq (awp_block ?_)
      refine awp_sr ?_
      simp only [go_sem, R55_9, v55, p55, Nat.reduceEqDiff, Nat.reduceAdd, Nat.reduceLeDiff, Nat.reduceMul, Nat.reduceSub, Nat.reduceLT, rw_at _ h1, Floor.c, State.c]
      refine awp_sdK (fun L σ => ∃ q rest y2 y3 y4 y6 y11 y54 y59, L = [.agg a.c, .ptr 0 2 0 0, y2, y3, y4, .int .i64 (i : Nat), y6, y11, y54, y59, .bool q] ∧ σ = .live ⟨2, [a.c]⟩ :: rest ∧ q = !decide (floorR a i a.floors[i])) mixed rfl (by rfl) ?_ ?_
      · simp only [go_sem, R55_10, v55, p55, Nat.reduceEqDiff, Nat.reduceAdd, Nat.reduceLeDiff, Nat.reduceMul, Nat.reduceSub, Nat.reduceLT]
        repeat' first
          | (refine selP_if rfl (fun h => ?_) (fun h => ?_) <;> simp only [go_sem, v55, p55, Nat.reduceEqDiff, Nat.reduceAdd, Nat.reduceLeDiff, Nat.reduceMul, Nat.reduceSub, Nat.reduceLT, decide_true, decide_false, not_true_eq_false, not_false_eq_true, h, State.c, Floor.c, rw_at _ h3, wrap_pred, show i < 9223372036854775807 by omega])
          | (refine selP_ifn rfl (fun h => ?_) (fun h => ?_) <;> simp only [go_sem, v55, p55, Nat.reduceEqDiff, Nat.reduceAdd, Nat.reduceLeDiff, Nat.reduceMul, Nat.reduceSub, Nat.reduceLT, decide_true, decide_false, not_true_eq_false, not_false_eq_true, h, State.c, Floor.c, rw_at _ h3, wrap_pred, show i < 9223372036854775807 by omega])
          | (refine selN_if rfl (fun h => ?_) (fun h => ?_) <;> simp only [go_sem, v55, p55, Nat.reduceEqDiff, Nat.reduceAdd, Nat.reduceLeDiff, Nat.reduceMul, Nat.reduceSub, Nat.reduceLT, decide_true, decide_false, not_true_eq_false, not_false_eq_true, h, State.c, Floor.c, rw_at _ h3, wrap_pred, show i < 9223372036854775807 by omega])
          | (refine selN_ifn rfl (fun h => ?_) (fun h => ?_) <;> simp only [go_sem, v55, p55, Nat.reduceEqDiff, Nat.reduceAdd, Nat.reduceLeDiff, Nat.reduceMul, Nat.reduceSub, Nat.reduceLT, decide_true, decide_false, not_true_eq_false, not_false_eq_true, h, State.c, Floor.c, rw_at _ h3, wrap_pred, show i < 9223372036854775807 by omega])
          | (refine run_see (l3Node_ok _) false (Views.refl rfl) rfl (fun j hj => by omega) (fun h => by cases h) ?_; simp only [go_sem, v55, p55, Nat.reduceEqDiff, Nat.reduceAdd, Nat.reduceLeDiff, Nat.reduceMul, Nat.reduceSub, Nat.reduceLT, decide_true, decide_false, not_true_eq_false, not_false_eq_true, State.c, Floor.c, rw_at _ h3, wrap_pred, show i < 9223372036854775807 by omega])
          | (refine run_see (l1In_ok _ _ _) false (Views.refl rfl) rfl (fun j hj => by omega) (fun h => by cases h) ?_; simp only [go_sem, v55, p55, Nat.reduceEqDiff, Nat.reduceAdd, Nat.reduceLeDiff, Nat.reduceMul, Nat.reduceSub, Nat.reduceLT, decide_true, decide_false, not_true_eq_false, not_false_eq_true, State.c, Floor.c, rw_at _ h3, wrap_pred, show i < 9223372036854775807 by omega])
        all_goals refine ⟨_, _, _, _, _, _, _, _, _, rfl, rfl, ?_⟩
        all_goals have key := floorR_iff a h1 h3
        all_goals grind
      rintro L σ ⟨q, rest, y2, y3, y4, y6, y11, y54, y59, rfl, rfl, hq⟩
      subst hq
      refine awp_if' rfl ?_ ?_
      · intro h2
        refine awp_sr ?_
        simp only [go_sem, R55_11, v55, p55, Nat.reduceEqDiff, Nat.reduceAdd, Nat.reduceLeDiff, Nat.reduceMul, Nat.reduceSub, Nat.reduceLT]
        refine awp_ret ?_
        try simp only [go_sem]
        exact fin _ _ (.bool false) rfl (congrArg V.bool (decide_eq_false fun e => h2 (e.2 i _ (List.getElem?_eq_getElem h1))).symm)
      · intro h2
        refine awp_skip ?_
        simp only [go_sem]
        refine awp_reg ?_
        simp only [go_sem, R55_12, v55, p55, Nat.reduceEqDiff, Nat.reduceAdd, Nat.reduceLeDiff, Nat.reduceMul, Nat.reduceSub, Nat.reduceLT, wrap_succ (i := i) (by omega)]
        refine ⟨a.floors.length - (i + 1), by omega, ?_⟩
        rw [hJ]
        refine ⟨i + 1, _, _, _, _, _, _, _, _, _, rfl, by omega, ?_, rfl, rfl⟩
        exact upto_succ hP h1 h2
    · intro h1
      refine awp_exit ?_
      simp only [go_sem]
      have hb := upto_all hP (by omega)
      refine awp_sr ?_
      simp only [go_sem, R55_13, v55, p55, Nat.reduceEqDiff, Nat.reduceAdd, Nat.reduceLeDiff, Nat.reduceMul, Nat.reduceSub, Nat.reduceLT]
      refine awp_ret ?_
      try simp only [go_sem]
      exact fin _ _ (.bool true) rfl (congrArg V.bool (decide_eq_true (show a.Right from ⟨ha, hb⟩)).symm)
set_option maxHeartbeats 4000000 in
theorem implStateOk_ok (a : State) (h : a.sz ≤ 1048576) : FS Try.prog 59 [] [.agg a.c] (.bool (decide a.Right)) [] := by
  refine FS.of (X := X59) (ac := A59) (os := O59) Try.func59 (by rfl) (by rfl) (by kernel_rfl) o59 (Nat.le_of_ble_eq_true rfl) ?_
  show AWP X59 A59 (Ends X59.vs O59 0 _ _) [.agg a.c, .tup [], .tup [], .tup [], .tup [], .tup [], .tup [], .tup [], .tup [], .tup [], .tup [], .tup [], .tup [], .tup [], .tup [], .tup [], .tup []] []
  obtain ⟨Q, hQ⟩ : ∃ Q, Q = Ends X59.vs O59 0 (.bool (decide a.Right)) [] := ⟨_, rfl⟩
  rw [← hQ]
  have hl : a.items.length + sumBy Item.sz a.items + a.floors.length ≤ 1048576 := h
  have fin : ∀ L σ v, resVs O59 (look X59.vs L) σ = some [v] → v = (.bool (decide a.Right)) → Q .ret L σ := by
    intro L σ v h1 h2
    rw [hQ]
    exact Ends.is (.inl rfl) h1 (by simp only [packV, h2]) rfl
  refine awp_sr ?_
  simp only [go_sem, R59_0, v59, p59, Nat.reduceEqDiff, Nat.reduceAdd, Nat.reduceLeDiff, Nat.reduceMul, Nat.reduceSub, Nat.reduceLT, State.c]
  refine awp_sr2 ?_
  simp only [go_sem, R59_1, v59, p59, Nat.reduceEqDiff, Nat.reduceAdd, Nat.reduceLeDiff, Nat.reduceMul, Nat.reduceSub, Nat.reduceLT, State.c]
  obtain ⟨I, hI⟩ : ∃ I : Nat → List V → Store → Prop, I = fun m L σ => ∃ i rest y2 y3 y4 y5 y6 y11 y40 y43 y44 y45 y46 y85, m = a.floors.length - i ∧ i ≤ a.floors.length ∧ (∀ j x, j < i → a.floors[j]? = some x → floorR a j x) ∧ L = [.agg a.c, .ptr 0 2 0 0, y2, y3, y4, y5, y6, .fz 2 (rw_ Floor.c a.floors), .int .i64 (a.floors.length : Nat), .int .i64 (i : Nat), y11, y40, y43, y44, y45, y46, y85] ∧ σ = .live ⟨2, [a.c]⟩ :: rest := ⟨_, rfl⟩
  refine awp_for I a.floors.length ?_ ?_
  · rw [hI]; refine ⟨0, _, _, _, _, _, _, _, _, _, _, _, _, _, rfl, Nat.zero_le _, ?_, rfl, rfl⟩
    intro j x h; omega
  intro m L σ hIn
  rw [hI] at hIn
  obtain ⟨i, rest, y2, y3, y4, y5, y6, y11, y40, y43, y44, y45, y46, y85, rfl, hi, hP, rfl, rfl⟩ := hIn
  refine awp_sr ?_
  simp only [go_sem, R59_2, v59, p59, Nat.reduceEqDiff, Nat.reduceAdd, Nat.reduceLeDiff, Nat.reduceMul, Nat.reduceSub, Nat.reduceLT, State.c]
  refine awp_seq ?_
  refine awp_if rfl ?_ ?_
  · intro h1
    have h1 : i < a.floors.length := by omega
    have h3 : i - 1 < a.floors.length := by omega
    refine awp_skip ?_
    simp only [go_sem]
    refine awp_seq (awp_block ?_)
    refine awp_sr ?_
    simp only [go_sem, R59_3, v59, p59, Nat.reduceEqDiff, Nat.reduceAdd, Nat.reduceLeDiff, Nat.reduceMul, Nat.reduceSub, Nat.reduceLT, rw_at _ h1, Floor.c]
    refine awp_sdK (fun L σ => ∃ q rest y2 y3 y4 y5 y6 y11 y43 y44 y45 y46 y85, L = [.agg a.c, .ptr 0 2 0 0, y2, y3, y4, y5, y6, .fz 2 (rw_ Floor.c a.floors), .int .i64 (a.floors.length : Nat), .int .i64 (i : Nat), y11, .bool q, y43, y44, y45, y46, y85] ∧ σ = .live ⟨2, [a.c]⟩ :: rest ∧ q = !decide (floorR a i a.floors[i])) mixed rfl (by rfl) ?_ ?_
    · simp only [go_sem, R59_4, v59, p59, Nat.reduceEqDiff, Nat.reduceAdd, Nat.reduceLeDiff, Nat.reduceMul, Nat.reduceSub, Nat.reduceLT]
      repeat' first
        | (refine selP_if rfl (fun h => ?_) (fun h => ?_) <;> simp only [go_sem, v59, p59, Nat.reduceEqDiff, Nat.reduceAdd, Nat.reduceLeDiff, Nat.reduceMul, Nat.reduceSub, Nat.reduceLT, decide_true, decide_false, not_true_eq_false, not_false_eq_true, h, State.c, Floor.c, rw_at _ h3, wrap_pred, show i < 9223372036854775807 by omega])
        | (refine selP_ifn rfl (fun h => ?_) (fun h => ?_) <;> simp only [go_sem, v59, p59, Nat.reduceEqDiff, Nat.reduceAdd, Nat.reduceLeDiff, Nat.reduceMul, Nat.reduceSub, Nat.reduceLT, decide_true, decide_false, not_true_eq_false, not_false_eq_true, h, State.c, Floor.c, rw_at _ h3, wrap_pred, show i < 9223372036854775807 by omega])
        | (refine selN_if rfl (fun h => ?_) (fun h => ?_) <;> simp only [go_sem, v59, p59, Nat.reduceEqDiff, Nat.reduceAdd, Nat.reduceLeDiff, Nat.reduceMul, Nat.reduceSub, Nat.reduceLT, decide_true, decide_false, not_true_eq_false, not_false_eq_true, h, State.c, Floor.c, rw_at _ h3, wrap_pred, show i < 9223372036854775807 by omega])
        | (refine selN_ifn rfl (fun h => ?_) (fun h => ?_) <;> simp only [go_sem, v59, p59, Nat.reduceEqDiff, Nat.reduceAdd, Nat.reduceLeDiff, Nat.reduceMul, Nat.reduceSub, Nat.reduceLT, decide_true, decide_false, not_true_eq_false, not_false_eq_true, h, State.c, Floor.c, rw_at _ h3, wrap_pred, show i < 9223372036854775807 by omega])
        | (refine run_see (isNode_ok _) false (Views.refl rfl) rfl (fun j hj => by omega) (fun h => by cases h) ?_; simp only [go_sem, v59, p59, Nat.reduceEqDiff, Nat.reduceAdd, Nat.reduceLeDiff, Nat.reduceMul, Nat.reduceSub, Nat.reduceLT, decide_true, decide_false, not_true_eq_false, not_false_eq_true, State.c, Floor.c, rw_at _ h3, wrap_pred, show i < 9223372036854775807 by omega])
        | (refine run_see (within_ok _ _ _) false (Views.refl rfl) rfl (fun j hj => by omega) (fun h => by cases h) ?_; simp only [go_sem, v59, p59, Nat.reduceEqDiff, Nat.reduceAdd, Nat.reduceLeDiff, Nat.reduceMul, Nat.reduceSub, Nat.reduceLT, decide_true, decide_false, not_true_eq_false, not_false_eq_true, State.c, Floor.c, rw_at _ h3, wrap_pred, show i < 9223372036854775807 by omega])
      all_goals refine ⟨_, _, _, _, _, _, _, _, _, _, _, _, _, rfl, rfl, ?_⟩
      all_goals have key := floorR_iff a h1 h3
      all_goals grind
    rintro L σ ⟨q, rest, y2, y3, y4, y5, y6, y11, y43, y44, y45, y46, y85, rfl, rfl, hq⟩
    subst hq
    refine awp_if' rfl ?_ ?_
    · intro h2
      refine awp_sr ?_
      simp only [go_sem, R59_5, v59, p59, Nat.reduceEqDiff, Nat.reduceAdd, Nat.reduceLeDiff, Nat.reduceMul, Nat.reduceSub, Nat.reduceLT]
      refine awp_ret ?_
      try simp only [go_sem]
      exact fin _ _ (.bool false) rfl (congrArg V.bool (decide_eq_false fun e => h2 (e.2 i _ (List.getElem?_eq_getElem h1))).symm)
    · intro h2
      refine awp_skip ?_
      simp only [go_sem]
      refine awp_reg ?_
      simp only [go_sem, R59_6, v59, p59, Nat.reduceEqDiff, Nat.reduceAdd, Nat.reduceLeDiff, Nat.reduceMul, Nat.reduceSub, Nat.reduceLT, wrap_succ (i := i) (by omega)]
      refine ⟨a.floors.length - (i + 1), by omega, ?_⟩
      rw [hI]
      refine ⟨i + 1, _, _, _, _, _, _, _, _, _, _, _, _, _, rfl, by omega, ?_, rfl, rfl⟩
      exact upto_succ hP h1 h2
  · intro h1
    refine awp_exit ?_
    simp only [go_sem]
    have hb := upto_all hP (by omega)
    clear hP hi hI
    refine awp_sr2 ?_
    simp only [go_sem, R59_7, v59, p59, Nat.reduceEqDiff, Nat.reduceAdd, Nat.reduceLeDiff, Nat.reduceMul, Nat.reduceSub, Nat.reduceLT, State.c]
    obtain ⟨J, hJ⟩ : ∃ J : Nat → List V → Store → Prop, J = fun m L σ => ∃ i rest y2 y3 y4 y5 y6 y8 y9 y10 y11 y40 y46 y85, m = a.items.length - i ∧ i ≤ a.items.length ∧ (∀ j x, j < i → a.items[j]? = some x → itemR a j x) ∧ L = [.agg a.c, .ptr 0 2 0 0, y2, y3, y4, y5, y6, y8, y9, y10, y11, y40, .fz 6 (rw_ Item.c a.items), .int .i64 (a.items.length : Nat), .int .i64 (i : Nat), y46, y85] ∧ σ = .live ⟨2, [a.c]⟩ :: rest := ⟨_, rfl⟩
    refine awp_for J a.items.length ?_ ?_
    · rw [hJ]; refine ⟨0, _, _, _, _, _, _, _, _, _, _, _, _, _, rfl, Nat.zero_le _, ?_, rfl, rfl⟩
      intro j x h; omega
    intro m L σ hIn
    rw [hJ] at hIn
    obtain ⟨i, rest, y2, y3, y4, y5, y6, y8, y9, y10, y11, y40, y46, y85, rfl, hi, hP, rfl, rfl⟩ := hIn
    refine awp_sr ?_
    simp only [go_sem, R59_8, v59, p59, Nat.reduceEqDiff, Nat.reduceAdd, Nat.reduceLeDiff, Nat.reduceMul, Nat.reduceSub, Nat.reduceLT, State.c]
    refine awp_seq ?_
    refine awp_if rfl ?_ ?_
    · intro h1
      have h1 : i < a.items.length := by omega
      have h3 : i - 1 < a.items.length := by omega
      refine awp_skip ?_
      simp only [go_sem]
      refine awp_seq (awp_block ?_)
      refine awp_sr ?_
      simp only [go_sem, R59_9, v59, p59, Nat.reduceEqDiff, Nat.reduceAdd, Nat.reduceLeDiff, Nat.reduceMul, Nat.reduceSub, Nat.reduceLT, rw_at _ h1, Item.c]
      refine awp_sdK (fun L σ => ∃ q rest y2 y3 y4 y5 y6 y8 y9 y10 y11 y40 y46, L = [.agg a.c, .ptr 0 2 0 0, y2, y3, y4, y5, y6, y8, y9, y10, y11, y40, .fz 6 (rw_ Item.c a.items), .int .i64 (a.items.length : Nat), .int .i64 (i : Nat), y46, .bool q] ∧ σ = .live ⟨2, [a.c]⟩ :: rest ∧ q = !decide (itemR a i a.items[i])) mixed rfl (by rfl) ?_ ?_
      · simp only [go_sem, R59_10, v59, p59, Nat.reduceEqDiff, Nat.reduceAdd, Nat.reduceLeDiff, Nat.reduceMul, Nat.reduceSub, Nat.reduceLT]
        repeat' first
          | (refine selP_if rfl (fun h => ?_) (fun h => ?_) <;> simp only [go_sem, v59, p59, Nat.reduceEqDiff, Nat.reduceAdd, Nat.reduceLeDiff, Nat.reduceMul, Nat.reduceSub, Nat.reduceLT, decide_true, decide_false, not_true_eq_false, not_false_eq_true, h, State.c, Item.c, rw_at _ h3, wrap_pred, show i < 9223372036854775807 by omega])
          | (refine selP_ifn rfl (fun h => ?_) (fun h => ?_) <;> simp only [go_sem, v59, p59, Nat.reduceEqDiff, Nat.reduceAdd, Nat.reduceLeDiff, Nat.reduceMul, Nat.reduceSub, Nat.reduceLT, decide_true, decide_false, not_true_eq_false, not_false_eq_true, h, State.c, Item.c, rw_at _ h3, wrap_pred, show i < 9223372036854775807 by omega])
          | (refine selN_if rfl (fun h => ?_) (fun h => ?_) <;> simp only [go_sem, v59, p59, Nat.reduceEqDiff, Nat.reduceAdd, Nat.reduceLeDiff, Nat.reduceMul, Nat.reduceSub, Nat.reduceLT, decide_true, decide_false, not_true_eq_false, not_false_eq_true, h, State.c, Item.c, rw_at _ h3, wrap_pred, show i < 9223372036854775807 by omega])
          | (refine selN_ifn rfl (fun h => ?_) (fun h => ?_) <;> simp only [go_sem, v59, p59, Nat.reduceEqDiff, Nat.reduceAdd, Nat.reduceLeDiff, Nat.reduceMul, Nat.reduceSub, Nat.reduceLT, decide_true, decide_false, not_true_eq_false, not_false_eq_true, h, State.c, Item.c, rw_at _ h3, wrap_pred, show i < 9223372036854775807 by omega])
          | (refine run_see (isNode_ok _) false (Views.refl rfl) rfl (fun j hj => by omega) (fun h => by cases h) ?_; simp only [go_sem, v59, p59, Nat.reduceEqDiff, Nat.reduceAdd, Nat.reduceLeDiff, Nat.reduceMul, Nat.reduceSub, Nat.reduceLT, decide_true, decide_false, not_true_eq_false, not_false_eq_true, State.c, Item.c, rw_at _ h3, wrap_pred, show i < 9223372036854775807 by omega])
          | (refine run_see (implEntryOk_ok a.items[i].entry) false (Views.refl rfl) rfl (fun j hj => by omega) (fun h => by cases h) ?_; simp only [go_sem, v59, p59, Nat.reduceEqDiff, Nat.reduceAdd, Nat.reduceLeDiff, Nat.reduceMul, Nat.reduceSub, Nat.reduceLT, decide_true, decide_false, not_true_eq_false, not_false_eq_true, State.c, Item.c, rw_at _ h3, wrap_pred, show i < 9223372036854775807 by omega])
          | (refine run_see (implFloorOf_ok a _ (by omega)) false (Views.refl rfl) rfl (fun j hj => by omega) (fun h => by cases h) ?_; simp only [go_sem, v59, p59, Nat.reduceEqDiff, Nat.reduceAdd, Nat.reduceLeDiff, Nat.reduceMul, Nat.reduceSub, Nat.reduceLT, decide_true, decide_false, not_true_eq_false, not_false_eq_true, State.c, Item.c, rw_at _ h3, wrap_pred, show i < 9223372036854775807 by omega])
        all_goals refine ⟨_, _, _, _, _, _, _, _, _, _, _, _, _, rfl, rfl, ?_⟩
        all_goals have key := itemR_iff a h1 h3
        all_goals grind
      rintro L σ ⟨q, rest, y2, y3, y4, y5, y6, y8, y9, y10, y11, y40, y46, rfl, rfl, hq⟩
      subst hq
      refine awp_if' rfl ?_ ?_
      · intro h2
        refine awp_sr ?_
        simp only [go_sem, R59_11, v59, p59, Nat.reduceEqDiff, Nat.reduceAdd, Nat.reduceLeDiff, Nat.reduceMul, Nat.reduceSub, Nat.reduceLT]
        refine awp_ret ?_
        try simp only [go_sem]
        exact fin _ _ (.bool false) rfl (congrArg V.bool (decide_eq_false fun e => h2 (e.1 i _ (List.getElem?_eq_getElem h1))).symm)
      · intro h2
        refine awp_skip ?_
        simp only [go_sem]
        refine awp_reg ?_
        simp only [go_sem, R59_12, v59, p59, Nat.reduceEqDiff, Nat.reduceAdd, Nat.reduceLeDiff, Nat.reduceMul, Nat.reduceSub, Nat.reduceLT, wrap_succ (i := i) (by omega)]
        refine ⟨a.items.length - (i + 1), by omega, ?_⟩
        rw [hJ]
        refine ⟨i + 1, _, _, _, _, _, _, _, _, _, _, _, _, _, rfl, by omega, ?_, rfl, rfl⟩
        exact upto_succ hP h1 h2
    · intro h1
      refine awp_exit ?_
      simp only [go_sem]
      have ha := upto_all hP (by omega)
      refine awp_sr ?_
      simp only [go_sem, R59_13, v59, p59, Nat.reduceEqDiff, Nat.reduceAdd, Nat.reduceLeDiff, Nat.reduceMul, Nat.reduceSub, Nat.reduceLT]
      refine awp_ret ?_
      try simp only [go_sem]
      exact fin _ _ (.bool true) rfl (congrArg V.bool (decide_eq_true (show a.Right from ⟨ha, hb⟩)).symm)
end Go.Proofs.Ytffigokicddekaa.Abs
