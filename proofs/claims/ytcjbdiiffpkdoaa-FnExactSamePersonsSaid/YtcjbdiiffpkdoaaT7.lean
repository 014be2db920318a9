/- SamePersons (own text; the walks were printed by walk.py). -/
import Derived.Test.YtcjbdiiffpkdoaaA29
import Derived.Test.YtcjbdiiffpkdoaaProg
import Derived.KernelRfl
set_option linter.unusedVariables false
set_option linter.unusedSimpArgs false
namespace Go.Ab
open Go.RowKit Go.Proofs

def c71 : MC := (.seq (.reg [⟨(some 2), none, (.f (.box (.t 0)))⟩, ⟨(some 4), none, (.p (.mv (.c (.int .i64 0))))⟩]) (.seq (.reg [⟨(some 5), none, (.p (.mv (.t 1)))⟩, ⟨(some 6), none, (.p (.fad (.t 2) 0))⟩, ⟨(some 7), none, (.p (.ld (.t 6) 1 false))⟩, ⟨(some 8), none, (.p (.lens (.t 7)))⟩, ⟨(some 9), none, (.p (.bin .sub (.t 5) (.t 8)))⟩, ⟨(some 1), none, (.p (.mv (.t 9)))⟩]) (.seq (.seq (.reg [⟨(some 10), none, (.p (.mv (.t 1)))⟩, ⟨(some 11), none, (.p (.bin .lss (.t 10) (.c (.int .i64 0))))⟩]) (.cond (.t 11) (.seq (.reg [⟨(some 4), none, (.p (.mv (.c (.int .i64 (-1)))))⟩]) .ret) .skip)) (.seq (.reg [⟨(some 12), none, (.p (.fad (.t 2) 2))⟩, ⟨(some 13), none, (.p (.ld (.t 12) 1 false))⟩, ⟨(some 14), none, (.p (.mv (.t 1)))⟩, ⟨(some 15), none, (.call 96 [(.t 13), (.t 14)])⟩, ⟨(some 1), none, (.p (.mv (.t 15)))⟩]) (.seq (.seq (.reg [⟨(some 16), none, (.p (.mv (.t 1)))⟩, ⟨(some 17), none, (.p (.bin .lss (.t 16) (.c (.int .i64 0))))⟩]) (.cond (.t 17) (.seq (.reg [⟨(some 4), none, (.p (.mv (.c (.int .i64 (-1)))))⟩]) .ret) .skip)) (.seq (.reg [⟨(some 18), none, (.p (.mv (.t 1)))⟩, ⟨(some 4), none, (.p (.mv (.t 18)))⟩]) .ret))))))
theorem c71_is : compFn Try.prog 71 = some (c71, [(.tmp 4)]) := by kernel_rfl
theorem c71_ok : okFn Try.prog 71 = true := by kernel_rfl

def c72 : MC := (.seq (.reg [⟨(some 1), none, (.f (.box (.t 0)))⟩, ⟨(some 2), none, (.f (.alloc [((.str []), (0, false)), ((.int .i64 0), (0, false)), ((.sl 0 []), (1, false))]))⟩]) (.seq (.reg [⟨(some 3), none, (.f (.alloc [((.str []), (0, false)), ((.int .i64 0), (0, false)), ((.sl 0 []), (1, false))]))⟩]) (.seq (.reg [⟨(some 4), none, (.p (.fad (.t 1) 0))⟩, ⟨(some 5), none, (.p (.ld (.t 4) 1 false))⟩, ⟨(some 6), none, (.p (.fad (.t 3) 0))⟩, ⟨none, none, (.f (.st (.t 6) (.t 5) 1))⟩]) (.seq (.reg [⟨(some 7), none, (.p (.fad (.t 1) 1))⟩, ⟨(some 8), none, (.p (.ld (.t 7) 1 false))⟩, ⟨(some 9), none, (.p (.fad (.t 3) 1))⟩, ⟨none, none, (.f (.st (.t 9) (.t 8) 1))⟩]) (.seq (.reg [⟨(some 10), none, (.p (.fad (.t 1) 2))⟩, ⟨(some 11), none, (.p (.ld (.t 10) 1 false))⟩, ⟨(some 12), none, (.call 97 [(.t 11)])⟩, ⟨(some 13), none, (.p (.fad (.t 3) 2))⟩, ⟨none, none, (.f (.st (.t 13) (.t 12) 1))⟩]) (.seq (.reg [⟨(some 14), none, (.p (.ld (.t 3) 3 true))⟩, ⟨none, none, (.f (.st (.t 2) (.t 14) 3))⟩]) .ret))))))
theorem c72_is : compFn Try.prog 72 = some (c72, [(.cell (.ld (.t 2) 3 true))]) := by kernel_rfl
theorem c72_ok : okFn Try.prog 72 = true := by kernel_rfl

def c76 : MC := (.seq (.reg [⟨(some 2), none, (.f (.box (.t 0)))⟩, ⟨(some 3), none, (.f (.box (.t 1)))⟩, ⟨(some 4), none, (.p (.mv (.c (.bool false))))⟩]) (.seq (.seq (.reg [⟨(some 5), none, (.p (.fad (.t 2) 0))⟩, ⟨(some 6), none, (.p (.ld (.t 5) 1 false))⟩, ⟨(some 7), none, (.p (.fad (.t 3) 0))⟩, ⟨(some 8), none, (.p (.ld (.t 7) 1 false))⟩, ⟨(some 9), none, (.p (.bin .neq (.t 6) (.t 8)))⟩]) (.cond (.t 9) (.seq (.reg [⟨(some 4), none, (.p (.mv (.c (.bool false))))⟩]) .ret) .skip)) (.seq (.seq (.reg [⟨(some 10), none, (.p (.fad (.t 2) 1))⟩, ⟨(some 11), none, (.p (.ld (.t 10) 1 false))⟩, ⟨(some 12), none, (.p (.fad (.t 3) 1))⟩, ⟨(some 13), none, (.p (.ld (.t 12) 1 false))⟩, ⟨(some 14), none, (.p (.bin .neq (.t 11) (.t 13)))⟩]) (.cond (.t 14) (.seq (.reg [⟨(some 4), none, (.p (.mv (.c (.bool false))))⟩]) .ret) .skip)) (.seq (.seq (.reg [⟨(some 15), none, (.p (.fad (.t 2) 2))⟩, ⟨(some 16), none, (.p (.ld (.t 15) 1 false))⟩, ⟨(some 17), none, (.p (.fad (.t 3) 2))⟩, ⟨(some 18), none, (.p (.ld (.t 17) 1 false))⟩, ⟨(some 19), none, (.call 55 [(.t 16), (.t 18)])⟩, ⟨(some 20), none, (.p (.not (.t 19)))⟩]) (.cond (.t 20) (.seq (.reg [⟨(some 4), none, (.p (.mv (.c (.bool false))))⟩]) .ret) .skip)) (.seq (.reg [⟨(some 4), none, (.p (.mv (.c (.bool true))))⟩]) .ret)))))
theorem c76_is : compFn Try.prog 76 = some (c76, [(.tmp 4)]) := by kernel_rfl
theorem c76_ok : okFn Try.prog 76 = true := by kernel_rfl

def c36 : MC := (.seq (.reg [⟨(some 4), none, (.p (.mv (.c (.bool false))))⟩]) (.seq (.seq (.reg [⟨(some 7), none, (.p (.mv (.t 0)))⟩, ⟨(some 8), none, (.p (.len (.t 7)))⟩, ⟨(some 9), none, (.p (.mv (.t 1)))⟩, ⟨(some 10), none, (.p (.len (.t 9)))⟩, ⟨(some 11), none, (.p (.bin .neq (.t 8) (.t 10)))⟩]) (.cond (.t 11) (.seq (.reg [⟨(some 4), none, (.p (.mv (.c (.bool false))))⟩]) .ret) .skip)) (.seq (.seq (.reg [⟨(some 5), none, (.p (.mv (.c (.int .i64 0))))⟩]) (.block 0 (.loop (.seq (.seq (.reg [⟨(some 12), none, (.p (.mv (.t 5)))⟩, ⟨(some 13), none, (.p (.mv (.t 0)))⟩, ⟨(some 14), none, (.p (.len (.t 13)))⟩, ⟨(some 15), none, (.p (.bin .lss (.t 12) (.t 14)))⟩]) (.cond (.t 15) .skip (.exit 0))) (.seq (.block 1 (.seq (.seq (.reg [⟨(some 18), none, (.p (.mv (.t 0)))⟩, ⟨(some 19), none, (.p (.mv (.t 5)))⟩, ⟨(some 20), none, (.p (.iad (.t 18) (.t 19) 3))⟩, ⟨(some 21), none, (.p (.fad (.t 20) 0))⟩, ⟨(some 22), none, (.p (.ld (.t 21) 1 false))⟩, ⟨(some 23), none, (.p (.mv (.t 1)))⟩, ⟨(some 24), none, (.p (.mv (.t 5)))⟩, ⟨(some 25), none, (.p (.iad (.t 23) (.t 24) 3))⟩, ⟨(some 26), none, (.p (.fad (.t 25) 0))⟩, ⟨(some 27), none, (.p (.ld (.t 26) 1 false))⟩, ⟨(some 28), none, (.p (.bin .neq (.t 22) (.t 27)))⟩, ⟨(some 29), none, (.p (.mv (.t 28)))⟩, ⟨(some 30), (some (29, false)), (.p (.mv (.t 0)))⟩, ⟨(some 31), (some (29, false)), (.p (.mv (.t 5)))⟩, ⟨(some 32), (some (29, false)), (.p (.iad (.t 30) (.t 31) 3))⟩, ⟨(some 33), (some (29, false)), (.p (.fad (.t 32) 1))⟩, ⟨(some 34), (some (29, false)), (.p (.ld (.t 33) 1 false))⟩, ⟨(some 35), (some (29, false)), (.p (.mv (.t 1)))⟩, ⟨(some 36), (some (29, false)), (.p (.mv (.t 5)))⟩, ⟨(some 37), (some (29, false)), (.p (.iad (.t 35) (.t 36) 3))⟩, ⟨(some 38), (some (29, false)), (.p (.fad (.t 37) 1))⟩, ⟨(some 39), (some (29, false)), (.p (.ld (.t 38) 1 false))⟩, ⟨(some 40), (some (29, false)), (.p (.bin .neq (.t 34) (.t 39)))⟩, ⟨(some 41), none, (.p (.pick (.t 29) (.c (.bool true)) (.t 40)))⟩, ⟨(some 42), none, (.p (.mv (.t 41)))⟩, ⟨(some 43), (some (42, false)), (.p (.mv (.t 0)))⟩, ⟨(some 44), (some (42, false)), (.p (.mv (.t 5)))⟩, ⟨(some 45), (some (42, false)), (.p (.iad (.t 43) (.t 44) 3))⟩, ⟨(some 46), (some (42, false)), (.p (.fad (.t 45) 2))⟩, ⟨(some 47), (some (42, false)), (.p (.ld (.t 46) 1 false))⟩, ⟨(some 48), (some (42, false)), (.p (.len (.t 47)))⟩, ⟨(some 49), (some (42, false)), (.p (.mv (.t 1)))⟩, ⟨(some 50), (some (42, false)), (.p (.mv (.t 5)))⟩, ⟨(some 51), (some (42, false)), (.p (.iad (.t 49) (.t 50) 3))⟩, ⟨(some 52), (some (42, false)), (.p (.fad (.t 51) 2))⟩, ⟨(some 53), (some (42, false)), (.p (.ld (.t 52) 1 false))⟩, ⟨(some 54), (some (42, false)), (.p (.len (.t 53)))⟩, ⟨(some 55), (some (42, false)), (.p (.bin .neq (.t 48) (.t 54)))⟩, ⟨(some 56), none, (.p (.pick (.t 42) (.c (.bool true)) (.t 55)))⟩]) (.cond (.t 56) (.seq (.reg [⟨(some 4), none, (.p (.mv (.c (.bool false))))⟩]) .ret) .skip)) (.seq (.reg [⟨(some 6), none, (.p (.mv (.c (.int .i64 0))))⟩]) (.block 2 (.loop (.seq (.seq (.reg [⟨(some 57), none, (.p (.mv (.t 6)))⟩, ⟨(some 58), none, (.p (.mv (.t 0)))⟩, ⟨(some 59), none, (.p (.mv (.t 5)))⟩, ⟨(some 60), none, (.p (.iad (.t 58) (.t 59) 3))⟩, ⟨(some 61), none, (.p (.fad (.t 60) 2))⟩, ⟨(some 62), none, (.p (.ld (.t 61) 1 false))⟩, ⟨(some 63), none, (.p (.len (.t 62)))⟩, ⟨(some 64), none, (.p (.bin .lss (.t 57) (.t 63)))⟩]) (.cond (.t 64) .skip (.exit 2))) (.seq (.block 3 (.seq (.reg [⟨(some 67), none, (.p (.mv (.t 0)))⟩, ⟨(some 68), none, (.p (.mv (.t 5)))⟩, ⟨(some 69), none, (.p (.iad (.t 67) (.t 68) 3))⟩, ⟨(some 70), none, (.p (.fad (.t 69) 2))⟩, ⟨(some 71), none, (.p (.ld (.t 70) 1 false))⟩, ⟨(some 72), none, (.p (.mv (.t 6)))⟩, ⟨(some 73), none, (.p (.iad (.t 71) (.t 72) 1))⟩, ⟨(some 74), none, (.p (.ld (.t 73) 1 false))⟩, ⟨(some 75), none, (.p (.mv (.t 1)))⟩, ⟨(some 76), none, (.p (.mv (.t 5)))⟩, ⟨(some 77), none, (.p (.iad (.t 75) (.t 76) 3))⟩, ⟨(some 78), none, (.p (.fad (.t 77) 2))⟩, ⟨(some 79), none, (.p (.ld (.t 78) 1 false))⟩, ⟨(some 80), none, (.p (.mv (.t 6)))⟩, ⟨(some 81), none, (.p (.iad (.t 79) (.t 80) 1))⟩, ⟨(some 82), none, (.p (.ld (.t 81) 1 false))⟩, ⟨(some 83), none, (.p (.bin .neq (.t 74) (.t 82)))⟩]) (.cond (.t 83) (.seq (.reg [⟨(some 4), none, (.p (.mv (.c (.bool false))))⟩]) .ret) .skip))) (.reg [⟨(some 65), none, (.p (.mv (.t 6)))⟩, ⟨(some 66), none, (.p (.bin .add (.t 65) (.c (.int .i64 1))))⟩, ⟨(some 6), none, (.p (.mv (.t 66)))⟩])))))))) (.reg [⟨(some 16), none, (.p (.mv (.t 5)))⟩, ⟨(some 17), none, (.p (.bin .add (.t 16) (.c (.int .i64 1))))⟩, ⟨(some 5), none, (.p (.mv (.t 17)))⟩])))))) (.seq (.reg [⟨(some 4), none, (.p (.mv (.c (.bool true))))⟩]) .ret))))
theorem c36_is : compFn Try.prog 36 = some (c36, [(.tmp 4)]) := by kernel_rfl
theorem c36_ok : okFn Try.prog 36 = true := by kernel_rfl

def c73 : MC := (.seq (.reg [⟨(some 6), none, (.p (.mv (.c (.bool false))))⟩]) (.seq (.seq (.reg [⟨(some 10), none, (.p (.mv (.t 0)))⟩, ⟨(some 11), none, (.p (.len (.t 10)))⟩, ⟨(some 12), none, (.p (.mv (.t 1)))⟩, ⟨(some 13), none, (.p (.len (.t 12)))⟩, ⟨(some 14), none, (.p (.bin .neq (.t 11) (.t 13)))⟩]) (.cond (.t 14) (.seq (.reg [⟨(some 6), none, (.p (.mv (.c (.bool false))))⟩]) .ret) .skip)) (.seq (.seq (.reg [⟨(some 15), none, (.p (.mv (.t 0)))⟩, ⟨(some 16), none, (.p (.len (.t 15)))⟩, ⟨(some 17), none, (.p (.mv (.c (.int .i64 0))))⟩]) (.block 0 (.loop (.seq (.reg [⟨(some 18), none, (.p (.bin .lss (.t 17) (.t 16)))⟩]) (.seq (.cond (.t 18) .skip (.exit 0)) (.seq (.block 1 (.seq (.reg [⟨(some 19), none, (.p (.mv (.t 17)))⟩, ⟨(some 20), none, (.p (.iad (.t 15) (.t 17) 3))⟩, ⟨(some 21), none, (.p (.ld (.t 20) 3 true))⟩, ⟨(some 8), none, (.f (.alloc [((.str []), (0, false)), ((.int .i64 0), (0, false)), ((.sl 0 []), (1, false))]))⟩, ⟨(some 7), none, (.p (.mv (.t 19)))⟩, ⟨none, none, (.f (.st (.t 8) (.t 21) 3))⟩]) (.seq (.reg [⟨(some 22), none, (.p (.mv (.t 1)))⟩, ⟨(some 23), none, (.p (.mv (.t 7)))⟩, ⟨(some 24), none, (.p (.iad (.t 22) (.t 23) 3))⟩, ⟨(some 25), none, (.p (.ld (.t 24) 3 true))⟩, ⟨(some 9), none, (.f (.alloc [((.str []), (0, false)), ((.int .i64 0), (0, false)), ((.sl 0 []), (1, false))]))⟩, ⟨none, none, (.f (.st (.t 9) (.t 25) 3))⟩]) (.seq (.reg [⟨(some 26), none, (.p (.mv (.t 2)))⟩, ⟨(some 27), none, (.p (.ld (.t 8) 3 true))⟩, ⟨(some 28), none, (.p (.ld (.t 9) 3 true))⟩, ⟨(some 29), none, (.callv (.t 26) [(.t 27), (.t 28)])⟩, ⟨(some 30), none, (.p (.not (.t 29)))⟩]) (.cond (.t 30) (.seq (.reg [⟨(some 6), none, (.p (.mv (.c (.bool false))))⟩]) .ret) .skip))))) (.reg [⟨(some 31), none, (.p (.bin .add (.t 17) (.c (.int .i64 1))))⟩, ⟨(some 17), none, (.p (.mv (.t 31)))⟩]))))))) (.seq (.reg [⟨(some 6), none, (.p (.mv (.c (.bool true))))⟩]) .ret))))
theorem c73_is : compFn Try.prog 73 = some (c73, [(.tmp 6)]) := by kernel_rfl
theorem c73_ok : okFn Try.prog 73 = true := by kernel_rfl

def c74 : MC := (.seq (.reg [⟨(some 2), none, (.f (.box (.t 0)))⟩, ⟨(some 3), none, (.f (.box (.t 1)))⟩, ⟨(some 4), none, (.p (.mv (.c (.bool false))))⟩]) (.seq (.reg [⟨(some 5), none, (.p (.fad (.t 2) 0))⟩, ⟨(some 6), none, (.p (.ld (.t 5) 1 false))⟩, ⟨(some 7), none, (.p (.fad (.t 3) 0))⟩, ⟨(some 8), none, (.p (.ld (.t 7) 1 false))⟩, ⟨(some 9), none, (.p (.bin .eql (.t 6) (.t 8)))⟩, ⟨(some 10), none, (.p (.mv (.t 9)))⟩, ⟨(some 11), (some (10, true)), (.p (.fad (.t 2) 1))⟩, ⟨(some 12), (some (10, true)), (.p (.ld (.t 11) 1 false))⟩, ⟨(some 13), (some (10, true)), (.p (.fad (.t 3) 1))⟩, ⟨(some 14), (some (10, true)), (.p (.ld (.t 13) 1 false))⟩, ⟨(some 15), (some (10, true)), (.p (.bin .eql (.t 12) (.t 14)))⟩, ⟨(some 16), none, (.p (.pick (.t 10) (.t 15) (.c (.bool false))))⟩, ⟨(some 17), none, (.p (.mv (.t 16)))⟩, ⟨(some 18), (some (17, true)), (.p (.fad (.t 2) 2))⟩, ⟨(some 19), (some (17, true)), (.p (.ld (.t 18) 1 false))⟩, ⟨(some 20), (some (17, true)), (.p (.fad (.t 3) 2))⟩, ⟨(some 21), (some (17, true)), (.p (.ld (.t 20) 1 false))⟩, ⟨(some 22), (some (17, true)), (.call 75 [(.t 19), (.t 21)])⟩, ⟨(some 23), none, (.p (.pick (.t 17) (.t 22) (.c (.bool false))))⟩, ⟨(some 4), none, (.p (.mv (.t 23)))⟩]) .ret))
theorem c74_is : compFn Try.prog 74 = some (c74, [(.tmp 4)]) := by kernel_rfl
theorem c74_ok : okFn Try.prog 74 = true := by kernel_rfl

def c75 : MC := (.seq (.reg [⟨(some 4), none, (.p (.mv (.c (.bool false))))⟩]) (.seq (.seq (.reg [⟨(some 6), none, (.p (.mv (.t 0)))⟩, ⟨(some 7), none, (.p (.len (.t 6)))⟩, ⟨(some 8), none, (.p (.mv (.t 1)))⟩, ⟨(some 9), none, (.p (.len (.t 8)))⟩, ⟨(some 10), none, (.p (.bin .neq (.t 7) (.t 9)))⟩]) (.cond (.t 10) (.seq (.reg [⟨(some 4), none, (.p (.mv (.c (.bool false))))⟩]) .ret) .skip)) (.seq (.seq (.reg [⟨(some 11), none, (.p (.mv (.t 0)))⟩, ⟨(some 12), none, (.p (.len (.t 11)))⟩, ⟨(some 13), none, (.p (.mv (.c (.int .i64 0))))⟩]) (.block 0 (.loop (.seq (.reg [⟨(some 14), none, (.p (.bin .lss (.t 13) (.t 12)))⟩]) (.seq (.cond (.t 14) .skip (.exit 0)) (.seq (.block 1 (.seq (.reg [⟨(some 15), none, (.p (.mv (.t 13)))⟩, ⟨(some 5), none, (.p (.mv (.t 15)))⟩]) (.seq (.reg [⟨(some 16), none, (.p (.mv (.t 0)))⟩, ⟨(some 17), none, (.p (.mv (.t 5)))⟩, ⟨(some 18), none, (.p (.iad (.t 16) (.t 17) 1))⟩, ⟨(some 19), none, (.p (.ld (.t 18) 1 false))⟩, ⟨(some 20), none, (.p (.mv (.t 1)))⟩, ⟨(some 21), none, (.p (.mv (.t 5)))⟩, ⟨(some 22), none, (.p (.iad (.t 20) (.t 21) 1))⟩, ⟨(some 23), none, (.p (.ld (.t 22) 1 false))⟩, ⟨(some 24), none, (.p (.bin .neq (.t 19) (.t 23)))⟩]) (.cond (.t 24) (.seq (.reg [⟨(some 4), none, (.p (.mv (.c (.bool false))))⟩]) .ret) .skip)))) (.reg [⟨(some 25), none, (.p (.bin .add (.t 13) (.c (.int .i64 1))))⟩, ⟨(some 13), none, (.p (.mv (.t 25)))⟩]))))))) (.seq (.reg [⟨(some 4), none, (.p (.mv (.c (.bool true))))⟩]) .ret))))
theorem c75_is : compFn Try.prog 75 = some (c75, [(.tmp 4)]) := by kernel_rfl
theorem c75_ok : okFn Try.prog 75 = true := by kernel_rfl

def c38 : MC := (.seq (.reg [⟨(some 4), none, (.p (.mv (.c (.bool false))))⟩]) (.seq (.reg [⟨(some 5), none, (.p (.mv (.t 0)))⟩, ⟨(some 6), none, (.p (.mv (.t 1)))⟩, ⟨(some 7), none, (.call 73 [(.t 5), (.t 6), (.f 74)])⟩, ⟨(some 4), none, (.p (.mv (.t 7)))⟩]) .ret))
theorem c38_is : compFn Try.prog 38 = some (c38, [(.tmp 4)]) := by kernel_rfl
theorem c38_ok : okFn Try.prog 38 = true := by kernel_rfl

def c7 : MC := (.seq (.reg [⟨(some 4), none, (.p (.mv (.c (.bool false))))⟩]) (.seq (.reg [⟨(some 5), none, (.p (.mv (.c (.int .i64 1048576))))⟩]) (.seq (.reg [⟨(some 10), none, (.p (.mv (.t 0)))⟩, ⟨(some 11), none, (.p (.mv (.t 5)))⟩, ⟨(some 12), none, (.call 35 [(.t 10), (.t 11)])⟩, ⟨(some 5), none, (.p (.mv (.t 12)))⟩]) (.seq (.seq (.reg [⟨(some 13), none, (.p (.mv (.t 5)))⟩, ⟨(some 14), none, (.p (.bin .lss (.t 13) (.c (.int .i64 0))))⟩]) (.cond (.t 14) (.seq (.reg [⟨(some 4), none, (.p (.mv (.c (.bool true))))⟩]) .ret) .skip)) (.seq (.reg [⟨(some 15), none, (.p (.mv (.t 1)))⟩, ⟨(some 16), none, (.p (.mv (.t 5)))⟩, ⟨(some 17), none, (.call 35 [(.t 15), (.t 16)])⟩, ⟨(some 5), none, (.p (.mv (.t 17)))⟩]) (.seq (.seq (.reg [⟨(some 18), none, (.p (.mv (.t 5)))⟩, ⟨(some 19), none, (.p (.bin .lss (.t 18) (.c (.int .i64 0))))⟩]) (.cond (.t 19) (.seq (.reg [⟨(some 4), none, (.p (.mv (.c (.bool true))))⟩]) .ret) .skip)) (.seq (.reg [⟨(some 20), none, (.p (.mv (.t 0)))⟩, ⟨(some 21), none, (.call 37 [(.t 20)])⟩, ⟨(some 22), none, (.p (.mv (.t 1)))⟩, ⟨(some 23), none, (.call 37 [(.t 22)])⟩, ⟨(some 24), none, (.call 36 [(.t 21), (.t 23)])⟩, ⟨(some 6), none, (.p (.mv (.t 24)))⟩]) (.seq (.reg [⟨(some 25), none, (.p (.mv (.t 0)))⟩, ⟨(some 26), none, (.call 37 [(.t 25)])⟩, ⟨(some 7), none, (.p (.mv (.t 26)))⟩]) (.seq (.reg [⟨(some 27), none, (.p (.mv (.t 1)))⟩, ⟨(some 28), none, (.call 37 [(.t 27)])⟩, ⟨(some 8), none, (.p (.mv (.t 28)))⟩]) (.seq (.reg [⟨(some 29), none, (.p (.mv (.t 7)))⟩, ⟨(some 30), none, (.p (.mv (.t 8)))⟩, ⟨(some 31), none, (.call 38 [(.t 29), (.t 30)])⟩, ⟨(some 9), none, (.p (.mv (.t 31)))⟩]) (.seq (.seq (.reg [⟨(some 32), none, (.p (.mv (.t 9)))⟩, ⟨(some 33), none, (.p (.mv (.t 6)))⟩, ⟨(some 34), none, (.p (.bnb true (.t 32) (.t 33)))⟩]) (.cond (.t 34) (.seq (.reg [⟨(some 4), none, (.p (.mv (.c (.bool false))))⟩]) .ret) .skip)) (.seq (.seq (.reg [⟨(some 35), none, (.p (.mv (.t 7)))⟩, ⟨(some 36), none, (.p (.mv (.t 0)))⟩, ⟨(some 37), none, (.call 37 [(.t 36)])⟩, ⟨(some 38), none, (.call 39 [(.t 35), (.t 37)])⟩, ⟨(some 39), none, (.p (.not (.t 38)))⟩]) (.cond (.t 39) (.seq (.reg [⟨(some 4), none, (.p (.mv (.c (.bool false))))⟩]) .ret) .skip)) (.seq (.seq (.reg [⟨(some 40), none, (.p (.mv (.t 8)))⟩, ⟨(some 41), none, (.p (.mv (.t 1)))⟩, ⟨(some 42), none, (.call 37 [(.t 41)])⟩, ⟨(some 43), none, (.call 39 [(.t 40), (.t 42)])⟩, ⟨(some 44), none, (.p (.not (.t 43)))⟩]) (.cond (.t 44) (.seq (.reg [⟨(some 4), none, (.p (.mv (.c (.bool false))))⟩]) .ret) .skip)) (.seq (.reg [⟨(some 4), none, (.p (.mv (.c (.bool true))))⟩]) .ret))))))))))))))
theorem c7_is : compFn Try.prog 7 = some (c7, [(.tmp 4)]) := by kernel_rfl
theorem c7_ok : okFn Try.prog 7 = true := by kernel_rfl

theorem c96_is : compFn Try.prog 96 = some (mSzStr, [.tmp 4]) := by kernel_rfl
theorem c96_ok : okFn Try.prog 96 = true := by kernel_rfl

theorem c97_is : compFn Try.prog 97 = some (mToC 16 (.str []), [.tmp 2]) := by kernel_rfl
theorem c97_ok : okFn Try.prog 97 = true := by kernel_rfl

theorem c55_is : compFn Try.prog 55 = some (mEqC, [.tmp 4]) := by kernel_rfl
theorem c55_ok : okFn Try.prog 55 = true := by kernel_rfl

theorem c35_is : compFn Try.prog 35 = some (mSzS 71 3 true, [.tmp 4]) := by kernel_rfl
theorem c35_ok : okFn Try.prog 35 = true := by kernel_rfl

theorem c37_is : compFn Try.prog 37 = some (mToS 72 3 48 (.agg [.str [], .int .i64 0, .sl 0 []]) true, [.tmp 2]) := by kernel_rfl
theorem c37_ok : okFn Try.prog 37 = true := by kernel_rfl

theorem c39_is : compFn Try.prog 39 = some (mEqS 76 3 true, [.tmp 4]) := by kernel_rfl
theorem c39_ok : okFn Try.prog 39 = true := by kernel_rfl

abbrev Ps := List UInt8 × Int × List (List UInt8)
@[simp] def prs (p : Ps) : V := .agg [.str p.1, .int .i64 p.2.1, .sl 1 (p.2.2.map V.str)]
def Ps.ok (p : Ps) : Prop := p.1.length ≤ 9223372036854775807 ∧ p.2.2.length ≤ 9223372036854775807 ∧ ∀ s ∈ p.2.2, s.length ≤ 9223372036854775807
def szPs (p : Ps) (l : Int) : Int := if l - (p.1.length : Int) < 0 then -1 else if szStrS p.2.2 (l - (p.1.length : Int)) < 0 then -1 else szStrS p.2.2 (l - (p.1.length : Int))
def unstr : V → List UInt8
  | .str s => s
  | _ => []
def szP (x : V) (l : Int) : Int := match x with
  | .agg [.str a, .int _ b, .sl _ c] => szPs (a, b, c.map unstr) l
  | _ => 0
theorem szP_prs {p : Ps} {l : Int} : szP (prs p) l = szPs p l := by
  simp only [szP, prs, List.map_map]
  have : (unstr ∘ V.str) = id := rfl
  rw [this, List.map_id]
theorem szPs_le {p : Ps} {l : Int} (h : 0 ≤ l) : szPs p l ≤ l := by
  unfold szPs
  split
  · omega
  · split
    · omega
    · have := szStrS_le (L := p.2.2) (l := l - (p.1.length : Int)) (by omega)
      omega
/-- What the copy of a person is. -/
@[simp] def prsR (p : Ps) : RV := .one (.agg [.val (.str p.1), .val (.int .i64 p.2.1), .row true 1 (p.2.2.map V.str)])
theorem con96 (L : List (List UInt8)) (hL : ∀ s ∈ L, s.length ≤ 9223372036854775807) (hlen : L.length ≤ 9223372036854775807) (l : Int) (h0 : 0 ≤ l) (hB : l ≤ 1048576) : Con Try.prog 96 [.sl 1 (L.map V.str), .int .i64 l] (.v (.int .i64 (szStrS L l))) :=
  szStr_con c96_is L l h0 hB hlen hL
theorem con97 (L : List (List UInt8)) (hl : (L.length : Int) ≤ 1048576) : Con Try.prog 97 [.sl 1 (L.map V.str)] (.r true 1 (L.map V.str)) := by
  refine toC_con c97_is _ (by simp; omega) (by simp; omega) ?_
  intro x hx; obtain ⟨s, _, rfl⟩ := List.mem_map.1 hx; exact ⟨rfl, rfl, rfl⟩
theorem con55 (L : List (List UInt8)) (hl : (L.length : Int) ≤ 9223372036854775807) : Con Try.prog 55 [.sl 1 (L.map V.str), .sl 1 (L.map V.str)] (.v (.bool true)) := by
  refine eqC_con c55_is _ (by simpa using hl) ?_
  intro x hx; obtain ⟨s, _, rfl⟩ := List.mem_map.1 hx; exact ⟨rfl, by simp⟩

theorem con71 (p : Ps) (hp : p.ok) (l : Int) (h0 : 0 ≤ l) (hl : l ≤ 1048576) : Con Try.prog 71 [prs p, .int .i64 l] (.v (.int .i64 (szPs p l))) := by
  obtain ⟨b1, b2, b3⟩ := hp
  refine con_of c71_is fun N => ?_
  refine w_reg_seq 0 128 rfl (by simp) ?_
  refine r_f (by simp; exact ⟨rfl, rfl⟩) ?_
  refine r_p (by simp; rfl) ?_
  refine r_nil ?_
  refine w_reg_seq 128 512 rfl (by simp) ?_
  refine r_p (by simp; rfl) ?_
  refine r_p (by simp; rfl) ?_
  refine r_p (by simp; rfl) ?_
  refine r_p (by simp; rfl) ?_
  refine r_p (by simp; exact ⟨_, i_sub (by omega), rfl⟩) ?_
  refine r_p (by simp; rfl) ?_
  refine r_nil ?_
  refine w_seq ?_
  refine w_reg_seq 512 640 rfl (by simp) ?_
  refine r_p (by simp; rfl) ?_
  refine r_p (by simp; rfl) ?_
  refine r_nil ?_
  refine w_case (by simp only [↓mk_get, ↓fr_eq, ↓fr_ne]; rfl) (fun h1 => ?_) (fun h1 => ?_)
  · try simp only [decide_eq_true_eq, decide_eq_false_iff_not, Bool.not_eq_true', Bool.not_eq_false', Bool.and_eq_true, Bool.or_eq_true, Bool.or_eq_false_iff] at h1
    refine w_reg_seq 640 704 rfl (by simp) ?_
    refine r_p (by simp [h1]; rfl) ?_
    refine r_nil ?_
    refine w_ret ?_
    refine thenQ_r ?_
    refine endQ_r (by simp [h1]; rfl) (.inl ⟨_, _, by simp [h1]; first | exact ⟨rfl, rfl⟩ | rfl, by simp, by simp [szPs, *]⟩)
  · try simp only [decide_eq_true_eq, decide_eq_false_iff_not, Bool.not_eq_true', Bool.not_eq_false', Bool.and_eq_true, Bool.or_eq_true, Bool.or_eq_false_iff] at h1
    refine w_skip ?_
    refine thenQ_n ?_
    refine w_reg_seq 640 960 rfl (by simp) ?_
    refine r_p (by simp [h1]; rfl) ?_
    refine r_p (by simp [h1]; rfl) ?_
    refine r_p (by simp [h1]; rfl) ?_
    refine r_c false (con96 p.2.2 b3 b2 _ (by omega) (by omega)) c96_ok (rfl) (by simp; exact ⟨rfl, rfl⟩) ?_
    refine r_p (by simp [h1]; rfl) ?_
    refine r_nil ?_
    refine w_seq ?_
    refine w_reg_seq 960 1088 rfl (by simp) ?_
    refine r_p (by simp [h1]; rfl) ?_
    refine r_p (by simp [h1]; rfl) ?_
    refine r_nil ?_
    refine w_case (by simp only [↓mk_get, ↓fr_eq, ↓fr_ne]; rfl) (fun h2 => ?_) (fun h2 => ?_)
    · try simp only [decide_eq_true_eq, decide_eq_false_iff_not, Bool.not_eq_true', Bool.not_eq_false', Bool.and_eq_true, Bool.or_eq_true, Bool.or_eq_false_iff] at h2
      refine w_reg_seq 1088 1152 rfl (by simp) ?_
      refine r_p (by simp [h1, h2]; rfl) ?_
      refine r_nil ?_
      refine w_ret ?_
      refine thenQ_r ?_
      refine endQ_r (by simp [h1, h2]; rfl) (.inl ⟨_, _, by simp [h1, h2]; first | exact ⟨rfl, rfl⟩ | rfl, by simp, by simp [szPs, *]⟩)
    · try simp only [decide_eq_true_eq, decide_eq_false_iff_not, Bool.not_eq_true', Bool.not_eq_false', Bool.and_eq_true, Bool.or_eq_true, Bool.or_eq_false_iff] at h2
      refine w_skip ?_
      refine thenQ_n ?_
      refine w_reg_seq 1088 1216 rfl (by simp) ?_
      refine r_p (by simp [h1, h2]; rfl) ?_
      refine r_p (by simp [h1, h2]; rfl) ?_
      refine r_nil ?_
      refine w_ret ?_
      refine endQ_r (by simp [h1, h2]; rfl) (.inl ⟨_, _, by simp [h1, h2]; first | exact ⟨rfl, rfl⟩ | rfl, by simp, by simp [szPs, *]⟩)

theorem con72 (p : Ps) (hl : (p.2.2.length : Int) ≤ 1048576) : Con Try.prog 72 [prs p] (prsR p) := by
  refine con_of c72_is fun N => ?_
  refine w_reg_seq 0 128 rfl (by simp) ?_
  refine r_f (by simp; exact ⟨rfl, rfl⟩) ?_
  refine r_f (by simp; exact ⟨rfl, rfl⟩) ?_
  refine r_nil ?_
  refine w_reg_seq 128 192 rfl (by simp) ?_
  refine r_f (by simp; exact ⟨rfl, rfl⟩) ?_
  refine r_nil ?_
  refine w_reg_seq 192 448 rfl (by simp) ?_
  refine r_p (by simp; rfl) ?_
  refine r_p (by simp; rfl) ?_
  refine r_p (by simp; rfl) ?_
  refine r_f0 (by simp; exact ⟨rfl, rfl⟩) ?_
  refine r_nil ?_
  refine w_reg_seq 448 704 rfl (by simp) ?_
  refine r_p (by simp; rfl) ?_
  refine r_p (by simp; rfl) ?_
  refine r_p (by simp; rfl) ?_
  refine r_f0 (by simp; exact ⟨rfl, rfl⟩) ?_
  refine r_nil ?_
  refine w_reg_seq 704 1024 rfl (by simp) ?_
  refine r_p (by simp; rfl) ?_
  refine r_p (by simp; rfl) ?_
  refine r_c false (con97 p.2.2 hl) c97_ok (rfl) (by simp; exact ⟨rfl, rfl⟩) ?_
  refine r_p (by simp; rfl) ?_
  refine r_f0 (by simp; exact ⟨rfl, rfl⟩) ?_
  refine r_nil ?_
  refine w_reg_seq 1024 1152 rfl (by simp) ?_
  refine r_p (by simp; rfl) ?_
  refine r_f0 (by simp; exact ⟨rfl, rfl⟩) ?_
  refine r_nil ?_
  refine w_ret ?_
  refine endQ_r (by simp; rfl) (.inl ⟨_, _, by simp; first | exact ⟨rfl, rfl⟩ | rfl, by simp, by simp [List.take_of_length_le]⟩)

theorem con76 (p : Ps) (hl : (p.2.2.length : Int) ≤ 9223372036854775807) : Con Try.prog 76 [prs p, prs p] (.v (.bool true)) := by
  refine con_of c76_is fun N => ?_
  refine w_reg_seq 0 192 rfl (by simp) ?_
  refine r_f (by simp; exact ⟨rfl, rfl⟩) ?_
  refine r_f (by simp; exact ⟨rfl, rfl⟩) ?_
  refine r_p (by simp; rfl) ?_
  refine r_nil ?_
  refine w_seq ?_
  refine w_reg_seq 192 512 rfl (by simp) ?_
  refine r_p (by simp; rfl) ?_
  refine r_p (by simp; rfl) ?_
  refine r_p (by simp; rfl) ?_
  refine r_p (by simp; rfl) ?_
  refine r_p (by simp; rfl) ?_
  refine r_nil ?_
  refine w_false (by simp) ?_
  refine w_skip ?_
  refine thenQ_n ?_
  refine w_seq ?_
  refine w_reg_seq 512 832 rfl (by simp) ?_
  refine r_p (by simp; rfl) ?_
  refine r_p (by simp; rfl) ?_
  refine r_p (by simp; rfl) ?_
  refine r_p (by simp; rfl) ?_
  refine r_p (by simp; rfl) ?_
  refine r_nil ?_
  refine w_false (by simp) ?_
  refine w_skip ?_
  refine thenQ_n ?_
  refine w_seq ?_
  refine w_reg_seq 832 1216 rfl (by simp) ?_
  refine r_p (by simp; rfl) ?_
  refine r_p (by simp; rfl) ?_
  refine r_p (by simp; rfl) ?_
  refine r_p (by simp; rfl) ?_
  refine r_c false (con55 p.2.2 hl) c55_ok (rfl) (by simp; exact ⟨rfl, rfl⟩) ?_
  refine r_p (by simp; rfl) ?_
  refine r_nil ?_
  refine w_false (by simp) ?_
  refine w_skip ?_
  refine thenQ_n ?_
  refine w_reg_seq 1216 1280 rfl (by simp) ?_
  refine r_p (by simp; rfl) ?_
  refine r_nil ?_
  refine w_ret ?_
  refine endQ_r (by simp; rfl) (.inl ⟨_, _, by simp; first | exact ⟨rfl, rfl⟩ | rfl, by simp, by simp [*]⟩)

theorem con36 (A B : List Ps) (hA : (A.length : Int) ≤ 9223372036854775807) (hAA : ∀ p ∈ A, (p.2.2.length : Int) ≤ 9223372036854775807) : Con Try.prog 36 [.sl 3 (A.map prs), .sl 3 (B.map prs)] (.v (.bool (decide (A = B)))) := by
  refine con_of c36_is fun N => ?_
  refine w_reg_seq 0 64 rfl (by simp) ?_
  refine r_p (by simp; rfl) ?_
  refine r_nil ?_
  refine w_seq ?_
  refine w_reg_seq 64 384 rfl (by simp) ?_
  refine r_p (by simp; rfl) ?_
  refine r_p (by simp; rfl) ?_
  refine r_p (by simp; rfl) ?_
  refine r_p (by simp; rfl) ?_
  refine r_p (by simp; rfl) ?_
  refine r_nil ?_
  refine w_case (by simp only [↓mk_get, ↓fr_eq, ↓fr_ne]; rfl) (fun h1 => ?_) (fun h1 => ?_)
  · try simp only [decide_eq_true_eq, decide_eq_false_iff_not, Bool.not_eq_true', Bool.not_eq_false', Bool.and_eq_true, Bool.or_eq_true, Bool.or_eq_false_iff] at h1
    refine w_reg_seq 384 448 rfl (by simp) ?_
    refine r_p (by simp; rfl) ?_
    refine r_nil ?_
    refine w_ret ?_
    refine thenQ_r ?_
    refine endQ_r (by simp; rfl) (.inl ⟨_, _, by simp; first | exact ⟨rfl, rfl⟩ | rfl, by simp, by have : A ≠ B := (by rintro rfl; simp at h1); simp [this]⟩)
  · try simp only [decide_eq_true_eq, decide_eq_false_iff_not, Bool.not_eq_true', Bool.not_eq_false', Bool.and_eq_true, Bool.or_eq_true, Bool.or_eq_false_iff] at h1
    refine w_skip ?_
    refine thenQ_n ?_
    refine w_seq ?_
    refine w_reg_seq 384 448 rfl (by simp) ?_
    refine r_p (by simp; rfl) ?_
    refine r_nil ?_
    refine w_block ?_
    refine w_ren [0, 1, 5] [] 6400 (by simp; rfl) (by simp; try rfl) (by simp) (by simp) (by simp) ?_
    refine w_loop (ι := {p : Nat // p ≤ A.length ∧ A.take p = B.take p}) (fun p => mkS [(0, .val none (.sl 3 (A.map prs))), (1, .val none (.sl 3 (B.map prs))), (5, .val none (.int .i64 p.1))] (fo []) 6400) (fun p => A.length - p.1) ⟨0, by simp⟩ rfl ?_
    rintro ⟨i, ⟨hi1, hi2⟩⟩
    dsimp only at hi1 hi2 ⊢
    refine w_seq ?_
    refine w_reg_seq 6400 6656 rfl (by simp) ?_
    refine r_p (by simp; rfl) ?_
    refine r_p (by simp; rfl) ?_
    refine r_p (by simp; rfl) ?_
    refine r_p (by simp; rfl) ?_
    refine r_nil ?_
    refine w_case (by simp only [↓mk_get, ↓fr_eq, ↓fr_ne]; rfl) (fun h2 => ?_) (fun h2 => ?_)
    · try simp only [decide_eq_true_eq, decide_eq_false_iff_not, Bool.not_eq_true', Bool.not_eq_false', Bool.and_eq_true, Bool.or_eq_true, Bool.or_eq_false_iff] at h2
      refine w_skip ?_
      refine thenQ_n ?_
      refine w_seq ?_
      refine w_block ?_
      refine w_seq ?_
      refine w_reg_seq 6656 9152 rfl (by simp) ?_
      refine r_p (by simp [h2]; rfl) ?_
      refine r_p (by simp [h2]; rfl) ?_
      refine r_p (by simp [h2]; rfl) ?_
      refine r_p (by simp [h2]; rfl) ?_
      refine r_p (by simp [h2]; rfl) ?_
      have hb : i < B.length := by omega
      have hai := hAA _ (List.getElem_mem h2)
      refine r_p (by simp [h2, hb]; rfl) ?_
      refine r_p (by simp [h2, hb]; rfl) ?_
      refine r_p (by simp [h2, hb]; rfl) ?_
      refine r_p (by simp [h2, hb]; rfl) ?_
      refine r_p (by simp [h2, hb]; rfl) ?_
      refine r_p (by simp [h2, hb]; rfl) ?_
      refine r_p (by simp [h2, hb]; rfl) ?_
      refine r_case 29 (by simp only [↓fr_eq, ↓fr_ne]; rfl) (fun g3 => ?_) (fun g3 => ?_)
      · try simp only [decide_eq_true_eq, decide_eq_false_iff_not, Bool.not_eq_true', Bool.not_eq_false', Bool.and_eq_true, Bool.or_eq_true, Bool.or_eq_false_iff] at g3
        refine r_no (by simp [h2, hb, g3]) ?_
        refine r_no (by simp [h2, hb, g3]) ?_
        refine r_no (by simp [h2, hb, g3]) ?_
        refine r_no (by simp [h2, hb, g3]) ?_
        refine r_no (by simp [h2, hb, g3]) ?_
        refine r_no (by simp [h2, hb, g3]) ?_
        refine r_no (by simp [h2, hb, g3]) ?_
        refine r_no (by simp [h2, hb, g3]) ?_
        refine r_no (by simp [h2, hb, g3]) ?_
        refine r_no (by simp [h2, hb, g3]) ?_
        refine r_no (by simp [h2, hb, g3]) ?_
        refine r_p (by simp [h2, hb, g3]; rfl) ?_
        refine r_p (by simp [h2, hb, g3]; rfl) ?_
        refine r_no (by simp [h2, hb, g3]) ?_
        refine r_no (by simp [h2, hb, g3]) ?_
        refine r_no (by simp [h2, hb, g3]) ?_
        refine r_no (by simp [h2, hb, g3]) ?_
        refine r_no (by simp [h2, hb, g3]) ?_
        refine r_no (by simp [h2, hb, g3]) ?_
        refine r_no (by simp [h2, hb, g3]) ?_
        refine r_no (by simp [h2, hb, g3]) ?_
        refine r_no (by simp [h2, hb, g3]) ?_
        refine r_no (by simp [h2, hb, g3]) ?_
        refine r_no (by simp [h2, hb, g3]) ?_
        refine r_no (by simp [h2, hb, g3]) ?_
        refine r_no (by simp [h2, hb, g3]) ?_
        refine r_p (by simp [h2, hb, g3]; rfl) ?_
        refine r_nil ?_
        refine w_true (by simp [h2, hb, g3]) ?_
        refine w_reg_seq 9152 9216 rfl (by simp) ?_
        refine r_p (by simp [h2, hb, g3]; rfl) ?_
        refine r_nil ?_
        refine w_ret ?_
        refine thenQ_r ?_
        refine blockQ_r ?_
        refine thenQ_r ?_
        refine thenQ_r ?_
        refine blockQ_r ?_
        refine thenQ_r ?_
        refine endQ_r (by simp [h2, hb, g3]; rfl) (.inl ⟨_, _, by simp [h2, hb, g3]; first | exact ⟨rfl, rfl⟩ | rfl, by simp, by have : A ≠ B := (by rintro rfl; simp at g3); simp [this]⟩)
      · try simp only [decide_eq_true_eq, decide_eq_false_iff_not, Bool.not_eq_true', Bool.not_eq_false', Bool.and_eq_true, Bool.or_eq_true, Bool.or_eq_false_iff] at g3
        refine r_pg (by simp [h2, hb, g3]) (by simp [h2, hb, g3]; rfl) ?_
        refine r_pg (by simp [h2, hb, g3]) (by simp [h2, hb, g3]; rfl) ?_
        refine r_pg (by simp [h2, hb, g3]) (by simp [h2, hb, g3]; rfl) ?_
        refine r_pg (by simp [h2, hb, g3]) (by simp [h2, hb, g3]; rfl) ?_
        refine r_pg (by simp [h2, hb, g3]) (by simp [h2, hb, g3]; rfl) ?_
        refine r_pg (by simp [h2, hb, g3]) (by simp [h2, hb, g3]; rfl) ?_
        refine r_pg (by simp [h2, hb, g3]) (by simp [h2, hb, g3]; rfl) ?_
        refine r_pg (by simp [h2, hb, g3]) (by simp [h2, hb, g3]; rfl) ?_
        refine r_pg (by simp [h2, hb, g3]) (by simp [h2, hb, g3]; rfl) ?_
        refine r_pg (by simp [h2, hb, g3]) (by simp [h2, hb, g3]; rfl) ?_
        refine r_pg (by simp [h2, hb, g3]) (by simp [h2, hb, g3]; rfl) ?_
        refine r_p (by simp [h2, hb, g3]; rfl) ?_
        refine r_p (by simp [h2, hb, g3]; rfl) ?_
        refine r_case 42 (by simp only [↓fr_eq, ↓fr_ne]; rfl) (fun g4 => ?_) (fun g4 => ?_)
        · try simp only [decide_eq_true_eq, decide_eq_false_iff_not, Bool.not_eq_true', Bool.not_eq_false', Bool.and_eq_true, Bool.or_eq_true, Bool.or_eq_false_iff] at g4
          refine r_no (by simp [h2, hb, g3, g4]) ?_
          refine r_no (by simp [h2, hb, g3, g4]) ?_
          refine r_no (by simp [h2, hb, g3, g4]) ?_
          refine r_no (by simp [h2, hb, g3, g4]) ?_
          refine r_no (by simp [h2, hb, g3, g4]) ?_
          refine r_no (by simp [h2, hb, g3, g4]) ?_
          refine r_no (by simp [h2, hb, g3, g4]) ?_
          refine r_no (by simp [h2, hb, g3, g4]) ?_
          refine r_no (by simp [h2, hb, g3, g4]) ?_
          refine r_no (by simp [h2, hb, g3, g4]) ?_
          refine r_no (by simp [h2, hb, g3, g4]) ?_
          refine r_no (by simp [h2, hb, g3, g4]) ?_
          refine r_no (by simp [h2, hb, g3, g4]) ?_
          refine r_p (by simp [h2, hb, g3, g4]; rfl) ?_
          refine r_nil ?_
          refine w_true (by simp [h2, hb, g3, g4]) ?_
          refine w_reg_seq 9152 9216 rfl (by simp) ?_
          refine r_p (by simp [h2, hb, g3, g4]; rfl) ?_
          refine r_nil ?_
          refine w_ret ?_
          refine thenQ_r ?_
          refine blockQ_r ?_
          refine thenQ_r ?_
          refine thenQ_r ?_
          refine blockQ_r ?_
          refine thenQ_r ?_
          refine endQ_r (by simp [h2, hb, g3, g4]; rfl) (.inl ⟨_, _, by simp [h2, hb, g3, g4]; first | exact ⟨rfl, rfl⟩ | rfl, by simp, by have : A ≠ B := (by rintro rfl; simp at g4); simp [this]⟩)
        · try simp only [decide_eq_true_eq, decide_eq_false_iff_not, Bool.not_eq_true', Bool.not_eq_false', Bool.and_eq_true, Bool.or_eq_true, Bool.or_eq_false_iff] at g4
          refine r_pg (by simp [h2, hb, g3, g4]) (by simp [h2, hb, g3, g4]; rfl) ?_
          refine r_pg (by simp [h2, hb, g3, g4]) (by simp [h2, hb, g3, g4]; rfl) ?_
          refine r_pg (by simp [h2, hb, g3, g4]) (by simp [h2, hb, g3, g4]; rfl) ?_
          refine r_pg (by simp [h2, hb, g3, g4]) (by simp [h2, hb, g3, g4]; rfl) ?_
          refine r_pg (by simp [h2, hb, g3, g4]) (by simp [h2, hb, g3, g4]; rfl) ?_
          refine r_pg (by simp [h2, hb, g3, g4]) (by simp [h2, hb, g3, g4]; rfl) ?_
          refine r_pg (by simp [h2, hb, g3, g4]) (by simp [h2, hb, g3, g4]; rfl) ?_
          refine r_pg (by simp [h2, hb, g3, g4]) (by simp [h2, hb, g3, g4]; rfl) ?_
          refine r_pg (by simp [h2, hb, g3, g4]) (by simp [h2, hb, g3, g4]; rfl) ?_
          refine r_pg (by simp [h2, hb, g3, g4]) (by simp [h2, hb, g3, g4]; rfl) ?_
          refine r_pg (by simp [h2, hb, g3, g4]) (by simp [h2, hb, g3, g4]; rfl) ?_
          refine r_pg (by simp [h2, hb, g3, g4]) (by simp [h2, hb, g3, g4]; rfl) ?_
          refine r_pg (by simp [h2, hb, g3, g4]) (by simp [h2, hb, g3, g4]; rfl) ?_
          refine r_p (by simp [h2, hb, g3, g4]; rfl) ?_
          refine r_nil ?_
          refine w_case (by simp only [↓mk_get, ↓fr_eq, ↓fr_ne]; rfl) (fun h5 => ?_) (fun h5 => ?_)
          · try simp only [decide_eq_true_eq, decide_eq_false_iff_not, Bool.not_eq_true', Bool.not_eq_false', Bool.and_eq_true, Bool.or_eq_true, Bool.or_eq_false_iff] at h5
            refine w_reg_seq 9152 9216 rfl (by simp) ?_
            refine r_p (by simp [h2, hb, g3, g4]; rfl) ?_
            refine r_nil ?_
            refine w_ret ?_
            refine thenQ_r ?_
            refine blockQ_r ?_
            refine thenQ_r ?_
            refine thenQ_r ?_
            refine blockQ_r ?_
            refine thenQ_r ?_
            refine endQ_r (by simp [h2, hb, g3, g4]; rfl) (.inl ⟨_, _, by simp [h2, hb, g3, g4]; first | exact ⟨rfl, rfl⟩ | rfl, by simp, by have : A ≠ B := (by rintro rfl; simp at h5); simp [this]⟩)
          · try simp only [decide_eq_true_eq, decide_eq_false_iff_not, Bool.not_eq_true', Bool.not_eq_false', Bool.and_eq_true, Bool.or_eq_true, Bool.or_eq_false_iff] at h5
            refine w_skip ?_
            refine thenQ_n ?_
            refine w_reg_seq 9152 9216 rfl (by simp) ?_
            refine r_p (by simp [h2, hb, g3, g4]; rfl) ?_
            refine r_nil ?_
            refine w_block ?_
            refine w_ren [0, 1, 5, 6] [] 64000 (by simp [h2, hb, g3, g4]; rfl) (by simp; try rfl) (by simp) (by simp) (by simp) ?_
            refine w_loop (ι := {p : Nat // p ≤ A[i].2.2.length ∧ A[i].2.2.take p = B[i].2.2.take p}) (fun p => mkS [(0, .val none (.sl 3 (A.map prs))), (1, .val none (.sl 3 (B.map prs))), (5, .val none (.int .i64 i)), (6, .val none (.int .i64 p.1))] (fo []) 64000) (fun p => A[i].2.2.length - p.1) ⟨0, by simp⟩ rfl ?_
            rintro ⟨j, ⟨hj1, hj2⟩⟩
            dsimp only at hj1 hj2 ⊢
            refine w_seq ?_
            refine w_reg_seq 64000 64512 rfl (by simp) ?_
            refine r_p (by simp [h2, hb, g3, g4]; rfl) ?_
            refine r_p (by simp [h2, hb, g3, g4]; rfl) ?_
            refine r_p (by simp [h2, hb, g3, g4]; rfl) ?_
            refine r_p (by simp [h2, hb, g3, g4]; rfl) ?_
            refine r_p (by simp [h2, hb, g3, g4]; rfl) ?_
            refine r_p (by simp [h2, hb, g3, g4]; rfl) ?_
            refine r_p (by simp [h2, hb, g3, g4]; rfl) ?_
            refine r_p (by simp [h2, hb, g3, g4]; rfl) ?_
            refine r_nil ?_
            refine w_case (by simp only [↓mk_get, ↓fr_eq, ↓fr_ne]; rfl) (fun h6 => ?_) (fun h6 => ?_)
            · try simp only [decide_eq_true_eq, decide_eq_false_iff_not, Bool.not_eq_true', Bool.not_eq_false', Bool.and_eq_true, Bool.or_eq_true, Bool.or_eq_false_iff] at h6
              refine w_skip ?_
              refine thenQ_n ?_
              refine w_seq ?_
              refine w_block ?_
              refine w_reg_seq 64512 65600 rfl (by simp) ?_
              refine r_p (by simp [h2, hb, g3, g4, h6]; rfl) ?_
              refine r_p (by simp [h2, hb, g3, g4, h6]; rfl) ?_
              refine r_p (by simp [h2, hb, g3, g4, h6]; rfl) ?_
              refine r_p (by simp [h2, hb, g3, g4, h6]; rfl) ?_
              refine r_p (by simp [h2, hb, g3, g4, h6]; rfl) ?_
              have hjb : j < B[i].2.2.length := by omega
              refine r_p (by simp [h2, hb, g3, g4, h6, hjb]; rfl) ?_
              refine r_p (by simp [h2, hb, g3, g4, h6, hjb]; rfl) ?_
              refine r_p (by simp [h2, hb, g3, g4, h6, hjb]; rfl) ?_
              refine r_p (by simp [h2, hb, g3, g4, h6, hjb]; rfl) ?_
              refine r_p (by simp [h2, hb, g3, g4, h6, hjb]; rfl) ?_
              refine r_p (by simp [h2, hb, g3, g4, h6, hjb]; rfl) ?_
              refine r_p (by simp [h2, hb, g3, g4, h6, hjb]; rfl) ?_
              refine r_p (by simp [h2, hb, g3, g4, h6, hjb]; rfl) ?_
              refine r_p (by simp [h2, hb, g3, g4, h6, hjb]; rfl) ?_
              refine r_p (by simp [h2, hb, g3, g4, h6, hjb]; rfl) ?_
              refine r_p (by simp [h2, hb, g3, g4, h6, hjb]; rfl) ?_
              refine r_p (by simp [h2, hb, g3, g4, h6, hjb]; rfl) ?_
              refine r_nil ?_
              refine w_case (by simp only [↓mk_get, ↓fr_eq, ↓fr_ne]; rfl) (fun h7 => ?_) (fun h7 => ?_)
              · try simp only [decide_eq_true_eq, decide_eq_false_iff_not, Bool.not_eq_true', Bool.not_eq_false', Bool.and_eq_true, Bool.or_eq_true, Bool.or_eq_false_iff] at h7
                refine w_reg_seq 65600 65664 rfl (by simp) ?_
                refine r_p (by simp [h2, hb, g3, g4, h6, hjb, h7]; rfl) ?_
                refine r_nil ?_
                refine w_ret ?_
                refine blockQ_r ?_
                refine thenQ_r ?_
                refine thenQ_r ?_
                refine blockQ_r ?_
                refine blockQ_r ?_
                refine thenQ_r ?_
                refine thenQ_r ?_
                refine blockQ_r ?_
                refine thenQ_r ?_
                refine endQ_r (by simp [h2, hb, g3, g4, h6, hjb, h7]; rfl) (.inl ⟨_, _, by simp [h2, hb, g3, g4, h6, hjb, h7]; first | exact ⟨rfl, rfl⟩ | rfl, by simp, by have : A ≠ B := (by rintro rfl; simp at h7); simp [this]⟩)
              · try simp only [decide_eq_true_eq, decide_eq_false_iff_not, Bool.not_eq_true', Bool.not_eq_false', Bool.and_eq_true, Bool.or_eq_true, Bool.or_eq_false_iff] at h7
                refine w_skip ?_
                refine blockQ_n ?_
                refine thenQ_n ?_
                refine w_reg 65600 65792 rfl (by simp) ?_
                refine r_p (by simp [h2, hb, g3, g4, h6, hjb, h7]; rfl) ?_
                refine r_p (by simp [h2, hb, g3, g4, h6, hjb, h7]; first | exact ⟨_, i_add (by omega), rfl⟩ | exact ⟨_, s_add (by first | omega | (simp; omega)), rfl⟩) ?_
                refine r_p (by simp [h2, hb, g3, g4, h6, hjb, h7]; rfl) ?_
                refine r_nil ?_
                refine thenQ_n ?_
                refine aw_ren [0, 1, 5, 6] [] 64000 (by simp [h2, hb, g3, g4, h6, hjb, h7]; try rfl) (by simp; try rfl) (by simp) (by simp) (by simp) ⟨⟨j + 1, by have hxy : A[i].2.2[j] = B[i].2.2[j] := (by simpa using h7); exact ⟨by omega, by rw [List.take_succ_eq_append_getElem h6, List.take_succ_eq_append_getElem hjb, hj2, hxy]⟩⟩, rfl, by dsimp only; omega⟩
            · try simp only [decide_eq_true_eq, decide_eq_false_iff_not, Bool.not_eq_true', Bool.not_eq_false', Bool.and_eq_true, Bool.or_eq_true, Bool.or_eq_false_iff] at h6
              refine w_exit ?_
              refine thenQ_e ?_
              refine thenQ_e ?_
              refine blockQ_e ?_
              refine blockQ_n ?_
              refine thenQ_n ?_
              refine w_reg 64512 64704 rfl (by simp) ?_
              refine r_p (by simp [h2, hb, g3, g4, h6]; rfl) ?_
              refine r_p (by simp [h2, hb, g3, g4, h6]; first | exact ⟨_, i_add (by omega), rfl⟩ | exact ⟨_, s_add (by first | omega | (simp; omega)), rfl⟩) ?_
              refine r_p (by simp [h2, hb, g3, g4, h6]; rfl) ?_
              refine r_nil ?_
              refine thenQ_n ?_
              refine aw_ren [0, 1, 5] [] 6400 (by simp [h2, hb, g3, g4, h6]; try rfl) (by simp; try rfl) (by simp) (by simp) (by simp) ⟨⟨i + 1, by have hts : A[i].2.2 = B[i].2.2 := (by rw [List.take_of_length_le (by omega), List.take_of_length_le (by omega)] at hj2; exact hj2); have hab : A[i] = B[i] := Prod.ext g3 (Prod.ext g4 hts); exact ⟨by omega, by rw [List.take_succ_eq_append_getElem h2, List.take_succ_eq_append_getElem hb, hi2, hab]⟩⟩, rfl, by dsimp only; omega⟩
    · try simp only [decide_eq_true_eq, decide_eq_false_iff_not, Bool.not_eq_true', Bool.not_eq_false', Bool.and_eq_true, Bool.or_eq_true, Bool.or_eq_false_iff] at h2
      refine w_exit ?_
      refine thenQ_e ?_
      refine thenQ_e ?_
      refine blockQ_e ?_
      refine thenQ_n ?_
      refine w_reg_seq 6656 6720 rfl (by simp) ?_
      refine r_p (by simp [h2]; rfl) ?_
      refine r_nil ?_
      refine w_ret ?_
      refine endQ_r (by simp [h2]; rfl) (.inl ⟨_, _, by simp [h2]; first | exact ⟨rfl, rfl⟩ | rfl, by simp, by have e : A = B := (by have := hi2; rw [List.take_of_length_le (by omega), List.take_of_length_le (by omega)] at this; exact this); simp [e]⟩)

theorem con75 (A B : List (List UInt8)) (hA : (A.length : Int) ≤ 9223372036854775807) : Con Try.prog 75 [.sl 1 (A.map V.str), .sl 1 (B.map V.str)] (.v (.bool (decide (A = B)))) := by
  refine con_of c75_is fun N => ?_
  refine w_reg_seq 0 64 rfl (by simp) ?_
  refine r_p (by simp; rfl) ?_
  refine r_nil ?_
  refine w_seq ?_
  refine w_reg_seq 64 384 rfl (by simp) ?_
  refine r_p (by simp; rfl) ?_
  refine r_p (by simp; rfl) ?_
  refine r_p (by simp; rfl) ?_
  refine r_p (by simp; rfl) ?_
  refine r_p (by simp; rfl) ?_
  refine r_nil ?_
  refine w_case (by simp only [↓mk_get, ↓fr_eq, ↓fr_ne]; rfl) (fun h1 => ?_) (fun h1 => ?_)
  · try simp only [decide_eq_true_eq, decide_eq_false_iff_not, Bool.not_eq_true', Bool.not_eq_false', Bool.and_eq_true, Bool.or_eq_true, Bool.or_eq_false_iff] at h1
    refine w_reg_seq 384 448 rfl (by simp) ?_
    refine r_p (by simp; rfl) ?_
    refine r_nil ?_
    refine w_ret ?_
    refine thenQ_r ?_
    refine endQ_r (by simp; rfl) (.inl ⟨_, _, by simp; first | exact ⟨rfl, rfl⟩ | rfl, by simp, by have : A ≠ B := (by rintro rfl; simp at h1); simp [this]⟩)
  · try simp only [decide_eq_true_eq, decide_eq_false_iff_not, Bool.not_eq_true', Bool.not_eq_false', Bool.and_eq_true, Bool.or_eq_true, Bool.or_eq_false_iff] at h1
    refine w_skip ?_
    refine thenQ_n ?_
    refine w_seq ?_
    refine w_reg_seq 384 576 rfl (by simp) ?_
    refine r_p (by simp; rfl) ?_
    refine r_p (by simp; rfl) ?_
    refine r_p (by simp; rfl) ?_
    refine r_nil ?_
    refine w_block ?_
    refine w_ren [0, 1, 12, 13] [] 6400 (by simp; rfl) (by simp; try rfl) (by simp) (by simp) (by simp) ?_
    refine w_loop (ι := {p : Nat // p ≤ A.length ∧ A.take p = B.take p}) (fun p => mkS [(0, .val none (.sl 1 (A.map V.str))), (1, .val none (.sl 1 (B.map V.str))), (12, .val none (.int .i64 A.length)), (13, .val none (.int .i64 p.1))] (fo []) 6400) (fun p => A.length - p.1) ⟨0, by simp⟩ rfl ?_
    rintro ⟨i, ⟨hi1, hi2⟩⟩
    dsimp only at hi1 hi2 ⊢
    refine w_reg_seq 6400 6464 rfl (by simp) ?_
    refine r_p (by simp; rfl) ?_
    refine r_nil ?_
    refine w_seq ?_
    refine w_case (by simp only [↓mk_get, ↓fr_eq, ↓fr_ne]; rfl) (fun h2 => ?_) (fun h2 => ?_)
    · try simp only [decide_eq_true_eq, decide_eq_false_iff_not, Bool.not_eq_true', Bool.not_eq_false', Bool.and_eq_true, Bool.or_eq_true, Bool.or_eq_false_iff] at h2
      refine w_skip ?_
      refine thenQ_n ?_
      refine w_seq ?_
      refine w_block ?_
      refine w_reg_seq 6464 6592 rfl (by simp) ?_
      refine r_p (by simp [h2]; rfl) ?_
      refine r_p (by simp [h2]; rfl) ?_
      refine r_nil ?_
      refine w_reg_seq 6592 7168 rfl (by simp) ?_
      refine r_p (by simp [h2]; rfl) ?_
      refine r_p (by simp [h2]; rfl) ?_
      refine r_p (by simp [h2]; rfl) ?_
      refine r_p (by simp [h2]; rfl) ?_
      refine r_p (by simp [h2]; rfl) ?_
      have hb : i < B.length := by omega
      refine r_p (by simp [h2, hb]; rfl) ?_
      refine r_p (by simp [h2, hb]; rfl) ?_
      refine r_p (by simp [h2, hb]; rfl) ?_
      refine r_p (by simp [h2, hb]; rfl) ?_
      refine r_nil ?_
      refine w_case (by simp only [↓mk_get, ↓fr_eq, ↓fr_ne]; rfl) (fun h3 => ?_) (fun h3 => ?_)
      · try simp only [decide_eq_true_eq, decide_eq_false_iff_not, Bool.not_eq_true', Bool.not_eq_false', Bool.and_eq_true, Bool.or_eq_true, Bool.or_eq_false_iff] at h3
        refine w_reg_seq 7168 7232 rfl (by simp) ?_
        refine r_p (by simp [h2, hb, h3]; rfl) ?_
        refine r_nil ?_
        refine w_ret ?_
        refine blockQ_r ?_
        refine thenQ_r ?_
        refine thenQ_r ?_
        refine blockQ_r ?_
        refine thenQ_r ?_
        refine endQ_r (by simp [h2, hb, h3]; rfl) (.inl ⟨_, _, by simp [h2, hb, h3]; first | exact ⟨rfl, rfl⟩ | rfl, by simp, by have : A ≠ B := (by rintro rfl; simp at h3); simp [this]⟩)
      · try simp only [decide_eq_true_eq, decide_eq_false_iff_not, Bool.not_eq_true', Bool.not_eq_false', Bool.and_eq_true, Bool.or_eq_true, Bool.or_eq_false_iff] at h3
        refine w_skip ?_
        refine blockQ_n ?_
        refine thenQ_n ?_
        refine w_reg 7168 7296 rfl (by simp) ?_
        refine r_p (by simp [h2, hb, h3]; first | exact ⟨_, i_add (by omega), rfl⟩ | exact ⟨_, s_add (by first | omega | (simp; omega)), rfl⟩) ?_
        refine r_p (by simp [h2, hb, h3]; rfl) ?_
        refine r_nil ?_
        refine thenQ_n ?_
        refine aw_ren [0, 1, 12, 13] [] 6400 (by simp [h2, hb, h3]; try rfl) (by simp; try rfl) (by simp) (by simp) (by simp) ⟨⟨i + 1, by have hab : A[i] = B[i] := (by simpa using h3); exact ⟨by omega, by rw [List.take_succ_eq_append_getElem h2, List.take_succ_eq_append_getElem hb, hi2, hab]⟩⟩, rfl, by dsimp only; omega⟩
    · try simp only [decide_eq_true_eq, decide_eq_false_iff_not, Bool.not_eq_true', Bool.not_eq_false', Bool.and_eq_true, Bool.or_eq_true, Bool.or_eq_false_iff] at h2
      refine w_exit ?_
      refine thenQ_e ?_
      refine thenQ_e ?_
      refine blockQ_e ?_
      refine thenQ_n ?_
      refine w_reg_seq 6464 6528 rfl (by simp) ?_
      refine r_p (by simp [h2]; rfl) ?_
      refine r_nil ?_
      refine w_ret ?_
      refine endQ_r (by simp [h2]; rfl) (.inl ⟨_, _, by simp [h2]; first | exact ⟨rfl, rfl⟩ | rfl, by simp, by have e : A = B := (by have := hi2; rw [List.take_of_length_le (by omega), List.take_of_length_le (by omega)] at this; exact this); simp [e]⟩)

theorem con74 (p q : Ps) (hp : (p.2.2.length : Int) ≤ 9223372036854775807) : Con Try.prog 74 [prs p, prs q] (.v (.bool (decide (p = q)))) := by
  refine con_of c74_is fun N => ?_
  refine w_reg_seq 0 192 rfl (by simp) ?_
  refine r_f (by simp; exact ⟨rfl, rfl⟩) ?_
  refine r_f (by simp; exact ⟨rfl, rfl⟩) ?_
  refine r_p (by simp; rfl) ?_
  refine r_nil ?_
  refine w_reg_seq 192 1472 rfl (by simp) ?_
  refine r_p (by simp; rfl) ?_
  refine r_p (by simp; rfl) ?_
  refine r_p (by simp; rfl) ?_
  refine r_p (by simp; rfl) ?_
  refine r_p (by simp; rfl) ?_
  refine r_p (by simp; rfl) ?_
  refine r_case 10 (by simp only [↓fr_eq, ↓fr_ne]; rfl) (fun g1 => ?_) (fun g1 => ?_)
  · try simp only [decide_eq_true_eq, decide_eq_false_iff_not, Bool.not_eq_true', Bool.not_eq_false', Bool.and_eq_true, Bool.or_eq_true, Bool.or_eq_false_iff] at g1
    refine r_pg (by simp [g1]) (by simp [g1]; rfl) ?_
    refine r_pg (by simp [g1]) (by simp [g1]; rfl) ?_
    refine r_pg (by simp [g1]) (by simp [g1]; rfl) ?_
    refine r_pg (by simp [g1]) (by simp [g1]; rfl) ?_
    refine r_pg (by simp [g1]) (by simp [g1]; rfl) ?_
    refine r_p (by simp [g1]; rfl) ?_
    refine r_p (by simp [g1]; rfl) ?_
    refine r_case 17 (by simp only [↓fr_eq, ↓fr_ne]; rfl) (fun g2 => ?_) (fun g2 => ?_)
    · try simp only [decide_eq_true_eq, decide_eq_false_iff_not, Bool.not_eq_true', Bool.not_eq_false', Bool.and_eq_true, Bool.or_eq_true, Bool.or_eq_false_iff] at g2
      refine r_pg (by simp [g1, g2]) (by simp [g1, g2]; rfl) ?_
      refine r_pg (by simp [g1, g2]) (by simp [g1, g2]; rfl) ?_
      refine r_pg (by simp [g1, g2]) (by simp [g1, g2]; rfl) ?_
      refine r_pg (by simp [g1, g2]) (by simp [g1, g2]; rfl) ?_
      refine r_cg false (by simp [g1, g2]) (con75 p.2.2 q.2.2 hp) c75_ok (rfl) (by simp; exact ⟨rfl, rfl⟩) ?_
      refine r_p (by simp [g1, g2]; rfl) ?_
      refine r_p (by simp [g1, g2]; rfl) ?_
      refine r_nil ?_
      refine w_ret ?_
      refine endQ_r (by simp [g1, g2]; rfl) (.inl ⟨_, _, by simp [g1, g2]; first | exact ⟨rfl, rfl⟩ | rfl, by simp, by simp [Prod.ext_iff, *]⟩)
    · try simp only [decide_eq_true_eq, decide_eq_false_iff_not, Bool.not_eq_true', Bool.not_eq_false', Bool.and_eq_true, Bool.or_eq_true, Bool.or_eq_false_iff] at g2
      refine r_no (by simp [g1, g2]) ?_
      refine r_no (by simp [g1, g2]) ?_
      refine r_no (by simp [g1, g2]) ?_
      refine r_no (by simp [g1, g2]) ?_
      refine r_no (by simp [g1, g2]) ?_
      refine r_p (by simp [g1, g2]; rfl) ?_
      refine r_p (by simp [g1, g2]; rfl) ?_
      refine r_nil ?_
      refine w_ret ?_
      refine endQ_r (by simp [g1, g2]; rfl) (.inl ⟨_, _, by simp [g1, g2]; first | exact ⟨rfl, rfl⟩ | rfl, by simp, by simp [Prod.ext_iff, *]⟩)
  · try simp only [decide_eq_true_eq, decide_eq_false_iff_not, Bool.not_eq_true', Bool.not_eq_false', Bool.and_eq_true, Bool.or_eq_true, Bool.or_eq_false_iff] at g1
    refine r_no (by simp [g1]) ?_
    refine r_no (by simp [g1]) ?_
    refine r_no (by simp [g1]) ?_
    refine r_no (by simp [g1]) ?_
    refine r_no (by simp [g1]) ?_
    refine r_p (by simp [g1]; rfl) ?_
    refine r_p (by simp [g1]; rfl) ?_
    refine r_no (by simp [g1]) ?_
    refine r_no (by simp [g1]) ?_
    refine r_no (by simp [g1]) ?_
    refine r_no (by simp [g1]) ?_
    refine r_no (by simp [g1]) ?_
    refine r_p (by simp [g1]; rfl) ?_
    refine r_p (by simp [g1]; rfl) ?_
    refine r_nil ?_
    refine w_ret ?_
    refine endQ_r (by simp [g1]; rfl) (.inl ⟨_, _, by simp [g1]; first | exact ⟨rfl, rfl⟩ | rfl, by simp, by simp [Prod.ext_iff, *]⟩)

theorem con73 (A B : List Ps) (hA : (A.length : Int) ≤ 9223372036854775807) (hAA : ∀ p ∈ A, (p.2.2.length : Int) ≤ 9223372036854775807) : Con Try.prog 73 [.sl 3 (A.map prs), .sl 3 (B.map prs), .fn 74 []] (.v (.bool (decide (A = B)))) := by
  refine con_of c73_is fun N => ?_
  refine w_reg_seq 0 64 rfl (by simp) ?_
  refine r_p (by simp; rfl) ?_
  refine r_nil ?_
  refine w_seq ?_
  refine w_reg_seq 64 384 rfl (by simp) ?_
  refine r_p (by simp; rfl) ?_
  refine r_p (by simp; rfl) ?_
  refine r_p (by simp; rfl) ?_
  refine r_p (by simp; rfl) ?_
  refine r_p (by simp; rfl) ?_
  refine r_nil ?_
  refine w_case (by simp only [↓mk_get, ↓fr_eq, ↓fr_ne]; rfl) (fun h1 => ?_) (fun h1 => ?_)
  · try simp only [decide_eq_true_eq, decide_eq_false_iff_not, Bool.not_eq_true', Bool.not_eq_false', Bool.and_eq_true, Bool.or_eq_true, Bool.or_eq_false_iff] at h1
    refine w_reg_seq 384 448 rfl (by simp) ?_
    refine r_p (by simp; rfl) ?_
    refine r_nil ?_
    refine w_ret ?_
    refine thenQ_r ?_
    refine endQ_r (by simp; rfl) (.inl ⟨_, _, by simp; first | exact ⟨rfl, rfl⟩ | rfl, by simp, by have : A ≠ B := (by rintro rfl; simp at h1); simp [this]⟩)
  · try simp only [decide_eq_true_eq, decide_eq_false_iff_not, Bool.not_eq_true', Bool.not_eq_false', Bool.and_eq_true, Bool.or_eq_true, Bool.or_eq_false_iff] at h1
    refine w_skip ?_
    refine thenQ_n ?_
    refine w_seq ?_
    refine w_reg_seq 384 576 rfl (by simp) ?_
    refine r_p (by simp; rfl) ?_
    refine r_p (by simp; rfl) ?_
    refine r_p (by simp; rfl) ?_
    refine r_nil ?_
    refine w_block ?_
    refine w_ren [0, 1, 2, 15, 16, 17] [] 6400 (by simp; rfl) (by simp; try rfl) (by simp) (by simp) (by simp) ?_
    refine w_loop (ι := {p : Nat // p ≤ A.length ∧ A.take p = B.take p}) (fun p => mkS [(0, .val none (.sl 3 (A.map prs))), (1, .val none (.sl 3 (B.map prs))), (2, .val none (.fn 74 [])), (15, .val none (.sl 3 (A.map prs))), (16, .val none (.int .i64 A.length)), (17, .val none (.int .i64 p.1))] (fo []) 6400) (fun p => A.length - p.1) ⟨0, by simp⟩ rfl ?_
    rintro ⟨i, ⟨hi1, hi2⟩⟩
    dsimp only at hi1 hi2 ⊢
    refine w_reg_seq 6400 6464 rfl (by simp) ?_
    refine r_p (by simp; rfl) ?_
    refine r_nil ?_
    refine w_seq ?_
    refine w_case (by simp only [↓mk_get, ↓fr_eq, ↓fr_ne]; rfl) (fun h2 => ?_) (fun h2 => ?_)
    · try simp only [decide_eq_true_eq, decide_eq_false_iff_not, Bool.not_eq_true', Bool.not_eq_false', Bool.and_eq_true, Bool.or_eq_true, Bool.or_eq_false_iff] at h2
      refine w_skip ?_
      refine thenQ_n ?_
      refine w_seq ?_
      refine w_block ?_
      refine w_reg_seq 6464 6848 rfl (by simp) ?_
      refine r_p (by simp [h2]; rfl) ?_
      have hb : i < B.length := by omega
      have hai := hAA _ (List.getElem_mem h2)
      refine r_p (by simp [h2, hb]; rfl) ?_
      refine r_p (by simp [h2, hb]; rfl) ?_
      refine r_f (by simp [h2, hb]; exact ⟨rfl, rfl⟩) ?_
      refine r_p (by simp [h2, hb]; rfl) ?_
      refine r_f0 (by simp [h2, hb]; exact ⟨rfl, rfl⟩) ?_
      refine r_nil ?_
      refine w_reg_seq 6848 7232 rfl (by simp) ?_
      refine r_p (by simp [h2, hb]; rfl) ?_
      refine r_p (by simp [h2, hb]; rfl) ?_
      refine r_p (by simp [h2, hb]; rfl) ?_
      refine r_p (by simp [h2, hb]; rfl) ?_
      refine r_f (by simp [h2, hb]; exact ⟨rfl, rfl⟩) ?_
      refine r_f0 (by simp [h2, hb]; exact ⟨rfl, rfl⟩) ?_
      refine r_nil ?_
      refine w_reg_seq 7232 7552 rfl (by simp) ?_
      refine r_p (by simp [h2, hb]; rfl) ?_
      refine r_p (by simp [h2, hb]; rfl) ?_
      refine r_p (by simp [h2, hb]; rfl) ?_
      refine r_cv false (by simp; first | exact ⟨rfl, rfl⟩ | rfl) (con74 A[i] B[i] hai) c74_ok (rfl) (by simp; exact ⟨rfl, rfl⟩) ?_
      refine r_p (by simp [h2, hb]; rfl) ?_
      refine r_nil ?_
      refine w_case (by simp only [↓mk_get, ↓fr_eq, ↓fr_ne]; rfl) (fun h3 => ?_) (fun h3 => ?_)
      · try simp only [decide_eq_true_eq, decide_eq_false_iff_not, Bool.not_eq_true', Bool.not_eq_false', Bool.and_eq_true, Bool.or_eq_true, Bool.or_eq_false_iff] at h3
        refine w_reg_seq 7552 7616 rfl (by simp) ?_
        refine r_p (by simp [h2, hb, h3]; rfl) ?_
        refine r_nil ?_
        refine w_ret ?_
        refine blockQ_r ?_
        refine thenQ_r ?_
        refine thenQ_r ?_
        refine blockQ_r ?_
        refine thenQ_r ?_
        refine endQ_r (by simp [h2, hb, h3]; rfl) (.inl ⟨_, _, by simp [h2, hb, h3]; first | exact ⟨rfl, rfl⟩ | rfl, by simp, by have : A ≠ B := (by rintro rfl; simp at h3); simp [this]⟩)
      · try simp only [decide_eq_true_eq, decide_eq_false_iff_not, Bool.not_eq_true', Bool.not_eq_false', Bool.and_eq_true, Bool.or_eq_true, Bool.or_eq_false_iff] at h3
        refine w_skip ?_
        refine blockQ_n ?_
        refine thenQ_n ?_
        refine w_reg 7552 7680 rfl (by simp) ?_
        refine r_p (by simp [h2, hb, h3]; first | exact ⟨_, i_add (by omega), rfl⟩ | exact ⟨_, s_add (by first | omega | (simp; omega)), rfl⟩) ?_
        refine r_p (by simp [h2, hb, h3]; rfl) ?_
        refine r_nil ?_
        refine thenQ_n ?_
        refine aw_ren [0, 1, 2, 15, 16, 17] [] 6400 (by simp [h2, hb, h3]; try rfl) (by simp; try rfl) (by simp) (by simp) (by simp) ⟨⟨i + 1, by exact ⟨by omega, by rw [List.take_succ_eq_append_getElem h2, List.take_succ_eq_append_getElem hb, hi2, h3]⟩⟩, rfl, by dsimp only; omega⟩
    · try simp only [decide_eq_true_eq, decide_eq_false_iff_not, Bool.not_eq_true', Bool.not_eq_false', Bool.and_eq_true, Bool.or_eq_true, Bool.or_eq_false_iff] at h2
      refine w_exit ?_
      refine thenQ_e ?_
      refine thenQ_e ?_
      refine blockQ_e ?_
      refine thenQ_n ?_
      refine w_reg_seq 6464 6528 rfl (by simp) ?_
      refine r_p (by simp [h2]; rfl) ?_
      refine r_nil ?_
      refine w_ret ?_
      refine endQ_r (by simp [h2]; rfl) (.inl ⟨_, _, by simp [h2]; first | exact ⟨rfl, rfl⟩ | rfl, by simp, by have e : A = B := (by have := hi2; rw [List.take_of_length_le (by omega), List.take_of_length_le (by omega)] at this; exact this); simp [e]⟩)

theorem con38 (A B : List Ps) (hA : (A.length : Int) ≤ 9223372036854775807) (hAA : ∀ p ∈ A, (p.2.2.length : Int) ≤ 9223372036854775807) : Con Try.prog 38 [.sl 3 (A.map prs), .sl 3 (B.map prs)] (.v (.bool (decide (A = B)))) := by
  refine con_of c38_is fun N => ?_
  refine w_reg_seq 0 64 rfl (by simp) ?_
  refine r_p (by simp; rfl) ?_
  refine r_nil ?_
  refine w_reg_seq 64 320 rfl (by simp) ?_
  refine r_p (by simp; rfl) ?_
  refine r_p (by simp; rfl) ?_
  refine r_c false (con73 A B hA hAA) c73_ok (rfl) (by simp; exact ⟨rfl, rfl⟩) ?_
  refine r_p (by simp; rfl) ?_
  refine r_nil ?_
  refine w_ret ?_
  refine endQ_r (by simp; rfl) (.inl ⟨_, _, by simp; first | exact ⟨rfl, rfl⟩ | rfl, by simp, by simp [*]⟩)

theorem szP_le (A : List Ps) : ∀ x ∈ A.map prs, ∀ l, 0 ≤ l → szP x l ≤ l := by
  intro x hx l h; obtain ⟨p, hp, rfl⟩ := List.mem_map.1 hx; rw [szP_prs]; exact szPs_le h
theorem con35 (A : List Ps) (hA : ∀ p ∈ A, p.ok) (hl : A.length ≤ 9223372036854775807) (l : Int) (h0 : 0 ≤ l) (hB : l ≤ 1048576) : Con Try.prog 35 [.sl 3 (A.map prs), .int .i64 l] (.v (.int .i64 (szS szP (A.map prs) l))) := by
  refine szS_con c35_is c71_ok szP (A.map prs) l h0 hB (by simpa using hl) ?_ (szP_le A) ?_
  · intro x hx; obtain ⟨p, hp, rfl⟩ := List.mem_map.1 hx; rfl
  · intro x hx l h1 h2; obtain ⟨p, hp, rfl⟩ := List.mem_map.1 hx; rw [szP_prs]; exact con71 p (hA p hp) l h1 h2
/-- What the size tells. -/
structure Small (A : List Ps) : Prop where
  len : (A.length : Int) ≤ 1048576
  each : ∀ p ∈ A, (p.2.2.length : Int) ≤ 1048576
theorem small_of {A : List Ps} {l : Int} (hl : l ≤ 1048576) (h : ¬ szS szP (A.map prs) l < 0) : Small A := by
  refine ⟨?_, ?_⟩
  · have := szS_len h
    rw [List.length_map] at this
    omega
  · intro p hp
    obtain ⟨m, m1, m2, m3⟩ := szS_mem (szP_le A) h (prs p) (List.mem_map_of_mem hp)
    rw [szP_prs] at m3
    unfold szPs at m3
    split at m3
    · omega
    · split at m3
      · omega
      · rename_i h4
        have := szStrS_len h4
        omega
def resP : V → RV
  | .agg [.str a, .int k b, .sl z c] => .one (.agg [.val (.str a), .val (.int k b), .row true z c])
  | _ => .v (.bool true)
theorem con37 (A : List Ps) (h : Small A) : Con Try.prog 37 [.sl 3 (A.map prs)] (.r true 3 (A.map prs)) := by
  have hl := h.len
  refine toS_con2 c37_is c72_ok (A.map prs) (by simp; omega) (by simp; omega) ?_ resP ?_ ?_
  · intro x hx; obtain ⟨p, hp, rfl⟩ := List.mem_map.1 hx; exact ⟨rfl, rfl, rfl⟩
  · intro x hx; obtain ⟨p, hp, rfl⟩ := List.mem_map.1 hx
    exact ⟨rfl, fun M => ⟨_, _, _, by simp [resP]; exact ⟨rfl, rfl⟩, by simp [List.take_of_length_le]; rfl, by simp, by simp⟩⟩
  · intro x hx; obtain ⟨p, hp, rfl⟩ := List.mem_map.1 hx; exact con72 p (h.each p hp)
theorem con39 (A : List Ps) (h : Small A) : Con Try.prog 39 [.sl 3 (A.map prs), .sl 3 (A.map prs)] (.v (.bool true)) := by
  have hl := h.len
  refine eqS_con c39_is c76_ok (A.map prs) (by simp; omega) ?_ ?_
  · intro x hx; obtain ⟨p, hp, rfl⟩ := List.mem_map.1 hx; rfl
  · intro x hx; obtain ⟨p, hp, rfl⟩ := List.mem_map.1 hx; exact con76 p (by have := h.each p hp; omega)

theorem con7 (A B : List Ps) (hA : ∀ b ∈ A, b.ok) (hB : ∀ b ∈ B, b.ok) (hlA : A.length ≤ 9223372036854775807) (hlB : B.length ≤ 9223372036854775807) : Con Try.prog 7 [.sl 3 (A.map prs), .sl 3 (B.map prs)] (.v (.bool true)) := by
  refine con_of c7_is fun N => ?_
  refine w_reg_seq 0 64 rfl (by simp) ?_
  refine r_p (by simp; rfl) ?_
  refine r_nil ?_
  refine w_reg_seq 64 128 rfl (by simp) ?_
  refine r_p (by simp; rfl) ?_
  refine r_nil ?_
  refine w_reg_seq 128 384 rfl (by simp) ?_
  refine r_p (by simp; rfl) ?_
  refine r_p (by simp; rfl) ?_
  refine r_c false (con35 A hA hlA _ (by omega) (by omega)) c35_ok (rfl) (by simp; exact ⟨rfl, rfl⟩) ?_
  refine r_p (by simp; rfl) ?_
  refine r_nil ?_
  refine w_seq ?_
  refine w_reg_seq 384 512 rfl (by simp) ?_
  refine r_p (by simp; rfl) ?_
  refine r_p (by simp; rfl) ?_
  refine r_nil ?_
  refine w_case (by simp only [↓mk_get, ↓fr_eq, ↓fr_ne]; rfl) (fun h1 => ?_) (fun h1 => ?_)
  · try simp only [decide_eq_true_eq, decide_eq_false_iff_not, Bool.not_eq_true', Bool.not_eq_false', Bool.and_eq_true, Bool.or_eq_true, Bool.or_eq_false_iff] at h1
    refine w_reg_seq 512 576 rfl (by simp) ?_
    refine r_p (by simp [h1]; rfl) ?_
    refine r_nil ?_
    refine w_ret ?_
    refine thenQ_r ?_
    refine endQ_r (by simp [h1]; rfl) (.inl ⟨_, _, by simp [h1]; first | exact ⟨rfl, rfl⟩ | rfl, by simp, by simp [*]⟩)
  · try simp only [decide_eq_true_eq, decide_eq_false_iff_not, Bool.not_eq_true', Bool.not_eq_false', Bool.and_eq_true, Bool.or_eq_true, Bool.or_eq_false_iff] at h1
    refine w_skip ?_
    refine thenQ_n ?_
    refine w_reg_seq 512 768 rfl (by simp) ?_
    refine r_p (by simp [h1]; rfl) ?_
    refine r_p (by simp [h1]; rfl) ?_
    refine r_c false (con35 B hB hlB _ (by omega) (szS_le (szP_le A) (by omega))) c35_ok (rfl) (by simp; exact ⟨rfl, rfl⟩) ?_
    refine r_p (by simp [h1]; rfl) ?_
    refine r_nil ?_
    refine w_seq ?_
    refine w_reg_seq 768 896 rfl (by simp) ?_
    refine r_p (by simp [h1]; rfl) ?_
    refine r_p (by simp [h1]; rfl) ?_
    refine r_nil ?_
    refine w_case (by simp only [↓mk_get, ↓fr_eq, ↓fr_ne]; rfl) (fun h2 => ?_) (fun h2 => ?_)
    · try simp only [decide_eq_true_eq, decide_eq_false_iff_not, Bool.not_eq_true', Bool.not_eq_false', Bool.and_eq_true, Bool.or_eq_true, Bool.or_eq_false_iff] at h2
      refine w_reg_seq 896 960 rfl (by simp) ?_
      refine r_p (by simp [h1, h2]; rfl) ?_
      refine r_nil ?_
      refine w_ret ?_
      refine thenQ_r ?_
      refine endQ_r (by simp [h1, h2]; rfl) (.inl ⟨_, _, by simp [h1, h2]; first | exact ⟨rfl, rfl⟩ | rfl, by simp, by simp [*]⟩)
    · try simp only [decide_eq_true_eq, decide_eq_false_iff_not, Bool.not_eq_true', Bool.not_eq_false', Bool.and_eq_true, Bool.or_eq_true, Bool.or_eq_false_iff] at h2
      refine w_skip ?_
      refine thenQ_n ?_
      refine w_reg_seq 896 1280 rfl (by simp) ?_
      refine r_p (by simp [h1, h2]; rfl) ?_
      refine r_c false (con37 A (small_of (by omega) h1)) c37_ok (rfl) (by simp; exact ⟨rfl, rfl⟩) ?_
      refine r_p (by simp [h1, h2]; rfl) ?_
      refine r_c false (con37 B (small_of (szS_le (szP_le A) (by omega)) h2)) c37_ok (rfl) (by simp; exact ⟨rfl, rfl⟩) ?_
      refine r_c true (con36 A B (by have := (small_of (A := A) (by omega) h1).len; omega) (fun p hp => by have := (small_of (A := A) (by omega) h1).each p hp; omega)) c36_ok (by simp [List.take_of_length_le]) (by simp; exact ⟨rfl, rfl⟩) ?_
      refine r_p (by simp [h1, h2]; rfl) ?_
      refine r_nil ?_
      refine w_reg_seq 1280 1472 rfl (by simp) ?_
      refine r_p (by simp [h1, h2]; rfl) ?_
      refine r_c false (con37 A (small_of (by omega) h1)) c37_ok (rfl) (by simp; exact ⟨rfl, rfl⟩) ?_
      refine r_p (by simp [h1, h2]; rfl) ?_
      refine r_nil ?_
      refine w_reg_seq 1472 1664 rfl (by simp) ?_
      refine r_p (by simp [h1, h2]; rfl) ?_
      refine r_c false (con37 B (small_of (szS_le (szP_le A) (by omega)) h2)) c37_ok (rfl) (by simp; exact ⟨rfl, rfl⟩) ?_
      refine r_p (by simp [h1, h2]; rfl) ?_
      refine r_nil ?_
      refine w_reg_seq 1664 1920 rfl (by simp) ?_
      refine r_p (by simp [h1, h2]; rfl) ?_
      refine r_p (by simp [h1, h2]; rfl) ?_
      refine r_c true (con38 A B (by have := (small_of (A := A) (by omega) h1).len; omega) (fun p hp => by have := (small_of (A := A) (by omega) h1).each p hp; omega)) c38_ok (by simp [List.take_of_length_le]) (by simp; exact ⟨rfl, rfl⟩) ?_
      refine r_p (by simp [h1, h2]; rfl) ?_
      refine r_nil ?_
      refine w_seq ?_
      refine w_reg_seq 1920 2112 rfl (by simp) ?_
      refine r_p (by simp [h1, h2]; rfl) ?_
      refine r_p (by simp [h1, h2]; rfl) ?_
      refine r_p (by simp [h1, h2]; rfl) ?_
      refine r_nil ?_
      refine w_false (by simp [h1, h2]) ?_
      refine w_skip ?_
      refine thenQ_n ?_
      refine w_seq ?_
      refine w_reg_seq 2112 2432 rfl (by simp) ?_
      refine r_p (by simp [h1, h2]; rfl) ?_
      refine r_p (by simp [h1, h2]; rfl) ?_
      refine r_c false (con37 A (small_of (by omega) h1)) c37_ok (rfl) (by simp; exact ⟨rfl, rfl⟩) ?_
      refine r_c true (con39 A (small_of (by omega) h1)) c39_ok (by simp [List.take_of_length_le]) (by simp; exact ⟨rfl, rfl⟩) ?_
      refine r_p (by simp [h1, h2]; rfl) ?_
      refine r_nil ?_
      refine w_false (by simp [h1, h2]) ?_
      refine w_skip ?_
      refine thenQ_n ?_
      refine w_seq ?_
      refine w_reg_seq 2432 2752 rfl (by simp) ?_
      refine r_p (by simp [h1, h2]; rfl) ?_
      refine r_p (by simp [h1, h2]; rfl) ?_
      refine r_c false (con37 B (small_of (szS_le (szP_le A) (by omega)) h2)) c37_ok (rfl) (by simp; exact ⟨rfl, rfl⟩) ?_
      refine r_c true (con39 B (small_of (szS_le (szP_le A) (by omega)) h2)) c39_ok (by simp [List.take_of_length_le]) (by simp; exact ⟨rfl, rfl⟩) ?_
      refine r_p (by simp [h1, h2]; rfl) ?_
      refine r_nil ?_
      refine w_false (by simp [h1, h2]) ?_
      refine w_skip ?_
      refine thenQ_n ?_
      refine w_reg_seq 2752 2816 rfl (by simp) ?_
      refine r_p (by simp [h1, h2]; rfl) ?_
      refine r_nil ?_
      refine w_ret ?_
      refine endQ_r (by simp [h1, h2]; rfl) (.inl ⟨_, _, by simp [h1, h2]; first | exact ⟨rfl, rfl⟩ | rfl, by simp, by simp [*]⟩)

theorem prss {L : List V} (h : ∀ x ∈ L, (if true = true then x = .agg x.cells else V.one x = true) ∧ okCs [.str, .int .i64, .sl 1 false [.str]] x.cells) : ∃ A : List Ps, L = A.map prs ∧ ∀ b ∈ A, b.ok := by
  induction L with
  | nil => exact ⟨[], rfl, by simp⟩
  | cons x L ih =>
    obtain ⟨A, rfl, hA⟩ := ih (fun y hy => h y (by simp [hy]))
    obtain ⟨h1, h2⟩ := h x (by simp)
    simp only [okCs, okC, if_true] at h1 h2
    obtain ⟨v0, l0, hc, ⟨n, rfl, hn⟩, v1, l1, rfl, ⟨k, rfl, hk⟩, v2, l2, rfl, ⟨T, rfl, hT, hTT⟩, rfl⟩ := h2
    obtain ⟨ss, rfl, hss⟩ : ∃ ss : List (List UInt8), T = ss.map V.str ∧ ∀ s ∈ ss, s.length ≤ 9223372036854775807 := by
      clear hT hc
      induction T with
      | nil => exact ⟨[], rfl, by simp⟩
      | cons y T ih2 =>
        obtain ⟨ss, rfl, hss⟩ := ih2 (fun z hz => hTT z (by simp [hz]))
        obtain ⟨_, v, l, hy, ⟨s, rfl, hs⟩, rfl⟩ := hTT y (by simp)
        refine ⟨s :: ss, ?_, ?_⟩
        · skip
          have hy1 := (hTT y (by simp)).1
          have : y.cells = [y] := by cases y <;> first | rfl | simp [V.one] at hy1
          rw [this] at hy
          simp only [List.cons.injEq, and_true] at hy
          rw [hy]; rfl
        · intro z hz
          rcases List.mem_cons.1 hz with rfl | hz
          · exact hs
          · exact hss z hz
    refine ⟨(n, k, ss) :: A, by simp only [List.map_cons, prs]; rw [h1, hc], ?_⟩
    intro b hb
    rcases List.mem_cons.1 hb with rfl | hb
    · exact ⟨hn, by rw [List.length_map] at hT; exact hT, hss⟩
    · exact hA b hb
theorem key7 (z : V) (h : okV false [.sl 3 true [.str, .int .i64, .sl 1 false [.str]]] z) : ∃ A : List Ps, z = .sl 3 (A.map prs) ∧ (∀ b ∈ A, b.ok) ∧ A.length ≤ 9223372036854775807 := by
  obtain ⟨h1, h2⟩ := h
  have hz : z.cells = [z] := by cases z <;> first | rfl | simp [V.one] at h1
  rw [hz] at h2
  simp only [okCs, okC] at h2
  obtain ⟨v, l, e, ⟨L, rfl, hl, hL⟩, rfl⟩ := h2
  obtain ⟨A, rfl, hA⟩ := prss hL
  simp only [List.cons.injEq, and_true] at e
  exact ⟨A, e, hA, by rw [List.length_map] at hl; exact hl⟩
theorem law7 (x y : V) (hx : okV false [.sl 3 true [.str, .int .i64, .sl 1 false [.str]]] x) (hy : okV false [.sl 3 true [.str, .int .i64, .sl 1 false [.str]]] y) : Con Try.prog 7 [x, y] (.v (.bool true)) := by
  obtain ⟨A, rfl, hA, lA⟩ := key7 x hx
  obtain ⟨B, rfl, hB, lB⟩ := key7 y hy
  exact con7 A B hA hB lA lB

end Go.Ab
