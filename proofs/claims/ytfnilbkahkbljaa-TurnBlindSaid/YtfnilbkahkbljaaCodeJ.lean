/- Functions of the program, lowered. -/
import Derived.Test.YtfnilbkahkbljaaAbsD
import Derived.KernelRfl
import Derived.Test.YtfnilbkahkbljaaProg
namespace Go.Proofs.Ytfnilbkahkbljaa
open Go.RowKit
def fn_join_Catenate : AFnD := ⟨41, [.c 6 true 3, .c 7 false 1], (.ops false [ ⟨(some 3), none, .box 26 3 (.tmp 0)⟩, ⟨(some 4), none, .box 26 3 (.tmp 1)⟩, ⟨(some 6), none, .alloc 26 [(.int .u64 0), (.slice none 0 0), (.slice none 0 0)]⟩, ⟨(some 7), none, .alloc 37 [(.int .i64 0)]⟩] []), 10, 66, (.seq (.ops false [ ⟨(some 12), none, .load true 3 (.tmp 3)⟩, ⟨(some 13), none, .load true 3 (.tmp 4)⟩, ⟨(some 14), none, .mov (.tmp 2)⟩, ⟨(some 15), none, .call (.func 67) [(.tmp 12), (.tmp 13), (.tmp 14)]⟩, ⟨(some 11), none, .mov (.tmp 15)⟩, ⟨(some 16), none, .extract 0 (.tmp 11)⟩, ⟨(some 17), none, .extract 1 (.tmp 11)⟩, ⟨(some 8), none, .alloc 93 [(.slice none 0 0), (.slice none 0 0), (.bool false), (.slice none 0 0), (.slice none 0 0), (.bool false), (.int .i64 0)]⟩, ⟨none, none, .store 7 (.tmp 8) (.tmp 16)⟩, ⟨none, none, .store 1 (.tmp 7) (.tmp 17)⟩] []) (.seq (.seq (.ops false [ ⟨(some 18), none, .load false 1 (.tmp 7)⟩, ⟨(some 19), none, .bin .neq (.tmp 18) (.const (.int .i64 0))⟩] []) (.cond (.tmp 19) (.seq (.ops true [ ⟨(some 20), none, .build [(.int .u64 0), (.slice none 0 0), (.slice none 0 0)] []⟩, ⟨(some 21), none, .load false 1 (.tmp 7)⟩, ⟨none, none, .store 3 (.tmp 6) (.tmp 20)⟩, ⟨none, none, .store 1 (.tmp 7) (.tmp 21)⟩] [(1, 2)]) .ret) .skip)) (.seq (.ops false [ ⟨(some 23), none, .load true 7 (.tmp 8)⟩, ⟨(some 24), none, .call (.func 68) [(.tmp 23)]⟩, ⟨(some 22), none, .mov (.tmp 24)⟩, ⟨(some 25), none, .extract 0 (.tmp 22)⟩, ⟨(some 26), none, .extract 1 (.tmp 22)⟩, ⟨(some 9), none, .mov (.tmp 25)⟩, ⟨none, none, .store 1 (.tmp 7) (.tmp 26)⟩] []) (.seq (.seq (.ops false [ ⟨(some 27), none, .load false 1 (.tmp 7)⟩, ⟨(some 28), none, .bin .neq (.tmp 27) (.const (.int .i64 0))⟩] []) (.cond (.tmp 28) (.seq (.ops true [ ⟨(some 29), none, .build [(.int .u64 0), (.slice none 0 0), (.slice none 0 0)] []⟩, ⟨(some 30), none, .load false 1 (.tmp 7)⟩, ⟨none, none, .store 3 (.tmp 6) (.tmp 29)⟩, ⟨none, none, .store 1 (.tmp 7) (.tmp 30)⟩] [(1, 2)]) .ret) .skip)) (.seq (.ops true [ ⟨(some 31), none, .faddr 0 (.tmp 3)⟩, ⟨(some 32), none, .load false 1 (.tmp 31)⟩, ⟨(some 33), none, .faddr 0 (.tmp 4)⟩, ⟨(some 34), none, .load false 1 (.tmp 33)⟩, ⟨(some 35), none, .call (.func 69) [(.tmp 32), (.tmp 34)]⟩, ⟨(some 36), none, .mov (.tmp 9)⟩, ⟨(some 37), none, .load true 7 (.tmp 8)⟩, ⟨(some 38), none, .mov (.tmp 9)⟩, ⟨(some 39), none, .call (.func 70) [(.tmp 37), (.tmp 38)]⟩, ⟨(some 40), none, .build [(.int .u64 0), (.slice none 0 0), (.slice none 0 0)] [(0, 1, (.tmp 35)), (1, 1, (.tmp 36)), (2, 1, (.tmp 39))]⟩, ⟨none, none, .store 3 (.tmp 6) (.tmp 40)⟩, ⟨none, none, .store 1 (.tmp 7) (.const (.int .i64 0))⟩] [(1, 3), (1, 6), (3, 6), (4, 6)]) .ret)))))⟩
set_option maxRecDepth 100000 in
theorem code_join_Catenate : lowerFD Try.prog 25 = some fn_join_Catenate := by kernel_rfl
def fn_join_Strand : AFnD := ⟨42, [.c 2 true 3, .c 3 false 1], (.ops false [ ⟨(some 2), none, .alloc 26 [(.int .u64 0), (.slice none 0 0), (.slice none 0 0)]⟩, ⟨(some 3), none, .alloc 37 [(.int .i64 0)]⟩] []), 9, 85, (.seq (.seq (.ops false [ ⟨(some 10), none, .mov (.tmp 0)⟩, ⟨(some 11), none, .len (.tmp 10)⟩, ⟨(some 12), none, .bin .gtr (.tmp 11) (.const (.int .i64 2048))⟩] []) (.cond (.tmp 12) (.seq (.ops false [ ⟨(some 13), none, .build [(.int .u64 0), (.slice none 0 0), (.slice none 0 0)] []⟩, ⟨none, none, .store 3 (.tmp 2) (.tmp 13)⟩, ⟨none, none, .store 1 (.tmp 3) (.const (.int .i64 7))⟩] []) .ret) .skip)) (.seq (.seq (.ops false [ ⟨(some 14), none, .mov (.tmp 0)⟩, ⟨(some 15), none, .len (.tmp 14)⟩, ⟨(some 16), none, .mov (.const (.int .i64 0))⟩] []) (.block 0 (.loop (.seq (.ops false [ ⟨(some 17), none, .bin .lss (.tmp 16) (.tmp 15)⟩] []) (.seq (.cond (.tmp 17) .skip (.exit 0)) (.seq (.block 1 (.seq (.ops false [ ⟨(some 18), none, .iaddr 3 (.tmp 14) (.tmp 16)⟩, ⟨(some 19), none, .load true 3 (.tmp 18)⟩, ⟨(some 5), none, .alloc 26 [(.int .u64 0), (.slice none 0 0), (.slice none 0 0)]⟩, ⟨none, none, .store 3 (.tmp 5) (.tmp 19)⟩] []) (.seq (.ops false [ ⟨(some 20), none, .load true 3 (.tmp 5)⟩, ⟨(some 21), none, .call (.func 86) [(.tmp 20)]⟩, ⟨(some 22), none, .bin .gtr (.tmp 21) (.const (.int .i64 8))⟩] []) (.cond (.tmp 22) (.seq (.ops false [ ⟨(some 23), none, .build [(.int .u64 0), (.slice none 0 0), (.slice none 0 0)] []⟩, ⟨none, none, .store 3 (.tmp 2) (.tmp 23)⟩, ⟨none, none, .store 1 (.tmp 3) (.const (.int .i64 7))⟩] []) .ret) .skip)))) (.ops false [ ⟨(some 24), none, .bin .add (.tmp 16) (.const (.int .i64 1))⟩, ⟨(some 16), none, .mov (.tmp 24)⟩] []))))))) (.seq (.ops false [ ⟨(some 25), none, .mov (.tmp 0)⟩, ⟨(some 26), none, .len (.tmp 25)⟩, ⟨(some 27), none, .make 76 7 104 [(.int .u64 0), (.int .i64 0), (.bool false), (.slice none 0 0), (.slice none 0 0), (.int .i64 0), (.slice none 0 0)] (.const (.int .i64 0)) (.tmp 26)⟩, ⟨(some 6), none, .mov (.tmp 27)⟩] []) (.seq (.seq (.ops false [ ⟨(some 28), none, .mov (.tmp 0)⟩, ⟨(some 29), none, .len (.tmp 28)⟩, ⟨(some 30), none, .mov (.const (.int .i64 0))⟩] []) (.block 2 (.loop (.seq (.ops false [ ⟨(some 31), none, .bin .lss (.tmp 30) (.tmp 29)⟩] []) (.seq (.cond (.tmp 31) .skip (.exit 2)) (.seq (.block 3 (.seq (.ops false [ ⟨(some 32), none, .iaddr 3 (.tmp 28) (.tmp 30)⟩, ⟨(some 33), none, .load true 3 (.tmp 32)⟩, ⟨(some 8), none, .alloc 26 [(.int .u64 0), (.slice none 0 0), (.slice none 0 0)]⟩, ⟨none, none, .store 3 (.tmp 8) (.tmp 33)⟩] []) (.ops false [ ⟨(some 34), none, .mov (.tmp 6)⟩, ⟨(some 35), none, .load true 3 (.tmp 8)⟩, ⟨(some 36), none, .call (.func 87) [(.tmp 35)]⟩, ⟨(some 37), none, .rowlit 76 7 1 [(.int .u64 0), (.int .i64 0), (.bool false), (.slice none 0 0), (.slice none 0 0), (.int .i64 0), (.slice none 0 0)] [(0, (.tmp 36))]⟩, ⟨(some 38), none, .append 76 7 104 [(.int .u64 0), (.int .i64 0), (.bool false), (.slice none 0 0), (.slice none 0 0), (.int .i64 0), (.slice none 0 0)] (.tmp 34) (.tmp 37)⟩, ⟨(some 6), none, .mov (.tmp 38)⟩] []))) (.ops false [ ⟨(some 39), none, .bin .add (.tmp 30) (.const (.int .i64 1))⟩, ⟨(some 30), none, .mov (.tmp 39)⟩] []))))))) (.seq (.ops false [ ⟨(some 40), none, .mov (.tmp 6)⟩, ⟨(some 41), none, .call (.func 55) [(.tmp 40)]⟩, ⟨none, none, .store 3 (.tmp 2) (.tmp 41)⟩, ⟨none, none, .store 1 (.tmp 3) (.const (.int .i64 0))⟩] []) .ret)))))⟩
set_option maxRecDepth 100000 in
theorem code_join_Strand : lowerFD Try.prog 38 = some fn_join_Strand := by kernel_rfl
def fn_join_fit : AFn := ⟨52, [.c 6 true 7, .t 7], (.seq (.ops false [ ⟨(some 3), none, .box 26 3 (.tmp 0)⟩, ⟨(some 4), none, .box 26 3 (.tmp 1)⟩, ⟨(some 6), none, .alloc 93 [(.slice none 0 0), (.slice none 0 0), (.bool false), (.slice none 0 0), (.slice none 0 0), (.bool false), (.int .i64 0)]⟩, ⟨(some 7), none, .mov (.const (.int .i64 0))⟩] []) (.seq (.ops false [ ⟨(some 11), none, .faddr 1 (.tmp 3)⟩, ⟨(some 12), none, .load false 1 (.tmp 11)⟩, ⟨(some 13), none, .len (.tmp 12)⟩, ⟨(some 14), none, .faddr 1 (.tmp 4)⟩, ⟨(some 15), none, .load false 1 (.tmp 14)⟩, ⟨(some 16), none, .len (.tmp 15)⟩, ⟨(some 17), none, .mx3 (.tmp 13) (.tmp 16) (.const (.int .i64 1))⟩, ⟨(some 8), none, .mov (.tmp 17)⟩] []) (.seq (.ops false [ ⟨(some 18), none, .mov (.tmp 8)⟩, ⟨(some 19), none, .bin .sub (.tmp 18) (.const (.int .i64 1))⟩, ⟨(some 20), none, .build [(.slice none 0 0), (.slice none 0 0), (.bool false), (.slice none 0 0), (.slice none 0 0), (.bool false), (.int .i64 0)] [(6, 1, (.tmp 19))]⟩, ⟨(some 9), none, .alloc 93 [(.slice none 0 0), (.slice none 0 0), (.bool false), (.slice none 0 0), (.slice none 0 0), (.bool false), (.int .i64 0)]⟩, ⟨none, none, .store 7 (.tmp 9) (.tmp 20)⟩] []) (.seq (.seq (.ops false [ ⟨(some 21), none, .mov (.tmp 2)⟩] []) (.cond (.tmp 21) (.ops false [ ⟨(some 22), none, .faddr 6 (.tmp 9)⟩, ⟨none, none, .store 1 (.tmp 22) (.const (.int .i64 0))⟩] []) .skip)) (.seq (.ops false [ ⟨(some 10), none, .mov (.const (.bool false))⟩] []) (.seq (.seq (.ops false [ ⟨(some 24), none, .load true 3 (.tmp 3)⟩, ⟨(some 25), none, .faddr 1 (.tmp 4)⟩, ⟨(some 26), none, .load false 1 (.tmp 25)⟩, ⟨(some 27), none, .mov (.tmp 8)⟩, ⟨(some 28), none, .faddr 6 (.tmp 9)⟩, ⟨(some 29), none, .load false 1 (.tmp 28)⟩, ⟨(some 30), none, .call (.func 116) [(.tmp 24), (.tmp 26), (.tmp 27), (.tmp 29)]⟩, ⟨(some 23), none, .mov (.tmp 30)⟩, ⟨(some 31), none, .extract 0 (.tmp 23)⟩, ⟨(some 32), none, .extract 1 (.tmp 23)⟩, ⟨(some 33), none, .faddr 0 (.tmp 9)⟩, ⟨none, none, .store 3 (.tmp 33) (.tmp 31)⟩, ⟨(some 10), none, .mov (.tmp 32)⟩] []) (.seq (.ops false [ ⟨(some 34), none, .mov (.tmp 10)⟩, ⟨(some 35), none, .un .not (.tmp 34)⟩] []) (.cond (.tmp 35) (.seq (.ops false [ ⟨(some 36), none, .build [(.slice none 0 0), (.slice none 0 0), (.bool false), (.slice none 0 0), (.slice none 0 0), (.bool false), (.int .i64 0)] []⟩, ⟨none, none, .store 7 (.tmp 6) (.tmp 36)⟩, ⟨(some 7), none, .mov (.const (.int .i64 5))⟩] []) .ret) .skip))) (.seq (.seq (.ops false [ ⟨(some 38), none, .load true 3 (.tmp 4)⟩, ⟨(some 39), none, .faddr 1 (.tmp 3)⟩, ⟨(some 40), none, .load false 1 (.tmp 39)⟩, ⟨(some 41), none, .mov (.tmp 8)⟩, ⟨(some 42), none, .faddr 6 (.tmp 9)⟩, ⟨(some 43), none, .load false 1 (.tmp 42)⟩, ⟨(some 44), none, .call (.func 116) [(.tmp 38), (.tmp 40), (.tmp 41), (.tmp 43)]⟩, ⟨(some 37), none, .mov (.tmp 44)⟩, ⟨(some 45), none, .extract 0 (.tmp 37)⟩, ⟨(some 46), none, .extract 1 (.tmp 37)⟩, ⟨(some 47), none, .faddr 3 (.tmp 9)⟩, ⟨none, none, .store 3 (.tmp 47) (.tmp 45)⟩, ⟨(some 10), none, .mov (.tmp 46)⟩] []) (.seq (.ops false [ ⟨(some 48), none, .mov (.tmp 10)⟩, ⟨(some 49), none, .un .not (.tmp 48)⟩] []) (.cond (.tmp 49) (.seq (.ops false [ ⟨(some 50), none, .build [(.slice none 0 0), (.slice none 0 0), (.bool false), (.slice none 0 0), (.slice none 0 0), (.bool false), (.int .i64 0)] []⟩, ⟨none, none, .store 7 (.tmp 6) (.tmp 50)⟩, ⟨(some 7), none, .mov (.const (.int .i64 5))⟩] []) .ret) .skip))) (.seq (.ops false [ ⟨(some 51), none, .load true 7 (.tmp 9)⟩, ⟨none, none, .store 7 (.tmp 6) (.tmp 51)⟩, ⟨(some 7), none, .mov (.const (.int .i64 0))⟩] []) .ret))))))))⟩
set_option maxRecDepth 100000 in
theorem code_join_fit : lowerF Try.prog 67 = some fn_join_fit := by kernel_rfl
def fn_turn_Rotate : AFnD := ⟨68, [.c 6 true 3, .c 7 false 1], (.ops false [ ⟨(some 3), none, .box 26 3 (.tmp 0)⟩, ⟨(some 4), none, .box 26 3 (.tmp 1)⟩, ⟨(some 6), none, .alloc 26 [(.int .u64 0), (.slice none 0 0), (.slice none 0 0)]⟩, ⟨(some 7), none, .alloc 37 [(.int .i64 0)]⟩] []), 14, 89, (.seq (.ops false [ ⟨(some 16), none, .load true 3 (.tmp 3)⟩, ⟨(some 17), none, .call (.func 81) [(.tmp 16)]⟩, ⟨(some 15), none, .mov (.tmp 17)⟩, ⟨(some 18), none, .extract 0 (.tmp 15)⟩, ⟨(some 19), none, .extract 1 (.tmp 15)⟩, ⟨(some 8), none, .mov (.tmp 18)⟩, ⟨none, none, .store 1 (.tmp 7) (.tmp 19)⟩] []) (.seq (.seq (.ops false [ ⟨(some 20), none, .load false 1 (.tmp 7)⟩, ⟨(some 21), none, .bin .neq (.tmp 20) (.const (.int .i64 0))⟩] []) (.cond (.tmp 21) (.seq (.ops true [ ⟨(some 22), none, .build [(.int .u64 0), (.slice none 0 0), (.slice none 0 0)] []⟩, ⟨(some 23), none, .load false 1 (.tmp 7)⟩, ⟨none, none, .store 3 (.tmp 6) (.tmp 22)⟩, ⟨none, none, .store 1 (.tmp 7) (.tmp 23)⟩] [(1, 2)]) .ret) .skip)) (.seq (.seq (.ops false [ ⟨(some 24), none, .mov (.tmp 8)⟩, ⟨(some 25), none, .len (.tmp 24)⟩, ⟨(some 26), none, .bin .neq (.tmp 25) (.const (.int .i64 1))⟩] []) (.cond (.tmp 26) (.seq (.ops false [ ⟨(some 27), none, .build [(.int .u64 0), (.slice none 0 0), (.slice none 0 0)] []⟩, ⟨none, none, .store 3 (.tmp 6) (.tmp 27)⟩, ⟨none, none, .store 1 (.tmp 7) (.const (.int .i64 4))⟩] []) .ret) .skip)) (.seq (.ops true [ ⟨(some 28), none, .load true 3 (.tmp 4)⟩, ⟨(some 29), none, .load true 3 (.tmp 3)⟩, ⟨(some 30), none, .call (.func 51) [(.tmp 29)]⟩, ⟨(some 31), none, .call (.func 90) [(.tmp 28), (.tmp 30)]⟩, ⟨(some 9), none, .alloc 26 [(.int .u64 0), (.slice none 0 0), (.slice none 0 0)]⟩, ⟨none, none, .store 3 (.tmp 9) (.tmp 31)⟩] [(0, 1), (0, 2), (0, 4), (1, 4), (2, 4), (3, 4)]) (.seq (.ops false [ ⟨(some 33), none, .load true 3 (.tmp 4)⟩, ⟨(some 34), none, .mov (.tmp 2)⟩, ⟨(some 35), none, .call (.func 91) [(.tmp 33), (.tmp 34)]⟩, ⟨(some 32), none, .mov (.tmp 35)⟩, ⟨(some 36), none, .extract 0 (.tmp 32)⟩, ⟨(some 37), none, .extract 1 (.tmp 32)⟩, ⟨(some 10), none, .alloc 3 [(.int .i64 0)]⟩, ⟨none, none, .store 1 (.tmp 10) (.tmp 36)⟩, ⟨(some 11), none, .mov (.tmp 37)⟩] []) (.seq (.seq (.ops false [ ⟨(some 38), none, .mov (.tmp 11)⟩, ⟨(some 39), none, .un .not (.tmp 38)⟩, ⟨(some 40), none, .mov (.tmp 39)⟩, ⟨(some 41), (some (40, false)), .faddr 1 (.tmp 4)⟩, ⟨(some 42), (some (40, false)), .load false 1 (.tmp 41)⟩, ⟨(some 43), (some (40, false)), .load false 1 (.tmp 10)⟩, ⟨(some 44), (some (40, false)), .iaddr 1 (.tmp 42) (.tmp 43)⟩, ⟨(some 45), (some (40, false)), .load false 1 (.tmp 44)⟩, ⟨(some 46), (some (40, false)), .bin .eql (.tmp 45) (.const (.int .i64 0))⟩, ⟨(some 47), none, .pick (.tmp 40) (.const (.bool true)) (.tmp 46)⟩] []) (.cond (.tmp 47) (.seq (.ops false [ ⟨(some 48), none, .load true 3 (.tmp 9)⟩, ⟨none, none, .store 3 (.tmp 6) (.tmp 48)⟩, ⟨none, none, .store 1 (.tmp 7) (.const (.int .i64 0))⟩] []) .ret) .skip)) (.seq (.ops false [ ⟨(some 49), none, .faddr 1 (.tmp 4)⟩, ⟨(some 50), none, .load false 1 (.tmp 49)⟩, ⟨(some 51), none, .load false 1 (.tmp 10)⟩, ⟨(some 52), none, .iaddr 1 (.tmp 50) (.tmp 51)⟩, ⟨(some 53), none, .load false 1 (.tmp 52)⟩, ⟨(some 12), none, .alloc 3 [(.int .i64 0)]⟩, ⟨none, none, .store 1 (.tmp 12) (.tmp 53)⟩] []) (.seq (.ops true [ ⟨(some 54), none, .mov (.tmp 8)⟩, ⟨(some 55), none, .iaddr 1 (.tmp 54) (.const (.int .i64 0))⟩, ⟨(some 56), none, .load false 1 (.tmp 55)⟩, ⟨(some 57), none, .load false 1 (.tmp 12)⟩, ⟨(some 58), none, .bin .rem (.tmp 56) (.tmp 57)⟩, ⟨(some 59), none, .load false 1 (.tmp 12)⟩, ⟨(some 60), none, .bin .add (.tmp 58) (.tmp 59)⟩, ⟨(some 61), none, .load false 1 (.tmp 12)⟩, ⟨(some 62), none, .bin .rem (.tmp 60) (.tmp 61)⟩, ⟨(some 13), none, .alloc 3 [(.int .i64 0)]⟩, ⟨none, none, .store 1 (.tmp 13) (.tmp 62)⟩] [(1, 3), (2, 3), (1, 5), (2, 5), (3, 5), (1, 7), (2, 7), (3, 7), (5, 7), (1, 9), (2, 9), (3, 9), (5, 9), (7, 9)]) (.seq (.ops false [ ⟨(some 63), none, .load true 3 (.tmp 9)⟩, ⟨(some 64), none, .faddr 1 (.tmp 4)⟩, ⟨(some 65), none, .load false 1 (.tmp 64)⟩, ⟨(some 66), none, .mkfn 93 [] [(.tmp 10), (.tmp 13), (.tmp 12)]⟩, ⟨(some 67), none, .call (.func 92) [(.tmp 63), (.tmp 65), (.tmp 66)]⟩, ⟨none, none, .store 3 (.tmp 6) (.tmp 67)⟩, ⟨none, none, .store 1 (.tmp 7) (.const (.int .i64 0))⟩] []) .ret)))))))))⟩
set_option maxRecDepth 100000 in
theorem code_turn_Rotate : lowerFD Try.prog 42 = some fn_turn_Rotate := by kernel_rfl
def fn_turn_Reverse : AFnD := ⟨28, [.c 4 true 3], (.ops false [ ⟨(some 2), none, .box 26 3 (.tmp 0)⟩, ⟨(some 4), none, .alloc 26 [(.int .u64 0), (.slice none 0 0), (.slice none 0 0)]⟩] []), 8, 97, (.seq (.ops false [ ⟨(some 10), none, .load true 3 (.tmp 2)⟩, ⟨(some 11), none, .mov (.tmp 1)⟩, ⟨(some 12), none, .call (.func 91) [(.tmp 10), (.tmp 11)]⟩, ⟨(some 9), none, .mov (.tmp 12)⟩, ⟨(some 13), none, .extract 0 (.tmp 9)⟩, ⟨(some 14), none, .extract 1 (.tmp 9)⟩, ⟨(some 5), none, .alloc 3 [(.int .i64 0)]⟩, ⟨none, none, .store 1 (.tmp 5) (.tmp 13)⟩, ⟨(some 6), none, .mov (.tmp 14)⟩] []) (.seq (.seq (.ops false [ ⟨(some 15), none, .mov (.tmp 6)⟩, ⟨(some 16), none, .un .not (.tmp 15)⟩] []) (.cond (.tmp 16) (.seq (.ops false [ ⟨(some 17), none, .load true 3 (.tmp 2)⟩, ⟨none, none, .store 3 (.tmp 4) (.tmp 17)⟩] []) .ret) .skip)) (.seq (.ops false [ ⟨(some 18), none, .faddr 1 (.tmp 2)⟩, ⟨(some 19), none, .load false 1 (.tmp 18)⟩, ⟨(some 20), none, .load false 1 (.tmp 5)⟩, ⟨(some 21), none, .iaddr 1 (.tmp 19) (.tmp 20)⟩, ⟨(some 22), none, .load false 1 (.tmp 21)⟩, ⟨(some 7), none, .alloc 3 [(.int .i64 0)]⟩, ⟨none, none, .store 1 (.tmp 7) (.tmp 22)⟩] []) (.seq (.ops false [ ⟨(some 23), none, .load true 3 (.tmp 2)⟩, ⟨(some 24), none, .faddr 1 (.tmp 2)⟩, ⟨(some 25), none, .load false 1 (.tmp 24)⟩, ⟨(some 26), none, .mkfn 98 [] [(.tmp 7), (.tmp 5)]⟩, ⟨(some 27), none, .call (.func 92) [(.tmp 23), (.tmp 25), (.tmp 26)]⟩, ⟨none, none, .store 3 (.tmp 4) (.tmp 27)⟩] []) .ret))))⟩
set_option maxRecDepth 100000 in
theorem code_turn_Reverse : lowerFD Try.prog 45 = some fn_turn_Reverse := by kernel_rfl
def fn_turn_Transpose : AFnD := ⟨13, [.c 2 true 3], (.ops false [ ⟨(some 1), none, .box 26 3 (.tmp 0)⟩, ⟨(some 2), none, .alloc 26 [(.int .u64 0), (.slice none 0 0), (.slice none 0 0)]⟩] []), 4, 99, (.seq (.ops false [ ⟨(some 5), none, .faddr 1 (.tmp 1)⟩, ⟨(some 6), none, .load false 1 (.tmp 5)⟩, ⟨(some 7), none, .call (.func 63) [(.tmp 6)]⟩, ⟨(some 3), none, .mov (.tmp 7)⟩] []) (.seq (.ops false [ ⟨(some 8), none, .mov (.tmp 3)⟩, ⟨(some 9), none, .call (.func 100) [(.tmp 8)]⟩] []) (.seq (.ops false [ ⟨(some 10), none, .load true 3 (.tmp 1)⟩, ⟨(some 11), none, .mov (.tmp 3)⟩, ⟨(some 12), none, .call (.func 92) [(.tmp 10), (.tmp 11), (.func 101)]⟩, ⟨none, none, .store 3 (.tmp 2) (.tmp 12)⟩] []) .ret)))⟩
set_option maxRecDepth 100000 in
theorem code_turn_Transpose : lowerFD Try.prog 46 = some fn_turn_Transpose := by kernel_rfl
def fn_turn_Permute : AFnD := ⟨81, [.c 4 true 3, .c 5 false 1], (.ops false [ ⟨(some 2), none, .box 26 3 (.tmp 0)⟩, ⟨(some 3), none, .box 26 3 (.tmp 1)⟩, ⟨(some 4), none, .alloc 26 [(.int .u64 0), (.slice none 0 0), (.slice none 0 0)]⟩, ⟨(some 5), none, .alloc 37 [(.int .i64 0)]⟩] []), 11, 103, (.seq (.ops false [ ⟨(some 13), none, .load true 3 (.tmp 2)⟩, ⟨(some 14), none, .call (.func 81) [(.tmp 13)]⟩, ⟨(some 12), none, .mov (.tmp 14)⟩, ⟨(some 15), none, .extract 0 (.tmp 12)⟩, ⟨(some 16), none, .extract 1 (.tmp 12)⟩, ⟨(some 6), none, .alloc 23 [(.slice none 0 0)]⟩, ⟨none, none, .store 1 (.tmp 6) (.tmp 15)⟩, ⟨none, none, .store 1 (.tmp 5) (.tmp 16)⟩] []) (.seq (.seq (.ops false [ ⟨(some 17), none, .load false 1 (.tmp 5)⟩, ⟨(some 18), none, .bin .neq (.tmp 17) (.const (.int .i64 0))⟩] []) (.cond (.tmp 18) (.seq (.ops true [ ⟨(some 19), none, .build [(.int .u64 0), (.slice none 0 0), (.slice none 0 0)] []⟩, ⟨(some 20), none, .load false 1 (.tmp 5)⟩, ⟨none, none, .store 3 (.tmp 4) (.tmp 19)⟩, ⟨none, none, .store 1 (.tmp 5) (.tmp 20)⟩] [(1, 2)]) .ret) .skip)) (.seq (.seq (.ops false [ ⟨(some 21), none, .load false 1 (.tmp 6)⟩, ⟨(some 22), none, .len (.tmp 21)⟩, ⟨(some 23), none, .faddr 1 (.tmp 3)⟩, ⟨(some 24), none, .load false 1 (.tmp 23)⟩, ⟨(some 25), none, .len (.tmp 24)⟩, ⟨(some 26), none, .bin .neq (.tmp 22) (.tmp 25)⟩] []) (.cond (.tmp 26) (.seq (.ops false [ ⟨(some 27), none, .build [(.int .u64 0), (.slice none 0 0), (.slice none 0 0)] []⟩, ⟨none, none, .store 3 (.tmp 4) (.tmp 27)⟩, ⟨none, none, .store 1 (.tmp 5) (.const (.int .i64 4))⟩] []) .ret) .skip)) (.seq (.ops false [ ⟨(some 28), none, .load false 1 (.tmp 6)⟩, ⟨(some 29), none, .len (.tmp 28)⟩, ⟨(some 30), none, .make 3 1 8 [(.int .i64 0)] (.tmp 29) (.tmp 29)⟩, ⟨(some 7), none, .mov (.tmp 30)⟩] []) (.seq (.seq (.ops false [ ⟨(some 31), none, .mov (.tmp 7)⟩, ⟨(some 32), none, .len (.tmp 31)⟩, ⟨(some 33), none, .mov (.const (.int .i64 0))⟩] []) (.block 0 (.loop (.seq (.ops false [ ⟨(some 34), none, .bin .lss (.tmp 33) (.tmp 32)⟩] []) (.seq (.cond (.tmp 34) .skip (.exit 0)) (.seq (.block 1 (.seq (.ops false [ ⟨(some 35), none, .mov (.tmp 33)⟩, ⟨(some 8), none, .mov (.tmp 35)⟩] []) (.ops false [ ⟨(some 36), none, .mov (.tmp 7)⟩, ⟨(some 37), none, .mov (.tmp 8)⟩, ⟨(some 38), none, .iaddr 1 (.tmp 36) (.tmp 37)⟩, ⟨none, none, .store 1 (.tmp 38) (.const (.int .i64 (-1)))⟩] []))) (.ops false [ ⟨(some 39), none, .bin .add (.tmp 33) (.const (.int .i64 1))⟩, ⟨(some 33), none, .mov (.tmp 39)⟩] []))))))) (.seq (.seq (.ops false [ ⟨(some 40), none, .load false 1 (.tmp 6)⟩, ⟨(some 41), none, .len (.tmp 40)⟩, ⟨(some 42), none, .mov (.const (.int .i64 0))⟩] []) (.block 2 (.loop (.seq (.ops false [ ⟨(some 43), none, .bin .lss (.tmp 42) (.tmp 41)⟩] []) (.seq (.cond (.tmp 43) .skip (.exit 2)) (.seq (.block 3 (.seq (.ops false [ ⟨(some 44), none, .mov (.tmp 42)⟩, ⟨(some 45), none, .iaddr 1 (.tmp 40) (.tmp 42)⟩, ⟨(some 46), none, .load false 1 (.tmp 45)⟩, ⟨(some 9), none, .mov (.tmp 44)⟩, ⟨(some 10), none, .mov (.tmp 46)⟩] []) (.seq (.seq (.ops false [ ⟨(some 47), none, .mov (.tmp 10)⟩, ⟨(some 48), none, .bin .lss (.tmp 47) (.const (.int .i64 1))⟩, ⟨(some 49), none, .mov (.tmp 48)⟩, ⟨(some 50), (some (49, false)), .mov (.tmp 10)⟩, ⟨(some 51), (some (49, false)), .load false 1 (.tmp 6)⟩, ⟨(some 52), (some (49, false)), .len (.tmp 51)⟩, ⟨(some 53), (some (49, false)), .bin .gtr (.tmp 50) (.tmp 52)⟩, ⟨(some 54), none, .pick (.tmp 49) (.const (.bool true)) (.tmp 53)⟩, ⟨(some 55), none, .mov (.tmp 54)⟩, ⟨(some 56), (some (55, false)), .mov (.tmp 7)⟩, ⟨(some 57), (some (55, false)), .mov (.tmp 10)⟩, ⟨(some 58), (some (55, false)), .bin .sub (.tmp 57) (.const (.int .i64 1))⟩, ⟨(some 59), (some (55, false)), .iaddr 1 (.tmp 56) (.tmp 58)⟩, ⟨(some 60), (some (55, false)), .load false 1 (.tmp 59)⟩, ⟨(some 61), (some (55, false)), .bin .geq (.tmp 60) (.const (.int .i64 0))⟩, ⟨(some 62), none, .pick (.tmp 55) (.const (.bool true)) (.tmp 61)⟩] []) (.cond (.tmp 62) (.seq (.ops false [ ⟨(some 63), none, .build [(.int .u64 0), (.slice none 0 0), (.slice none 0 0)] []⟩, ⟨none, none, .store 3 (.tmp 4) (.tmp 63)⟩, ⟨none, none, .store 1 (.tmp 5) (.const (.int .i64 3))⟩] []) .ret) .skip)) (.ops false [ ⟨(some 64), none, .mov (.tmp 7)⟩, ⟨(some 65), none, .mov (.tmp 10)⟩, ⟨(some 66), none, .bin .sub (.tmp 65) (.const (.int .i64 1))⟩, ⟨(some 67), none, .faddr 1 (.tmp 3)⟩, ⟨(some 68), none, .load false 1 (.tmp 67)⟩, ⟨(some 69), none, .mov (.tmp 9)⟩, ⟨(some 70), none, .iaddr 1 (.tmp 68) (.tmp 69)⟩, ⟨(some 71), none, .load false 1 (.tmp 70)⟩, ⟨(some 72), none, .iaddr 1 (.tmp 64) (.tmp 66)⟩, ⟨none, none, .store 1 (.tmp 72) (.tmp 71)⟩] [])))) (.ops false [ ⟨(some 73), none, .bin .add (.tmp 42) (.const (.int .i64 1))⟩, ⟨(some 42), none, .mov (.tmp 73)⟩] []))))))) (.seq (.ops true [ ⟨(some 74), none, .load true 3 (.tmp 3)⟩, ⟨(some 75), none, .load true 3 (.tmp 2)⟩, ⟨(some 76), none, .call (.func 51) [(.tmp 75)]⟩, ⟨(some 77), none, .call (.func 90) [(.tmp 74), (.tmp 76)]⟩, ⟨(some 78), none, .mov (.tmp 7)⟩, ⟨(some 79), none, .mkfn 104 [] [(.tmp 6)]⟩, ⟨(some 80), none, .call (.func 92) [(.tmp 77), (.tmp 78), (.tmp 79)]⟩, ⟨none, none, .store 3 (.tmp 4) (.tmp 80)⟩, ⟨none, none, .store 1 (.tmp 5) (.const (.int .i64 0))⟩] [(0, 1), (0, 2)]) .ret)))))))⟩
set_option maxRecDepth 100000 in
theorem code_turn_Permute : lowerFD Try.prog 49 = some fn_turn_Permute := by kernel_rfl
end Go.Proofs.Ytfnilbkahkbljaa
namespace Go.Proofs.Ytfnilbkahkbljaa
set_option linter.unusedVariables false
open Go.RowKit

theorem idle_join_Catenate : Idle Try.prog 66 := by
  refine ⟨⟨_, Try.func66, by rfl, by rfl⟩, fun args w => ?_⟩
  refine callsD_of_wpS Try.func66 rfl fun c₀ cs hu => ?_
  rw [Try.ntmps66]
  have hsz : 5 ≤ (args ++ Array.replicate (5 - args.size) undef).size := by simp; omega
  generalize (args ++ Array.replicate (5 - args.size) undef) = T at hsz ⊢
  have h2 : 2 < T.size := by omega
  have h3 : 3 < T.size := by omega
  apply wpS_seq
  apply wpS_region
  simp [wpOpsS, go_sem, recoverD, hu, Exit.thenS, h2]
  refine wpS_cond (t := false) (by simp [Act.eval, h3]) ?_
  simp only [Bool.false_eq_true, if_false]
  refine wpS_of_wp (wp_skip ?_)
  cases c₀
  simp_all [bodyPostS, results, Try.results66]

theorem idle_join_Strand : Idle Try.prog 85 := by
  refine ⟨⟨_, Try.func85, by rfl, by rfl⟩, fun args w => ?_⟩
  refine callsD_of_wpS Try.func85 rfl fun c₀ cs hu => ?_
  rw [Try.ntmps85]
  have hsz : 5 ≤ (args ++ Array.replicate (5 - args.size) undef).size := by simp; omega
  generalize (args ++ Array.replicate (5 - args.size) undef) = T at hsz ⊢
  have h2 : 2 < T.size := by omega
  have h3 : 3 < T.size := by omega
  apply wpS_seq
  apply wpS_region
  simp [wpOpsS, go_sem, recoverD, hu, Exit.thenS, h2]
  refine wpS_cond (t := false) (by simp [Act.eval, h3]) ?_
  simp only [Bool.false_eq_true, if_false]
  refine wpS_of_wp (wp_skip ?_)
  cases c₀
  simp_all [bodyPostS, results, Try.results85]

theorem idle_turn_Rotate : Idle Try.prog 89 := by
  refine ⟨⟨_, Try.func89, by rfl, by rfl⟩, fun args w => ?_⟩
  refine callsD_of_wpS Try.func89 rfl fun c₀ cs hu => ?_
  rw [Try.ntmps89]
  have hsz : 5 ≤ (args ++ Array.replicate (5 - args.size) undef).size := by simp; omega
  generalize (args ++ Array.replicate (5 - args.size) undef) = T at hsz ⊢
  have h2 : 2 < T.size := by omega
  have h3 : 3 < T.size := by omega
  apply wpS_seq
  apply wpS_region
  simp [wpOpsS, go_sem, recoverD, hu, Exit.thenS, h2]
  refine wpS_cond (t := false) (by simp [Act.eval, h3]) ?_
  simp only [Bool.false_eq_true, if_false]
  refine wpS_of_wp (wp_skip ?_)
  cases c₀
  simp_all [bodyPostS, results, Try.results89]

theorem idle_turn_Reverse : Idle Try.prog 97 := by
  refine ⟨⟨_, Try.func97, by rfl, by rfl⟩, fun args w => ?_⟩
  refine callsD_of_wpS Try.func97 rfl fun c₀ cs hu => ?_
  rw [Try.ntmps97]
  have hsz : 4 ≤ (args ++ Array.replicate (4 - args.size) undef).size := by simp; omega
  generalize (args ++ Array.replicate (4 - args.size) undef) = T at hsz ⊢
  have h2 : 1 < T.size := by omega
  have h3 : 2 < T.size := by omega
  apply wpS_seq
  apply wpS_region
  simp [wpOpsS, go_sem, recoverD, hu, Exit.thenS, h2]
  refine wpS_cond (t := false) (by simp [Act.eval, h3]) ?_
  simp only [Bool.false_eq_true, if_false]
  refine wpS_of_wp (wp_skip ?_)
  cases c₀
  simp_all [bodyPostS, results, Try.results97]

theorem idle_turn_Transpose : Idle Try.prog 99 := by
  refine ⟨⟨_, Try.func99, by rfl, by rfl⟩, fun args w => ?_⟩
  refine callsD_of_wpS Try.func99 rfl fun c₀ cs hu => ?_
  rw [Try.ntmps99]
  have hsz : 4 ≤ (args ++ Array.replicate (4 - args.size) undef).size := by simp; omega
  generalize (args ++ Array.replicate (4 - args.size) undef) = T at hsz ⊢
  have h2 : 1 < T.size := by omega
  have h3 : 2 < T.size := by omega
  apply wpS_seq
  apply wpS_region
  simp [wpOpsS, go_sem, recoverD, hu, Exit.thenS, h2]
  refine wpS_cond (t := false) (by simp [Act.eval, h3]) ?_
  simp only [Bool.false_eq_true, if_false]
  refine wpS_of_wp (wp_skip ?_)
  cases c₀
  simp_all [bodyPostS, results, Try.results99]

theorem idle_turn_Permute : Idle Try.prog 103 := by
  refine ⟨⟨_, Try.func103, by rfl, by rfl⟩, fun args w => ?_⟩
  refine callsD_of_wpS Try.func103 rfl fun c₀ cs hu => ?_
  rw [Try.ntmps103]
  have hsz : 5 ≤ (args ++ Array.replicate (5 - args.size) undef).size := by simp; omega
  generalize (args ++ Array.replicate (5 - args.size) undef) = T at hsz ⊢
  have h2 : 2 < T.size := by omega
  have h3 : 3 < T.size := by omega
  apply wpS_seq
  apply wpS_region
  simp [wpOpsS, go_sem, recoverD, hu, Exit.thenS, h2]
  refine wpS_cond (t := false) (by simp [Act.eval, h3]) ?_
  simp only [Bool.false_eq_true, if_false]
  refine wpS_of_wp (wp_skip ?_)
  cases c₀
  simp_all [bodyPostS, results, Try.results103]

end Go.Proofs.Ytfnilbkahkbljaa
