/- Functions of the program, lowered. -/
import Derived.Test.YtjcolpcfcdkckaaGreatK06
import Derived.Test.YtjcolpcfcdkckaaGreatK07
set_option maxRecDepth 100000
set_option maxHeartbeats 1000000
namespace Go.Proofs.YtjcolpcfcdkckaaGreat
open Go.RowKit
def Wx:A6:=Kf ⟨31,[.c 2 true 3],So [Bx 1 26 3 0,Ii 2 (.alloc 26 Za)] (So [Fa 6 1 1,Lf 7 6,Le 8 7,Ii 9 (.make 43 7 104 Zc (Tt 8) (Tt 8)),Mv 3 9] (Ss (So [Fa 10 1 1,Lf 11 10,Le 12 11,Mn 13 0] (.block 0 (.loop (So [Bt 14 .lss 13 12] (Ss (Cd 14 .skip (.exit 0)) (Ss (.block 1 (So [Mv 15 13,Ia 16 1 11 13,Lf 17 16,Mv 4 15,Mv 5 17] (Oo [Mv 18 3,Mv 19 4,Mv 20 5,Cc 21 81 [20],Ia 22 7 18 19,Sr 7 22 21]))) (Oo [Bk 23 .add 13 1,Mv 13 23]))))))) (So [Fa 24 0 1,Lf 25 24,Mv 26 3,Le 27 26,Ii 28 (.rowlit 3 1 1 [.int .i64 0] [(0,Tt 27)]),Mv 29 3,Ii 30 (.build Za [(0,1,Tt 25),(1,1,Tt 28),(2,1,Tt 29)]),Sr 3 2 30] .ret)))⟩
theorem SG:Ag Tryz.prog 25 = some Wx:=by kernel_rfl
def Wy:A6:=Kf ⟨13,[.c 2 true 3],So [Bx 1 26 3 0,Ii 2 (.alloc 26 Za)] (Ss (.ops true [Fa 3 0 1,Lf 4 3,Fa 5 2 1,Lf 6 5,Le 7 6,Ii 8 (.rowlit 3 1 1 [.int .i64 0] [(0,Tt 7)]),Fa 9 2 1,Lf 10 9,Cc 11 82 [10],Ii 12 (.build Za [(0,1,Tt 4),(1,1,Tt 8),(2,1,Tt 11)]),Sr 3 2 12] [(1,3),(1,4),(1,5),(1,7),(3,7),(4,7),(5,7),(1,8),(3,8),(4,8),(5,8)]) .ret)⟩
theorem SH:Ag Tryz.prog 26 = some Wy:=by kernel_rfl
def SI:A6:=Kf ⟨36,[.c 2 true 3,.t 3],So [Bx 1 26 3 0,Ii 2 (.alloc 26 Za),Mn 3 0] (Ss (So [Lt 5 3 1,Cc 6 89 [5]] (Cd 6 (So [Lt 7 3 1,Sr 3 2 7,Mn 3 0] .ret) .skip)) (Ss (So [Lt 8 3 1,Cc 9 90 [8],Bk 10 .gtr 9 8] (Cd 10 (So [Ii 11 (.build Za []),Sr 3 2 11,Mn 3 7] .ret) .skip)) (So [Lt 12 3 1,Ii 13 (.rowlit 26 3 1 Za [(0,Tt 12)]),Ii 14 (.build Zc [(1,1,Nn 2),(6,1,Tt 13)]),Ii 4 (.alloc 43 Zc),Sr 7 4 14] (Ss (So [Fa 15 1 1,Lf 16 15,Le 17 16,Bk 18 .eql 17 0,Mv 19 18,Gg 19 true (Fa 20 2 1),Gg 19 true (Lf 21 20),Gg 19 true (Le 22 21),Gg 19 true (Bk 23 .gtr 22 0),Ii 24 (.pick (Tt 19) (Tt 23) (Bo false))] (Cd 24 (Oo [Fa 25 2 1,Lf 26 25,Ii 27 (.iaddr 7 (Tt 26) (Nn 0)),Fa 28 0 27,Lf 29 28,Fa 30 0 4,Sr 1 30 29]) .skip)) (So [Fa 31 0 1,Lf 32 31,Lt 33 7 4,Ii 34 (.rowlit 43 7 1 Zc [(0,Tt 33)]),Ii 35 (.build Za [(0,1,Tt 32),(2,1,Tt 34)]),Sr 3 2 35,Mn 3 0] .ret)))))⟩
theorem DQ:Ag Tryz.prog 30 = some SI:=by kernel_rfl
def Wz:A6:=Kf ⟨19,[.c 2 true 3],So [Bx 1 26 3 0,Ii 2 (.alloc 26 Za)] (So [Lt 4 3 1,Cc 5 50 [4],Ii 3 (.alloc 43 Zc),Sr 7 3 5] (Ss (So [Fa 6 2 1,Lf 7 6,Le 8 7,Bk 9 .gtr 8 0] (Cd 9 (Oo [Fa 10 2 1,Lf 11 10,Ii 12 (.iaddr 7 (Tt 11) (Nn 0)),Lt 13 7 12,Sr 7 3 13]) .skip)) (Ss (.ops true [Lt 14 7 3,Cc 15 72 [14],Fa 16 0 1,Lf 17 16,Cc 18 58 [15,17],Sr 3 2 18] [(0,3),(1,3)]) .ret)))⟩
theorem Ka:Ag Tryz.prog 31 = some Wz:=by kernel_rfl
def WA:A6:=Kf ⟨8,[.c 2 true 3],So [Bx 1 26 3 0,Ii 2 (.alloc 26 Za)] (Ss (.ops true [Lt 3 3 1,Cc 4 90 [3],Lt 5 3 1,Cc 6 52 [5],Cc 7 91 [4,6],Sr 3 2 7] [(0,2),(1,2)]) .ret)⟩
theorem SJ:Ag Tryz.prog 32 = some WA:=by kernel_rfl
def WB:A6:=Kf ⟨17,[.c 2 true 3],So [Bx 1 26 3 0,Ii 2 (.alloc 26 Za)] (Ss (So [Fa 3 1 1,Lf 4 3,Le 5 4,Bk 6 .eql 5 0] (Cd 6 (So [Fa 7 0 1,Lf 8 7,Ca 9 91 [Nn 1,Tt 8],Sr 3 2 9] .ret) .skip)) (Ss (.ops true [Fa 10 1 1,Lf 11 10,Ii 12 (.iaddr 1 (Tt 11) (Nn 0)),Lf 13 12,Fa 14 0 1,Lf 15 14,Cc 16 91 [13,15],Sr 3 2 16] [(1,5),(2,5),(3,5)]) .ret))⟩
theorem Kb:Ag Tryz.prog 33 = some WB:=by kernel_rfl
def UI:A6:=Kf ⟨21,[.c 2 true 3,.t 3],So [Bx 1 26 3 0,Ii 2 (.alloc 26 Za),Mn 3 0] (So [Lt 7 3 1,Ca 8 93 [.const (.slice none 0 0),Tt 7],Mv 6 8,Ex 9 0 6,Ex 10 1 6,Mv 4 9,Mv 5 10] (Ss (So [Mv 11 5,Ii 12 (.un .not (Tt 11))] (Cd 12 (So [Ii 13 (.build Za []),Sr 3 2 13,Mn 3 7] .ret) .skip)) (So [Lt 14 3 1,Cc 15 52 [14],Mv 16 4,Le 17 16,Ii 18 (.rowlit 3 1 1 [.int .i64 0] [(0,Tt 17)]),Mv 19 4,Ii 20 (.build Za [(0,1,Tt 15),(1,1,Tt 18),(2,1,Tt 19)]),Sr 3 2 20,Mn 3 0] .ret)))⟩
theorem I6:Ag Tryz.prog 35 = some UI:=by kernel_rfl
def UJ:A6:=Kf ⟨46,[.t 4,.t 5],So [Bx 3 26 3 1,Ii 4 (.mov (.const (.slice none 0 0))),Ii 5 (.mov (Bo false))] (Ss (So [Fa 11 2 3,Lf 12 11,Le 13 12,Mn 14 0] (.block 0 (.loop (So [Bt 15 .lss 14 13] (Ss (Cd 15 .skip (.exit 0)) (Ss (.block 1 (So [Ia 16 7 12 14,Lt 17 7 16,Ii 7 (.alloc 43 Zc),Sr 7 7 17] (Ss (So [Fa 18 1 7,Lf 19 18,Bk 20 .neq 19 2] (Cd 20 (Ss (So [Mv 21 0,Le 22 21,Bk 23 .eql 22 2048] (Cd 23 (So [Ii 4 (.mov (.const (.slice none 0 0))),Ii 5 (.mov (Bo false))] .ret) .skip)) (So [Mv 24 0,Lt 25 7 7,Ii 26 (.rowlit 43 7 1 Zc [(0,Tt 25)]),Ii 27 (.append 43 7 104 Zc (Tt 24) (Tt 26)),Mv 0 27] (.exit 1))) .skip)) (So [Fa 28 6 7,Lf 29 28,Le 30 29,Mn 31 0] (.block 2 (.loop (So [Bt 32 .lss 31 30] (Ss (Cd 32 .skip (.exit 2)) (Ss (.block 3 (So [Ia 33 3 29 31,Lt 34 3 33,Ii 9 (.alloc 26 Za),Sr 3 9 34] (So [Ii 10 (.mov (Bo false))] (So [Mv 36 0,Lt 37 3 9,Cc 38 93 [36,37],Mv 35 38,Ex 39 0 35,Ex 40 1 35,Mv 0 39,Mv 10 40] (So [Mv 41 10,Ii 42 (.un .not (Tt 41))] (Cd 42 (So [Ii 4 (.mov (.const (.slice none 0 0))),Ii 5 (.mov (Bo false))] .ret) .skip)))))) (Oo [Bk 43 .add 31 1,Mv 31 43])))))))))) (Oo [Bk 44 .add 14 1,Mv 14 44]))))))) (So [Mv 45 0,Mv 4 45,Ii 5 (.mov (Bo true))] .ret))⟩
theorem Ec:Ag Tryz.prog 93 = some UJ:=by kernel_rfl
def YT:A6:=Kf ⟨55,[.c 2 true 3,.t 3],So [Bx 1 26 3 0,Ii 2 (.alloc 26 Za),Mn 3 0] (So [Lt 9 3 1,Cc 10 48 [9],Mv 8 10,Ex 11 0 8,Ex 12 1 8,Mv 4 11,Mv 5 12] (Ss (So [Mv 13 5,Bk 14 .neq 13 0] (Cd 14 (So [Ii 15 (.build Za []),Mv 16 5,Sr 3 2 15,Mv 3 16] .ret) .skip)) (Ss (.block 0 (So [Mv 18 4,Le 19 18,Bk 20 .neq 19 1,Mv 17 20] (Cd 17 (So [Ii 21 (.build Za []),Sr 3 2 21,Mn 3 4] .ret) (So [Mv 23 4,Ii 24 (.iaddr 1 (Tt 23) (Nn 0)),Lf 25 24,Bk 26 .lss 25 0,Mv 22 26] (Cd 22 (So [Ii 27 (.build Za []),Sr 3 2 27,Mn 3 3] .ret) (So [Mv 29 4,Ii 30 (.iaddr 1 (Tt 29) (Nn 0)),Lf 31 30,Bk 32 .gtr 31 2048,Mv 28 32] (Cd 28 (So [Ii 33 (.build Za []),Sr 3 2 33,Mn 3 7] .ret) .skip))))))) (So [Mv 34 4,Ii 35 (.iaddr 1 (Tt 34) (Nn 0)),Lf 36 35,Ii 37 (.make 43 7 104 Zc (Tt 36) (Tt 36)),Mv 6 37] (Ss (So [Mv 38 6,Le 39 38,Mn 40 0] (.block 1 (.loop (So [Bt 41 .lss 40 39] (Ss (Cd 41 .skip (.exit 1)) (Ss (.block 2 (So [Mv 42 40,Mv 7 42] (Oo [Mv 43 6,Mv 44 7,Mv 45 7,Bk 46 .add 45 1,Cc 47 81 [46],Ia 48 7 43 44,Sr 7 48 47]))) (Oo [Bk 49 .add 40 1,Mv 40 49]))))))) (Ss (.ops true [Mv 50 6,Cc 51 92 [50],Lt 52 3 1,Cc 53 52 [52],Cc 54 58 [51,53],Sr 3 2 54,Mn 3 0] [(1,2)]) .ret))))))⟩
theorem D2:Ag Tryz.prog 34 = some YT:=by kernel_rfl
def UK:I0:=Kd ⟨41,[.c 2 true 3,.c 3 false 1],Oo [Bx 1 26 3 0,Ii 2 (.alloc 26 Za),Ii 3 (.alloc 30 [.int .i64 0])],8,94,Ss (So [Fa 9 1 1,Lf 10 9,Le 11 10,Bk 12 .gtr 11 1] (Cd 12 (So [Ii 13 (.build Za []),Sr 3 2 13,Jj (.store 1 (Tt 3) (Nn 5))] .ret) .skip)) (So [Fa 14 2 1,Lf 15 14,Cc 16 95 [15],Mv 4 16] (So [Ii 17 (.rowlit 43 7 0 Zc []),Mv 5 17] (Ss (So [Fa 18 2 1,Lf 19 18,Le 20 19,Mn 21 0] (.block 0 (.loop (So [Bt 22 .lss 21 20] (Ss (Cd 22 .skip (.exit 0)) (Ss (.block 1 (So [Mv 23 21,Ia 24 7 19 21,Lt 25 7 24,Ii 7 (.alloc 43 Zc),Mv 6 23,Sr 7 7 25] (So [Mv 26 4,Lt 27 7 7,Ii 28 (.call (Tt 26) [Tt 27]),Mv 29 6,Bt 30 .eql 28 29] (Cd 30 (Oo [Mv 31 5,Lt 32 7 7,Ii 33 (.rowlit 43 7 1 Zc [(0,Tt 32)]),Ii 34 (.append 43 7 104 Zc (Tt 31) (Tt 33)),Mv 5 34]) .skip)))) (Oo [Bk 35 .add 21 1,Mv 21 35]))))))) (Ss (.ops true [Mv 36 5,Cc 37 92 [36],Lt 38 3 1,Cc 39 52 [38],Cc 40 58 [37,39],Sr 3 2 40,Jj (.store 1 (Tt 3) (Nn 0))] [(1,2)]) .ret))))⟩
theorem Rb:C5 Tryz.prog 36 = some UK:=by kernel_rfl
def WC:A6:=Kf ⟨49,[.c 2 true 3,.t 3],So [Bx 1 26 3 0,Ii 2 (.alloc 26 Za),Mn 3 0] (So [Lt 10 3 1,Cc 11 48 [10],Mv 9 11,Ex 12 0 9,Ex 13 1 9,Mv 4 12,Mv 5 13] (Ss (So [Mv 14 5,Bk 15 .neq 14 0] (Cd 15 (So [Ii 16 (.build Za []),Mv 17 5,Sr 3 2 16,Mv 3 17] .ret) .skip)) (Ss (So [Fa 18 1 1,Lf 19 18,Le 20 19,Bk 21 .eql 20 0] (Cd 21 (So [Ii 22 (.build Za []),Sr 3 2 22,Mn 3 5] .ret) .skip)) (Ss (So [Mv 23 4,Cc 24 96 [23],Ii 25 (.un .not (Tt 24))] (Cd 25 (So [Ii 26 (.build Za []),Sr 3 2 26,Mn 3 3] .ret) .skip)) (So [Ii 27 (.rowlit 43 7 0 Zc []),Mv 6 27] (Ss (So [Mv 28 4,Le 29 28,Mn 30 0] (.block 0 (.loop (So [Bt 31 .lss 30 29] (Ss (Cd 31 .skip (.exit 0)) (Ss (.block 1 (So [Mv 32 30,Ia 33 1 28 30,Lf 34 33,Mv 7 32,Mv 8 34] (So [Mv 35 8,Bk 36 .eql 35 1] (Cd 36 (Oo [Mv 37 6,Mv 38 7,Bk 39 .add 38 1,Cc 40 81 [39],Ii 41 (.rowlit 43 7 1 Zc [(0,Tt 40)]),Ii 42 (.append 43 7 104 Zc (Tt 37) (Tt 41)),Mv 6 42]) .skip)))) (Oo [Bk 43 .add 30 1,Mv 30 43]))))))) (Ss (.ops true [Mv 44 6,Cc 45 92 [44],Lt 46 3 1,Cc 47 52 [46],Cc 48 58 [45,47],Sr 3 2 48,Mn 3 0] [(1,2)]) .ret)))))))⟩
theorem ED:Ag Tryz.prog 37 = some WC:=by kernel_rfl
def UL:I0:=Kd ⟨56,[.c 4 true 3,.c 5 false 1],Oo [Bx 2 26 3 0,Bx 3 4 1 1,Ii 4 (.alloc 26 Za),Ii 5 (.alloc 30 [.int .i64 0])],11,97,Ss (So [Fa 12 1 2,Lf 13 12,Le 14 13,Bk 15 .neq 14 1] (Cd 15 (So [Ii 16 (.build Za []),Sr 3 4 16,Jj (.store 1 (Tt 5) (Nn 5))] .ret) .skip)) (So [Fa 17 2 2,Lf 18 17,Le 19 18,Ii 20 (.make 3 1 8 [.int .i64 0] (Tt 19) (Tt 19)),Mv 6 20] (Ss (So [Mv 21 6,Le 22 21,Mn 23 0] (.block 0 (.loop (So [Bt 24 .lss 23 22] (Ss (Cd 24 .skip (.exit 0)) (Ss (.block 1 (So [Mv 25 23,Mv 7 25] (Oo [Mv 26 6,Mv 27 7,Mv 28 7,Ia 29 1 26 27,Sr 1 29 28]))) (Oo [Bk 30 .add 23 1,Mv 23 30]))))))) (So [Mv 31 6,Ii 32 (.mkfn 99 [] [Tt 3,Tt 2]),Cc 33 98 [31,32]] (So [Mv 34 6,Le 35 34,Ii 36 (.make 43 7 104 Zc (Tt 35) (Tt 35)),Mv 8 36] (Ss (So [Mv 37 6,Le 38 37,Mn 39 0] (.block 2 (.loop (So [Bt 40 .lss 39 38] (Ss (Cd 40 .skip (.exit 2)) (Ss (.block 3 (So [Mv 41 39,Ia 42 1 37 39,Lf 43 42,Mv 9 41,Mv 10 43] (Oo [Mv 44 8,Mv 45 9,Mv 46 10,Bk 47 .add 46 1,Cc 48 81 [47],Ia 49 7 44 45,Sr 7 49 48]))) (Oo [Bk 50 .add 39 1,Mv 39 50]))))))) (Ss (.ops true [Mv 51 8,Cc 52 92 [51],Lt 53 3 2,Cc 54 52 [53],Cc 55 58 [52,54],Sr 3 4 55,Jj (.store 1 (Tt 5) (Nn 0))] [(1,2)]) .ret))))))⟩
theorem I7:C5 Tryz.prog 38 = some UL:=by kernel_rfl
def Rc:A6:=Kf ⟨30,[.t 6],So [Mn 6 0] (Ss (So [Lf 7 2] (Cd 7 (Ss (.ops true [Fa 8 2 3,Lf 9 8,Mv 10 1,Ia 11 7 9 10,Lt 12 7 11,Fa 13 2 3,Lf 14 13,Mv 15 0,Ia 16 7 14 15,Lt 17 7 16,Cc 18 100 [12,17],Mv 6 18] [(1,6),(3,6),(4,6),(1,8),(3,8),(4,8),(1,9),(3,9),(4,9)]) .ret) .skip)) (Ss (.ops true [Fa 19 2 3,Lf 20 19,Mv 21 0,Ia 22 7 20 21,Lt 23 7 22,Fa 24 2 3,Lf 25 24,Mv 26 1,Ia 27 7 25 26,Lt 28 7 27,Cc 29 100 [23,28],Mv 6 29] [(1,6),(3,6),(4,6),(1,8),(3,8),(4,8),(1,9),(3,9),(4,9)]) .ret))⟩
theorem Ho:Ag Tryz.prog 99 = some Rc:=by kernel_rfl
def UM:A6:=Kf ⟨40,[.t 4],So [Bx 2 43 7 0,Bx 3 43 7 1,Mn 4 0] (Ss (So [Fa 5 1 2,Lf 6 5,Fa 7 1 3,Lf 8 7,Bt 9 .neq 6 8] (Cd 9 (So [Fa 10 1 2,Lf 11 10,Fa 12 1 3,Lf 13 12,Cc 14 148 [11,13],Mv 4 14] .ret) .skip)) (Ss (So [Fa 15 1 2,Lf 16 15] (.block 0 (So [Bk 18 .eql 16 0,Mv 17 18] (Cd 17 (So [Fa 19 2 2,Lt 20 3 19,Fa 21 2 3,Lt 22 3 21,Cc 23 149 [20,22],Mv 4 23] .ret) (So [Bk 25 .eql 16 1,Mv 24 25] (Cd 24 (So [Fa 26 5 2,Lf 27 26,Fa 28 5 3,Lf 29 28,Cc 30 148 [27,29],Mv 4 30] .ret) .skip)))))) (Ss (.ops true [Fa 31 6 2,Lf 32 31,Ii 33 (.iaddr 3 (Tt 32) (Nn 0)),Lt 34 3 33,Fa 35 6 3,Lf 36 35,Ii 37 (.iaddr 3 (Tt 36) (Nn 0)),Lt 38 3 37,Cc 39 150 [34,38],Mv 4 39] [(1,5),(2,5),(3,5),(1,6),(2,6),(3,6),(1,7),(2,7),(3,7)]) .ret)))⟩
theorem Ed:Ag Tryz.prog 100 = some UM:=by kernel_rfl
def SK:A6:=Kf ⟨48,[.t 4],So [Bx 2 26 3 0,Bx 3 26 3 1,Mn 4 0] (Ss (So [Fa 9 1 2,Lf 10 9,Le 11 10,Fa 12 1 3,Lf 13 12,Le 14 13,Cc 15 148 [11,14],Mv 5 15] (So [Mv 16 5,Bk 17 .neq 16 0] (Cd 17 (So [Mv 18 5,Mv 4 18] .ret) .skip))) (Ss (So [Fa 19 1 2,Lf 20 19,Fa 21 1 3,Lf 22 21,Cc 23 184 [20,22],Mv 6 23] (So [Mv 24 6,Bk 25 .neq 24 0] (Cd 25 (So [Mv 26 6,Mv 4 26] .ret) .skip))) (Ss (So [Fa 27 2 2,Lf 28 27,Le 29 28,Mn 30 0] (.block 0 (.loop (So [Bt 31 .lss 30 29] (Ss (Cd 31 .skip (.exit 0)) (Ss (.block 1 (So [Mv 32 30,Mv 7 32] (Ss (.ops true [Fa 33 2 2,Lf 34 33,Mv 35 7,Ia 36 7 34 35,Lt 37 7 36,Fa 38 2 3,Lf 39 38,Mv 40 7,Ia 41 7 39 40,Lt 42 7 41,Cc 43 100 [37,42],Mv 8 43] [(1,6),(3,6),(4,6),(1,8),(3,8),(4,8),(1,9),(3,9),(4,9)]) (So [Mv 44 8,Bk 45 .neq 44 0] (Cd 45 (So [Mv 46 8,Mv 4 46] .ret) .skip))))) (Oo [Bk 47 .add 30 1,Mv 30 47]))))))) (So [Mn 4 0] .ret))))⟩
theorem Fc:Ag Tryz.prog 150 = some SK:=by kernel_rfl
def WD:A6:=Kf ⟨50,[.c 4 true 3,.t 5],So [Bx 3 26 3 1,Ii 4 (.alloc 26 Za),Mn 5 0] (Ss (So [Mv 11 0,Cc 12 101 [11],Ii 13 (.un .not (Tt 12))] (Cd 13 (So [Ii 14 (.build Za []),Sr 3 4 14,Mn 5 8] .ret) .skip)) (Ss (.ops true [Fa 15 0 3,Lf 16 15,Fa 17 1 3,Lf 18 17,Cc 19 64 [18],Fa 20 2 3,Lf 21 20,Le 22 21,Ii 23 (.make 43 7 104 Zc (Tt 22) (Tt 22)),Ii 24 (.build Za [(0,1,Tt 16),(1,1,Tt 19),(2,1,Tt 23)]),Ii 6 (.alloc 26 Za),Sr 3 6 24] [(1,3),(1,4),(1,6),(3,6),(4,6),(1,7),(3,7),(4,7),(1,8),(3,8),(4,8),(1,10),(3,10),(4,10),(6,10),(7,10),(8,10)]) (Ss (So [Fa 25 2 3,Lf 26 25,Le 27 26,Mn 28 0] (.block 0 (.loop (So [Bt 29 .lss 28 27] (Ss (Cd 29 .skip (.exit 0)) (Ss (.block 1 (So [Mv 30 28,Ia 31 7 26 28,Lt 32 7 31,Ii 8 (.alloc 43 Zc),Mv 7 30,Sr 7 8 32] (So [Mv 34 0,Lt 35 7 8,Cc 36 102 [34,35],Mv 33 36,Ex 37 0 33,Ex 38 1 33,Ii 9 (.alloc 43 Zc),Sr 7 9 37,Mv 10 38] (Ss (So [Mv 39 10,Bk 40 .neq 39 0] (Cd 40 (So [Ii 41 (.build Za []),Mv 42 10,Sr 3 4 41,Mv 5 42] .ret) .skip)) (Oo [Fa 43 2 6,Lf 44 43,Mv 45 7,Lt 46 7 9,Ia 47 7 44 45,Sr 7 47 46]))))) (Oo [Bk 48 .add 28 1,Mv 28 48]))))))) (So [Lt 49 3 6,Sr 3 4 49,Mn 5 0] .ret))))⟩
theorem Kc:Ag Tryz.prog 39 = some WD:=by kernel_rfl
def Re:A6:=Kf ⟨70,[.c 4 true 3,.t 5],So [Bx 3 40 3 1,Ii 4 (.alloc 40 [.bool false,.slice none 0 0,.slice none 0 0]),Mn 5 0] (Ss (So [Mv 8 0] (.block 0 (So [Bk 10 .eql 8 43,Mv 9 10] (Cd 9 (So [Lt 11 3 3,Cc 12 185 [11],Ii 13 (.field true 2 3 (Tt 12)),Sr 3 4 13,Mn 5 0] .ret) (So [Bk 15 .eql 8 45,Mv 14 15] (Cd 14 (So [Lt 16 3 3,Cc 17 186 [16],Sr 3 4 17,Mn 5 0] .ret) (So [Bk 19 .eql 8 215,Mv 18 19] (Cd 18 (So [Lt 20 3 3,Cc 21 187 [20],Cc 22 142 [21],Sr 3 4 22,Mn 5 0] .ret) (So [Bk 24 .eql 8 247,Mv 23 24] (Cd 23 (Ss (.ops true [Ca 25 142 [Nn 1],Lt 26 3 3,Cc 27 188 [25,26],Ex 28 0 27,Ex 29 1 27,Sr 3 4 28,Mv 5 29] [(0,1)]) .ret) (So [Bk 31 .eql 8 8968,Mv 30 31] (Cd 30 (So [Lt 32 3 3,Cc 33 189 [32],Sr 3 4 33,Mn 5 0] .ret) (So [Bk 35 .eql 8 8970,Mv 34 35] (Cd 34 (So [Lt 36 3 3,Cc 37 190 [36],Sr 3 4 37,Mn 5 0] .ret) (So [Bk 39 .eql 8 124,Mv 38 39] (Cd 38 (So [Lt 40 3 3,Cc 41 191 [40],Sr 3 4 41,Mn 5 0] .ret) (So [Bk 43 .eql 8 126,Mv 42 43] (Cd 42 (So [Lt 45 3 3,Cc 46 111 [45],Mv 44 46,Ex 47 0 44,Ex 48 1 44,Mv 6 47,Mv 7 48] (Ss (So [Mv 49 7,Ii 50 (.un .not (Tt 49)),Mv 51 50,Gg 51 false (Mv 52 6),Gg 51 false (Bk 53 .neq 52 0),Gg 51 false (Mv 54 53),Gg 54 true (Mv 55 6),Gg 54 true (Bk 56 .neq 55 1),Gg 51 false (Ii 57 (.pick (Tt 54) (Tt 56) (Bo false))),Ii 58 (.pick (Tt 51) (Bo true) (Tt 57))] (Cd 58 (So [Ii 59 (.build [.bool false,.slice none 0 0,.slice none 0 0] []),Sr 3 4 59,Mn 5 3] .ret) .skip)) (So [Mv 60 6,Ii 61 (.bin .sub (Nn 1) (Tt 60)),Cc 62 142 [61],Sr 3 4 62,Mn 5 0] .ret))) (So [Bk 64 .eql 8 33,Mv 63 64] (Cd 63 (So [Lt 65 3 3,Cc 66 192 [65],Ex 67 0 66,Ex 68 1 66,Sr 3 4 67,Mv 5 68] .ret) .skip)))))))))))))))))))) (So [Ii 69 (.build [.bool false,.slice none 0 0,.slice none 0 0] []),Sr 3 4 69,Mn 5 8] .ret))⟩
theorem Ba:Ag Tryz.prog 151 = some Re:=by kernel_rfl
def Py:A6:=Kf ⟨42,[.c 4 true 7,.t 5],So [Bx 3 43 7 1,Ii 4 (.alloc 43 Zc),Mn 5 0] (Ss (So [Fa 10 1 3,Lf 11 10] (.block 0 (So [Bk 13 .eql 11 0,Mv 12 13] (Cd 12 (So [Mv 15 0,Fa 16 2 3,Lt 17 3 16,Cc 18 151 [15,17],Mv 14 18,Ex 19 0 14,Ex 20 1 14,Ii 6 (.alloc 40 [.bool false,.slice none 0 0,.slice none 0 0]),Sr 3 6 19,Mv 7 20] (So [Fa 21 0 3,Lf 22 21,Lt 23 3 6,Ii 24 (.build Zc [(0,1,Tt 22),(1,1,Nn 0),(2,3,Tt 23)]),Mv 25 7,Sr 7 4 24,Mv 5 25] .ret)) (So [Bk 27 .eql 11 2,Mv 26 27] (Cd 26 (So [Mv 29 0,Lt 30 7 3,Cc 31 152 [30],Cc 32 39 [29,31],Mv 28 32,Ex 33 0 28,Ex 34 1 28,Ii 8 (.alloc 26 Za),Sr 3 8 33,Mv 9 34] (So [Fa 35 0 3,Lf 36 35,Lt 37 3 8,Ii 38 (.rowlit 26 3 1 Za [(0,Tt 37)]),Ii 39 (.build Zc [(0,1,Tt 36),(1,1,Nn 2),(6,1,Tt 38)]),Mv 40 9,Sr 7 4 39,Mv 5 40] .ret)) .skip)))))) (So [Ii 41 (.build Zc []),Sr 7 4 41,Mn 5 3] .ret))⟩
theorem Ek:Ag Tryz.prog 102 = some Py:=by kernel_rfl
def MO:A6:=Kf ⟨52,[.c 2 true 3,.t 3],So [Bx 1 40 3 0,Ii 2 (.alloc 40 [.bool false,.slice none 0 0,.slice none 0 0]),Mn 3 0] (Ss (So [Lt 11 3 1,Cc 12 224 [11],Mv 10 12,Ex 13 0 10,Ex 14 1 10,Ii 4 (.alloc 153 [.bool false,.slice none 0 0]),Sr 2 4 13,Mv 5 14] (So [Mv 15 5,Ii 16 (.un .not (Tt 15)),Mv 17 16,Gg 17 false (Lt 18 3 1),Gg 17 false (Cc 19 187 [18]),Gg 17 false (Bk 20 .lss 19 0),Ii 21 (.pick (Tt 17) (Bo true) (Tt 20))] (Cd 21 (So [Ii 22 (.build [.bool false,.slice none 0 0,.slice none 0 0] []),Sr 3 2 22,Mn 3 3] .ret) .skip))) (So [Lt 24 3 1,Cc 25 111 [24],Mv 23 25,Ex 26 0 23,Ex 27 1 23,Mv 6 26,Mv 7 27] (Ss (So [Mv 28 7,Ii 29 (.un .not (Tt 28)),Mv 30 29,Gg 30 false (Mv 31 6),Gg 30 false (Bk 32 .gtr 31 200),Ii 33 (.pick (Tt 30) (Bo true) (Tt 32))] (Cd 33 (So [Ii 34 (.build [.bool false,.slice none 0 0,.slice none 0 0] []),Sr 3 2 34,Mn 3 7] .ret) .skip)) (So [Ca 35 174 [Nn 1],Ii 8 (.alloc 153 [.bool false,.slice none 0 0]),Sr 2 8 35] (Ss (So [Mn 9 2] (.block 0 (.loop (Ss (So [Mv 36 9,Mv 37 6,Bt 38 .leq 36 37] (Cd 38 .skip (.exit 0))) (Ss (.block 1 (.ops true [Lt 41 2 8,Mv 42 9,Cc 43 174 [42],Cc 44 182 [41,43],Sr 2 8 44] [(0,2)])) (Oo [Mv 39 9,Bk 40 .add 39 1,Mv 9 40])))))) (Ss (So [Fa 45 1 8,Lf 46 45,Le 47 46,Bk 48 .gtr 47 32] (Cd 48 (So [Ii 49 (.build [.bool false,.slice none 0 0,.slice none 0 0] []),Sr 3 2 49,Mn 3 7] .ret) .skip)) (So [Lt 50 2 8,Cc 51 173 [50],Sr 3 2 51,Mn 3 0] .ret)))))))⟩
theorem BU:Ag Tryz.prog 192 = some MO:=by kernel_rfl
def SL:A6:=Kf ⟨14,[.t 2],So [Ii 2 (.mov (Bo false))] (Ss (So [Mv 3 0] (.block 0 (Ss (So [Bk 5 .eql 3 43,Mv 4 5] (Cd 4 .skip (So [Bk 6 .eql 3 45,Mv 4 6] (Cd 4 .skip (So [Bk 7 .eql 3 215,Mv 4 7] (Cd 4 .skip (So [Bk 8 .eql 3 247,Mv 4 8] (Cd 4 .skip (So [Bk 9 .eql 3 8968,Mv 4 9] (Cd 4 .skip (So [Bk 10 .eql 3 8970,Mv 4 10] (Cd 4 .skip (So [Bk 11 .eql 3 124,Mv 4 11] (Cd 4 .skip (So [Bk 12 .eql 3 126,Mv 4 12] (Cd 4 .skip (Oo [Bk 13 .eql 3 33,Mv 4 13]))))))))))))))))) (Cd 4 (So [Ii 2 (.mov (Bo true))] .ret) .skip)))) (So [Ii 2 (.mov (Bo false))] .ret))⟩
theorem H3:Ag Tryz.prog 101 = some SL:=by kernel_rfl
def YU:A6:=Kf ⟨12,[.c 2 true 2,.t 3],So [Bx 1 40 3 0,Ii 2 (.alloc 153 [.bool false,.slice none 0 0]),Ii 3 (.mov (Bo false))] (Ss (So [Fa 4 2 1,Lf 5 4,Cc 6 161 [5],Ii 7 (.un .not (Tt 6))] (Cd 7 (So [Ii 8 (.build [.bool false,.slice none 0 0] []),Sr 2 2 8,Ii 3 (.mov (Bo false))] .ret) .skip)) (So [Lt 9 3 1,Cc 10 163 [9],Cc 11 199 [10],Sr 2 2 11,Ii 3 (.mov (Bo true))] .ret))⟩
theorem Lq:Ag Tryz.prog 224 = some YU:=by kernel_rfl
def Abc:A6:=Kf ⟨94,[.c 4 true 3,.t 5],So [Bx 3 26 3 1,Ii 4 (.alloc 26 Za),Mn 5 0] (Ss (So [Mv 6 0] (.block 0 (So [Bk 8 .eql 6 9076,Mv 7 8] (Cd 7 (So [Lt 9 3 3,Cc 10 25 [9],Sr 3 4 10,Mn 5 0] .ret) (So [Bk 12 .eql 6 44,Mv 11 12] (Cd 11 (So [Lt 13 3 3,Cc 14 26 [13],Sr 3 4 14,Mn 5 0] .ret) (So [Bk 16 .eql 6 9066,Mv 15 16] (Cd 15 (So [Lt 17 3 3,Cc 18 27 [17],Sr 3 4 18,Mn 5 0] .ret) (So [Bk 20 .eql 6 9021,Mv 19 20] (Cd 19 (So [Lt 21 3 3,Ca 22 28 [Tt 21,Bo false],Sr 3 4 22,Mn 5 0] .ret) (So [Bk 24 .eql 6 8854,Mv 23 24] (Cd 23 (So [Lt 25 3 3,Ca 26 28 [Tt 25,Bo true],Sr 3 4 26,Mn 5 0] .ret) (So [Bk 28 .eql 6 9033,Mv 27 28] (Cd 27 (So [Lt 29 3 3,Cc 30 29 [29],Sr 3 4 30,Mn 5 0] .ret) (So [Bk 32 .eql 6 8834,Mv 31 32] (Cd 31 (So [Lt 33 3 3,Cc 34 30 [33],Ex 35 0 34,Ex 36 1 34,Sr 3 4 35,Mv 5 36] .ret) (So [Bk 38 .eql 6 8835,Mv 37 38] (Cd 37 (So [Lt 39 3 3,Cc 40 31 [39],Sr 3 4 40,Mn 5 0] .ret) (So [Bk 42 .eql 6 8801,Mv 41 42] (Cd 41 (So [Lt 43 3 3,Cc 44 32 [43],Sr 3 4 44,Mn 5 0] .ret) (So [Bk 46 .eql 6 8802,Mv 45 46] (Cd 45 (So [Lt 47 3 3,Cc 48 33 [47],Sr 3 4 48,Mn 5 0] .ret) (Ss (So [Bk 50 .eql 6 8866,Mv 49 50] (Cd 49 .skip (Oo [Bk 51 .eql 6 8867,Mv 49 51]))) (Cd 49 (So [Lt 52 3 3,Sr 3 4 52,Mn 5 0] .ret) (So [Bk 54 .eql 6 9075,Mv 53 54] (Cd 53 (So [Lt 55 3 3,Cc 56 34 [55],Ex 57 0 56,Ex 58 1 56,Sr 3 4 57,Mv 5 58] .ret) (So [Bk 60 .eql 6 8714,Mv 59 60] (Cd 59 (So [Lt 61 3 3,Cc 62 35 [61],Ex 63 0 62,Ex 64 1 62,Sr 3 4 63,Mv 5 64] .ret) (So [Bk 66 .eql 6 8746,Mv 65 66] (Cd 65 (So [Lt 67 3 3,Cc 68 36 [67],Ex 69 0 68,Ex 70 1 68,Sr 3 4 69,Mv 5 70] .ret) (So [Bk 72 .eql 6 9080,Mv 71 72] (Cd 71 (So [Lt 73 3 3,Cc 74 37 [73],Ex 75 0 74,Ex 76 1 74,Sr 3 4 75,Mv 5 76] .ret) (So [Bk 78 .eql 6 9035,Mv 77 78] (Cd 77 (So [Lt 79 3 3,Ca 80 38 [Tt 79,Bo false],Ex 81 0 80,Ex 82 1 80,Sr 3 4 81,Mv 5 82] .ret) (So [Bk 84 .eql 6 9042,Mv 83 84] (Cd 83 (So [Lt 85 3 3,Ca 86 38 [Tt 85,Bo true],Ex 87 0 86,Ex 88 1 86,Sr 3 4 87,Mv 5 88] .ret) .skip)))))))))))))))))))))))))))))))))))) (So [Mv 89 0,Lt 90 3 3,Cc 91 39 [89,90],Ex 92 0 91,Ex 93 1 91,Sr 3 4 92,Mv 5 93] .ret))⟩
theorem Bb:Ag Tryz.prog 8 = some Abc:=by kernel_rfl
def Lr:A6:=Kf ⟨145,[.t 14],So [Bx 9 26 3 2,Bx 10 26 3 3,Bx 11 26 3 4,Bx 12 26 3 5,Ii 14 (.mov (Bo false))] (Ss (So [Lt 27 3 9,Cc 28 4 [27],Ii 29 (.un .not (Tt 28)),Mv 30 29,Gg 30 false (Lt 31 3 10),Gg 30 false (Cc 32 4 [31]),Gg 30 false (Ii 33 (.un .not (Tt 32))),Ii 34 (.pick (Tt 30) (Bo true) (Tt 33)),Mv 35 34,Gg 35 false (Lt 36 3 11),Gg 35 false (Cc 37 4 [36]),Gg 35 false (Ii 38 (.un .not (Tt 37))),Ii 39 (.pick (Tt 35) (Bo true) (Tt 38)),Mv 40 39,Gg 40 false (Lt 41 3 12),Gg 40 false (Cc 42 4 [41]),Gg 40 false (Ii 43 (.un .not (Tt 42))),Ii 44 (.pick (Tt 40) (Bo true) (Tt 43)),Mv 45 44,Gg 45 false (Lt 46 3 9),Gg 45 false (Lt 47 3 10),Gg 45 false (Mv 48 6),Gg 45 false (Cc 49 5 [46,47,48]),Gg 45 false (Ii 50 (.un .not (Tt 49))),Ii 51 (.pick (Tt 45) (Bo true) (Tt 50)),Mv 52 51,Gg 52 false (Lt 53 3 11),Gg 52 false (Lt 54 3 12),Gg 52 false (Mv 55 6),Gg 52 false (Cc 56 5 [53,54,55]),Gg 52 false (Ii 57 (.un .not (Tt 56))),Ii 58 (.pick (Tt 52) (Bo true) (Tt 57))] (Cd 58 (So [Cc 59 6 [],Mv 14 59] .ret) .skip)) (So [Mv 61 0,Lt 62 3 9,Lt 63 3 11,Cc 64 7 [61,62,63],Mv 60 64,Ex 65 0 60,Ex 66 1 60,Ii 15 (.alloc 26 Za),Sr 3 15 65,Mv 16 66] (So [Mv 68 0,Lt 69 3 10,Lt 70 3 12,Cc 71 7 [68,69,70],Mv 67 71,Ex 72 0 67,Ex 73 1 67,Ii 17 (.alloc 26 Za),Sr 3 17 72,Mv 18 73] (Ss (So [Mv 74 16,Bk 75 .neq 74 0,Mv 76 75,Gg 76 false (Mv 77 18),Gg 76 false (Bk 78 .neq 77 0),Ii 79 (.pick (Tt 76) (Bo true) (Tt 78)),Mv 80 79,Gg 80 false (Lt 81 3 15),Gg 80 false (Cc 82 4 [81]),Gg 80 false (Ii 83 (.un .not (Tt 82))),Ii 84 (.pick (Tt 80) (Bo true) (Tt 83)),Mv 85 84,Gg 85 false (Lt 86 3 17),Gg 85 false (Cc 87 4 [86]),Gg 85 false (Ii 88 (.un .not (Tt 87))),Ii 89 (.pick (Tt 85) (Bo true) (Tt 88))] (Cd 89 (So [Cc 90 6 [],Mv 14 90] .ret) .skip)) (So [Mv 92 1,Lt 93 3 9,Lt 94 3 15,Cc 95 7 [92,93,94],Mv 91 95,Ex 96 0 91,Ex 97 1 91,Ii 19 (.alloc 26 Za),Sr 3 19 96,Mv 20 97] (So [Mv 99 1,Lt 100 3 10,Lt 101 3 17,Cc 102 7 [99,100,101],Mv 98 102,Ex 103 0 98,Ex 104 1 98,Ii 21 (.alloc 26 Za),Sr 3 21 103,Mv 22 104] (Ss (So [Mv 105 20,Bk 106 .eql 105 0,Mv 107 106,Gg 107 true (Mv 108 22),Gg 107 true (Bk 109 .eql 108 0),Ii 110 (.pick (Tt 107) (Tt 109) (Bo false)),Mv 111 110,Gg 111 true (Lt 112 3 19),Gg 111 true (Lt 113 3 21),Gg 111 true (Mv 114 6),Gg 111 true (Cc 115 5 [112,113,114]),Gg 111 true (Ii 116 (.un .not (Tt 115))),Ii 117 (.pick (Tt 111) (Tt 116) (Bo false))] (Cd 117 (So [Ii 14 (.mov (Bo false))] .ret) .skip)) (So [Mv 119 1,Lt 120 3 15,Cc 121 8 [119,120],Mv 118 121,Ex 122 0 118,Ex 123 1 118,Ii 23 (.alloc 26 Za),Sr 3 23 122,Mv 24 123] (So [Mv 125 1,Lt 126 3 17,Cc 127 8 [125,126],Mv 124 127,Ex 128 0 124,Ex 129 1 124,Ii 25 (.alloc 26 Za),Sr 3 25 128,Mv 26 129] (So [Mv 130 24,Bk 131 .neq 130 0,Mv 132 131,Gg 132 false (Mv 133 26),Gg 132 false (Bk 134 .neq 133 0),Ii 135 (.pick (Tt 132) (Bo true) (Tt 134)),Mv 136 135,Gg 136 false (Lt 137 3 23),Gg 136 false (Lt 138 3 25),Gg 136 false (Mv 139 6),Gg 136 false (Cc 140 5 [137,138,139]),Ii 141 (.pick (Tt 136) (Bo true) (Tt 140)),Mv 142 141,Gg 142 true (Cc 143 6 []),Ii 144 (.pick (Tt 142) (Tt 143) (Bo false)),Mv 14 144] .ret))))))))))⟩
theorem A3:Ag Tryz.prog 3 = some Lr:=by kernel_rfl
def Gn:A6:=Kf ⟨9,[],Oo [Mv 4 0,Mv 5 0,Le 6 5,Mv 7 1,Cc 8 147 [4,6,7]]⟩
theorem FG:Ag Tryz.prog 98 = some Gn:=by kernel_rfl
def GN:A6:=Kf ⟨63,[],So [Mn 6 20] (So [Mv 10 6,Mn 7 0,Mv 8 10] (Ss (.block 0 (.loop (Ss (So [Mv 11 8,Mv 12 1,Bt 13 .leq 11 12] (Cd 13 .skip (.exit 0))) (.block 1 (So [Mv 14 0,Mv 15 7,Mv 16 8,Mv 17 2,Cc 18 178 [14,15,16,17]] (So [Mv 19 8,Mv 7 19] (Oo [Mv 20 8,Mv 21 6,Bt 22 .add 20 21,Mv 8 22]))))))) (So [Mv 23 0,Mv 24 7,Mv 25 1,Mv 26 2,Cc 27 178 [23,24,25,26]] (.block 2 (.loop (Ss (So [Mv 28 6,Mv 29 1,Bt 30 .lss 28 29] (Cd 30 .skip (.exit 2))) (.block 3 (So [Mv 31 6,Ii 32 (.bin .mul (Nn 2) (Tt 31)),Mn 7 0,Mv 8 32] (Ss (.block 4 (.loop (Ss (So [Mv 33 8,Mv 34 1,Bt 35 .leq 33 34] (Cd 35 .skip (.exit 4))) (.block 5 (So [Mv 36 0,Mv 37 7,Mv 38 7,Mv 39 6,Bt 40 .add 38 39,Mv 41 8,Mv 42 2,Cc 43 179 [36,37,40,41,42]] (So [Mv 44 8,Mv 7 44] (Oo [Mv 45 8,Mv 46 6,Ii 47 (.bin .mul (Nn 2) (Tt 46)),Bt 48 .add 45 47,Mv 8 48]))))))) (Ss (So [Mv 49 7,Mv 50 6,Bt 51 .add 49 50,Mv 9 51] (So [Mv 52 9,Mv 53 1,Bt 54 .lss 52 53] (Cd 54 (Oo [Mv 55 0,Mv 56 7,Mv 57 9,Mv 58 1,Mv 59 2,Cc 60 179 [55,56,57,58,59]]) .skip))) (Oo [Mv 61 6,Bk 62 .mul 61 2,Mv 6 62])))))))))))⟩
theorem F3:Ag Tryz.prog 147 = some GN:=by kernel_rfl
def MP:A6:=Kf ⟨20,[.t 4],So [Mn 4 0] (So [Mv 7 0,Cc 8 180 [7],Mv 5 8] (So [Mv 9 1,Cc 10 180 [9],Mv 6 10] (Ss (So [Mv 11 5] (Cd 11 (Ss (So [Mv 12 6] (Cd 12 (So [Mn 4 0] .ret) .skip)) (So [Mn 4 (-1)] .ret)) .skip)) (Ss (So [Mv 13 6] (Cd 13 (So [Mn 4 1] .ret) .skip)) (Ss (So [Mv 14 0,Mv 15 1,Bt 16 .lss 14 15] (Cd 16 (So [Mn 4 (-1)] .ret) .skip)) (Ss (So [Mv 17 0,Mv 18 1,Bt 19 .gtr 17 18] (Cd 19 (So [Mn 4 1] .ret) .skip)) (So [Mn 4 0] .ret)))))))⟩
theorem DL:Ag Tryz.prog 148 = some MP:=by kernel_rfl
def EK:A6:=Kf ⟨53,[],So [Mv 10 1,Bk 11 .add 10 1,Mv 8 11] (.block 0 (.loop (Ss (So [Mv 12 8,Mv 13 2,Bt 14 .lss 12 13] (Cd 14 .skip (.exit 0))) (Ss (.block 1 (So [Mv 17 8,Mv 9 17] (.block 2 (.loop (Ss (Ss (.ops true [Mv 18 9,Mv 19 1,Bt 20 .gtr 18 19,Mv 21 20,Gg 21 true (Mv 22 3),Gg 21 true (Mv 23 0),Gg 21 true (Mv 24 9),Gg 21 true (Ia 25 1 23 24),Gg 21 true (Lf 26 25),Gg 21 true (Mv 27 0),Gg 21 true (Mv 28 9),Gg 21 true (Bk 29 .sub 28 1),Gg 21 true (Ia 30 1 27 29),Gg 21 true (Lf 31 30),Gg 21 true (Ii 32 (.call (Tt 22) [Tt 26,Tt 31])),Gg 21 true (Bk 33 .lss 32 0),Ii 34 (.pick (Tt 21) (Tt 33) (Bo false))] [(7,12),(8,12),(7,13),(8,13)]) (Cd 34 .skip (.exit 2))) (Ss (.block 3 (.ops true [Mv 37 0,Mv 38 9,Mv 39 0,Mv 40 9,Bk 41 .sub 40 1,Mv 42 0,Mv 43 9,Bk 44 .sub 43 1,Ia 45 1 42 44,Lf 46 45,Mv 47 0,Mv 48 9,Ia 49 1 47 48,Lf 50 49,Ia 51 1 37 38,Sr 1 51 46,Ia 52 1 39 41,Sr 1 52 50] [(8,12),(9,12),(8,13),(9,13)])) (Oo [Mv 35 9,Bk 36 .sub 35 1,Mv 9 36]))))))) (Oo [Mv 15 8,Bk 16 .add 15 1,Mv 8 16])))))⟩
theorem El:Ag Tryz.prog 178 = some EK:=by kernel_rfl
def F4:A6:=Kf ⟨220,[],Ss (So [Mv 25 2,Mv 26 1,Bt 27 .sub 25 26,Bk 28 .eql 27 1] (Cd 28 (So [Mv 29 2,Mv 10 29] (So [Mv 30 3,Mv 11 30] (Ss (.block 0 (.loop (Ss (So [Mv 31 10,Mv 32 11,Bt 33 .lss 31 32] (Cd 33 .skip (.exit 0))) (.block 1 (So [Mv 34 10,Mv 35 11,Bt 36 .add 34 35,Ii 37 (.conv .u64 (Tt 36)),Ii 38 (.bin .shr (Tt 37) (.const (.int .u64 1))),Ii 39 (.conv .i64 (Tt 38)),Mv 12 39] (Ss (.ops true [Mv 40 4,Mv 41 0,Mv 42 12,Ia 43 1 41 42,Lf 44 43,Mv 45 0,Mv 46 1,Ia 47 1 45 46,Lf 48 47,Ii 49 (.call (Tt 40) [Tt 44,Tt 48]),Bk 50 .lss 49 0] [(3,7),(4,7),(3,8),(4,8)]) (Cd 50 (Oo [Mv 51 12,Bk 52 .add 51 1,Mv 10 52]) (Oo [Mv 53 12,Mv 11 53])))))))) (Ss (So [Mv 54 1,Mv 13 54] (.block 2 (.loop (Ss (So [Mv 55 13,Mv 56 10,Bk 57 .sub 56 1,Bt 58 .lss 55 57] (Cd 58 .skip (.exit 2))) (Ss (.block 3 (.ops true [Mv 61 0,Mv 62 13,Mv 63 0,Mv 64 13,Bk 65 .add 64 1,Mv 66 0,Mv 67 13,Bk 68 .add 67 1,Ia 69 1 66 68,Lf 70 69,Mv 71 0,Mv 72 13,Ia 73 1 71 72,Lf 74 73,Ia 75 1 61 62,Sr 1 75 70,Ia 76 1 63 65,Sr 1 76 74] [(8,12),(9,12),(8,13),(9,13)])) (Oo [Mv 59 13,Bk 60 .add 59 1,Mv 13 60])))))) .ret)))) .skip)) (Ss (So [Mv 77 3,Mv 78 2,Bt 79 .sub 77 78,Bk 80 .eql 79 1] (Cd 80 (So [Mv 81 1,Mv 14 81] (So [Mv 82 2,Mv 15 82] (Ss (.block 4 (.loop (Ss (So [Mv 83 14,Mv 84 15,Bt 85 .lss 83 84] (Cd 85 .skip (.exit 4))) (.block 5 (So [Mv 86 14,Mv 87 15,Bt 88 .add 86 87,Ii 89 (.conv .u64 (Tt 88)),Ii 90 (.bin .shr (Tt 89) (.const (.int .u64 1))),Ii 91 (.conv .i64 (Tt 90)),Mv 16 91] (Ss (.ops true [Mv 92 4,Mv 93 0,Mv 94 2,Ia 95 1 93 94,Lf 96 95,Mv 97 0,Mv 98 16,Ia 99 1 97 98,Lf 100 99,Ii 101 (.call (Tt 92) [Tt 96,Tt 100]),Bk 102 .lss 101 0,Ii 103 (.un .not (Tt 102))] [(3,7),(4,7),(3,8),(4,8)]) (Cd 103 (Oo [Mv 104 16,Bk 105 .add 104 1,Mv 14 105]) (Oo [Mv 106 16,Mv 15 106])))))))) (Ss (So [Mv 107 2,Mv 17 107] (.block 6 (.loop (Ss (So [Mv 108 17,Mv 109 14,Bt 110 .gtr 108 109] (Cd 110 .skip (.exit 6))) (Ss (.block 7 (.ops true [Mv 113 0,Mv 114 17,Mv 115 0,Mv 116 17,Bk 117 .sub 116 1,Mv 118 0,Mv 119 17,Bk 120 .sub 119 1,Ia 121 1 118 120,Lf 122 121,Mv 123 0,Mv 124 17,Ia 125 1 123 124,Lf 126 125,Ia 127 1 113 114,Sr 1 127 122,Ia 128 1 115 117,Sr 1 128 126] [(8,12),(9,12),(8,13),(9,13)])) (Oo [Mv 111 17,Bk 112 .sub 111 1,Mv 17 112])))))) .ret)))) .skip)) (So [Mv 129 1,Mv 130 3,Bt 131 .add 129 130,Ii 132 (.conv .u64 (Tt 131)),Ii 133 (.bin .shr (Tt 132) (.const (.int .u64 1))),Ii 134 (.conv .i64 (Tt 133)),Mv 18 134] (So [Mv 135 18,Mv 136 2,Bt 137 .add 135 136,Mv 19 137] (So [Mn 20 0,Mn 21 0] (Ss (So [Mv 138 2,Mv 139 18,Bt 140 .gtr 138 139] (Cd 140 (So [Mv 141 19,Mv 142 3,Bt 143 .sub 141 142,Mv 20 143] (Oo [Mv 144 18,Mv 21 144])) (So [Mv 145 1,Mv 20 145] (Oo [Mv 146 2,Mv 21 146])))) (So [Mv 147 19,Bk 148 .sub 147 1,Mv 22 148] (Ss (.block 8 (.loop (Ss (So [Mv 149 20,Mv 150 21,Bt 151 .lss 149 150] (Cd 151 .skip (.exit 8))) (.block 9 (So [Mv 152 20,Mv 153 21,Bt 154 .add 152 153,Ii 155 (.conv .u64 (Tt 154)),Ii 156 (.bin .shr (Tt 155) (.const (.int .u64 1))),Ii 157 (.conv .i64 (Tt 156)),Mv 23 157] (Ss (.ops true [Mv 158 4,Mv 159 0,Mv 160 22,Mv 161 23,Bt 162 .sub 160 161,Ia 163 1 159 162,Lf 164 163,Mv 165 0,Mv 166 23,Ia 167 1 165 166,Lf 168 167,Ii 169 (.call (Tt 158) [Tt 164,Tt 168]),Bk 170 .lss 169 0,Ii 171 (.un .not (Tt 170))] [(5,9),(6,9),(5,10),(6,10)]) (Cd 171 (Oo [Mv 172 23,Bk 173 .add 172 1,Mv 20 173]) (Oo [Mv 174 23,Mv 21 174])))))))) (So [Mv 175 19,Mv 176 20,Bt 177 .sub 175 176,Mv 24 177] (Ss (So [Mv 178 20,Mv 179 2,Bt 180 .lss 178 179,Mv 181 180,Gg 181 true (Mv 182 2),Gg 181 true (Mv 183 24),Gg 181 true (Bt 184 .lss 182 183),Ii 185 (.pick (Tt 181) (Tt 184) (Bo false))] (Cd 185 (Oo [Mv 186 0,Mv 187 20,Mv 188 2,Mv 189 24,Mv 190 4,Cc 191 217 [186,187,188,189,190]]) .skip)) (Ss (So [Mv 192 1,Mv 193 20,Bt 194 .lss 192 193,Mv 195 194,Gg 195 true (Mv 196 20),Gg 195 true (Mv 197 18),Gg 195 true (Bt 198 .lss 196 197),Ii 199 (.pick (Tt 195) (Tt 198) (Bo false))] (Cd 199 (Oo [Mv 200 0,Mv 201 1,Mv 202 20,Mv 203 18,Mv 204 4,Cc 205 179 [200,201,202,203,204]]) .skip)) (So [Mv 206 18,Mv 207 24,Bt 208 .lss 206 207,Mv 209 208,Gg 209 true (Mv 210 24),Gg 209 true (Mv 211 3),Gg 209 true (Bt 212 .lss 210 211),Ii 213 (.pick (Tt 209) (Tt 212) (Bo false))] (Cd 213 (Oo [Mv 214 0,Mv 215 18,Mv 216 24,Mv 217 3,Mv 218 4,Cc 219 179 [214,215,216,217,218]]) .skip))))))))))))⟩
theorem Ce:Ag Tryz.prog 179 = some F4:=by kernel_rfl
def Pz:A6:=Kf ⟨6,[.t 2],So [Ii 2 (.mov (Bo false))] (So [Mv 3 0,Mv 4 0,Bt 5 .neq 3 4,Mv 2 5] .ret)⟩
theorem MQ:Ag Tryz.prog 180 = some Pz:=by kernel_rfl
def KB:A6:=Kf ⟨36,[.t 4],So [Mn 4 0] (Ss (So [Mv 9 0,Le 10 9,Mn 11 0] (.block 0 (.loop (So [Bt 12 .lss 11 10] (Ss (Cd 12 .skip (.exit 0)) (Ss (.block 1 (So [Mv 13 11,Ia 14 1 9 11,Lf 15 14,Mv 5 13,Mv 6 15] (Ss (So [Mv 16 5,Mv 17 1,Le 18 17,Bt 19 .geq 16 18] (Cd 19 (So [Mn 4 1] .ret) .skip)) (So [Mv 20 1,Mv 21 5,Ia 22 1 20 21,Lf 23 22,Mv 7 23] (So [Mv 24 6,Mv 25 7,Cc 26 148 [24,25],Mv 8 26] (So [Mv 27 8,Bk 28 .neq 27 0] (Cd 28 (So [Mv 29 8,Mv 4 29] .ret) .skip))))))) (Oo [Bk 30 .add 11 1,Mv 11 30]))))))) (Ss (So [Mv 31 0,Le 32 31,Mv 33 1,Le 34 33,Bt 35 .lss 32 34] (Cd 35 (So [Mn 4 (-1)] .ret) .skip)) (So [Mn 4 0] .ret)))⟩
theorem I8:Ag Tryz.prog 184 = some KB:=by kernel_rfl
def GO:A6:=Kf ⟨58,[],So [Mv 12 2,Mv 13 1,Bt 14 .sub 12 13,Mv 10 14] (So [Mv 15 3,Mv 16 2,Bt 17 .sub 15 16,Mv 11 17] (Ss (.block 0 (.loop (Ss (So [Mv 18 10,Mv 19 11,Bt 20 .neq 18 19] (Cd 20 .skip (.exit 0))) (.block 1 (So [Mv 21 10,Mv 22 11,Bt 23 .gtr 21 22] (Cd 23 (So [Mv 24 0,Mv 25 2,Mv 26 10,Bt 27 .sub 25 26,Mv 28 2,Mv 29 11,Mv 30 4,Cc 31 236 [24,27,28,29,30]] (Oo [Mv 32 10,Mv 33 11,Bt 34 .sub 32 33,Mv 10 34])) (So [Mv 35 0,Mv 36 2,Mv 37 10,Bt 38 .sub 36 37,Mv 39 2,Mv 40 11,Bt 41 .add 39 40,Mv 42 10,Bt 43 .sub 41 42,Mv 44 10,Mv 45 4,Cc 46 236 [35,38,43,44,45]] (Oo [Mv 47 11,Mv 48 10,Bt 49 .sub 47 48,Mv 11 49])))))))) (Oo [Mv 50 0,Mv 51 2,Mv 52 10,Bt 53 .sub 51 52,Mv 54 2,Mv 55 10,Mv 56 4,Cc 57 236 [50,53,54,55,56]])))⟩
theorem F5:Ag Tryz.prog 217 = some GO:=by kernel_rfl
def FH:A6:=Kf ⟨38,[],So [Mn 10 0] (.block 0 (.loop (Ss (So [Mv 11 10,Mv 12 3,Bt 13 .lss 11 12] (Cd 13 .skip (.exit 0))) (Ss (.block 1 (.ops true [Mv 16 0,Mv 17 1,Mv 18 10,Bt 19 .add 17 18,Mv 20 0,Mv 21 2,Mv 22 10,Bt 23 .add 21 22,Mv 24 0,Mv 25 2,Mv 26 10,Bt 27 .add 25 26,Ia 28 1 24 27,Lf 29 28,Mv 30 0,Mv 31 1,Mv 32 10,Bt 33 .add 31 32,Ia 34 1 30 33,Lf 35 34,Ia 36 1 16 19,Sr 1 36 29,Ia 37 1 20 23,Sr 1 37 35] [(12,18),(13,18),(12,19),(13,19)])) (Oo [Mv 14 10,Bk 15 .add 14 1,Mv 10 15])))))⟩
theorem Fd:Ag Tryz.prog 236 = some FH:=by kernel_rfl
set_option linter.unusedVariables false
section
variable {P:Program} {tt:List (Nat × AV)} {hh:Hp} {nn dd:Nat} {g:Option (Nat × Bool)} {l:List AG} {acc:List SD} {K:List SD→St→Prop}
theorem Am4 {k:IntKind} {x:Operand} {n:Int} (v:Int) (hv:k.wrap (0 - n)=v) (h:RG P (⟨⟨some dd,g,.un .neg x⟩,.lit (.int k v),[],[],0⟩::acc) l ⟨(dd,.lit (.int k v))::tt,hh,nn⟩ K)
 (hg:BD ⟨tt,hh,nn⟩ g:=by first|exact True.intro|rfl) (hx:ev ⟨tt,hh,nn⟩ x=.lit (.int k n):=by rfl):RG P acc (⟨some dd,g,.un .neg x⟩::l) ⟨tt,hh,nn⟩ K:=by subst hv; exact RG.step (AgT hg hx) h
end
theorem PA (n:Int) (h0 : -9223372036854775808≤n) (h1:n≤9223372036854775807):IntKind.i64.wrap n=n:=IntWalk.i64_in _ (by omega)
theorem Ls (X:Nat):(X=0∧limbs X=[])∨(0<X∧X<4294967296∧limbs X=[(X:Int)])∨(4294967296≤X∧X<18446744073709551616∧limbs X=[((X % 4294967296:Nat):Int),((X / 4294967296:Nat):Int)])∨(18446744073709551616≤X∧2<(limbs X).length):=by
 by_cases h0:X=0
 ·left; exact ⟨h0,by rw [h0,AC]⟩
 rw [Bf h0];by_cases h1:X<4294967296
 ·right; left
  rw [show X / 4294967296=0 from by omega,AC,show X % 4294967296=X from by omega];exact ⟨by omega,h1,rfl⟩
 rw [Bf (show X / 4294967296≠0 from by omega)];by_cases h2:X<18446744073709551616
 ·right; right; left
  rw [show X / 4294967296 / 4294967296=0 from by omega,AC,show X / 4294967296 % 4294967296=X / 4294967296 from by omega];exact ⟨by omega,h2,rfl⟩
 ·right; right; right
  rw [Bf (show X / 4294967296 / 4294967296≠0 from by omega)];exact ⟨by omega,by simp⟩
def CH (g:Bool) (X:Nat):Int × Bool:=if g then (if X≤9223372036854775808 then (-(X:Int),true) else (0,false)) else (if X≤9223372036854775807 then ((X:Int),true) else (0,false))
theorem UN {g:Bool} {X:Nat} (h:18446744073709551616≤X):CH g X=(0,false):=by
 unfold CH; split
 ·rw [if_neg (by omega)]
 ·rw [if_neg (by omega)]
theorem PB (g:Bool) (X:Nat) : -9223372036854775808≤(CH g X).1∧(CH g X).1≤9223372036854775807:=by
 unfold CH;split<;>split<;>simp<;>omega
theorem AlT (a b:Nat) (ha:a<4294967296) (hb:b<4294967296):bits .or .u64 (a:Int) ((b * 4294967296:Nat):Int)=((a+4294967296 * b:Nat):Int):=by
 have e:bits .or .u64 (a:Int) ((b * 4294967296:Nat):Int)=((a ||| b * 4294967296:Nat):Int):=u64_or_nat a (b * 4294967296) (by omega) (by omega);have h:=Nat.shiftLeft_add_eq_or_of_lt (show a<2 ^ 32 from ha) b;rw [Nat.shiftLeft_eq] at h;rw [e,Nat.or_comm,show b * 4294967296=b * 2 ^ 32 from rfl,← h];omega
theorem Ahv (X:Nat) (hX:X<18446744073709551616):IntKind.u64.wrap (0 - (X:Int))=if X=0 then 0 else 18446744073709551616 - (X:Int):=by
 simp only [IntKind.wrap,IntKind.bits,IntKind.signed,Bool.false_and,Bool.false_eq_true,if_false];split<;>omega
theorem Ahw (X:Nat) (hX:X≤9223372036854775808):IntKind.i64.wrap (if X=0 then 0 else 18446744073709551616 - (X:Int)) = -(X:Int):=by
 by_cases h:X=0
 ·rw [if_pos h]; subst h; decide
 ·rw [if_neg h]
  simp only [IntKind.wrap,IntKind.bits,IntKind.signed,Bool.true_and];split
  ·omega
  ·rename_i hh
   exact absurd (decide_eq_true (by omega)) hh
theorem Ahx (g:Bool) (m:List Int) (hm:AD m) (lm:m.length≤A2):Ae Tryz.prog 162 [.agg (Cs g m)] (.tup [.lit (.int .i64 (CH (Cu g (AF m)) (AF m)).1),.lit (.bool (CH (Cu g (AF m)) (AF m)).2)]):=by
 have c1:=YA g m lm;rw [A0 hm,GW] at c1;generalize AF m=X at c1 ⊢;generalize Cu g X=G at c1 ⊢;have lx:=Ac .u32 (limbs X);have hcs:=Ls X;have hval:=Aq X;have hlim:=Ar X;refine Aa QC fun C hC => ?_;by_cases h2:2<(limbs X).length
 ·rw [UN (by rcases hcs with ⟨_,e⟩|⟨_,_,e⟩|⟨_,_,e⟩|⟨e,_⟩<;>first|exact e|(rw [e] at h2; simp at h2))]
  refine Af ?_;exact Am
 ·have hX:X<18446744073709551616:=by rcases hcs with ⟨e,_⟩|⟨_,e,_⟩|⟨_,e,_⟩|⟨_,e⟩<;>omega
  clear hcs;generalize limbs X=ls at c1 lx hval hlim h2;refine Af ?_;refine Ai [1,14,15] [0] (fun k:Nat=>[(4,.lit (.int .u64 ((AF (ls.take k):Nat):Int))),(16,.lit (.int .i64 k))]) (fun _=>[]) 1 (fun k=>k≤ls.length) (fun k=>ls.length - k) 0 (Nat.zero_le _) ?_;rintro k hk;dsimp only [List.cons_append,List.nil_append];by_cases hlt:k<ls.length
  ·obtain ⟨v,hv⟩:∃ v,ls[k]? = some v:=⟨_,List.getElem?_eq_getElem hlt⟩
   have hvr:=hlim v (List.mem_of_getElem? hv);have hvk:(Ab .u32 ls)[((k:Nat):Int).toNat]? = some [.lit (.int .u32 v)]:=by rw [Int.toNat_natCast]; exact Az hv
   obtain ⟨w,rfl⟩:∃ w:Nat,v=(w:Int):=⟨v.toNat,by omega⟩;refine Af ?_;refine AH ?_;refine BP ?_;have hk2:k=0∨k=1:=by omega
   rcases hk2 with rfl|rfl
   ·have e1:AF (ls.take 1)=w:=by
     rw [BO hv]; simp [AF]
    refine Alo (w:Int) ?_ (hv := ?_)
    ·refine BP ?_
     refine Ak ⟨rfl,?_⟩;refine Af ?_
     have e3:bits .or .u64 ((AF (ls.take 0):Nat):Int) (w:Int)=(w:Int):=by
      have:=u64_or_nat 0 w (by omega) (by omega)
      rw [Nat.zero_or] at this;exact this
     exact ⟨1,by omega,by omega,BI hC.m [] (by
      rw [e1]
      conv=>rhs; rw [← e3]
      rfl)⟩
    ·show IntKind.u64.wrap ((w:Int) * 1)=w
     rw [Int.mul_one]; exact YS w (by omega)
   ·obtain ⟨v0,hv0⟩:∃ v0,ls[0]? = some v0:=⟨_,List.getElem?_eq_getElem (by omega)⟩
    have hv0r:=hlim v0 (List.mem_of_getElem? hv0);obtain ⟨w0,rfl⟩:∃ w:Nat,v0=(w:Int):=⟨v0.toNat,by omega⟩
    have e0:AF (ls.take 1)=w0:=by
     rw [BO hv0]; simp [AF]
    have e1:AF (ls.take 2)=w0+4294967296 * w:=by
     rw [BO hv,BO hv0]; simp [AF]
    have e2:=AlT w0 w (by omega) (by omega);rw [e0];refine Alo ((w * 4294967296:Nat):Int) ?_ (hv := ?_)
    ·refine BP ?_
     refine Ak ⟨rfl,?_⟩;refine Af ?_;exact ⟨2,by omega,by omega,BI hC.m [] (by rw [e1,← e2]; rfl)⟩
    ·show IntKind.u64.wrap ((w:Int) * 4294967296)=_
     rw [Int.natCast_mul]; exact YS (w * 4294967296) (by omega)
  ·rw [show ls.take k=ls from List.take_of_length_le (by omega),hval]
   cases G
   ·by_cases hs:X≤9223372036854775807
    ·rw [show CH false X=((X:Int),true) from by simp [CH,hs]]
     refine Af ?_;exact Am
    ·rw [show CH false X=(0,false) from by simp [CH,hs]]
     refine Af ?_;exact Am
   ·by_cases hs:X≤9223372036854775808
    ·rw [show CH true X=(-(X:Int),true) from by simp [CH,hs]]
     have e1:=Ahv X hX;have e2:=Ahw X hs;rw [← e2];refine Af ?_;refine AH ?_;refine BP ?_;refine Am4 _ e1 ?_;refine BP ?_;refine Ak ⟨rfl,?_⟩;refine Af ?_;exact Am
    ·rw [show CH true X=(0,false) from by simp [CH,hs]]
     refine Af ?_;exact Am
set_option linter.unusedSimpArgs false
abbrev B0 (z:Int):AV:=.lit (.int .u32 z)
abbrev Gp (z:Int):AV:=.lit (.int .u64 z)
def GP (z:Int):Prop:=0≤z∧z<4294967296
theorem YV (x y c:Int) (hx:GP x) (hy:GP y) (hc:GP c):Ae Tryz.prog 249 [B0 x,B0 y,B0 c] (.tup [B0 ((x+y+c) % 4294967296),B0 ((x+y+c) / 4294967296)]):=by
 obtain ⟨x0,x1⟩:=hx;obtain ⟨y0,y1⟩:=hy;obtain ⟨c0,c1⟩:=hc;have h1:IntKind.u32.wrap (x+y+c)=(x+y+c) % 4294967296:=rfl;refine Aa Lk fun C hC => ?_;refine Aj ?_;exact Am
theorem Xg (v:BitVec 32):IntKind.u32.wrap (v.toNat:Int)=v.toNat:=Lb _ (by omega) (by have:=v.isLt; omega)
theorem ofB (v:BitVec 32):BitVec.ofInt 32 (v.toNat:Int)=v:=by
 apply BitVec.eq_of_toNat_eq
 have:=v.isLt
 simp only [BitVec.toNat_ofInt];omega
theorem Akc (v:BitVec 32):(v.toNat:Int) / 2147483648=if v.msb then 1 else 0:=by
 have:=v.isLt
 rw [BitVec.msb_eq_decide];by_cases h:2 ^ (32 - 1)≤v.toNat
 ·rw [if_pos (decide_eq_true h)]; omega
 ·rw [if_neg (by simpa using h)]; omega
def N0 (x y b:Int):Int:=if x<y+b then 1 else 0
theorem Ac1 (X Y D:BitVec 32) (b:Int) (b0:0≤b) (b1:b≤1) (hD:(D.toNat:Int)=((X.toNat:Int) - Y.toNat - b) % 4294967296):((((~~~X) &&& Y) ||| ((~~~(X ^^^ Y)) &&& D)).toNat:Int) / 2147483648=N0 X.toNat Y.toNat b:=by
 rw [Akc];have h1:=X.isLt;have h2:=Y.isLt;have e1:=BitVec.msb_eq_decide X;have e2:=BitVec.msb_eq_decide Y;have e3:=BitVec.msb_eq_decide D;simp only [BitVec.msb_or,BitVec.msb_and,BitVec.msb_not,BitVec.msb_xor,N0];rw [e1,e2,e3];by_cases p1:2 ^ (32 - 1)≤X.toNat<;>by_cases p2:2 ^ (32 - 1)≤Y.toNat<;>by_cases p3:2 ^ (32 - 1)≤D.toNat<;>simp only [p1,p2,p3,decide_true,decide_false]<;>simp only [Bool.not_true,Bool.not_false,Bool.and_true,Bool.and_false,Bool.true_and,Bool.false_and,Bool.or_false,Bool.or_true,Bool.false_or,Bool.true_or,Bool.xor_true,Bool.xor_false,Bool.false_eq_true,eq_self,if_true,if_false,Bool.true_xor,Bool.false_xor]<;>by_cases hq:(X.toNat:Int)<Y.toNat+b<;>simp [hq]<;>omega
theorem Tc (x y b:Int) (hx:GP x) (hy:GP y) (b0:0≤b) (b1:b≤1):Ae Tryz.prog 250 [B0 x,B0 y,B0 b] (.tup [B0 ((x - y - b) % 4294967296),B0 (N0 x y b)]):=by
 obtain ⟨x0,x1⟩:=hx;obtain ⟨y0,y1⟩:=hy;obtain ⟨X,hX⟩:∃ X:BitVec 32,x=X.toNat:=⟨BitVec.ofInt 32 x,by simp only [BitVec.toNat_ofInt]; omega⟩;obtain ⟨Y,hY⟩:∃ Y:BitVec 32,y=Y.toNat:=⟨BitVec.ofInt 32 y,by simp only [BitVec.toNat_ofInt]; omega⟩;have hd0:0≤(x - y - b) % 4294967296∧(x - y - b) % 4294967296<4294967296:=by omega
 obtain ⟨D,hD⟩:∃ D:BitVec 32,(x - y - b) % 4294967296=D.toNat:=⟨BitVec.ofInt 32 ((x - y - b) % 4294967296),by simp only [BitVec.toNat_ofInt]; omega⟩;have hb:=Ac1 X Y D b b0 b1 (by rw [← hD,hX,hY]);have k1:BQ .sub .u32 x y=some (.int .u32 ((x - y) % 4294967296)):=rfl
 have k2:BQ .sub .u32 ((x - y) % 4294967296) b=some (.int .u32 ((x - y - b) % 4294967296)):=by
  show some (Value.int .u32 (((x - y) % 4294967296 - b) % 4294967296))=_;congr 2; omega
 have k3:IntKind.u32.wrap (BitVec.ofInt IntKind.u32.bits IntKind.u32.max ^^^ BitVec.ofInt IntKind.u32.bits x).toNat=((~~~X).toNat:Int):=by
  rw [hX];show IntKind.u32.wrap (BitVec.ofInt 32 4294967295 ^^^ BitVec.ofInt 32 (X.toNat:Int)).toNat=_;rw [ofB,Xg]
  have e:(4294967295#32 ^^^ X) = ~~~X:=by
   rw [BitVec.xor_comm]; exact BitVec.xor_allOnes
  rw [show BitVec.ofInt 32 4294967295=4294967295#32 from rfl,e]
 have k4:BQ .and .u32 ((~~~X).toNat:Int) y=some (.int .u32 ((~~~X &&& Y).toNat:Int)):=by
  rw [hY];show some (Value.int .u32 (IntKind.u32.wrap (BitVec.ofInt 32 ((~~~X).toNat:Int) &&& BitVec.ofInt 32 (Y.toNat:Int)).toNat))=_;rw [ofB,ofB,Xg]
 have k5:BQ .xor .u32 x y=some (.int .u32 ((X ^^^ Y).toNat:Int)):=by
  rw [hX,hY];show some (Value.int .u32 (IntKind.u32.wrap (BitVec.ofInt 32 (X.toNat:Int) ^^^ BitVec.ofInt 32 (Y.toNat:Int)).toNat))=_;rw [ofB,ofB,Xg]
 have k6:IntKind.u32.wrap (BitVec.ofInt IntKind.u32.bits IntKind.u32.max ^^^ BitVec.ofInt IntKind.u32.bits ((X ^^^ Y).toNat:Int)).toNat=((~~~(X ^^^ Y)).toNat:Int):=by
  show IntKind.u32.wrap (BitVec.ofInt 32 4294967295 ^^^ BitVec.ofInt 32 ((X ^^^ Y).toNat:Int)).toNat=_;rw [ofB,Xg]
  have e:(4294967295#32 ^^^ (X ^^^ Y)) = ~~~(X ^^^ Y):=by
   rw [BitVec.xor_comm]; exact BitVec.xor_allOnes
  rw [show BitVec.ofInt 32 4294967295=4294967295#32 from rfl,e]
 have k7:BQ .and .u32 ((~~~(X ^^^ Y)).toNat:Int) ((x - y - b) % 4294967296)=some (.int .u32 ((~~~(X ^^^ Y) &&& D).toNat:Int)):=by
  rw [hD];show some (Value.int .u32 (IntKind.u32.wrap (BitVec.ofInt 32 ((~~~(X ^^^ Y)).toNat:Int) &&& BitVec.ofInt 32 (D.toNat:Int)).toNat))=_;rw [ofB,ofB,Xg]
 have k8:BQ .or .u32 ((~~~X &&& Y).toNat:Int) ((~~~(X ^^^ Y) &&& D).toNat:Int)=some (.int .u32 (((~~~X &&& Y) ||| (~~~(X ^^^ Y) &&& D)).toNat:Int)):=by
  show some (Value.int .u32 (IntKind.u32.wrap (BitVec.ofInt 32 ((~~~X &&& Y).toNat:Int) ||| BitVec.ofInt 32 ((~~~(X ^^^ Y) &&& D).toNat:Int)).toNat))=_;rw [ofB,ofB,Xg]
 have hs:N0 x y b=(((~~~X &&& Y) ||| (~~~(X ^^^ Y) &&& D)).toNat:Int) / 2147483648:=by rw [hb,hX,hY]
 rw [hs];generalize ((~~~X).toNat:Int)=n1 at *;generalize ((X ^^^ Y).toNat:Int)=n2 at *;generalize ((~~~(X ^^^ Y)).toNat:Int)=n3 at *;generalize ((~~~X &&& Y).toNat:Int)=n4 at *;generalize ((~~~(X ^^^ Y) &&& D).toNat:Int)=n5 at *;generalize (((~~~X &&& Y) ||| (~~~(X ^^^ Y) &&& D)).toNat:Int)=n6 at *;clear hs hb;refine Aa Ll fun C hC => ?_;refine Aj ?_;exact Am
def Ahy:ByteArray:=⟨#[0,1,2,2,3,3,3,3,4,4,4,4,4,4,4,4,5,5,5,5,5,5,5,5,5,5,5,5,5,5,5,5,6,6,6,6,6,6,6,6,6,6,6,6,6,6,6,6,6,6,6,6,6,6,6,6,6,6,6,6,6,6,6,6,7,7,7,7,7,7,7,7,7,7,7,7,7,7,7,7,7,7,7,7,7,7,7,7,7,7,7,7,7,7,7,7,7,7,7,7,7,7,7,7,7,7,7,7,7,7,7,7,7,7,7,7,7,7,7,7,7,7,7,7,7,7,7,7,8,8,8,8,8,8,8,8,8,8,8,8,8,8,8,8,8,8,8,8,8,8,8,8,8,8,8,8,8,8,8,8,8,8,8,8,8,8,8,8,8,8,8,8,8,8,8,8,8,8,8,8,8,8,8,8,8,8,8,8,8,8,8,8,8,8,8,8,8,8,8,8,8,8,8,8,8,8,8,8,8,8,8,8,8,8,8,8,8,8,8,8,8,8,8,8,8,8,8,8,8,8,8,8,8,8,8,8,8,8,8,8,8,8,8,8,8,8,8,8,8,8,8,8,8,8,8,8]⟩
def Alv (z:Nat):Bool:=match Ahy[z]? with
 | some b=>Nat.ble b.toNat 8 && Nat.blt z (2 ^ b.toNat) && (Nat.beq z 0 || (Nat.blt 0 b.toNat && Nat.ble (2 ^ (b.toNat - 1)) z))
 | none=>false
theorem Ahz:((List.range 256).all Alv)=true:=by decide +kernel
theorem Akd (z:Nat) (h:z<256):∃ b:UInt8,Ahy[z]? = some b∧b.toNat≤8∧z<2 ^ b.toNat∧(0<z→0<b.toNat∧2 ^ (b.toNat - 1)≤z):=by
 have:=List.all_eq_true.1 Ahz z (List.mem_range.2 h)
 unfold Alv at this;split at this
 ·rename_i b hb
  simp only [Bool.and_eq_true,Bool.or_eq_true,Nat.ble_eq,Nat.blt_eq,Nat.beq_eq] at this;exact ⟨b,hb,this.1.1,this.1.2,fun h0=>by rcases this.2 with h|h; omega; exact h⟩
 ·cases this
theorem AfM {n k:Nat} {x q:Nat} (hq:q=x / 2 ^ k) (h1:q<2 ^ n) (h2:0<q→0<n∧2 ^ (n - 1)≤q) (h3:2 ^ k≤x):x<2 ^ (n+k)∧0<n+k∧2 ^ (n+k - 1)≤x:=by
 have hp:0<2 ^ k:=Nat.pow_pos (by omega);have hq0:0<q:=by rw [hq]; exact Nat.div_pos h3 hp
 obtain ⟨h4,h5⟩:=h2 hq0;refine ⟨?_,by omega,?_⟩
 ·rw [Nat.pow_add]
  rw [hq] at h1;exact (Nat.div_lt_iff_lt_mul hp).1 h1
 ·rw [show n+k - 1=(n - 1)+k from by omega,Nat.pow_add]
  rw [hq] at h5;exact (Nat.le_div_iff_mul_le hp).1 h5
theorem Ake (x:Nat) (h0:0<x) (h1:x<4294967296):∃ n:Nat,Ae Tryz.prog 257 [B0 x] (.lit (.int .i64 n))∧x<2 ^ n∧2 ^ (n - 1)≤x∧0<n∧n≤32:=by
 have key:∀ (q k:Nat),q=x / 2 ^ k→k≤24→q<256→2 ^ k≤x→(∀ b:UInt8,Ahy[((q:Nat):Int).toNat]? = some b→b.toNat≤8→Ae Tryz.prog 257 [B0 x] (.lit (.int .i64 ((k:Int)+b.toNat)))) →
  ∃ n:Nat,Ae Tryz.prog 257 [B0 x] (.lit (.int .i64 n))∧x<2 ^ n∧2 ^ (n - 1)≤x∧0<n∧n≤32:=fun q k hq hk h2 h3 hc=>by
  obtain ⟨b,hb,hb8,h4,h5⟩:=Akd q h2;obtain ⟨p1,p2,p3⟩:=AfM hq h4 h5 h3;refine ⟨b.toNat+k,?_,p1,p3,p2,by omega⟩
  have:=hc b (by simpa using hb) hb8
  rwa [show ((b.toNat+k:Nat):Int)=(k:Int)+b.toNat from by omega]
 by_cases c1:65536≤x
 ·by_cases c2:256≤x / 65536
  ·refine key (x / 16777216) 24 (by simp) (by omega) (by omega) (by simp; omega) fun b hb hb8 => ?_
   have e1:IntKind.u8.wrap ((x:Int) / 65536 / 256)=((x / 16777216:Nat):Int):=by
    show ((x:Int) / 65536 / 256) % 256=_;omega
   have e2:IntKind.i64.wrap (b.toNat:Int)=b.toNat:=PA _ (by omega) (by omega);refine Aa C7 fun C hC => ?_;refine Aj ?_;exact Am
  ·refine key (x / 65536) 16 (by simp) (by omega) (by omega) (by simp; omega) fun b hb hb8 => ?_
   have e1:IntKind.u8.wrap ((x:Int) / 65536)=(((x / 65536):Nat):Int):=by
    show ((x:Int) / 65536) % 256=_;omega
   have e2:IntKind.i64.wrap (b.toNat:Int)=b.toNat:=PA _ (by omega) (by omega);refine Aa C7 fun C hC => ?_;refine Aj ?_;exact Am
 ·by_cases c2:256≤x
  ·refine key (x / 256) 8 (by simp) (by omega) (by omega) (by simp; omega) fun b hb hb8 => ?_
   have e1:IntKind.u8.wrap ((x:Int) / 256)=(((x / 256):Nat):Int):=by
    show ((x:Int) / 256) % 256=_;omega
   have e2:IntKind.i64.wrap (b.toNat:Int)=b.toNat:=PA _ (by omega) (by omega);refine Aa C7 fun C hC => ?_;refine Aj ?_;exact Am
  ·refine key x 0 (by simp) (by omega) (by omega) (by simp; omega) fun b hb hb8 => ?_
   have e1:IntKind.u8.wrap ((x:Int))=((x:Nat):Int):=by
    show ((x:Int)) % 256=_;omega
   have e2:IntKind.i64.wrap (b.toNat:Int)=b.toNat:=PA _ (by omega) (by omega);refine Aa C7 fun C hC => ?_;refine Aj ?_;exact Am
theorem AhA (x:Nat) (h0:0<x) (h1:x<4294967296):∃ s:Nat,Ae Tryz.prog 251 [B0 x] (.lit (.int .i64 s))∧s≤31∧2147483648≤x * 2 ^ s∧x * 2 ^ s<4294967296:=by
 obtain ⟨n,hc,h2,h3,h4,h5⟩:=Ake x h0 h1;refine ⟨32 - n,?_,by omega,?_,?_⟩
 ·rw [show ((32 - n:Nat):Int)=32 - (n:Int) from by omega]
  refine Aa F1 fun C hC => ?_;refine Aj ?_;exact Am
 ·have:=Nat.mul_le_mul_right (2 ^ (32 - n)) h3
  rw [← Nat.pow_add,show n - 1+(32 - n)=31 from by omega] at this;omega
 ·have:=Nat.mul_lt_mul_of_pos_right h2 (show 0<2 ^ (32 - n) from Nat.pow_pos (by omega))
  rw [← Nat.pow_add,show n+(32 - n)=32 from by omega] at this;omega
theorem Abd {cs ds:List Ah} (hl:cs.length=ds.length) {k:Nat} {c d:Ah} (hc:cs[k]? = some c) (hd:ds[k]? = some d):CZ (cs.drop k) (ds.drop k)=(I2 c d && CZ (cs.drop (k+1)) (ds.drop (k+1))):=by
 obtain ⟨h1,rfl⟩:=List.getElem?_eq_some_iff.1 hc;obtain ⟨h2,rfl⟩:=List.getElem?_eq_some_iff.1 hd;rw [List.drop_eq_getElem_cons h1,List.drop_eq_getElem_cons h2,CZ]
theorem Abe {cs ds:List Al} (hl:cs.length=ds.length) {k:Nat} {c d:Al} (hc:cs[k]? = some c) (hd:ds[k]? = some d):C0 (cs.drop k) (ds.drop k)=(HW c d && C0 (cs.drop (k+1)) (ds.drop (k+1))):=by
 obtain ⟨h1,rfl⟩:=List.getElem?_eq_some_iff.1 hc;obtain ⟨h2,rfl⟩:=List.getElem?_eq_some_iff.1 hd;rw [List.drop_eq_getElem_cons h1,List.drop_eq_getElem_cons h2,C0]
theorem AhB (A B:Al):HW A B=((A.s == B.s) && (B5 A.shape B.shape && CZ A.cells B.cells)):=by cases A; cases B; simp only [HW,Al.s,Al.shape,Al.cells]
theorem AhC (c d:Ah):I2 c d=((c.l == d.l) && ((c.kind == d.kind) && ((c.c == d.c) && (Ix c.n d.n && C0 c.ins d.ins)))):=by cases c; cases d; simp only [I2,Ah.l,Ah.kind,Ah.c,Ah.n,Ah.ins]
theorem FI {cs:List Ah} {c:Ah} (h:c ∈ cs):SizeOf.sizeOf c<SizeOf.sizeOf cs:=List.sizeOf_lt_of_mem h
theorem Hq {cs:List Al} {c:Al} (h:c ∈ cs):SizeOf.sizeOf c<SizeOf.sizeOf cs:=List.sizeOf_lt_of_mem h
theorem Al.size (A:Al):SizeOf.sizeOf A.cells<SizeOf.sizeOf A:=by cases A; simp [Al.cells]; omega
theorem Ah.size (c:Ah):SizeOf.sizeOf c.ins<SizeOf.sizeOf c:=by cases c; simp [Ah.ins]; omega
theorem Ck {a b:Nat} (h:¬ a=b):(a == b)=false:=by simpa using h
theorem CO {a b:Int} (h:¬ a=b):(a == b)=false:=by simpa using h
mutual
theorem AhD:∀ (A B:Al),arrOK A→arrOK B→Ae Tryz.prog 16 [.agg (Ao A),.agg (Ao B)] (.lit (.bool (HW A B)))
 | A,B,hA,hB=>by
   have hr:reachBytes=140737488351232:=rfl;have la:=AK A;have lb:=AK B;obtain ⟨a1,a2,a3,a4⟩:=hA.parts;obtain ⟨b1,b2,b3,b4⟩:=hB.parts;refine Aa KS fun C hC => ?_;rw [AhB];by_cases h1:A.s=B.s
   ·rw [h1,beq_self_eq_true,Bool.true_and]
    refine AI ?_;refine AH (A1 ?_);refine B3 (Ahg A.shape B.shape) ?_;cases h2:B5 A.shape B.shape
    ·refine A1 ?_
     refine Ak ⟨rfl,?_⟩;refine AI ?_;exact ⟨_,_,rfl,rfl,Bl.refl _⟩
    ·rw [Bool.true_and]
     by_cases h3:A.cells.length=B.cells.length
     ·refine A1 ?_
      refine Ak ⟨rfl,?_⟩;refine AI ?_
      refine Dr (X:=Nat) (fun k=>⟨[(2,.optr 0 0 0),(3,.optr 1 0 0),(4,.lit (.bool false)),(5,.lit (.int .i64 k))],[(0,some ⟨false,false,26,3,[Ao A]⟩),(1,some ⟨false,false,26,3,[Ao B]⟩)],2⟩)
       (fun k=>k≤A.cells.length∧CZ A.cells B.cells=CZ (A.cells.drop k) (B.cells.drop k)) (fun k=>A.cells.length - k) 0 (wk hC [(0,0),(1,1)] [2,3,4,5] 2) ⟨Nat.zero_le _,rfl⟩ ?_
      rintro k ⟨hk,hE⟩;by_cases hlt:k<A.cells.length
      ·obtain ⟨c,hc⟩:∃ c,A.cells[k]? = some c:=⟨_,List.getElem?_eq_getElem hlt⟩
       obtain ⟨d,hd⟩:∃ d,B.cells[k]? = some d:=⟨_,List.getElem?_eq_getElem (by omega)⟩;have hck:=A9 hc;have hdk:=A9 hd;have hcm:=List.mem_of_getElem? hc;have hcok:=Bw.1 a4 c hcm;have hdok:=Bw.1 b4 d (List.mem_of_getElem? hd);rw [Abd h3 hc hd] at hE;have ht:SizeOf.sizeOf c<SizeOf.sizeOf A:=Nat.lt_trans (FI hcm) A.size;refine AI ?_;refine AH (A1 ?_);refine B3 (Ac2 c d hcok hdok) ?_;cases h4:I2 c d
       ·rw [h4,Bool.false_and] at hE
        rw [hE];refine A1 ?_;refine Ak ⟨rfl,?_⟩;refine AI ?_;exact ⟨_,_,rfl,rfl,Bl.refl _⟩
       ·rw [h4,Bool.true_and] at hE
        refine A1 ?_;refine Ak ⟨rfl,?_⟩;refine AI ?_;exact ⟨k+1,by omega,⟨by omega,hE⟩,wk hC [(0,0),(1,1)] [2,3,4,5] 2⟩
      ·rw [List.drop_eq_nil_of_le (by omega),List.drop_eq_nil_of_le (by omega),CZ] at hE
       rw [hE];refine AI ?_;exact ⟨_,_,rfl,rfl,Bl.refl _⟩
     ·rw [AcN _ _ h3]
      refine A1 ?_;refine Ak ⟨rfl,?_⟩;refine AI ?_;exact ⟨_,_,rfl,rfl,Bl.refl _⟩
   ·rw [Ck h1,Bool.false_and]
    refine AI ?_;exact ⟨_,_,rfl,rfl,Bl.refl _⟩
 termination_by A=>SizeOf.sizeOf A
theorem Ac2:∀ (A B:Ah),cellOK A→cellOK B→Ae Tryz.prog 47 [.agg (Au A),.agg (Au B)] (.lit (.bool (I2 A B)))
 | A,B,hA,hB=>by
   have hr:reachBytes=140737488351232:=rfl;have la:=E5 A;have lb:=E5 B;obtain ⟨a1,a2,a3,a4⟩:=hA.parts;obtain ⟨b1,b2,b3,b4⟩:=hB.parts;refine Aa Im fun C hC => ?_;rw [AhC];by_cases h1:A.l=B.l
   ·rw [h1,beq_self_eq_true,Bool.true_and]
    by_cases h5:A.kind=B.kind
    ·rw [h5,beq_self_eq_true,Bool.true_and]
     by_cases h6:A.c=B.c
     ·rw [h6,beq_self_eq_true,Bool.true_and]
      refine AI ?_;refine AH (A1 ?_);refine B3 (AcP A.n B.n) ?_;cases h2:Ix A.n B.n
      ·refine A1 ?_
       refine Ak ⟨rfl,?_⟩;refine AI ?_;exact ⟨_,_,rfl,rfl,Bl.refl _⟩
      ·rw [Bool.true_and]
       by_cases h3:A.ins.length=B.ins.length
       ·refine A1 ?_
        refine Ak ⟨rfl,?_⟩;refine AI ?_
        refine Dr (X:=Nat) (fun k=>⟨[(2,.optr 0 0 0),(3,.optr 1 0 0),(4,.lit (.bool false)),(5,.lit (.int .i64 k))],[(0,some ⟨false,false,43,7,[Au A]⟩),(1,some ⟨false,false,43,7,[Au B]⟩)],2⟩)
         (fun k=>k≤A.ins.length∧C0 A.ins B.ins=C0 (A.ins.drop k) (B.ins.drop k)) (fun k=>A.ins.length - k) 0 (wk hC [(0,0),(1,1)] [2,3,4,5] 2) ⟨Nat.zero_le _,rfl⟩ ?_
        rintro k ⟨hk,hE⟩;by_cases hlt:k<A.ins.length
        ·obtain ⟨c,hc⟩:∃ c,A.ins[k]? = some c:=⟨_,List.getElem?_eq_getElem hlt⟩
         obtain ⟨d,hd⟩:∃ d,B.ins[k]? = some d:=⟨_,List.getElem?_eq_getElem (by omega)⟩;have hck:=CY hc;have hdk:=CY hd;have hcm:=List.mem_of_getElem? hc;have hcok:=Du.1 a4 c hcm;have hdok:=Du.1 b4 d (List.mem_of_getElem? hd);rw [Abe h3 hc hd] at hE;have ht:SizeOf.sizeOf c<SizeOf.sizeOf A:=Nat.lt_trans (Hq hcm) A.size;refine AI ?_;refine AH (A1 ?_);refine B3 (AhD c d hcok hdok) ?_;cases h4:HW c d
         ·rw [h4,Bool.false_and] at hE
          rw [hE];refine A1 ?_;refine Ak ⟨rfl,?_⟩;refine AI ?_;exact ⟨_,_,rfl,rfl,Bl.refl _⟩
         ·rw [h4,Bool.true_and] at hE
          refine A1 ?_;refine Ak ⟨rfl,?_⟩;refine AI ?_;exact ⟨k+1,by omega,⟨by omega,hE⟩,wk hC [(0,0),(1,1)] [2,3,4,5] 2⟩
        ·rw [List.drop_eq_nil_of_le (by omega),List.drop_eq_nil_of_le (by omega),C0] at hE
         rw [hE];refine AI ?_;exact ⟨_,_,rfl,rfl,Bl.refl _⟩
       ·rw [AcO _ _ h3]
        refine A1 ?_;refine Ak ⟨rfl,?_⟩;refine AI ?_;exact ⟨_,_,rfl,rfl,Bl.refl _⟩
     ·rw [CO h6,Bool.false_and]
      refine AI ?_;exact ⟨_,_,rfl,rfl,Bl.refl _⟩
    ·rw [CO h5,Bool.false_and]
     refine AI ?_;exact ⟨_,_,rfl,rfl,Bl.refl _⟩
   ·rw [Ck h1,Bool.false_and]
    refine AI ?_;exact ⟨_,_,rfl,rfl,Bl.refl _⟩
 termination_by A=>SizeOf.sizeOf A
end
end Go.Proofs.YtjcolpcfcdkckaaGreat
