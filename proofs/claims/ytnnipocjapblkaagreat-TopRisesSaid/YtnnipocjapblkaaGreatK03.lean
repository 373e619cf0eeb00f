/- Functions of the program, lowered. -/
import Derived.Test.YtnnipocjapblkaaGreatK02
import Derived.KernelRfl
import Derived.Test.YtnnipocjapblkaaGreatProg
import Derived.Laws.Small
import Derived.Laws.Cover1
set_option maxRecDepth 100000
namespace Go.Proofs.YtnnipocjapblkaaGreat
open Go.RowKit
def fn_label_Join:AFn:=by refine (fun (F:AFn)(_:⟨8,[.t 4],Ss (Oo [Ii 4 (.mov (.const (.int .u64 0)))]) (Ss (Oo [Mv 5 0,Mv 6 1,Ii 7 (.bin .or (Tt 5) (Tt 6)),Mv 4 7]) .ret)⟩=F)=>F) ?_ ?_;rotate_left;dsimp only[Tt,Ii,Mv,Oo,Ss];exact rfl
theorem code_label_Join:lowerF Tryz.prog 30 = some fn_label_Join:=by kernel_rfl
def fn_scrimref01_Flows:AFn:=by refine (fun (F:AFn)(_:⟨19,[.t 4],Ss (Oo [Ii 4 (.mov (Bo false))]) (Ss (Ss (Oo [Ii 5 (.mov (Nn 0))]) (.block 0 (.loop (Ss (Ss (Oo [Mv 6 5,Ii 7 (.bin .lss (Tt 6) (Nn 64))]) (.cond (Tt 7) .skip (.exit 0))) (Ss (.block 1 (Ss (Oo [Mv 10 0,Mv 11 5,Ca 12 32 [Tt 10,Tt 11],Mv 13 12,Ig 14 13 true (.mov (Tt 1)),Ig 15 13 true (.mov (Tt 5)),Ig 16 13 true (.call (.func 32) [Tt 14,Tt 15]),Ig 17 13 true (.un .not (Tt 16)),Ii 18 (.pick (Tt 13) (Tt 17) (Bo false))]) (.cond (Tt 18) (Ss (Oo [Ii 4 (.mov (Bo false))]) .ret) .skip))) (Oo [Mv 8 5,Ii 9 (.bin .add (Tt 8) (Nn 1)),Mv 5 9])))))) (Ss (Oo [Ii 4 (.mov (Bo true))]) .ret))⟩=F)=>F) ?_ ?_;rotate_left;dsimp only[Tt,Nn,Bo,Ii,Ig,Mv,Ca,Oo,Ss];exact rfl
theorem code_scrimref01_Flows:lowerF Tryz.prog 10 = some fn_scrimref01_Flows:=by kernel_rfl
def fn_scrimref01_Join:AFn:=by refine (fun (F:AFn)(_:⟨24,[.t 4],Ss (Oo [Ii 4 (.mov (.const (.int .u64 0)))]) (Ss (Oo [Ii 5 (.mov (.const (.int .u64 0)))]) (Ss (Ss (Oo [Ii 6 (.mov (Nn 0))]) (.block 0 (.loop (Ss (Ss (Oo [Mv 7 6,Ii 8 (.bin .lss (Tt 7) (Nn 64))]) (.cond (Tt 8) .skip (.exit 0))) (Ss (.block 1 (Ss (Oo [Mv 11 0,Mv 12 6,Ca 13 32 [Tt 11,Tt 12],Mv 14 13,Ig 15 14 false (.mov (Tt 1)),Ig 16 14 false (.mov (Tt 6)),Ig 17 14 false (.call (.func 32) [Tt 15,Tt 16]),Ii 18 (.pick (Tt 14) (Bo true) (Tt 17))]) (.cond (Tt 18) (Oo [Mv 19 5,Mv 20 6,Ca 21 33 [Tt 20],Ii 22 (.bin .add (Tt 19) (Tt 21)),Mv 5 22]) .skip))) (Oo [Mv 9 6,Ii 10 (.bin .add (Tt 9) (Nn 1)),Mv 6 10])))))) (Ss (Oo [Mv 23 5,Mv 4 23]) .ret)))⟩=F)=>F) ?_ ?_;rotate_left;dsimp only[Tt,Nn,Bo,Ii,Ig,Mv,Ca,Oo,Ss];exact rfl
theorem code_scrimref01_Join:lowerF Tryz.prog 12 = some fn_scrimref01_Join:=by kernel_rfl
def fn_scrimref01_Has:AFn:=by refine (fun (F:AFn)(_:⟨16,[.t 4],Ss (Oo [Ii 4 (.mov (Bo false))]) (Ss (Ss (Oo [Ii 5 (.mov (Nn 0))]) (.block 0 (.loop (Ss (Ss (Oo [Mv 6 5,Mv 7 1,Ii 8 (.bin .lss (Tt 6) (Tt 7))]) (.cond (Tt 8) .skip (.exit 0))) (Ss (.block 1 (Oo [Mv 11 0,Ii 12 (.bin .quo (Tt 11) (.const (.int .u64 2))),Mv 0 12])) (Oo [Mv 9 5,Ii 10 (.bin .add (Tt 9) (Nn 1)),Mv 5 10])))))) (Ss (Oo [Mv 13 0,Ii 14 (.bin .rem (Tt 13) (.const (.int .u64 2))),Ii 15 (.bin .eql (Tt 14) (.const (.int .u64 1))),Mv 4 15]) .ret))⟩=F)=>F) ?_ ?_;rotate_left;dsimp only[Tt,Nn,Bo,Ii,Mv,Oo,Ss];exact rfl
theorem code_scrimref01_Has:lowerF Tryz.prog 32 = some fn_scrimref01_Has:=by kernel_rfl
def fn_scrimref01_Bit:AFn:=by refine (fun (F:AFn)(_:⟨13,[.t 2],Ss (Oo [Ii 2 (.mov (.const (.int .u64 0)))]) (Ss (Oo [Ii 3 (.mov (.const (.int .u64 1)))]) (Ss (Ss (Oo [Ii 4 (.mov (Nn 0))]) (.block 0 (.loop (Ss (Ss (Oo [Mv 5 4,Mv 6 0,Ii 7 (.bin .lss (Tt 5) (Tt 6))]) (.cond (Tt 7) .skip (.exit 0))) (Ss (.block 1 (Oo [Mv 10 3,Ii 11 (.bin .mul (Tt 10) (.const (.int .u64 2))),Mv 3 11])) (Oo [Mv 8 4,Ii 9 (.bin .add (Tt 8) (Nn 1)),Mv 4 9])))))) (Ss (Oo [Mv 12 3,Mv 2 12]) .ret)))⟩=F)=>F) ?_ ?_;rotate_left;dsimp only[Tt,Nn,Ii,Mv,Oo,Ss];exact rfl
theorem code_scrimref01_Bit:lowerF Tryz.prog 33 = some fn_scrimref01_Bit:=by kernel_rfl
def fn_scrimref02_Same:AFn:=by refine (fun (F:AFn)(_:⟨26,[.t 4],Ss (Oo [Ii 4 (.mov (Bo false))]) (Ss (Ss (Oo [Mv 6 0,Le 7 6,Mv 8 1,Le 9 8,Ii 10 (.bin .neq (Tt 7) (Tt 9))]) (.cond (Tt 10) (Ss (Oo [Ii 4 (.mov (Bo false))]) .ret) .skip)) (Ss (Ss (Oo [Ii 5 (.mov (Nn 0))]) (.block 0 (.loop (Ss (Ss (Oo [Mv 11 5,Mv 12 0,Le 13 12,Ii 14 (.bin .lss (Tt 11) (Tt 13))]) (.cond (Tt 14) .skip (.exit 0))) (Ss (.block 1 (Ss (.ops true [Mv 17 0,Mv 18 5,Ia 19 1 17 18,Lf 20 19,Mv 21 1,Mv 22 5,Ia 23 1 21 22,Lf 24 23,Ii 25 (.bin .neq (Tt 20) (Tt 24))] [(2,6),(3,6),(2,7),(3,7)]) (.cond (Tt 25) (Ss (Oo [Ii 4 (.mov (Bo false))]) .ret) .skip))) (Oo [Mv 15 5,Ii 16 (.bin .add (Tt 15) (Nn 1)),Mv 5 16])))))) (Ss (Oo [Ii 4 (.mov (Bo true))]) .ret)))⟩=F)=>F) ?_ ?_;rotate_left;dsimp only[Tt,Nn,Bo,Ii,Mv,Lf,Le,Ia,Oo,Ss];exact rfl
theorem code_scrimref02_Same:lowerF Tryz.prog 155 = some fn_scrimref02_Same:=by kernel_rfl
def fn_scrimref04_Same:AFn:=by refine (fun (F:AFn)(_:⟨24,[.t 4],Ss (Oo [Ii 2 (.box 51 3 (Tt 0)),Ii 3 (.box 51 3 (Tt 1)),Ii 4 (.mov (Bo false))]) (Ss (Oo [Fa 5 0 2,Lf 6 5,Fa 7 0 3,Lf 8 7,Ii 9 (.binB .eql (Tt 6) (Tt 8)),Mv 10 9,Ig 11 10 true (.faddr 1 (Tt 2)),Ig 12 10 true (.load false 1 (Tt 11)),Ig 13 10 true (.faddr 1 (Tt 3)),Ig 14 10 true (.load false 1 (Tt 13)),Ig 15 10 true (.call (.func 155) [Tt 12,Tt 14]),Ii 16 (.pick (Tt 10) (Tt 15) (Bo false)),Mv 17 16,Ig 18 17 true (.faddr 2 (Tt 2)),Ig 19 17 true (.load false 1 (Tt 18)),Ig 20 17 true (.faddr 2 (Tt 3)),Ig 21 17 true (.load false 1 (Tt 20)),Ig 22 17 true (.call (.func 155) [Tt 19,Tt 21]),Ii 23 (.pick (Tt 17) (Tt 22) (Bo false)),Mv 4 23]) .ret)⟩=F)=>F) ?_ ?_;rotate_left;dsimp only[Tt,Bo,Ii,Ig,Mv,Lf,Fa,Oo,Ss];exact rfl
theorem code_scrimref04_Same:lowerF Tryz.prog 94 = some fn_scrimref04_Same:=by kernel_rfl
def fn_scrimref07_Ints:AFn:=by refine (fun (F:AFn)(_:⟨26,[.t 4],Ss (Oo [Ii 4 (.mov (Bo false))]) (Ss (Ss (Oo [Mv 6 0,Le 7 6,Mv 8 1,Le 9 8,Ii 10 (.bin .neq (Tt 7) (Tt 9))]) (.cond (Tt 10) (Ss (Oo [Ii 4 (.mov (Bo false))]) .ret) .skip)) (Ss (Ss (Oo [Ii 5 (.mov (Nn 0))]) (.block 0 (.loop (Ss (Ss (Oo [Mv 11 5,Mv 12 0,Le 13 12,Ii 14 (.bin .lss (Tt 11) (Tt 13))]) (.cond (Tt 14) .skip (.exit 0))) (Ss (.block 1 (Ss (.ops true [Mv 17 0,Mv 18 5,Ia 19 1 17 18,Lf 20 19,Mv 21 1,Mv 22 5,Ia 23 1 21 22,Lf 24 23,Ii 25 (.bin .neq (Tt 20) (Tt 24))] [(2,6),(3,6),(2,7),(3,7)]) (.cond (Tt 25) (Ss (Oo [Ii 4 (.mov (Bo false))]) .ret) .skip))) (Oo [Mv 15 5,Ii 16 (.bin .add (Tt 15) (Nn 1)),Mv 5 16])))))) (Ss (Oo [Ii 4 (.mov (Bo true))]) .ret)))⟩=F)=>F) ?_ ?_;rotate_left;dsimp only[Tt,Nn,Bo,Ii,Mv,Lf,Le,Ia,Oo,Ss];exact rfl
theorem code_scrimref07_Ints:lowerF Tryz.prog 34 = some fn_scrimref07_Ints:=by kernel_rfl
def fn_scrimref08_left:AFn:=by refine (fun (F:AFn)(_:⟨77,[.t 6],Ss (Oo [Ii 3 (.box 26 3 (Tt 0)),Ii 6 (.mov (Nn 0))]) (Ss (Oo [Mv 9 2,Ii 10 (.bin .sub (Tt 9) (Nn 1)),Fa 11 1 3,Lf 12 11,Le 13 12,Ii 14 (.bin .sub (Tt 10) (Tt 13)),Mv 2 14]) (Ss (Ss (Oo [Mv 15 1,Ii 16 (.bin .eql (Tt 15) (Nn 0))]) (.cond (Tt 16) (Ss (Oo [Ii 6 (.mov (Nn (-1)))]) .ret) .skip)) (Ss (Ss (Oo [Ii 7 (.mov (Nn 0))]) (.block 0 (.loop (Ss (Ss (Oo [Mv 17 7,Fa 18 2 3,Lf 19 18,Le 20 19,Ii 21 (.bin .lss (Tt 17) (Tt 20)),Mv 22 21,Ig 23 22 true (.mov (Tt 2)),Ig 24 22 true (.bin .geq (Tt 23) (Nn 0)),Ii 25 (.pick (Tt 22) (Tt 24) (Bo false))]) (.cond (Tt 25) .skip (.exit 0))) (Ss (.block 1 (Ss (.ops true [Mv 28 2,Ii 29 (.bin .sub (Tt 28) (Nn 1)),Fa 30 2 3,Lf 31 30,Mv 32 7,Ia 33 7 31 32,Fa 34 2 33,Fa 35 1 34,Lf 36 35,Le 37 36,Ii 38 (.bin .sub (Tt 29) (Tt 37)),Fa 39 2 3,Lf 40 39,Mv 41 7,Ia 42 7 40 41,Fa 43 2 42,Fa 44 2 43,Lf 45 44,Le 46 45,Ii 47 (.bin .sub (Tt 38) (Tt 46)),Mv 2 47] [(3,12),(5,12),(8,12),(9,12),(3,14),(5,14),(8,14),(9,14),(3,17),(5,17),(8,17),(9,17),(3,18),(5,18),(8,18),(9,18)]) (Ss (Oo [Ii 8 (.mov (Nn 0))]) (.block 2 (.loop (Ss (Ss (Oo [Mv 48 8,Fa 49 2 3,Lf 50 49,Mv 51 7,Ia 52 7 50 51,Fa 53 6 52,Lf 54 53,Le 55 54,Ii 56 (.bin .lss (Tt 48) (Tt 55)),Mv 57 56,Ig 58 57 true (.mov (Tt 2)),Ig 59 57 true (.bin .geq (Tt 58) (Nn 0)),Ii 60 (.pick (Tt 57) (Tt 59) (Bo false))]) (.cond (Tt 60) .skip (.exit 2))) (Ss (.block 3 (Oo [Fa 63 2 3,Lf 64 63,Mv 65 7,Ia 66 7 64 65,Fa 67 6 66,Lf 68 67,Mv 69 8,Ia 70 3 68 69,Lt 71 3 70,Mv 72 1,Ii 73 (.bin .sub (Tt 72) (Nn 1)),Mv 74 2,Ca 75 117 [Tt 71,Tt 73,Tt 74],Mv 2 75])) (Oo [Mv 61 8,Ii 62 (.bin .add (Tt 61) (Nn 1)),Mv 8 62])))))))) (Oo [Mv 26 7,Ii 27 (.bin .add (Tt 26) (Nn 1)),Mv 7 27])))))) (Ss (Oo [Mv 76 2,Mv 6 76]) .ret))))⟩=F)=>F) ?_ ?_;rotate_left;dsimp only[Tt,Nn,Bo,Ii,Ig,Mv,Lf,Lt,Fa,Le,Ia,Ca,Oo,Ss];exact rfl
theorem code_scrimref08_left:lowerF Tryz.prog 117 = some fn_scrimref08_left:=by kernel_rfl
def fn_scrimref08_Few:AFn:=by refine (fun (F:AFn)(_:⟨6,[.t 2],Ss (Oo [Ii 1 (.box 26 3 (Tt 0)),Ii 2 (.mov (Bo false))]) (Ss (Oo [Lt 3 3 1,Ca 4 117 [Tt 3,Nn 12,Nn 4000],Ii 5 (.bin .geq (Tt 4) (Nn 0)),Mv 2 5]) .ret)⟩=F)=>F) ?_ ?_;rotate_left;dsimp only[Tt,Nn,Bo,Ii,Mv,Lt,Ca,Oo,Ss];exact rfl
theorem code_scrimref08_Few:lowerF Tryz.prog 51 = some fn_scrimref08_Few:=by kernel_rfl
def fn_scrimref08_Same:AFn:=by refine (fun (F:AFn)(_:⟨47,[.t 4],Ss (Oo [Ii 2 (.box 26 3 (Tt 0)),Ii 3 (.box 26 3 (Tt 1)),Ii 4 (.mov (Bo false))]) (Ss (Ss (Oo [Fa 6 0 2,Lf 7 6,Fa 8 0 3,Lf 9 8,Ii 10 (.bin .neq (Tt 7) (Tt 9)),Mv 11 10,Ig 12 11 false (.faddr 1 (Tt 2)),Ig 13 11 false (.load false 1 (Tt 12)),Ig 14 11 false (.faddr 1 (Tt 3)),Ig 15 11 false (.load false 1 (Tt 14)),Ig 16 11 false (.call (.func 34) [Tt 13,Tt 15]),Ig 17 11 false (.un .not (Tt 16)),Ii 18 (.pick (Tt 11) (Bo true) (Tt 17)),Mv 19 18,Ig 20 19 false (.faddr 2 (Tt 2)),Ig 21 19 false (.load false 1 (Tt 20)),Ig 22 19 false (.len (Tt 21)),Ig 23 19 false (.faddr 2 (Tt 3)),Ig 24 19 false (.load false 1 (Tt 23)),Ig 25 19 false (.len (Tt 24)),Ig 26 19 false (.bin .neq (Tt 22) (Tt 25)),Ii 27 (.pick (Tt 19) (Bo true) (Tt 26))]) (.cond (Tt 27) (Ss (Oo [Ii 4 (.mov (Bo false))]) .ret) .skip)) (Ss (Ss (Oo [Ii 5 (.mov (Nn 0))]) (.block 0 (.loop (Ss (Ss (Oo [Mv 28 5,Fa 29 2 2,Lf 30 29,Le 31 30,Ii 32 (.bin .lss (Tt 28) (Tt 31))]) (.cond (Tt 32) .skip (.exit 0))) (Ss (.block 1 (Ss (.ops true [Fa 35 2 2,Lf 36 35,Mv 37 5,Ia 38 7 36 37,Lt 39 7 38,Fa 40 2 3,Lf 41 40,Mv 42 5,Ia 43 7 41 42,Lt 44 7 43,Ca 45 56 [Tt 39,Tt 44],Ii 46 (.un .not (Tt 45))] [(1,6),(3,6),(4,6),(1,8),(3,8),(4,8),(1,9),(3,9),(4,9)]) (.cond (Tt 46) (Ss (Oo [Ii 4 (.mov (Bo false))]) .ret) .skip))) (Oo [Mv 33 5,Ii 34 (.bin .add (Tt 33) (Nn 1)),Mv 5 34])))))) (Ss (Oo [Ii 4 (.mov (Bo true))]) .ret)))⟩=F)=>F) ?_ ?_;rotate_left;dsimp only[Tt,Nn,Bo,Ii,Ig,Mv,Lf,Lt,Fa,Le,Ia,Ca,Oo,Ss];exact rfl
theorem code_scrimref08_Same:lowerF Tryz.prog 19 = some fn_scrimref08_Same:=by kernel_rfl
def fn_scrimref08_SameCell:AFn:=by refine (fun (F:AFn)(_:⟨61,[.t 4],Ss (Oo [Ii 2 (.box 54 7 (Tt 0)),Ii 3 (.box 54 7 (Tt 1)),Ii 4 (.mov (Bo false))]) (Ss (Ss (Oo [Fa 6 0 2,Lf 7 6,Fa 8 0 3,Lf 9 8,Ii 10 (.bin .neq (Tt 7) (Tt 9)),Mv 11 10,Ig 12 11 false (.faddr 1 (Tt 2)),Ig 13 11 false (.load false 1 (Tt 12)),Ig 14 11 false (.faddr 1 (Tt 3)),Ig 15 11 false (.load false 1 (Tt 14)),Ig 16 11 false (.bin .neq (Tt 13) (Tt 15)),Ii 17 (.pick (Tt 11) (Bo true) (Tt 16)),Mv 18 17,Ig 19 18 false (.faddr 5 (Tt 2)),Ig 20 18 false (.load false 1 (Tt 19)),Ig 21 18 false (.faddr 5 (Tt 3)),Ig 22 18 false (.load false 1 (Tt 21)),Ig 23 18 false (.bin .neq (Tt 20) (Tt 22)),Ii 24 (.pick (Tt 18) (Bo true) (Tt 23)),Mv 25 24,Ig 26 25 false (.faddr 2 (Tt 2)),Ig 27 25 false (.load true 3 (Tt 26)),Ig 28 25 false (.faddr 2 (Tt 3)),Ig 29 25 false (.load true 3 (Tt 28)),Ig 30 25 false (.call (.func 94) [Tt 27,Tt 29]),Ig 31 25 false (.un .not (Tt 30)),Ii 32 (.pick (Tt 25) (Bo true) (Tt 31)),Mv 33 32,Ig 34 33 false (.faddr 6 (Tt 2)),Ig 35 33 false (.load false 1 (Tt 34)),Ig 36 33 false (.len (Tt 35)),Ig 37 33 false (.faddr 6 (Tt 3)),Ig 38 33 false (.load false 1 (Tt 37)),Ig 39 33 false (.len (Tt 38)),Ig 40 33 false (.bin .neq (Tt 36) (Tt 39)),Ii 41 (.pick (Tt 33) (Bo true) (Tt 40))]) (.cond (Tt 41) (Ss (Oo [Ii 4 (.mov (Bo false))]) .ret) .skip)) (Ss (Ss (Oo [Ii 5 (.mov (Nn 0))]) (.block 0 (.loop (Ss (Ss (Oo [Mv 42 5,Fa 43 6 2,Lf 44 43,Le 45 44,Ii 46 (.bin .lss (Tt 42) (Tt 45))]) (.cond (Tt 46) .skip (.exit 0))) (Ss (.block 1 (Ss (.ops true [Fa 49 6 2,Lf 50 49,Mv 51 5,Ia 52 3 50 51,Lt 53 3 52,Fa 54 6 3,Lf 55 54,Mv 56 5,Ia 57 3 55 56,Lt 58 3 57,Ca 59 19 [Tt 53,Tt 58],Ii 60 (.un .not (Tt 59))] [(1,6),(3,6),(4,6),(1,8),(3,8),(4,8),(1,9),(3,9),(4,9)]) (.cond (Tt 60) (Ss (Oo [Ii 4 (.mov (Bo false))]) .ret) .skip))) (Oo [Mv 47 5,Ii 48 (.bin .add (Tt 47) (Nn 1)),Mv 5 48])))))) (Ss (Oo [Ii 4 (.mov (Bo true))]) .ret)))⟩=F)=>F) ?_ ?_;rotate_left;dsimp only[Tt,Nn,Bo,Ii,Ig,Mv,Lf,Lt,Fa,Le,Ia,Ca,Oo,Ss];exact rfl
theorem code_scrimref08_SameCell:lowerF Tryz.prog 56 = some fn_scrimref08_SameCell:=by kernel_rfl
def fn_ratio_Same:AFn:=by refine (fun (F:AFn)(_:⟨24,[.t 4],Ss (Oo [Ii 2 (.box 51 3 (Tt 0)),Ii 3 (.box 51 3 (Tt 1)),Ii 4 (.mov (Bo false))]) (Ss (Oo [Fa 5 0 2,Lf 6 5,Fa 7 0 3,Lf 8 7,Ii 9 (.binB .eql (Tt 6) (Tt 8)),Mv 10 9,Ig 11 10 true (.faddr 1 (Tt 2)),Ig 12 10 true (.load false 1 (Tt 11)),Ig 13 10 true (.faddr 1 (Tt 3)),Ig 14 10 true (.load false 1 (Tt 13)),Ig 15 10 true (.call (.func 154) [Tt 12,Tt 14]),Ii 16 (.pick (Tt 10) (Tt 15) (Bo false)),Mv 17 16,Ig 18 17 true (.faddr 2 (Tt 2)),Ig 19 17 true (.load false 1 (Tt 18)),Ig 20 17 true (.faddr 2 (Tt 3)),Ig 21 17 true (.load false 1 (Tt 20)),Ig 22 17 true (.call (.func 154) [Tt 19,Tt 21]),Ii 23 (.pick (Tt 17) (Tt 22) (Bo false)),Mv 4 23]) .ret)⟩=F)=>F) ?_ ?_;rotate_left;dsimp only[Tt,Bo,Ii,Ig,Mv,Lf,Fa,Oo,Ss];exact rfl
theorem code_ratio_Same:lowerF Tryz.prog 91 = some fn_ratio_Same:=by kernel_rfl
def fn_array_equal:AFn:=by refine (fun (F:AFn)(_:⟨29,[.t 6],Ss (Oo [Ii 3 (.box 26 3 (Tt 0)),Ii 4 (.box 26 3 (Tt 1)),Ii 5 (.box 4 1 (Tt 2)),Ii 6 (.mov (Bo false))]) (Ss (Ss (Oo [Lf 7 5,Mv 8 7,Ig 9 8 true (.faddr 0 (Tt 3)),Ig 10 8 true (.load false 1 (Tt 9)),Ig 11 8 true (.faddr 0 (Tt 4)),Ig 12 8 true (.load false 1 (Tt 11)),Ig 13 8 true (.bin .neq (Tt 10) (Tt 12)),Ii 14 (.pick (Tt 8) (Tt 13) (Bo false)),Mv 15 14,Ig 16 15 false (.faddr 1 (Tt 3)),Ig 17 15 false (.load false 1 (Tt 16)),Ig 18 15 false (.faddr 1 (Tt 4)),Ig 19 15 false (.load false 1 (Tt 18)),Ig 20 15 false (.call (.func 88) [Tt 17,Tt 19]),Ig 21 15 false (.un .not (Tt 20)),Ii 22 (.pick (Tt 15) (Bo true) (Tt 21))]) (.cond (Tt 22) (Ss (Oo [Ii 6 (.mov (Bo false))]) .ret) .skip)) (Ss (Oo [Fa 23 2 3,Lf 24 23,Fa 25 2 4,Lf 26 25,Ii 27 (.mkfn 90 [] [Tt 5]),Ca 28 89 [Tt 24,Tt 26,Tt 27],Mv 6 28]) .ret))⟩=F)=>F) ?_ ?_;rotate_left;dsimp only[Tt,Bo,Ii,Ig,Mv,Lf,Fa,Ca,Oo,Ss];exact rfl
theorem code_array_equal:lowerF Tryz.prog 31 = some fn_array_equal:=by kernel_rfl
def fn_array_equal_1:AFn:=by refine (fun (F:AFn)(_:⟨42,[.t 5],Ss (Oo [Ii 3 (.box 54 7 (Tt 0)),Ii 4 (.box 54 7 (Tt 1)),Ii 5 (.mov (Bo false))]) (Ss (Ss (Oo [Lf 6 2,Mv 7 6,Ig 8 7 true (.faddr 0 (Tt 3)),Ig 9 7 true (.load false 1 (Tt 8)),Ig 10 7 true (.faddr 0 (Tt 4)),Ig 11 7 true (.load false 1 (Tt 10)),Ig 12 7 true (.bin .neq (Tt 9) (Tt 11)),Ii 13 (.pick (Tt 7) (Tt 12) (Bo false)),Mv 14 13,Ig 15 14 false (.faddr 1 (Tt 3)),Ig 16 14 false (.load false 1 (Tt 15)),Ig 17 14 false (.faddr 1 (Tt 4)),Ig 18 14 false (.load false 1 (Tt 17)),Ig 19 14 false (.bin .neq (Tt 16) (Tt 18)),Ii 20 (.pick (Tt 14) (Bo true) (Tt 19)),Mv 21 20,Ig 22 21 false (.faddr 5 (Tt 3)),Ig 23 21 false (.load false 1 (Tt 22)),Ig 24 21 false (.faddr 5 (Tt 4)),Ig 25 21 false (.load false 1 (Tt 24)),Ig 26 21 false (.bin .neq (Tt 23) (Tt 25)),Ii 27 (.pick (Tt 21) (Bo true) (Tt 26)),Mv 28 27,Ig 29 28 false (.faddr 2 (Tt 3)),Ig 30 28 false (.load true 3 (Tt 29)),Ig 31 28 false (.faddr 2 (Tt 4)),Ig 32 28 false (.load true 3 (Tt 31)),Ig 33 28 false (.call (.func 91) [Tt 30,Tt 32]),Ig 34 28 false (.un .not (Tt 33)),Ii 35 (.pick (Tt 28) (Bo true) (Tt 34))]) (.cond (Tt 35) (Ss (Oo [Ii 5 (.mov (Bo false))]) .ret) .skip)) (Ss (Oo [Fa 36 6 3,Lf 37 36,Fa 38 6 4,Lf 39 38,Ii 40 (.mkfn 93 [] [Tt 2]),Ca 41 92 [Tt 37,Tt 39,Tt 40],Mv 5 41]) .ret))⟩=F)=>F) ?_ ?_;rotate_left;dsimp only[Tt,Bo,Ii,Ig,Mv,Lf,Fa,Ca,Oo,Ss];exact rfl
theorem code_array_equal_1:lowerF Tryz.prog 90 = some fn_array_equal_1:=by kernel_rfl
def fn_array_equal_1_1:AFn:=by refine (fun (F:AFn)(_:⟨10,[.t 5],Ss (Oo [Ii 3 (.box 26 3 (Tt 0)),Ii 4 (.box 26 3 (Tt 1)),Ii 5 (.mov (Bo false))]) (Ss (Oo [Lt 6 3 3,Lt 7 3 4,Lf 8 2,Ca 9 31 [Tt 6,Tt 7,Tt 8],Mv 5 9]) .ret)⟩=F)=>F) ?_ ?_;rotate_left;dsimp only[Tt,Bo,Ii,Mv,Lf,Lt,Ca,Oo,Ss];exact rfl
theorem code_array_equal_1_1:lowerF Tryz.prog 93 = some fn_array_equal_1_1:=by kernel_rfl
def fn_array_relabel:AFn:=by refine (fun (F:AFn)(_:⟨59,[.c 4 true 3],Ss (Oo [Ii 2 (.box 26 3 (Tt 0)),Ii 4 (.alloc 26 Za)]) (Ss (.ops true [Mv 11 1,Fa 12 0 2,Lf 13 12,Ii 14 (.call (Tt 11) [Tt 13]),Fa 15 1 2,Lf 16 15,Ca 17 71 [Tt 16],Fa 18 2 2,Lf 19 18,Le 20 19,Ii 21 (.make 54 7 104 Zc (Tt 20) (Tt 20)),Ii 22 (.build Za [(0,1,Tt 14),(1,1,Tt 17),(2,1,Tt 21)]),Ii 5 (.alloc 26 Za),Sr 3 5 22] [(2,5),(3,5),(2,8),(3,8),(5,8),(6,8),(2,9),(3,9),(5,9),(6,9),(2,10),(3,10),(5,10),(6,10),(2,12),(3,12),(5,12),(6,12),(8,12),(9,12),(10,12)]) (Ss (Ss (Oo [Fa 23 2 2,Lf 24 23,Le 25 24,Ii 26 (.mov (Nn 0))]) (.block 0 (.loop (Ss (Oo [Ii 27 (.bin .lss (Tt 26) (Tt 25))]) (Ss (.cond (Tt 27) .skip (.exit 0)) (Ss (.block 1 (Ss (Oo [Mv 28 26,Ia 29 7 24 26,Lt 30 7 29,Ii 7 (.alloc 54 Zc),Mv 6 28,Sr 7 7 30]) (Ss (Oo [Mv 31 1,Fa 32 0 7,Lf 33 32,Ii 34 (.call (Tt 31) [Tt 33]),Fa 35 0 7,Sr 1 35 34]) (Ss (Oo [Ii 8 (.mov (.const (.slice none 0 0)))]) (Ss (Ss (Oo [Fa 36 6 7,Lf 37 36,Le 38 37,Ii 39 (.mov (Nn 0))]) (.block 2 (.loop (Ss (Oo [Ii 40 (.bin .lss (Tt 39) (Tt 38))]) (Ss (.cond (Tt 40) .skip (.exit 2)) (Ss (.block 3 (Ss (Oo [Ia 41 3 37 39,Lt 42 3 41,Ii 10 (.alloc 26 Za),Sr 3 10 42]) (Oo [Mv 43 8,Lt 44 3 10,Mv 45 1,Ca 46 28 [Tt 44,Tt 45],Ii 47 (.rowlit 26 3 1 Za [(0,Tt 46)]),Ii 48 (.append 26 3 56 Za (Tt 43) (Tt 47)),Mv 8 48]))) (Oo [Ii 49 (.bin .add (Tt 39) (Nn 1)),Mv 39 49]))))))) (Ss (Oo [Mv 50 8,Fa 51 6 7,Sr 1 51 50]) (Oo [Fa 52 2 5,Lf 53 52,Mv 54 6,Lt 55 7 7,Ia 56 7 53 54,Sr 7 56 55]))))))) (Oo [Ii 57 (.bin .add (Tt 26) (Nn 1)),Mv 26 57]))))))) (Ss (Oo [Lt 58 3 5,Sr 3 4 58]) .ret)))⟩=F)=>F) ?_ ?_;rotate_left;dsimp only[Tt,Nn,Ii,Mv,Lf,Lt,Fa,Le,Ia,Sr,Ca,Oo,Ss,Za,Zc];exact rfl
theorem code_array_relabel:lowerF Tryz.prog 28 = some fn_array_relabel:=by kernel_rfl
def fn_array_Cover:AFn:=by refine (fun (F:AFn)(_:⟨8,[.c 4 true 3],Ss (Oo [Ii 2 (.box 26 3 (Tt 0)),Ii 3 (.box 22 1 (Tt 1)),Ii 4 (.alloc 26 Za)]) (Ss (Oo [Lt 5 3 2,Ii 6 (.mkfn 29 [] [Tt 3]),Ca 7 28 [Tt 5,Tt 6],Sr 3 4 7]) .ret)⟩=F)=>F) ?_ ?_;rotate_left;dsimp only[Tt,Ii,Lt,Sr,Ca,Oo,Ss,Za];exact rfl
theorem code_array_Cover:lowerF Tryz.prog 8 = some fn_array_Cover:=by kernel_rfl
def fn_array_Cover_1:AFn:=by refine (fun (F:AFn)(_:⟨7,[.t 3],Ss (Oo [Ii 3 (.mov (.const (.int .u64 0)))]) (Ss (Oo [Mv 4 0,Lf 5 1,Ca 6 30 [Tt 4,Tt 5],Mv 3 6]) .ret)⟩=F)=>F) ?_ ?_;rotate_left;dsimp only[Tt,Ii,Mv,Lf,Ca,Oo,Ss];exact rfl
theorem code_array_Cover_1:lowerF Tryz.prog 29 = some fn_array_Cover_1:=by kernel_rfl
def fn_array_own:AFn:=by refine (fun (F:AFn)(_:⟨20,[.c 2 true 7],Ss (Oo [Ii 1 (.box 54 7 (Tt 0)),Ii 2 (.alloc 54 Zc)]) (Ss (.ops true [Fa 3 2 1,Fa 4 1 3,Lf 5 4,Ca 6 187 [Tt 5],Fa 7 2 1,Fa 8 2 7,Lf 9 8,Ca 10 187 [Tt 9],Fa 11 6 1,Lf 12 11,Ca 13 188 [Tt 12],Fa 14 2 1,Fa 15 1 14,Sr 1 15 6,Fa 16 2 1,Fa 17 2 16,Sr 1 17 10,Fa 18 6 1,Sr 1 18 13] [(2,6),(3,6),(2,9),(3,9),(6,9),(7,9)]) (Ss (Oo [Lt 19 7 1,Sr 7 2 19]) .ret))⟩=F)=>F) ?_ ?_;rotate_left;dsimp only[Tt,Ii,Lf,Lt,Fa,Sr,Ca,Oo,Ss,Zc];exact rfl
theorem code_array_own:lowerF Tryz.prog 158 = some fn_array_own:=by kernel_rfl
def fn_array_Int:AFn:=by refine (fun (F:AFn)(_:⟨6,[.c 2 true 7],Ss (Oo [Ii 2 (.alloc 54 Zc)]) (Ss (Oo [Mv 3 0,Ca 4 156 [Tt 3],Ii 5 (.build Zc [(1,1,Nn 0),(2,3,Tt 4)]),Sr 7 2 5]) .ret)⟩=F)=>F) ?_ ?_;rotate_left;dsimp only[Tt,Nn,Ii,Mv,Sr,Ca,Oo,Ss,Zc];exact rfl
theorem code_array_Int:lowerF Tryz.prog 95 = some fn_array_Int:=by kernel_rfl
def fn_array_Scalar:AFn:=by refine (fun (F:AFn)(_:⟨7,[.c 2 true 3],Ss (Oo [Ii 1 (.box 54 7 (Tt 0)),Ii 2 (.alloc 26 Za)]) (Ss (Oo [Lt 3 7 1,Ca 4 158 [Tt 3],Ii 5 (.rowlit 54 7 1 Zc [(0,Tt 4)]),Ii 6 (.build Za [(2,1,Tt 5)]),Sr 3 2 6]) .ret)⟩=F)=>F) ?_ ?_;rotate_left;dsimp only[Tt,Ii,Lt,Sr,Ca,Oo,Ss,Za,Zc];exact rfl
theorem code_array_Scalar:lowerF Tryz.prog 137 = some fn_array_Scalar:=by kernel_rfl
def fn_slices_Equal_int:AFn:=by refine (fun (F:AFn)(_:⟨26,[.t 4],Ss (Oo [Ii 4 (.mov (Bo false))]) (Ss (Ss (Oo [Mv 6 0,Le 7 6,Mv 8 1,Le 9 8,Ii 10 (.bin .neq (Tt 7) (Tt 9))]) (.cond (Tt 10) (Ss (Oo [Ii 4 (.mov (Bo false))]) .ret) .skip)) (Ss (Ss (Oo [Mv 11 0,Le 12 11,Ii 13 (.mov (Nn 0))]) (.block 0 (.loop (Ss (Oo [Ii 14 (.bin .lss (Tt 13) (Tt 12))]) (Ss (.cond (Tt 14) .skip (.exit 0)) (Ss (.block 1 (Ss (Oo [Mv 15 13,Mv 5 15]) (Ss (.ops true [Mv 16 0,Mv 17 5,Ia 18 1 16 17,Lf 19 18,Mv 20 1,Mv 21 5,Ia 22 1 20 21,Lf 23 22,Ii 24 (.bin .neq (Tt 19) (Tt 23))] [(2,6),(3,6),(2,7),(3,7)]) (.cond (Tt 24) (Ss (Oo [Ii 4 (.mov (Bo false))]) .ret) .skip)))) (Oo [Ii 25 (.bin .add (Tt 13) (Nn 1)),Mv 13 25]))))))) (Ss (Oo [Ii 4 (.mov (Bo true))]) .ret)))⟩=F)=>F) ?_ ?_;rotate_left;dsimp only[Tt,Nn,Bo,Ii,Mv,Lf,Le,Ia,Oo,Ss];exact rfl
theorem code_slices_Equal_int:lowerF Tryz.prog 88 = some fn_slices_Equal_int:=by kernel_rfl
def fn_slices_EqualFunc_api_Cell:AFn:=by refine (fun (F:AFn)(_:⟨32,[.t 6],Ss (Oo [Ii 6 (.mov (Bo false))]) (Ss (Ss (Oo [Mv 10 0,Le 11 10,Mv 12 1,Le 13 12,Ii 14 (.bin .neq (Tt 11) (Tt 13))]) (.cond (Tt 14) (Ss (Oo [Ii 6 (.mov (Bo false))]) .ret) .skip)) (Ss (Ss (Oo [Mv 15 0,Le 16 15,Ii 17 (.mov (Nn 0))]) (.block 0 (.loop (Ss (Oo [Ii 18 (.bin .lss (Tt 17) (Tt 16))]) (Ss (.cond (Tt 18) .skip (.exit 0)) (Ss (.block 1 (Ss (Oo [Mv 19 17,Ia 20 7 15 17,Lt 21 7 20,Ii 8 (.alloc 54 Zc),Mv 7 19,Sr 7 8 21]) (Ss (Oo [Mv 22 1,Mv 23 7,Ia 24 7 22 23,Lt 25 7 24,Ii 9 (.alloc 54 Zc),Sr 7 9 25]) (Ss (Oo [Mv 26 2,Lt 27 7 8,Lt 28 7 9,Ii 29 (.call (Tt 26) [Tt 27,Tt 28]),Ii 30 (.un .not (Tt 29))]) (.cond (Tt 30) (Ss (Oo [Ii 6 (.mov (Bo false))]) .ret) .skip))))) (Oo [Ii 31 (.bin .add (Tt 17) (Nn 1)),Mv 17 31]))))))) (Ss (Oo [Ii 6 (.mov (Bo true))]) .ret)))⟩=F)=>F) ?_ ?_;rotate_left;dsimp only[Tt,Nn,Bo,Ii,Mv,Lt,Le,Ia,Sr,Oo,Ss,Zc];exact rfl
theorem code_slices_EqualFunc_api_Cell:lowerF Tryz.prog 89 = some fn_slices_EqualFunc_api_Cell:=by kernel_rfl
def fn_slices_EqualFunc_api_Array:AFn:=by refine (fun (F:AFn)(_:⟨32,[.t 6],Ss (Oo [Ii 6 (.mov (Bo false))]) (Ss (Ss (Oo [Mv 10 0,Le 11 10,Mv 12 1,Le 13 12,Ii 14 (.bin .neq (Tt 11) (Tt 13))]) (.cond (Tt 14) (Ss (Oo [Ii 6 (.mov (Bo false))]) .ret) .skip)) (Ss (Ss (Oo [Mv 15 0,Le 16 15,Ii 17 (.mov (Nn 0))]) (.block 0 (.loop (Ss (Oo [Ii 18 (.bin .lss (Tt 17) (Tt 16))]) (Ss (.cond (Tt 18) .skip (.exit 0)) (Ss (.block 1 (Ss (Oo [Mv 19 17,Ia 20 3 15 17,Lt 21 3 20,Ii 8 (.alloc 26 Za),Mv 7 19,Sr 3 8 21]) (Ss (Oo [Mv 22 1,Mv 23 7,Ia 24 3 22 23,Lt 25 3 24,Ii 9 (.alloc 26 Za),Sr 3 9 25]) (Ss (Oo [Mv 26 2,Lt 27 3 8,Lt 28 3 9,Ii 29 (.call (Tt 26) [Tt 27,Tt 28]),Ii 30 (.un .not (Tt 29))]) (.cond (Tt 30) (Ss (Oo [Ii 6 (.mov (Bo false))]) .ret) .skip))))) (Oo [Ii 31 (.bin .add (Tt 17) (Nn 1)),Mv 17 31]))))))) (Ss (Oo [Ii 6 (.mov (Bo true))]) .ret)))⟩=F)=>F) ?_ ?_;rotate_left;dsimp only[Tt,Nn,Bo,Ii,Mv,Lt,Le,Ia,Sr,Oo,Ss,Za];exact rfl
theorem code_slices_EqualFunc_api_Array:lowerF Tryz.prog 92 = some fn_slices_EqualFunc_api_Array:=by kernel_rfl
def fn_slices_Equal_uint32:AFn:=by refine (fun (F:AFn)(_:⟨26,[.t 4],Ss (Oo [Ii 4 (.mov (Bo false))]) (Ss (Ss (Oo [Mv 6 0,Le 7 6,Mv 8 1,Le 9 8,Ii 10 (.bin .neq (Tt 7) (Tt 9))]) (.cond (Tt 10) (Ss (Oo [Ii 4 (.mov (Bo false))]) .ret) .skip)) (Ss (Ss (Oo [Mv 11 0,Le 12 11,Ii 13 (.mov (Nn 0))]) (.block 0 (.loop (Ss (Oo [Ii 14 (.bin .lss (Tt 13) (Tt 12))]) (Ss (.cond (Tt 14) .skip (.exit 0)) (Ss (.block 1 (Ss (Oo [Mv 15 13,Mv 5 15]) (Ss (.ops true [Mv 16 0,Mv 17 5,Ia 18 1 16 17,Lf 19 18,Mv 20 1,Mv 21 5,Ia 22 1 20 21,Lf 23 22,Ii 24 (.bin .neq (Tt 19) (Tt 23))] [(2,6),(3,6),(2,7),(3,7)]) (.cond (Tt 24) (Ss (Oo [Ii 4 (.mov (Bo false))]) .ret) .skip)))) (Oo [Ii 25 (.bin .add (Tt 13) (Nn 1)),Mv 13 25]))))))) (Ss (Oo [Ii 4 (.mov (Bo true))]) .ret)))⟩=F)=>F) ?_ ?_;rotate_left;dsimp only[Tt,Nn,Bo,Ii,Mv,Lf,Le,Ia,Oo,Ss];exact rfl
theorem code_slices_Equal_uint32:lowerF Tryz.prog 154 = some fn_slices_Equal_uint32:=by kernel_rfl
def fn_slices_Clone_int:AFn:=by refine (fun (F:AFn)(_:⟨8,[.t 2],Ss (Oo [Ii 2 (.mov (.const (.slice none 0 0)))]) (Ss (Ss (Oo [Mv 3 0,Ii 4 (.eqv 23 false (Tt 3) (.const (.slice none 0 0)))]) (.cond (Tt 4) (Ss (Oo [Ii 2 (.mov (.const (.slice none 0 0)))]) .ret) .skip)) (Ss (Oo [Ii 5 (.rowlit 3 1 0 [.int .i64 0] []),Mv 6 0,Ii 7 (.append 3 1 8 [.int .i64 0] (Tt 5) (Tt 6)),Mv 2 7]) .ret))⟩=F)=>F) ?_ ?_;rotate_left;dsimp only[Tt,Ii,Mv,Oo,Ss];exact rfl
theorem code_slices_Clone_int:lowerF Tryz.prog 71 = some fn_slices_Clone_int:=by kernel_rfl
def fn_slices_Clone_uint32:AFn:=by refine (fun (F:AFn)(_:⟨8,[.t 2],Ss (Oo [Ii 2 (.mov (.const (.slice none 0 0)))]) (Ss (Ss (Oo [Mv 3 0,Ii 4 (.eqv 49 false (Tt 3) (.const (.slice none 0 0)))]) (.cond (Tt 4) (Ss (Oo [Ii 2 (.mov (.const (.slice none 0 0)))]) .ret) .skip)) (Ss (Oo [Ii 5 (.rowlit 145 1 0 [.int .u32 0] []),Mv 6 0,Ii 7 (.append 145 1 4 [.int .u32 0] (Tt 5) (Tt 6)),Mv 2 7]) .ret))⟩=F)=>F) ?_ ?_;rotate_left;dsimp only[Tt,Ii,Mv,Oo,Ss];exact rfl
theorem code_slices_Clone_uint32:lowerF Tryz.prog 187 = some fn_slices_Clone_uint32:=by kernel_rfl
def fn_slices_Clone_api_Array:AFn:=by refine (fun (F:AFn)(_:⟨8,[.t 2],Ss (Oo [Ii 2 (.mov (.const (.slice none 0 0)))]) (Ss (Ss (Oo [Mv 3 0,Ii 4 (.eqv 52 false (Tt 3) (.const (.slice none 0 0)))]) (.cond (Tt 4) (Ss (Oo [Ii 2 (.mov (.const (.slice none 0 0)))]) .ret) .skip)) (Ss (Oo [Ii 5 (.rowlit 26 3 0 Za []),Mv 6 0,Ii 7 (.append 26 3 56 Za (Tt 5) (Tt 6)),Mv 2 7]) .ret))⟩=F)=>F) ?_ ?_;rotate_left;dsimp only[Tt,Ii,Mv,Oo,Ss,Za];exact rfl
theorem code_slices_Clone_api_Array:lowerF Tryz.prog 188 = some fn_slices_Clone_api_Array:=by kernel_rfl
def fn_ratio_Of:AFn:=by refine (fun (F:AFn)(_:⟨6,[.c 2 true 3],Ss (Oo [Ii 2 (.alloc 51 [.bool false,.slice none 0 0,.slice none 0 0])]) (Ss (Oo [Mv 3 0,Ca 4 186 [Tt 3],Ca 5 185 [Tt 4],Sr 3 2 5]) .ret)⟩=F)=>F) ?_ ?_;rotate_left;dsimp only[Tt,Ii,Mv,Sr,Ca,Oo,Ss];exact rfl
theorem code_ratio_Of:lowerF Tryz.prog 156 = some fn_ratio_Of:=by kernel_rfl
def fn_ratio_Whole:AFn:=by refine (fun (F:AFn)(_:⟨16,[.c 2 true 3],Ss (Oo [Ii 1 (.box 160 2 (Tt 0)),Ii 2 (.alloc 51 [.bool false,.slice none 0 0,.slice none 0 0])]) (Ss (Oo [Lt 3 2 1,Ca 4 211 [Tt 3],Sr 2 1 4]) (Ss (Ss (Oo [Fa 5 1 1,Lf 6 5,Le 7 6,Ii 8 (.bin .gtr (Tt 7) (Nn 32))]) (.cond (Tt 8) (Ss (Oo [Ii 9 (.build [.bool false,.slice none 0 0,.slice none 0 0] []),Sr 3 2 9]) .ret) .skip)) (Ss (Oo [Fa 10 0 1,Lf 11 10,Fa 12 1 1,Lf 13 12,Ii 14 (.rowlit 145 1 1 [.int .u32 0] [(0,.const (.int .u32 1))]),Ii 15 (.build [.bool false,.slice none 0 0,.slice none 0 0] [(0,1,Tt 11),(1,1,Tt 13),(2,1,Tt 14)]),Sr 3 2 15]) .ret)))⟩=F)=>F) ?_ ?_;rotate_left;dsimp only[Tt,Nn,Ii,Lf,Lt,Fa,Le,Sr,Ca,Oo,Ss];exact rfl
theorem code_ratio_Whole:lowerF Tryz.prog 185 = some fn_ratio_Whole:=by kernel_rfl
def fn_whole_Of:AFn:=by refine (fun (F:AFn)(_:⟨20,[.c 2 true 2],Ss (Oo [Ii 2 (.alloc 160 [.bool false,.slice none 0 0])]) (Ss (Oo [Mv 4 0,Ii 5 (.conv .u64 (Tt 4)),Mv 3 5]) (Ss (Ss (Oo [Mv 6 0,Ii 7 (.bin .lss (Tt 6) (Nn 0))]) (.cond (Tt 7) (Oo [Mv 8 3,Ii 9 (.un .neg (Tt 8)),Mv 3 9]) .skip)) (Ss (Oo [Mv 10 0,Ii 11 (.bin .lss (Tt 10) (Nn 0)),Mv 12 3,Ii 13 (.conv .u32 (Tt 12)),Mv 14 3,Ii 15 (.bin .shr (Tt 14) (.const (.int .u64 32))),Ii 16 (.conv .u32 (Tt 15)),Ii 17 (.rowlit 145 1 2 [.int .u32 0] [(0,Tt 13),(1,Tt 16)]),Ca 18 223 [Tt 17],Ca 19 222 [Tt 11,Tt 18],Sr 2 2 19]) .ret)))⟩=F)=>F) ?_ ?_;rotate_left;dsimp only[Tt,Nn,Ii,Mv,Sr,Ca,Oo,Ss];exact rfl
theorem code_whole_Of:lowerF Tryz.prog 186 = some fn_whole_Of:=by kernel_rfl
def fn_whole_Small:AFn:=by refine (fun (F:AFn)(_:⟨41,[.t 2,.t 3],Ss (Oo [Ii 1 (.box 160 2 (Tt 0)),Ii 2 (.mov (Nn 0)),Ii 3 (.mov (Bo false))]) (Ss (Oo [Lt 7 2 1,Ca 8 211 [Tt 7],Sr 2 1 8]) (Ss (Ss (Oo [Fa 9 1 1,Lf 10 9,Le 11 10,Ii 12 (.bin .gtr (Tt 11) (Nn 2))]) (.cond (Tt 12) (Ss (Oo [Ii 2 (.mov (Nn 0)),Ii 3 (.mov (Bo false))]) .ret) .skip)) (Ss (Oo [Ii 4 (.mov (.const (.int .u64 0)))]) (Ss (Ss (Oo [Fa 13 1 1,Lf 14 13,Le 15 14,Ii 16 (.mov (Nn 0))]) (.block 0 (.loop (Ss (Oo [Ii 17 (.bin .lss (Tt 16) (Tt 15))]) (Ss (.cond (Tt 17) .skip (.exit 0)) (Ss (.block 1 (Ss (Oo [Mv 18 16,Ia 19 1 14 16,Lf 20 19,Mv 5 18,Mv 6 20]) (Oo [Mv 21 4,Mv 22 6,Ii 23 (.conv .u64 (Tt 22)),Mv 24 5,Ii 25 (.bin .mul (Nn 32) (Tt 24)),Ii 26 (.conv .u64 (Tt 25)),Ii 27 (.bin .shl (Tt 23) (Tt 26)),Ii 28 (.bin .or (Tt 21) (Tt 27)),Mv 4 28]))) (Oo [Ii 29 (.bin .add (Tt 16) (Nn 1)),Mv 16 29]))))))) (Ss (Ss (Oo [Fa 30 0 1,Lf 31 30]) (.cond (Tt 31) (Ss (Ss (Oo [Mv 32 4,Ii 33 (.bin .gtr (Tt 32) (.const (.int .u64 9223372036854775808)))]) (.cond (Tt 33) (Ss (Oo [Ii 2 (.mov (Nn 0)),Ii 3 (.mov (Bo false))]) .ret) .skip)) (Ss (Oo [Mv 34 4,Ii 35 (.un .neg (Tt 34)),Ii 36 (.conv .i64 (Tt 35)),Mv 2 36,Ii 3 (.mov (Bo true))]) .ret)) .skip)) (Ss (Ss (Oo [Mv 37 4,Ii 38 (.bin .gtr (Tt 37) (.const (.int .u64 9223372036854775807)))]) (.cond (Tt 38) (Ss (Oo [Ii 2 (.mov (Nn 0)),Ii 3 (.mov (Bo false))]) .ret) .skip)) (Ss (Oo [Mv 39 4,Ii 40 (.conv .i64 (Tt 39)),Mv 2 40,Ii 3 (.mov (Bo true))]) .ret)))))))⟩=F)=>F) ?_ ?_;rotate_left;dsimp only[Tt,Nn,Bo,Ii,Mv,Lf,Lt,Fa,Le,Ia,Sr,Ca,Oo,Ss];exact rfl
theorem code_whole_Small:lowerF Tryz.prog 176 = some fn_whole_Small:=by kernel_rfl
def fn_whole_Norm:AFn:=by refine (fun (F:AFn)(_:⟨9,[.c 2 true 2],Ss (Oo [Ii 1 (.box 160 2 (Tt 0)),Ii 2 (.alloc 160 [.bool false,.slice none 0 0])]) (Ss (.ops true [Fa 3 0 1,Lf 4 3,Fa 5 1 1,Lf 6 5,Ca 7 223 [Tt 6],Ca 8 222 [Tt 4,Tt 7],Sr 2 2 8] [(1,3),(1,4)]) .ret)⟩=F)=>F) ?_ ?_;rotate_left;dsimp only[Tt,Ii,Lf,Fa,Sr,Ca,Oo,Ss];exact rfl
theorem code_whole_Norm:lowerF Tryz.prog 211 = some fn_whole_Norm:=by kernel_rfl
def fn_whole_signed:AFn:=by refine (fun (F:AFn)(_:⟨12,[.c 4 true 2],Ss (Oo [Ii 4 (.alloc 160 [.bool false,.slice none 0 0])]) (Ss (Ss (Oo [Mv 5 1,Le 6 5,Ii 7 (.bin .eql (Tt 6) (Nn 0))]) (.cond (Tt 7) (Ss (Oo [Ii 8 (.build [.bool false,.slice none 0 0] []),Sr 2 4 8]) .ret) .skip)) (Ss (Oo [Mv 9 0,Mv 10 1,Ii 11 (.build [.bool false,.slice none 0 0] [(0,1,Tt 9),(1,1,Tt 10)]),Sr 2 4 11]) .ret))⟩=F)=>F) ?_ ?_;rotate_left;dsimp only[Tt,Nn,Ii,Mv,Le,Sr,Oo,Ss];exact rfl
theorem code_whole_signed:lowerF Tryz.prog 222 = some fn_whole_signed:=by kernel_rfl
def fn_nat_Norm:AFn:=by refine (fun (F:AFn)(_:⟨13,[.t 2],Ss (Oo [Ii 2 (.mov (.const (.slice none 0 0)))]) (Ss (Oo [Mv 4 0,Ca 5 241 [Tt 4],Mv 0 5]) (Ss (Oo [Mv 6 0,Le 7 6,Ii 8 (.make 145 1 4 [.int .u32 0] (Tt 7) (Tt 7)),Mv 3 8]) (Ss (Oo [Mv 9 3,Mv 10 0,Ii 11 (.copy 1 (Tt 9) (Tt 10))]) (Ss (Oo [Mv 12 3,Mv 2 12]) .ret))))⟩=F)=>F) ?_ ?_;rotate_left;dsimp only[Tt,Ii,Mv,Le,Ca,Oo,Ss];exact rfl
theorem code_nat_Norm:lowerF Tryz.prog 223 = some fn_nat_Norm:=by kernel_rfl
def fn_nat_trim:AFn:=by refine (fun (F:AFn)(_:⟨22,[.t 2],Ss (Oo [Ii 2 (.mov (.const (.slice none 0 0)))]) (Ss (Oo [Mv 4 0,Le 5 4,Mv 3 5]) (Ss (.block 0 (.loop (Ss (Ss (Oo [Mv 6 3,Ii 7 (.bin .gtr (Tt 6) (Nn 0)),Mv 8 7,Ig 9 8 true (.mov (Tt 0)),Ig 10 8 true (.mov (Tt 3)),Ig 11 8 true (.bin .sub (Tt 10) (Nn 1)),Ig 12 8 true (.iaddr 1 (Tt 9) (Tt 11)),Ig 13 8 true (.load false 1 (Tt 12)),Ig 14 8 true (.bin .eql (Tt 13) (.const (.int .u32 0))),Ii 15 (.pick (Tt 8) (Tt 14) (Bo false))]) (.cond (Tt 15) .skip (.exit 0))) (.block 1 (Oo [Mv 16 3,Ii 17 (.bin .sub (Tt 16) (Nn 1)),Mv 3 17]))))) (Ss (Oo [Mv 18 0,Mv 19 3,Mv 20 3,Ii 21 (.slice 1 (Tt 18) none (some (Tt 19)) (some (Tt 20))),Mv 2 21]) .ret)))⟩=F)=>F) ?_ ?_;rotate_left;dsimp only[Tt,Nn,Bo,Ii,Ig,Mv,Le,Oo,Ss];exact rfl
theorem code_nat_trim:lowerF Tryz.prog 241 = some fn_nat_trim:=by kernel_rfl
def fn_array_Ints:AFn:=by refine (fun (F:AFn)(_:⟨43,[.t 2,.t 3],Ss (Oo [Ii 1 (.box 26 3 (Tt 0)),Ii 2 (.mov (.const (.slice none 0 0))),Ii 3 (.mov (Nn 0))]) (Ss (Ss (Oo [Fa 9 1 1,Lf 10 9,Le 11 10,Ii 12 (.bin .gtr (Tt 11) (Nn 1))]) (.cond (Tt 12) (Ss (Oo [Ii 2 (.mov (.const (.slice none 0 0))),Ii 3 (.mov (Nn 5))]) .ret) .skip)) (Ss (Oo [Fa 13 2 1,Lf 14 13,Le 15 14,Ii 16 (.make 3 1 8 [.int .i64 0] (Nn 0) (Tt 15)),Mv 4 16]) (Ss (Ss (Oo [Fa 17 2 1,Lf 18 17,Le 19 18,Ii 20 (.mov (Nn 0))]) (.block 0 (.loop (Ss (Oo [Ii 21 (.bin .lss (Tt 20) (Tt 19))]) (Ss (.cond (Tt 21) .skip (.exit 0)) (Ss (.block 1 (Ss (Oo [Ia 22 7 18 20,Lt 23 7 22,Ii 6 (.alloc 54 Zc),Sr 7 6 23]) (Ss (Oo [Fa 25 2 6,Lt 26 3 25,Ca 27 124 [Tt 26],Mv 24 27,Ex 28 0 24,Ex 29 1 24,Mv 7 28,Mv 8 29]) (Ss (Ss (Oo [Fa 30 1 6,Lf 31 30,Ii 32 (.bin .neq (Tt 31) (Nn 0)),Mv 33 32,Ig 34 33 false (.mov (Tt 8)),Ig 35 33 false (.un .not (Tt 34)),Ii 36 (.pick (Tt 33) (Bo true) (Tt 35))]) (.cond (Tt 36) (Ss (Oo [Ii 2 (.mov (.const (.slice none 0 0))),Ii 3 (.mov (Nn 3))]) .ret) .skip)) (Oo [Mv 37 4,Mv 38 7,Ii 39 (.rowlit 3 1 1 [.int .i64 0] [(0,Tt 38)]),Ii 40 (.append 3 1 8 [.int .i64 0] (Tt 37) (Tt 39)),Mv 4 40]))))) (Oo [Ii 41 (.bin .add (Tt 20) (Nn 1)),Mv 20 41]))))))) (Ss (Oo [Mv 42 4,Mv 2 42,Ii 3 (.mov (Nn 0))]) .ret))))⟩=F)=>F) ?_ ?_;rotate_left;dsimp only[Tt,Nn,Bo,Ii,Ig,Mv,Lf,Lt,Fa,Ex,Le,Ia,Sr,Ca,Oo,Ss,Zc];exact rfl
theorem code_array_Ints:lowerF Tryz.prog 57 = some fn_array_Ints:=by kernel_rfl
def fn_array_Raise:AFn:=by refine (fun (F:AFn)(_:⟨11,[.c 4 true 3],Ss (Oo [Ii 2 (.box 26 3 (Tt 0)),Ii 4 (.alloc 26 Za)]) (Ss (Oo [Fa 5 0 2,Lf 6 5,Mv 7 1,Ca 8 30 [Tt 6,Tt 7],Fa 9 0 2,Sr 1 9 8]) (Ss (Oo [Lt 10 3 2,Sr 3 4 10]) .ret))⟩=F)=>F) ?_ ?_;rotate_left;dsimp only[Tt,Ii,Mv,Lf,Lt,Fa,Sr,Ca,Oo,Ss,Za];exact rfl
theorem code_array_Raise:lowerF Tryz.prog 65 = some fn_array_Raise:=by kernel_rfl
def fn_array_Total:AFn:=by refine (fun (F:AFn)(_:⟨35,[.t 2],Ss (Oo [Ii 1 (.box 26 3 (Tt 0)),Ii 2 (.mov (.const (.int .u64 0)))]) (Ss (Oo [Fa 8 0 1,Lf 9 8,Mv 3 9]) (Ss (Ss (Oo [Fa 10 2 1,Lf 11 10,Le 12 11,Ii 13 (.mov (Nn 0))]) (.block 0 (.loop (Ss (Oo [Ii 14 (.bin .lss (Tt 13) (Tt 12))]) (Ss (.cond (Tt 14) .skip (.exit 0)) (Ss (.block 1 (Ss (Oo [Ia 15 7 11 13,Lt 16 7 15,Ii 5 (.alloc 54 Zc),Sr 7 5 16]) (Ss (Oo [Mv 17 3,Fa 18 0 5,Lf 19 18,Ca 20 30 [Tt 17,Tt 19],Mv 3 20]) (Ss (Oo [Fa 21 6 5,Lf 22 21,Le 23 22,Ii 24 (.mov (Nn 0))]) (.block 2 (.loop (Ss (Oo [Ii 25 (.bin .lss (Tt 24) (Tt 23))]) (Ss (.cond (Tt 25) .skip (.exit 2)) (Ss (.block 3 (Ss (Oo [Ia 26 3 22 24,Lt 27 3 26,Ii 7 (.alloc 26 Za),Sr 3 7 27]) (Oo [Mv 28 3,Lt 29 3 7,Ca 30 11 [Tt 29],Ca 31 30 [Tt 28,Tt 30],Mv 3 31]))) (Oo [Ii 32 (.bin .add (Tt 24) (Nn 1)),Mv 24 32])))))))))) (Oo [Ii 33 (.bin .add (Tt 13) (Nn 1)),Mv 13 33]))))))) (Ss (Oo [Mv 34 3,Mv 2 34]) .ret)))⟩=F)=>F) ?_ ?_;rotate_left;dsimp only[Tt,Nn,Ii,Mv,Lf,Lt,Fa,Le,Ia,Sr,Ca,Oo,Ss,Za,Zc];exact rfl
theorem code_array_Total:lowerF Tryz.prog 11 = some fn_array_Total:=by kernel_rfl
def fn_array_Vector:AFn:=by refine (fun (F:AFn)(_:⟨27,[.c 2 true 3],Ss (Oo [Ii 2 (.alloc 26 Za)]) (Ss (Oo [Mv 6 0,Le 7 6,Ii 8 (.make 54 7 104 Zc (Tt 7) (Tt 7)),Mv 3 8]) (Ss (Ss (Oo [Mv 9 0,Le 10 9,Ii 11 (.mov (Nn 0))]) (.block 0 (.loop (Ss (Oo [Ii 12 (.bin .lss (Tt 11) (Tt 10))]) (Ss (.cond (Tt 12) .skip (.exit 0)) (Ss (.block 1 (Ss (Oo [Mv 13 11,Ia 14 7 9 11,Lt 15 7 14,Ii 5 (.alloc 54 Zc),Mv 4 13,Sr 7 5 15]) (Oo [Mv 16 3,Mv 17 4,Lt 18 7 5,Ca 19 158 [Tt 18],Ia 20 7 16 17,Sr 7 20 19]))) (Oo [Ii 21 (.bin .add (Tt 11) (Nn 1)),Mv 11 21]))))))) (Ss (Oo [Mv 22 0,Le 23 22,Ii 24 (.rowlit 3 1 1 [.int .i64 0] [(0,Tt 23)]),Mv 25 3,Ii 26 (.build Za [(1,1,Tt 24),(2,1,Tt 25)]),Sr 3 2 26]) .ret)))⟩=F)=>F) ?_ ?_;rotate_left;dsimp only[Tt,Nn,Ii,Mv,Lt,Le,Ia,Sr,Ca,Oo,Ss,Za,Zc];exact rfl
theorem code_array_Vector:lowerF Tryz.prog 106 = some fn_array_Vector:=by kernel_rfl
def fn_ratio_Small:AFn:=by refine (fun (F:AFn)(_:⟨13,[.t 2,.t 3],Ss (Oo [Ii 1 (.box 51 3 (Tt 0)),Ii 2 (.mov (Nn 0)),Ii 3 (.mov (Bo false))]) (Ss (Ss (Oo [Fa 4 2 1,Lf 5 4,Ca 6 175 [Tt 5],Ii 7 (.un .not (Tt 6))]) (.cond (Tt 7) (Ss (Oo [Ii 2 (.mov (Nn 0)),Ii 3 (.mov (Bo false))]) .ret) .skip)) (Ss (Oo [Lt 8 3 1,Ca 9 177 [Tt 8],Ca 10 176 [Tt 9],Ex 11 0 10,Ex 12 1 10,Mv 2 11,Mv 3 12]) .ret))⟩=F)=>F) ?_ ?_;rotate_left;dsimp only[Tt,Nn,Bo,Ii,Mv,Lf,Lt,Fa,Ex,Ca,Oo,Ss];exact rfl
theorem code_ratio_Small:lowerF Tryz.prog 124 = some fn_ratio_Small:=by kernel_rfl
def fn_ratio_isOne:AFn:=by refine (fun (F:AFn)(_:⟨12,[.t 2],Ss (Oo [Ii 2 (.mov (Bo false))]) (Ss (Oo [Mv 3 0,Le 4 3,Ii 5 (.bin .eql (Tt 4) (Nn 1)),Mv 6 5,Ig 7 6 true (.mov (Tt 0)),Ig 8 6 true (.iaddr 1 (Tt 7) (Nn 0)),Ig 9 6 true (.load false 1 (Tt 8)),Ig 10 6 true (.bin .eql (Tt 9) (.const (.int .u32 1))),Ii 11 (.pick (Tt 6) (Tt 10) (Bo false)),Mv 2 11]) .ret)⟩=F)=>F) ?_ ?_;rotate_left;dsimp only[Tt,Nn,Bo,Ii,Ig,Mv,Le,Oo,Ss];exact rfl
theorem code_ratio_isOne:lowerF Tryz.prog 175 = some fn_ratio_isOne:=by kernel_rfl
def fn_ratio_top:AFn:=by refine (fun (F:AFn)(_:⟨8,[.c 2 true 2],Ss (Oo [Ii 1 (.box 51 3 (Tt 0)),Ii 2 (.alloc 160 [.bool false,.slice none 0 0])]) (Ss (Oo [Fa 3 0 1,Lf 4 3,Fa 5 1 1,Lf 6 5,Ii 7 (.build [.bool false,.slice none 0 0] [(0,1,Tt 4),(1,1,Tt 6)]),Sr 2 2 7]) .ret)⟩=F)=>F) ?_ ?_;rotate_left;dsimp only[Tt,Ii,Lf,Fa,Sr,Oo,Ss];exact rfl
theorem code_ratio_top:lowerF Tryz.prog 177 = some fn_ratio_top:=by kernel_rfl
def fn_scrimref02_Add:AFn:=by refine (fun (F:AFn)(_:⟨35,[.t 4],Ss (Oo [Ii 4 (.mov (.const (.slice none 0 0)))]) (Ss (Oo [Ii 5 (.mov (.const (.slice none 0 0)))]) (Ss (Oo [Ii 6 (.mov (.const (.int .u64 0)))]) (Ss (Ss (Oo [Ii 7 (.mov (Nn 0))]) (.block 0 (.loop (Ss (Ss (Oo [Mv 9 7,Mv 10 0,Mv 11 1,Ca 12 236 [Tt 10,Tt 11],Ii 13 (.bin .leq (Tt 9) (Tt 12))]) (.cond (Tt 13) .skip (.exit 0))) (Ss (.block 1 (Ss (Oo [Mv 16 0,Mv 17 7,Ca 18 237 [Tt 16,Tt 17],Mv 19 1,Mv 20 7,Ca 21 237 [Tt 19,Tt 20],Ii 22 (.bin .add (Tt 18) (Tt 21)),Mv 23 6,Ii 24 (.bin .add (Tt 22) (Tt 23)),Mv 8 24]) (Ss (Oo [Mv 25 5,Mv 26 8,Ii 27 (.bin .rem (Tt 26) (.const (.int .u64 4294967296))),Ii 28 (.conv .u32 (Tt 27)),Ii 29 (.rowlit 145 1 1 [.int .u32 0] [(0,Tt 28)]),Ii 30 (.append 145 1 4 [.int .u32 0] (Tt 25) (Tt 29)),Mv 5 30]) (Oo [Mv 31 8,Ii 32 (.bin .quo (Tt 31) (.const (.int .u64 4294967296))),Mv 6 32])))) (Oo [Mv 14 7,Ii 15 (.bin .add (Tt 14) (Nn 1)),Mv 7 15])))))) (Ss (Oo [Mv 33 5,Ca 34 207 [Tt 33],Mv 4 34]) .ret))))⟩=F)=>F) ?_ ?_;rotate_left;dsimp only[Tt,Nn,Ii,Mv,Ca,Oo,Ss];exact rfl
theorem code_scrimref02_Add:lowerF Tryz.prog 210 = some fn_scrimref02_Add:=by kernel_rfl
def fn_scrimref02_Bit:AFn:=by refine (fun (F:AFn)(_:⟨22,[.t 4],Ss (Oo [Ii 4 (.mov (.const (.int .u32 0)))]) (Ss (Oo [Mv 7 0,Mv 8 1,Ii 9 (.bin .quo (Tt 8) (Nn 32)),Ca 10 237 [Tt 7,Tt 9],Mv 5 10]) (Ss (Ss (Oo [Ii 6 (.mov (Nn 0))]) (.block 0 (.loop (Ss (Ss (Oo [Mv 11 6,Mv 12 1,Ii 13 (.bin .rem (Tt 12) (Nn 32)),Ii 14 (.bin .lss (Tt 11) (Tt 13))]) (.cond (Tt 14) .skip (.exit 0))) (Ss (.block 1 (Oo [Mv 17 5,Ii 18 (.bin .quo (Tt 17) (.const (.int .u64 2))),Mv 5 18])) (Oo [Mv 15 6,Ii 16 (.bin .add (Tt 15) (Nn 1)),Mv 6 16])))))) (Ss (Oo [Mv 19 5,Ii 20 (.bin .rem (Tt 19) (.const (.int .u64 2))),Ii 21 (.conv .u32 (Tt 20)),Mv 4 21]) .ret)))⟩=F)=>F) ?_ ?_;rotate_left;dsimp only[Tt,Nn,Ii,Mv,Ca,Oo,Ss];exact rfl
theorem code_scrimref02_Bit:lowerF Tryz.prog 246 = some fn_scrimref02_Bit:=by kernel_rfl
def fn_scrimref02_Cmp:AFn:=by refine (fun (F:AFn)(_:⟨28,[.t 4],Ss (Oo [Ii 4 (.mov (Nn 0))]) (Ss (Ss (Oo [Mv 6 0,Mv 7 1,Ca 8 236 [Tt 6,Tt 7],Ii 9 (.bin .sub (Tt 8) (Nn 1)),Mv 5 9]) (.block 0 (.loop (Ss (Ss (Oo [Mv 10 5,Ii 11 (.bin .geq (Tt 10) (Nn 0))]) (.cond (Tt 11) .skip (.exit 0))) (Ss (.block 1 (Ss (Ss (Oo [Mv 14 0,Mv 15 5,Ca 16 237 [Tt 14,Tt 15],Mv 17 1,Mv 18 5,Ca 19 237 [Tt 17,Tt 18],Ii 20 (.bin .lss (Tt 16) (Tt 19))]) (.cond (Tt 20) (Ss (Oo [Ii 4 (.mov (Nn (-1)))]) .ret) .skip)) (Ss (Oo [Mv 21 0,Mv 22 5,Ca 23 237 [Tt 21,Tt 22],Mv 24 1,Mv 25 5,Ca 26 237 [Tt 24,Tt 25],Ii 27 (.bin .gtr (Tt 23) (Tt 26))]) (.cond (Tt 27) (Ss (Oo [Ii 4 (.mov (Nn 1))]) .ret) .skip)))) (Oo [Mv 12 5,Ii 13 (.bin .sub (Tt 12) (Nn 1)),Mv 5 13])))))) (Ss (Oo [Ii 4 (.mov (Nn 0))]) .ret))⟩=F)=>F) ?_ ?_;rotate_left;dsimp only[Tt,Nn,Ii,Mv,Ca,Oo,Ss];exact rfl
theorem code_scrimref02_Cmp:lowerF Tryz.prog 248 = some fn_scrimref02_Cmp:=by kernel_rfl
def fn_scrimref02_DivMod:AFn:=by refine (fun (F:AFn)(_:⟨43,[.t 4,.t 5,.t 6],Ss (Oo [Ii 4 (.mov (.const (.slice none 0 0))),Ii 5 (.mov (.const (.slice none 0 0))),Ii 6 (.mov (Bo false))]) (Ss (Ss (Oo [Mv 12 1,Ca 13 207 [Tt 12],Le 14 13,Ii 15 (.bin .eql (Tt 14) (Nn 0))]) (.cond (Tt 15) (Ss (Oo [Ii 4 (.mov (.const (.slice none 0 0))),Ii 5 (.mov (.const (.slice none 0 0))),Ii 6 (.mov (Bo false))]) .ret) .skip)) (Ss (Oo [Ii 7 (.mov (.const (.slice none 0 0))),Ii 8 (.mov (.const (.slice none 0 0)))]) (Ss (Ss (Oo [Mv 16 0,Le 17 16,Ii 18 (.bin .mul (Nn 32) (Tt 17)),Ii 19 (.bin .sub (Tt 18) (Nn 1)),Mv 9 19]) (.block 0 (.loop (Ss (Ss (Oo [Mv 20 9,Ii 21 (.bin .geq (Tt 20) (Nn 0))]) (.cond (Tt 21) .skip (.exit 0))) (Ss (.block 1 (Ss (Oo [Mv 24 8,Mv 25 0,Mv 26 9,Ca 27 246 [Tt 25,Tt 26],Ca 28 245 [Tt 24,Tt 27],Mv 8 28]) (Ss (Oo [Mv 30 8,Mv 31 1,Ca 32 247 [Tt 30,Tt 31],Mv 29 32,Ex 33 0 29,Ex 34 1 29,Mv 10 33,Mv 11 34]) (Ss (Oo [Mv 35 11]) (.cond (Tt 35) (Ss (Oo [Mv 36 10,Mv 8 36]) (Oo [Mv 37 7,Ca 38 245 [Tt 37,.const (.int .u32 1)],Mv 7 38])) (Oo [Mv 39 7,Ca 40 245 [Tt 39,.const (.int .u32 0)],Mv 7 40])))))) (Oo [Mv 22 9,Ii 23 (.bin .sub (Tt 22) (Nn 1)),Mv 9 23])))))) (Ss (Oo [Mv 41 7,Mv 42 8,Mv 4 41,Mv 5 42,Ii 6 (.mov (Bo true))]) .ret))))⟩=F)=>F) ?_ ?_;rotate_left;dsimp only[Tt,Nn,Bo,Ii,Mv,Ex,Le,Ca,Oo,Ss];exact rfl
theorem code_scrimref02_DivMod:lowerF Tryz.prog 233 = some fn_scrimref02_DivMod:=by kernel_rfl
def fn_scrimref02_Gcd:AFn:=by refine (fun (F:AFn)(_:⟨34,[.t 4],Ss (Oo [Ii 4 (.mov (.const (.slice none 0 0)))]) (Ss (Oo [Mv 11 0,Ca 12 207 [Tt 11],Mv 13 1,Ca 14 207 [Tt 13],Mv 5 12,Mv 6 14]) (Ss (Ss (Oo [Ii 7 (.mov (Nn 0))]) (.block 0 (.loop (Ss (Ss (Oo [Mv 15 7,Ii 16 (.bin .lss (Tt 15) (Nn 100000)),Mv 17 16,Ig 18 17 true (.mov (Tt 6)),Ig 19 17 true (.len (Tt 18)),Ig 20 17 true (.bin .gtr (Tt 19) (Nn 0)),Ii 21 (.pick (Tt 17) (Tt 20) (Bo false))]) (.cond (Tt 21) .skip (.exit 0))) (Ss (.block 1 (Ss (Oo [Mv 25 5,Mv 26 6,Ca 27 233 [Tt 25,Tt 26],Mv 24 27,Ex 28 0 24,Ex 29 1 24,Ex 30 2 24,Mv 8 28,Mv 9 29,Mv 10 30]) (Ss (Oo [Mv 31 6,Mv 5 31]) (Oo [Mv 32 9,Mv 6 32])))) (Oo [Mv 22 7,Ii 23 (.bin .add (Tt 22) (Nn 1)),Mv 7 23])))))) (Ss (Oo [Mv 33 5,Mv 4 33]) .ret)))⟩=F)=>F) ?_ ?_;rotate_left;dsimp only[Tt,Nn,Bo,Ii,Ig,Mv,Ex,Ca,Oo,Ss];exact rfl
theorem code_scrimref02_Gcd:lowerF Tryz.prog 232 = some fn_scrimref02_Gcd:=by kernel_rfl
def fn_scrimref02_Norm:AFn:=by refine (fun (F:AFn)(_:⟨24,[.t 2],Ss (Oo [Ii 2 (.mov (.const (.slice none 0 0)))]) (Ss (Oo [Mv 5 0,Le 6 5,Mv 3 6]) (Ss (.block 0 (.loop (Ss (Ss (Oo [Mv 7 3,Ii 8 (.bin .gtr (Tt 7) (Nn 0)),Mv 9 8,Ig 10 9 true (.mov (Tt 0)),Ig 11 9 true (.mov (Tt 3)),Ig 12 9 true (.bin .sub (Tt 11) (Nn 1)),Ig 13 9 true (.iaddr 1 (Tt 10) (Tt 12)),Ig 14 9 true (.load false 1 (Tt 13)),Ig 15 9 true (.bin .eql (Tt 14) (.const (.int .u32 0))),Ii 16 (.pick (Tt 9) (Tt 15) (Bo false))]) (.cond (Tt 16) .skip (.exit 0))) (.block 1 (Oo [Mv 17 3,Ii 18 (.bin .sub (Tt 17) (Nn 1)),Mv 3 18]))))) (Ss (Oo [Ii 4 (.mov (.const (.slice none 0 0)))]) (Ss (Oo [Mv 19 4,Mv 20 0,Mv 21 3,Ii 22 (.slice 1 (Tt 20) none (some (Tt 21)) none),Ii 23 (.append 145 1 4 [.int .u32 0] (Tt 19) (Tt 22)),Mv 2 23]) .ret))))⟩=F)=>F) ?_ ?_;rotate_left;dsimp only[Tt,Nn,Bo,Ii,Ig,Mv,Le,Oo,Ss];exact rfl
theorem code_scrimref02_Norm:lowerF Tryz.prog 207 = some fn_scrimref02_Norm:=by kernel_rfl
def fn_scrimref02_Sub:AFn:=by refine (fun (F:AFn)(_:⟨42,[.t 4,.t 5],Ss (Oo [Ii 4 (.mov (.const (.slice none 0 0))),Ii 5 (.mov (Bo false))]) (Ss (Ss (Oo [Mv 10 0,Mv 11 1,Ca 12 248 [Tt 10,Tt 11],Ii 13 (.bin .lss (Tt 12) (Nn 0))]) (.cond (Tt 13) (Ss (Oo [Ii 4 (.mov (.const (.slice none 0 0))),Ii 5 (.mov (Bo false))]) .ret) .skip)) (Ss (Oo [Ii 6 (.mov (.const (.slice none 0 0)))]) (Ss (Oo [Ii 7 (.mov (.const (.int .u64 0)))]) (Ss (Ss (Oo [Ii 8 (.mov (Nn 0))]) (.block 0 (.loop (Ss (Ss (Oo [Mv 14 8,Mv 15 0,Mv 16 1,Ca 17 236 [Tt 15,Tt 16],Ii 18 (.bin .lss (Tt 14) (Tt 17))]) (.cond (Tt 18) .skip (.exit 0))) (Ss (.block 1 (Ss (Oo [Mv 21 0,Mv 22 8,Ca 23 237 [Tt 21,Tt 22],Ii 24 (.bin .add (.const (.int .u64 4294967296)) (Tt 23)),Mv 25 1,Mv 26 8,Ca 27 237 [Tt 25,Tt 26],Ii 28 (.bin .sub (Tt 24) (Tt 27)),Mv 29 7,Ii 30 (.bin .sub (Tt 28) (Tt 29)),Mv 9 30]) (Ss (Oo [Mv 31 6,Mv 32 9,Ii 33 (.bin .rem (Tt 32) (.const (.int .u64 4294967296))),Ii 34 (.conv .u32 (Tt 33)),Ii 35 (.rowlit 145 1 1 [.int .u32 0] [(0,Tt 34)]),Ii 36 (.append 145 1 4 [.int .u32 0] (Tt 31) (Tt 35)),Mv 6 36]) (Oo [Mv 37 9,Ii 38 (.bin .quo (Tt 37) (.const (.int .u64 4294967296))),Ii 39 (.bin .sub (.const (.int .u64 1)) (Tt 38)),Mv 7 39])))) (Oo [Mv 19 8,Ii 20 (.bin .add (Tt 19) (Nn 1)),Mv 8 20])))))) (Ss (Oo [Mv 40 6,Ca 41 207 [Tt 40],Mv 4 41,Ii 5 (.mov (Bo true))]) .ret)))))⟩=F)=>F) ?_ ?_;rotate_left;dsimp only[Tt,Nn,Bo,Ii,Mv,Ca,Oo,Ss];exact rfl
theorem code_scrimref02_Sub:lowerF Tryz.prog 247 = some fn_scrimref02_Sub:=by kernel_rfl
def fn_scrimref02_limb:AFn:=by refine (fun (F:AFn)(_:⟨14,[.t 4],Ss (Oo [Ii 4 (.mov (.const (.int .u64 0)))]) (Ss (Ss (Oo [Mv 5 1,Mv 6 0,Le 7 6,Ii 8 (.bin .lss (Tt 5) (Tt 7))]) (.cond (Tt 8) (Ss (Oo [Mv 9 0,Mv 10 1,Ia 11 1 9 10,Lf 12 11,Ii 13 (.conv .u64 (Tt 12)),Mv 4 13]) .ret) .skip)) (Ss (Oo [Ii 4 (.mov (.const (.int .u64 0)))]) .ret))⟩=F)=>F) ?_ ?_;rotate_left;dsimp only[Tt,Ii,Mv,Lf,Le,Ia,Oo,Ss];exact rfl
theorem code_scrimref02_limb:lowerF Tryz.prog 237 = some fn_scrimref02_limb:=by kernel_rfl
def fn_scrimref02_longer:AFn:=by refine (fun (F:AFn)(_:⟨14,[.t 4],Ss (Oo [Ii 4 (.mov (Nn 0))]) (Ss (Ss (Oo [Mv 5 0,Le 6 5,Mv 7 1,Le 8 7,Ii 9 (.bin .gtr (Tt 6) (Tt 8))]) (.cond (Tt 9) (Ss (Oo [Mv 10 0,Le 11 10,Mv 4 11]) .ret) .skip)) (Ss (Oo [Mv 12 1,Le 13 12,Mv 4 13]) .ret))⟩=F)=>F) ?_ ?_;rotate_left;dsimp only[Tt,Nn,Ii,Mv,Le,Oo,Ss];exact rfl
theorem code_scrimref02_longer:lowerF Tryz.prog 236 = some fn_scrimref02_longer:=by kernel_rfl
def fn_scrimref02_twice:AFn:=by refine (fun (F:AFn)(_:⟨33,[.t 4],Ss (Oo [Ii 4 (.mov (.const (.slice none 0 0)))]) (Ss (Oo [Ii 5 (.mov (.const (.slice none 0 0)))]) (Ss (Oo [Mv 9 1,Ii 10 (.conv .u64 (Tt 9)),Mv 6 10]) (Ss (Ss (Oo [Ii 7 (.mov (Nn 0))]) (.block 0 (.loop (Ss (Ss (Oo [Mv 11 7,Mv 12 0,Le 13 12,Ii 14 (.bin .leq (Tt 11) (Tt 13))]) (.cond (Tt 14) .skip (.exit 0))) (Ss (.block 1 (Ss (Oo [Mv 17 0,Mv 18 7,Ca 19 237 [Tt 17,Tt 18],Ii 20 (.bin .mul (.const (.int .u64 2)) (Tt 19)),Mv 21 6,Ii 22 (.bin .add (Tt 20) (Tt 21)),Mv 8 22]) (Ss (Oo [Mv 23 5,Mv 24 8,Ii 25 (.bin .rem (Tt 24) (.const (.int .u64 4294967296))),Ii 26 (.conv .u32 (Tt 25)),Ii 27 (.rowlit 145 1 1 [.int .u32 0] [(0,Tt 26)]),Ii 28 (.append 145 1 4 [.int .u32 0] (Tt 23) (Tt 27)),Mv 5 28]) (Oo [Mv 29 8,Ii 30 (.bin .quo (Tt 29) (.const (.int .u64 4294967296))),Mv 6 30])))) (Oo [Mv 15 7,Ii 16 (.bin .add (Tt 15) (Nn 1)),Mv 7 16])))))) (Ss (Oo [Mv 31 5,Ca 32 207 [Tt 31],Mv 4 32]) .ret))))⟩=F)=>F) ?_ ?_;rotate_left;dsimp only[Tt,Nn,Ii,Mv,Le,Ca,Oo,Ss];exact rfl
theorem code_scrimref02_twice:lowerF Tryz.prog 245 = some fn_scrimref02_twice:=by kernel_rfl
def fn_scrimref03_Add:AFn:=by refine (fun (F:AFn)(_:⟨61,[.c 4 true 2],Ss (Oo [Ii 2 (.box 121 2 (Tt 0)),Ii 3 (.box 121 2 (Tt 1)),Ii 4 (.alloc 121 [.bool false,.slice none 0 0])]) (Ss (.ops true [Lt 11 2 2,Ca 12 171 [Tt 11],Lt 13 2 3,Ca 14 171 [Tt 13],Ii 5 (.alloc 121 [.bool false,.slice none 0 0]),Ii 6 (.alloc 121 [.bool false,.slice none 0 0]),Sr 2 5 12,Sr 2 6 14] [(0,2),(1,2),(0,4),(1,4),(2,4),(3,4),(0,5),(1,5),(2,5),(3,5),(4,5)]) (Ss (Ss (Oo [Fa 15 0 5,Lf 16 15,Fa 17 0 6,Lf 18 17,Ii 19 (.binB .eql (Tt 16) (Tt 18))]) (.cond (Tt 19) (Ss (.ops true [Fa 20 0 5,Lf 21 20,Fa 22 1 5,Lf 23 22,Fa 24 1 6,Lf 25 24,Ca 26 210 [Tt 23,Tt 25],Ii 27 (.build [.bool false,.slice none 0 0] [(0,1,Tt 21),(1,1,Tt 26)]),Ca 28 171 [Tt 27],Sr 2 4 28] [(1,3),(1,5),(3,5),(1,6)]) .ret) .skip)) (Ss (Ss (Oo [Fa 29 1 5,Lf 30 29,Fa 31 1 6,Lf 32 31,Ca 33 248 [Tt 30,Tt 32],Ii 34 (.bin .geq (Tt 33) (Nn 0))]) (.cond (Tt 34) (Ss (Oo [Fa 36 1 5,Lf 37 36,Fa 38 1 6,Lf 39 38,Ca 40 247 [Tt 37,Tt 39],Mv 35 40,Ex 41 0 35,Ex 42 1 35,Mv 7 41,Mv 8 42]) (Ss (Oo [Fa 43 0 5,Lf 44 43,Mv 45 7,Ii 46 (.build [.bool false,.slice none 0 0] [(0,1,Tt 44),(1,1,Tt 45)]),Ca 47 171 [Tt 46],Sr 2 4 47]) .ret)) .skip)) (Ss (Oo [Fa 49 1 6,Lf 50 49,Fa 51 1 5,Lf 52 51,Ca 53 247 [Tt 50,Tt 52],Mv 48 53,Ex 54 0 48,Ex 55 1 48,Mv 9 54,Mv 10 55]) (Ss (Oo [Fa 56 0 6,Lf 57 56,Mv 58 9,Ii 59 (.build [.bool false,.slice none 0 0] [(0,1,Tt 57),(1,1,Tt 58)]),Ca 60 171 [Tt 59],Sr 2 4 60]) .ret)))))⟩=F)=>F) ?_ ?_;rotate_left;dsimp only[Tt,Nn,Ii,Mv,Lf,Lt,Fa,Ex,Sr,Ca,Oo,Ss];exact rfl
theorem code_scrimref03_Add:lowerF Tryz.prog 234 = some fn_scrimref03_Add:=by kernel_rfl
def fn_scrimref03_Cmp:AFn:=by refine (fun (F:AFn)(_:⟨9,[.t 4],Ss (Oo [Ii 2 (.box 121 2 (Tt 0)),Ii 3 (.box 121 2 (Tt 1)),Ii 4 (.mov (Nn 0))]) (Ss (Oo [Lt 5 2 2,Lt 6 2 3,Ca 7 209 [Tt 5,Tt 6],Ca 8 208 [Tt 7],Mv 4 8]) .ret)⟩=F)=>F) ?_ ?_;rotate_left;dsimp only[Tt,Nn,Ii,Mv,Lt,Ca,Oo,Ss];exact rfl
theorem code_scrimref03_Cmp:lowerF Tryz.prog 172 = some fn_scrimref03_Cmp:=by kernel_rfl
def fn_scrimref03_Neg:AFn:=by refine (fun (F:AFn)(_:⟨10,[.c 2 true 2],Ss (Oo [Ii 1 (.box 121 2 (Tt 0)),Ii 2 (.alloc 121 [.bool false,.slice none 0 0])]) (Ss (Oo [Fa 3 0 1,Lf 4 3,Ii 5 (.un .not (Tt 4)),Fa 6 1 1,Lf 7 6,Ii 8 (.build [.bool false,.slice none 0 0] [(0,1,Tt 5),(1,1,Tt 7)]),Ca 9 171 [Tt 8],Sr 2 2 9]) .ret)⟩=F)=>F) ?_ ?_;rotate_left;dsimp only[Tt,Ii,Lf,Fa,Sr,Ca,Oo,Ss];exact rfl
theorem code_scrimref03_Neg:lowerF Tryz.prog 235 = some fn_scrimref03_Neg:=by kernel_rfl
def fn_scrimref03_Norm:AFn:=by refine (fun (F:AFn)(_:⟨15,[.c 2 true 2],Ss (Oo [Ii 1 (.box 121 2 (Tt 0)),Ii 2 (.alloc 121 [.bool false,.slice none 0 0])]) (Ss (Oo [Fa 4 1 1,Lf 5 4,Ca 6 207 [Tt 5],Mv 3 6]) (Ss (Ss (Oo [Mv 7 3,Le 8 7,Ii 9 (.bin .eql (Tt 8) (Nn 0))]) (.cond (Tt 9) (Ss (Oo [Ii 10 (.build [.bool false,.slice none 0 0] []),Sr 2 2 10]) .ret) .skip)) (Ss (Oo [Fa 11 0 1,Lf 12 11,Mv 13 3,Ii 14 (.build [.bool false,.slice none 0 0] [(0,1,Tt 12),(1,1,Tt 13)]),Sr 2 2 14]) .ret)))⟩=F)=>F) ?_ ?_;rotate_left;dsimp only[Tt,Nn,Ii,Mv,Lf,Fa,Le,Sr,Ca,Oo,Ss];exact rfl
theorem code_scrimref03_Norm:lowerF Tryz.prog 171 = some fn_scrimref03_Norm:=by kernel_rfl
def fn_scrimref03_Of:AFn:=by refine (fun (F:AFn)(_:⟨28,[.c 2 true 2],Ss (Oo [Ii 2 (.alloc 121 [.bool false,.slice none 0 0])]) (Ss (Ss (Oo [Mv 4 0,Ii 5 (.bin .geq (Tt 4) (Nn 0))]) (.cond (Tt 5) (Ss (Oo [Mv 6 0,Ii 7 (.bin .rem (Tt 6) (Nn 4294967296)),Ii 8 (.conv .u32 (Tt 7)),Mv 9 0,Ii 10 (.bin .quo (Tt 9) (Nn 4294967296)),Ii 11 (.conv .u32 (Tt 10)),Ii 12 (.rowlit 145 1 2 [.int .u32 0] [(0,Tt 8),(1,Tt 11)]),Ii 13 (.build [.bool false,.slice none 0 0] [(0,1,Bo false),(1,1,Tt 12)]),Ca 14 171 [Tt 13],Sr 2 2 14]) .ret) .skip)) (Ss (Oo [Mv 15 0,Ii 16 (.bin .sub (Nn (-1)) (Tt 15)),Mv 3 16]) (Ss (Oo [Mv 17 3,Ii 18 (.bin .rem (Tt 17) (Nn 4294967296)),Ii 19 (.conv .u32 (Tt 18)),Mv 20 3,Ii 21 (.bin .quo (Tt 20) (Nn 4294967296)),Ii 22 (.conv .u32 (Tt 21)),Ii 23 (.rowlit 145 1 2 [.int .u32 0] [(0,Tt 19),(1,Tt 22)]),Ii 24 (.rowlit 145 1 1 [.int .u32 0] [(0,.const (.int .u32 1))]),Ca 25 210 [Tt 23,Tt 24],Ii 26 (.build [.bool false,.slice none 0 0] [(0,1,Bo true),(1,1,Tt 25)]),Ca 27 171 [Tt 26],Sr 2 2 27]) .ret)))⟩=F)=>F) ?_ ?_;rotate_left;dsimp only[Tt,Nn,Bo,Ii,Mv,Sr,Ca,Oo,Ss];exact rfl
theorem code_scrimref03_Of:lowerF Tryz.prog 173 = some fn_scrimref03_Of:=by kernel_rfl
def fn_scrimref03_Sign:AFn:=by refine (fun (F:AFn)(_:⟨12,[.t 2],Ss (Oo [Ii 1 (.box 121 2 (Tt 0)),Ii 2 (.mov (Nn 0))]) (Ss (Oo [Lt 4 2 1,Ca 5 171 [Tt 4],Ii 3 (.alloc 121 [.bool false,.slice none 0 0]),Sr 2 3 5]) (Ss (Ss (Oo [Fa 6 1 3,Lf 7 6,Le 8 7,Ii 9 (.bin .eql (Tt 8) (Nn 0))]) (.cond (Tt 9) (Ss (Oo [Ii 2 (.mov (Nn 0))]) .ret) .skip)) (Ss (Ss (Oo [Fa 10 0 3,Lf 11 10]) (.cond (Tt 11) (Ss (Oo [Ii 2 (.mov (Nn (-1)))]) .ret) .skip)) (Ss (Oo [Ii 2 (.mov (Nn 1))]) .ret))))⟩=F)=>F) ?_ ?_;rotate_left;dsimp only[Tt,Nn,Ii,Lf,Lt,Fa,Le,Sr,Ca,Oo,Ss];exact rfl
theorem code_scrimref03_Sign:lowerF Tryz.prog 208 = some fn_scrimref03_Sign:=by kernel_rfl
def fn_scrimref03_Small:AFn:=by refine (fun (F:AFn)(_:⟨54,[.t 2,.t 3],Ss (Oo [Ii 1 (.box 121 2 (Tt 0)),Ii 2 (.mov (Nn 0)),Ii 3 (.mov (Bo false))]) (Ss (Oo [Lt 7 2 1,Ca 8 171 [Tt 7],Ii 4 (.alloc 121 [.bool false,.slice none 0 0]),Sr 2 4 8]) (Ss (Ss (.ops true [Fa 9 1 4,Lf 10 9,Le 11 10,Ii 12 (.bin .gtr (Tt 11) (Nn 2)),Mv 13 12,Ig 14 13 false (.load true 2 (Tt 4)),Ig 15 13 false (.call (.func 173) [Nn 9223372036854775807]),Ig 16 13 false (.call (.func 172) [Tt 14,Tt 15]),Ig 17 13 false (.bin .gtr (Tt 16) (Nn 0)),Ii 18 (.pick (Tt 13) (Bo true) (Tt 17)),Mv 19 18,Ig 20 19 false (.load true 2 (Tt 4)),Ig 21 19 false (.call (.func 173) [Nn (-9223372036854775808)]),Ig 22 19 false (.call (.func 172) [Tt 20,Tt 21]),Ig 23 19 false (.bin .lss (Tt 22) (Nn 0)),Ii 24 (.pick (Tt 19) (Bo true) (Tt 23))] [(5,6),(11,12)]) (.cond (Tt 24) (Ss (Oo [Ii 2 (.mov (Nn 0)),Ii 3 (.mov (Bo false))]) .ret) .skip)) (Ss (Oo [Ii 5 (.mov (Nn 0))]) (Ss (Ss (Oo [Fa 25 1 4,Lf 26 25,Le 27 26,Ii 28 (.bin .sub (Tt 27) (Nn 1)),Mv 6 28]) (.block 0 (.loop (Ss (Ss (Oo [Mv 29 6,Ii 30 (.bin .geq (Tt 29) (Nn 0))]) (.cond (Tt 30) .skip (.exit 0))) (Ss (.block 1 (Ss (Oo [Fa 33 0 4,Lf 34 33]) (.cond (Tt 34) (Oo [Mv 35 5,Ii 36 (.bin .mul (Tt 35) (Nn 4294967296)),Fa 37 1 4,Lf 38 37,Mv 39 6,Ia 40 1 38 39,Lf 41 40,Ii 42 (.conv .i64 (Tt 41)),Ii 43 (.bin .sub (Tt 36) (Tt 42)),Mv 5 43]) (Oo [Mv 44 5,Ii 45 (.bin .mul (Tt 44) (Nn 4294967296)),Fa 46 1 4,Lf 47 46,Mv 48 6,Ia 49 1 47 48,Lf 50 49,Ii 51 (.conv .i64 (Tt 50)),Ii 52 (.bin .add (Tt 45) (Tt 51)),Mv 5 52])))) (Oo [Mv 31 6,Ii 32 (.bin .sub (Tt 31) (Nn 1)),Mv 6 32])))))) (Ss (Oo [Mv 53 5,Mv 2 53,Ii 3 (.mov (Bo true))]) .ret)))))⟩=F)=>F) ?_ ?_;rotate_left;dsimp only[Tt,Nn,Bo,Ii,Ig,Mv,Lf,Lt,Fa,Le,Ia,Sr,Ca,Oo,Ss];exact rfl
theorem code_scrimref03_Small:lowerF Tryz.prog 121 = some fn_scrimref03_Small:=by kernel_rfl
def fn_scrimref03_Sub:AFn:=by refine (fun (F:AFn)(_:⟨9,[.c 4 true 2],Ss (Oo [Ii 2 (.box 121 2 (Tt 0)),Ii 3 (.box 121 2 (Tt 1)),Ii 4 (.alloc 121 [.bool false,.slice none 0 0])]) (Ss (.ops true [Lt 5 2 2,Lt 6 2 3,Ca 7 235 [Tt 6],Ca 8 234 [Tt 5,Tt 7],Sr 2 4 8] [(0,1),(0,2)]) .ret)⟩=F)=>F) ?_ ?_;rotate_left;dsimp only[Tt,Ii,Lt,Sr,Ca,Oo,Ss];exact rfl
theorem code_scrimref03_Sub:lowerF Tryz.prog 209 = some fn_scrimref03_Sub:=by kernel_rfl
def fn_scrimref04_Bot:AFn:=by refine (fun (F:AFn)(_:⟨7,[.c 2 true 2],Ss (Oo [Ii 1 (.box 51 3 (Tt 0)),Ii 2 (.alloc 121 [.bool false,.slice none 0 0])]) (Ss (Oo [Fa 3 2 1,Lf 4 3,Ii 5 (.build [.bool false,.slice none 0 0] [(1,1,Tt 4)]),Ca 6 171 [Tt 5],Sr 2 2 6]) .ret)⟩=F)=>F) ?_ ?_;rotate_left;dsimp only[Tt,Ii,Lf,Fa,Sr,Ca,Oo,Ss];exact rfl
theorem code_scrimref04_Bot:lowerF Tryz.prog 206 = some fn_scrimref04_Bot:=by kernel_rfl
def fn_scrimref04_IsWhole:AFn:=by refine (fun (F:AFn)(_:⟨14,[.t 2],Ss (Oo [Ii 1 (.box 51 3 (Tt 0)),Ii 2 (.mov (Bo false))]) (Ss (Oo [Fa 3 2 1,Lf 4 3,Le 5 4,Ii 6 (.bin .eql (Tt 5) (Nn 1)),Mv 7 6,Ig 8 7 true (.faddr 2 (Tt 1)),Ig 9 7 true (.load false 1 (Tt 8)),Ig 10 7 true (.iaddr 1 (Tt 9) (Nn 0)),Ig 11 7 true (.load false 1 (Tt 10)),Ig 12 7 true (.bin .eql (Tt 11) (.const (.int .u32 1))),Ii 13 (.pick (Tt 7) (Tt 12) (Bo false)),Mv 2 13]) .ret)⟩=F)=>F) ?_ ?_;rotate_left;dsimp only[Tt,Nn,Bo,Ii,Ig,Mv,Lf,Fa,Le,Oo,Ss];exact rfl
theorem code_scrimref04_IsWhole:lowerF Tryz.prog 120 = some fn_scrimref04_IsWhole:=by kernel_rfl
def fn_scrimref04_Make:AFn:=by refine (fun (F:AFn)(_:⟨67,[.c 4 true 3,.t 5],Ss (Oo [Ii 2 (.box 121 2 (Tt 0)),Ii 3 (.box 121 2 (Tt 1)),Ii 4 (.alloc 51 [.bool false,.slice none 0 0,.slice none 0 0]),Ii 5 (.mov (Nn 0))]) (Ss (.ops true [Lt 15 2 2,Ca 16 171 [Tt 15],Lt 17 2 3,Ca 18 171 [Tt 17],Ii 6 (.alloc 121 [.bool false,.slice none 0 0]),Ii 7 (.alloc 121 [.bool false,.slice none 0 0]),Sr 2 6 16,Sr 2 7 18] [(0,2),(1,2),(0,4),(1,4),(2,4),(3,4),(0,5),(1,5),(2,5),(3,5),(4,5)]) (Ss (Ss (Oo [Fa 19 1 7,Lf 20 19,Le 21 20,Ii 22 (.bin .eql (Tt 21) (Nn 0))]) (.cond (Tt 22) (Ss (Oo [Ii 23 (.build [.bool false,.slice none 0 0,.slice none 0 0] []),Sr 3 4 23,Ii 5 (.mov (Nn 3))]) .ret) .skip)) (Ss (Oo [Fa 24 1 6,Lf 25 24,Fa 26 1 7,Lf 27 26,Ca 28 232 [Tt 25,Tt 27],Mv 8 28]) (Ss (Oo [Fa 30 1 6,Lf 31 30,Mv 32 8,Ca 33 233 [Tt 31,Tt 32],Mv 29 33,Ex 34 0 29,Ex 35 1 29,Ex 36 2 29,Mv 9 34,Mv 10 35,Mv 11 36]) (Ss (Oo [Fa 38 1 7,Lf 39 38,Mv 40 8,Ca 41 233 [Tt 39,Tt 40],Mv 37 41,Ex 42 0 37,Ex 43 1 37,Ex 44 2 37,Mv 12 42,Mv 13 43,Mv 14 44]) (Ss (Ss (Oo [Mv 45 9,Le 46 45,Ii 47 (.bin .gtr (Tt 46) (Nn 32)),Mv 48 47,Ig 49 48 false (.mov (Tt 12)),Ig 50 48 false (.len (Tt 49)),Ig 51 48 false (.bin .gtr (Tt 50) (Nn 32)),Ii 52 (.pick (Tt 48) (Bo true) (Tt 51))]) (.cond (Tt 52) (Ss (Oo [Ii 53 (.build [.bool false,.slice none 0 0,.slice none 0 0] []),Sr 3 4 53,Ii 5 (.mov (Nn 7))]) .ret) .skip)) (Ss (Oo [Mv 54 9,Le 55 54,Ii 56 (.bin .gtr (Tt 55) (Nn 0)),Mv 57 56,Ig 58 57 true (.faddr 0 (Tt 6)),Ig 59 57 true (.load false 1 (Tt 58)),Ig 60 57 true (.faddr 0 (Tt 7)),Ig 61 57 true (.load false 1 (Tt 60)),Ig 62 57 true (.binB .neq (Tt 59) (Tt 61)),Ii 63 (.pick (Tt 57) (Tt 62) (Bo false)),Mv 64 9,Mv 65 12,Ii 66 (.build [.bool false,.slice none 0 0,.slice none 0 0] [(0,1,Tt 63),(1,1,Tt 64),(2,1,Tt 65)]),Sr 3 4 66,Ii 5 (.mov (Nn 0))]) .ret)))))))⟩=F)=>F) ?_ ?_;rotate_left;dsimp only[Tt,Nn,Bo,Ii,Ig,Mv,Lf,Lt,Fa,Ex,Le,Sr,Ca,Oo,Ss];exact rfl
theorem code_scrimref04_Make:lowerF Tryz.prog 205 = some fn_scrimref04_Make:=by kernel_rfl
def fn_scrimref04_Of:AFn:=by refine (fun (F:AFn)(_:⟨6,[.c 2 true 3],Ss (Oo [Ii 2 (.alloc 51 [.bool false,.slice none 0 0,.slice none 0 0])]) (Ss (Oo [Mv 3 0,Ca 4 173 [Tt 3],Ca 5 174 [Tt 4],Sr 3 2 5]) .ret)⟩=F)=>F) ?_ ?_;rotate_left;dsimp only[Tt,Ii,Mv,Sr,Ca,Oo,Ss];exact rfl
theorem code_scrimref04_Of:lowerF Tryz.prog 123 = some fn_scrimref04_Of:=by kernel_rfl
def fn_scrimref04_Right:AFn:=by refine (fun (F:AFn)(_:⟨30,[.t 2],Ss (Oo [Ii 1 (.box 51 3 (Tt 0)),Ii 2 (.mov (Bo false))]) (Ss (Ss (Oo [Fa 5 1 1,Lf 6 5,Le 7 6,Ii 8 (.bin .gtr (Tt 7) (Nn 32)),Mv 9 8,Ig 10 9 false (.faddr 2 (Tt 1)),Ig 11 9 false (.load false 1 (Tt 10)),Ig 12 9 false (.len (Tt 11)),Ig 13 9 false (.bin .gtr (Tt 12) (Nn 32)),Ii 14 (.pick (Tt 9) (Bo true) (Tt 13))]) (.cond (Tt 14) (Ss (Oo [Ii 2 (.mov (Bo false))]) .ret) .skip)) (Ss (.ops true [Lt 16 3 1,Ca 17 122 [Tt 16],Lt 18 3 1,Ca 19 206 [Tt 18],Ca 20 205 [Tt 17,Tt 19],Mv 15 20,Ex 21 0 15,Ex 22 1 15,Ii 3 (.alloc 51 [.bool false,.slice none 0 0,.slice none 0 0]),Sr 3 3 21,Mv 4 22] [(0,2),(1,2),(0,8),(1,8),(2,8),(3,8),(4,8)]) (Ss (Oo [Mv 23 4,Ii 24 (.bin .eql (Tt 23) (Nn 0)),Mv 25 24,Ig 26 25 true (.load true 3 (Tt 1)),Ig 27 25 true (.load true 3 (Tt 3)),Ig 28 25 true (.call (.func 94) [Tt 26,Tt 27]),Ii 29 (.pick (Tt 25) (Tt 28) (Bo false)),Mv 2 29]) .ret)))⟩=F)=>F) ?_ ?_;rotate_left;dsimp only[Tt,Nn,Bo,Ii,Ig,Mv,Lf,Lt,Fa,Ex,Le,Sr,Ca,Oo,Ss];exact rfl
theorem code_scrimref04_Right:lowerF Tryz.prog 167 = some fn_scrimref04_Right:=by kernel_rfl
def fn_scrimref04_Small:AFn:=by refine (fun (F:AFn)(_:⟨12,[.t 2,.t 3],Ss (Oo [Ii 1 (.box 51 3 (Tt 0)),Ii 2 (.mov (Nn 0)),Ii 3 (.mov (Bo false))]) (Ss (Ss (Oo [Lt 4 3 1,Ca 5 120 [Tt 4],Ii 6 (.un .not (Tt 5))]) (.cond (Tt 6) (Ss (Oo [Ii 2 (.mov (Nn 0)),Ii 3 (.mov (Bo false))]) .ret) .skip)) (Ss (Oo [Lt 7 3 1,Ca 8 122 [Tt 7],Ca 9 121 [Tt 8],Ex 10 0 9,Ex 11 1 9,Mv 2 10,Mv 3 11]) .ret))⟩=F)=>F) ?_ ?_;rotate_left;dsimp only[Tt,Nn,Bo,Ii,Mv,Lt,Ex,Ca,Oo,Ss];exact rfl
theorem code_scrimref04_Small:lowerF Tryz.prog 54 = some fn_scrimref04_Small:=by kernel_rfl
def fn_scrimref04_Top:AFn:=by refine (fun (F:AFn)(_:⟨9,[.c 2 true 2],Ss (Oo [Ii 1 (.box 51 3 (Tt 0)),Ii 2 (.alloc 121 [.bool false,.slice none 0 0])]) (Ss (Oo [Fa 3 0 1,Lf 4 3,Fa 5 1 1,Lf 6 5,Ii 7 (.build [.bool false,.slice none 0 0] [(0,1,Tt 4),(1,1,Tt 6)]),Ca 8 171 [Tt 7],Sr 2 2 8]) .ret)⟩=F)=>F) ?_ ?_;rotate_left;dsimp only[Tt,Ii,Lf,Fa,Sr,Ca,Oo,Ss];exact rfl
theorem code_scrimref04_Top:lowerF Tryz.prog 122 = some fn_scrimref04_Top:=by kernel_rfl
def fn_scrimref04_Whole:AFn:=by refine (fun (F:AFn)(_:⟨12,[.c 2 true 3],Ss (Oo [Ii 1 (.box 121 2 (Tt 0)),Ii 2 (.alloc 51 [.bool false,.slice none 0 0,.slice none 0 0])]) (Ss (Oo [Lt 4 2 1,Ca 5 171 [Tt 4],Ii 3 (.alloc 121 [.bool false,.slice none 0 0]),Sr 2 3 5]) (Ss (Oo [Fa 6 0 3,Lf 7 6,Fa 8 1 3,Lf 9 8,Ii 10 (.rowlit 145 1 1 [.int .u32 0] [(0,.const (.int .u32 1))]),Ii 11 (.build [.bool false,.slice none 0 0,.slice none 0 0] [(0,1,Tt 7),(1,1,Tt 9),(2,1,Tt 10)]),Sr 3 2 11]) .ret))⟩=F)=>F) ?_ ?_;rotate_left;dsimp only[Tt,Ii,Lf,Lt,Fa,Sr,Ca,Oo,Ss];exact rfl
theorem code_scrimref04_Whole:lowerF Tryz.prog 174 = some fn_scrimref04_Whole:=by kernel_rfl
def fn_scrimref06_May:AFn:=by refine (fun (F:AFn)(_:⟨17,[.t 2],Ss (Oo [Ii 2 (.mov (Bo false))]) (Ss (Oo [Mv 3 0,Ii 4 (.bin .geq (Tt 3) (Nn 0)),Mv 5 4,Ig 6 5 true (.mov (Tt 0)),Ig 7 5 true (.bin .leq (Tt 6) (Nn 1114111)),Ii 8 (.pick (Tt 5) (Tt 7) (Bo false)),Mv 9 8,Ig 10 9 true (.mov (Tt 0)),Ig 11 9 true (.bin .lss (Tt 10) (Nn 55296)),Ig 12 9 true (.mov (Tt 11)),Ig 13 12 false (.mov (Tt 0)),Ig 14 12 false (.bin .gtr (Tt 13) (Nn 57343)),Ig 15 9 true (.pick (Tt 12) (Bo true) (Tt 14)),Ii 16 (.pick (Tt 9) (Tt 15) (Bo false)),Mv 2 16]) .ret)⟩=F)=>F) ?_ ?_;rotate_left;dsimp only[Tt,Nn,Bo,Ii,Ig,Mv,Oo,Ss];exact rfl
theorem code_scrimref06_May:lowerF Tryz.prog 169 = some fn_scrimref06_May:=by kernel_rfl
def fn_scrimref07_Count:AFn:=by refine (fun (F:AFn)(_:⟨56,[.t 2,.t 3],Ss (Oo [Ii 2 (.mov (Nn 0)),Ii 3 (.mov (Nn 0))]) (Ss (Ss (Oo [Mv 9 0,Le 10 9,Ii 11 (.bin .gtr (Tt 10) (Nn 6))]) (.cond (Tt 11) (Ss (Oo [Ii 2 (.mov (Nn 0)),Ii 3 (.mov (Nn 7))]) .ret) .skip)) (Ss (Oo [Ii 4 (.mov (Bo false)),Ii 5 (.mov (Bo false))]) (Ss (Ss (Oo [Ii 6 (.mov (Nn 0))]) (.block 0 (.loop (Ss (Ss (Oo [Mv 12 6,Mv 13 0,Le 14 13,Ii 15 (.bin .lss (Tt 12) (Tt 14))]) (.cond (Tt 15) .skip (.exit 0))) (Ss (.block 1 (Ss (Ss (Oo [Mv 18 0,Mv 19 6,Ia 20 1 18 19,Lf 21 20,Ii 22 (.bin .lss (Tt 21) (Nn 0))]) (.cond (Tt 22) (Ss (Oo [Ii 2 (.mov (Nn 0)),Ii 3 (.mov (Nn 3))]) .ret) .skip)) (Ss (Oo [Mv 23 4,Mv 24 23,Ig 25 24 false (.mov (Tt 0)),Ig 26 24 false (.mov (Tt 6)),Ig 27 24 false (.iaddr 1 (Tt 25) (Tt 26)),Ig 28 24 false (.load false 1 (Tt 27)),Ig 29 24 false (.bin .gtr (Tt 28) (Nn 2048)),Ii 30 (.pick (Tt 24) (Bo true) (Tt 29)),Mv 4 30]) (Oo [Mv 31 5,Mv 32 31,Ig 33 32 false (.mov (Tt 0)),Ig 34 32 false (.mov (Tt 6)),Ig 35 32 false (.iaddr 1 (Tt 33) (Tt 34)),Ig 36 32 false (.load false 1 (Tt 35)),Ig 37 32 false (.bin .eql (Tt 36) (Nn 0)),Ii 38 (.pick (Tt 32) (Bo true) (Tt 37)),Mv 5 38])))) (Oo [Mv 16 6,Ii 17 (.bin .add (Tt 16) (Nn 1)),Mv 6 17])))))) (Ss (Ss (Oo [Mv 39 4]) (.cond (Tt 39) (Ss (Oo [Ii 2 (.mov (Nn 0)),Ii 3 (.mov (Nn 7))]) .ret) .skip)) (Ss (Ss (Oo [Mv 40 5]) (.cond (Tt 40) (Ss (Oo [Ii 2 (.mov (Nn 0)),Ii 3 (.mov (Nn 0))]) .ret) .skip)) (Ss (Oo [Ii 7 (.mov (Nn 1))]) (Ss (Ss (Oo [Ii 8 (.mov (Nn 0))]) (.block 2 (.loop (Ss (Ss (Oo [Mv 41 8,Mv 42 0,Le 43 42,Ii 44 (.bin .lss (Tt 41) (Tt 43))]) (.cond (Tt 44) .skip (.exit 2))) (Ss (.block 3 (Ss (Oo [Mv 47 7,Mv 48 0,Mv 49 8,Ia 50 1 48 49,Lf 51 50,Ii 52 (.bin .mul (Tt 47) (Tt 51)),Mv 7 52]) (Ss (Oo [Mv 53 7,Ii 54 (.bin .gtr (Tt 53) (Nn 2048))]) (.cond (Tt 54) (Ss (Oo [Ii 2 (.mov (Nn 0)),Ii 3 (.mov (Nn 7))]) .ret) .skip)))) (Oo [Mv 45 8,Ii 46 (.bin .add (Tt 45) (Nn 1)),Mv 8 46])))))) (Ss (Oo [Mv 55 7,Mv 2 55,Ii 3 (.mov (Nn 0))]) .ret))))))))⟩=F)=>F) ?_ ?_;rotate_left;dsimp only[Tt,Nn,Bo,Ii,Ig,Mv,Lf,Le,Ia,Oo,Ss];exact rfl
theorem code_scrimref07_Count:lowerF Tryz.prog 118 = some fn_scrimref07_Count:=by kernel_rfl
def fn_scrimref08_Cell:AFn:=by refine (fun (F:AFn)(_:⟨79,[.t 4],Ss (Oo [Ii 2 (.box 54 7 (Tt 0)),Ii 4 (.mov (Bo false))]) (Ss (Ss (Oo [Fa 5 1 2,Lf 6 5,Ii 7 (.bin .eql (Tt 6) (Nn 0))]) (.cond (Tt 7) (Ss (Oo [Fa 8 5 2,Lf 9 8,Ii 10 (.bin .eql (Tt 9) (Nn 0)),Mv 11 10,Ig 12 11 true (.faddr 6 (Tt 2)),Ig 13 11 true (.load false 1 (Tt 12)),Ig 14 11 true (.len (Tt 13)),Ig 15 11 true (.bin .eql (Tt 14) (Nn 0)),Ii 16 (.pick (Tt 11) (Tt 15) (Bo false)),Mv 17 16,Ig 18 17 true (.faddr 2 (Tt 2)),Ig 19 17 true (.load true 3 (Tt 18)),Ig 20 17 true (.call (.func 167) [Tt 19]),Ii 21 (.pick (Tt 17) (Tt 20) (Bo false)),Mv 4 21]) .ret) .skip)) (Ss (Ss (Oo [Fa 22 1 2,Lf 23 22,Ii 24 (.bin .eql (Tt 23) (Nn 1))]) (.cond (Tt 24) (Ss (Oo [Fa 25 2 2,Lt 26 3 25,Ca 27 168 [Tt 26],Mv 28 27,Ig 29 28 true (.faddr 6 (Tt 2)),Ig 30 28 true (.load false 1 (Tt 29)),Ig 31 28 true (.len (Tt 30)),Ig 32 28 true (.bin .eql (Tt 31) (Nn 0)),Ii 33 (.pick (Tt 28) (Tt 32) (Bo false)),Mv 34 33,Ig 35 34 true (.faddr 5 (Tt 2)),Ig 36 34 true (.load false 1 (Tt 35)),Ig 37 34 true (.call (.func 169) [Tt 36]),Ii 38 (.pick (Tt 34) (Tt 37) (Bo false)),Mv 4 38]) .ret) .skip)) (Ss (Oo [Fa 39 1 2,Lf 40 39,Ii 41 (.bin .eql (Tt 40) (Nn 2)),Mv 42 41,Ig 43 42 true (.faddr 2 (Tt 2)),Ig 44 42 true (.load true 3 (Tt 43)),Ig 45 42 true (.call (.func 168) [Tt 44]),Ii 46 (.pick (Tt 42) (Tt 45) (Bo false)),Mv 47 46,Ig 48 47 true (.faddr 5 (Tt 2)),Ig 49 47 true (.load false 1 (Tt 48)),Ig 50 47 true (.bin .eql (Tt 49) (Nn 0)),Ii 51 (.pick (Tt 47) (Tt 50) (Bo false)),Mv 52 51,Ig 53 52 true (.faddr 6 (Tt 2)),Ig 54 52 true (.load false 1 (Tt 53)),Ig 55 52 true (.len (Tt 54)),Ig 56 52 true (.bin .eql (Tt 55) (Nn 1)),Ii 57 (.pick (Tt 52) (Tt 56) (Bo false)),Mv 58 57,Ig 59 58 true (.mov (Tt 1)),Ig 60 58 true (.bin .gtr (Tt 59) (Nn 0)),Ii 61 (.pick (Tt 58) (Tt 60) (Bo false)),Mv 62 61,Ig 63 62 true (.faddr 6 (Tt 2)),Ig 64 62 true (.load false 1 (Tt 63)),Ig 65 62 true (.iaddr 3 (Tt 64) (Nn 0)),Ig 66 62 true (.load true 3 (Tt 65)),Ig 67 62 true (.call (.func 170) [Tt 66]),Ig 68 62 true (.un .not (Tt 67)),Ii 69 (.pick (Tt 62) (Tt 68) (Bo false)),Mv 70 69,Ig 71 70 true (.faddr 6 (Tt 2)),Ig 72 70 true (.load false 1 (Tt 71)),Ig 73 70 true (.iaddr 3 (Tt 72) (Nn 0)),Ig 74 70 true (.load true 3 (Tt 73)),Ig 75 70 true (.mov (Tt 1)),Ig 76 70 true (.bin .sub (Tt 75) (Nn 1)),Ig 77 70 true (.call (.func 52) [Tt 74,Tt 76]),Ii 78 (.pick (Tt 70) (Tt 77) (Bo false)),Mv 4 78]) .ret)))⟩=F)=>F) ?_ ?_;rotate_left;dsimp only[Tt,Nn,Bo,Ii,Ig,Mv,Lf,Lt,Fa,Ca,Oo,Ss];exact rfl
theorem code_scrimref08_Cell:lowerF Tryz.prog 119 = some fn_scrimref08_Cell:=by kernel_rfl
def fn_scrimref08_Good:AFn:=by refine (fun (F:AFn)(_:⟨13,[.t 2],Ss (Oo [Ii 1 (.box 26 3 (Tt 0)),Ii 2 (.mov (Bo false))]) (Ss (Oo [Lt 3 3 1,Ca 4 51 [Tt 3],Mv 5 4,Ig 6 5 true (.load true 3 (Tt 1)),Ig 7 5 true (.call (.func 52) [Tt 6,Nn 8]),Ii 8 (.pick (Tt 5) (Tt 7) (Bo false)),Mv 9 8,Ig 10 9 true (.load true 3 (Tt 1)),Ig 11 9 true (.call (.func 53) [Tt 10]),Ii 12 (.pick (Tt 9) (Tt 11) (Bo false)),Mv 2 12]) .ret)⟩=F)=>F) ?_ ?_;rotate_left;dsimp only[Tt,Nn,Bo,Ii,Ig,Mv,Lt,Ca,Oo,Ss];exact rfl
theorem code_scrimref08_Good:lowerF Tryz.prog 15 = some fn_scrimref08_Good:=by kernel_rfl
def fn_scrimref08_Int:AFn:=by refine (fun (F:AFn)(_:⟨6,[.c 2 true 7],Ss (Oo [Ii 2 (.alloc 54 Zc)]) (Ss (Oo [Mv 3 0,Ca 4 123 [Tt 3],Ii 5 (.build Zc [(2,3,Tt 4)]),Sr 7 2 5]) .ret)⟩=F)=>F) ?_ ?_;rotate_left;dsimp only[Tt,Ii,Mv,Sr,Ca,Oo,Ss,Zc];exact rfl
theorem code_scrimref08_Int:lowerF Tryz.prog 55 = some fn_scrimref08_Int:=by kernel_rfl
def fn_scrimref08_Right:AFn:=by refine (fun (F:AFn)(_:⟨36,[.t 4],Ss (Oo [Ii 2 (.box 26 3 (Tt 0)),Ii 4 (.mov (Bo false))]) (Ss (Oo [Fa 9 1 2,Lf 10 9,Ca 11 118 [Tt 10],Mv 8 11,Ex 12 0 8,Ex 13 1 8,Mv 5 12,Mv 6 13]) (Ss (Ss (Oo [Mv 14 6,Ii 15 (.bin .neq (Tt 14) (Nn 0)),Mv 16 15,Ig 17 16 false (.mov (Tt 5)),Ig 18 16 false (.faddr 2 (Tt 2)),Ig 19 16 false (.load false 1 (Tt 18)),Ig 20 16 false (.len (Tt 19)),Ig 21 16 false (.bin .neq (Tt 17) (Tt 20)),Ii 22 (.pick (Tt 16) (Bo true) (Tt 21))]) (.cond (Tt 22) (Ss (Oo [Ii 4 (.mov (Bo false))]) .ret) .skip)) (Ss (Ss (Oo [Ii 7 (.mov (Nn 0))]) (.block 0 (.loop (Ss (Ss (Oo [Mv 23 7,Mv 24 5,Ii 25 (.bin .lss (Tt 23) (Tt 24))]) (.cond (Tt 25) .skip (.exit 0))) (Ss (.block 1 (Ss (Oo [Fa 28 2 2,Lf 29 28,Mv 30 7,Ia 31 7 29 30,Lt 32 7 31,Mv 33 1,Ca 34 119 [Tt 32,Tt 33],Ii 35 (.un .not (Tt 34))]) (.cond (Tt 35) (Ss (Oo [Ii 4 (.mov (Bo false))]) .ret) .skip))) (Oo [Mv 26 7,Ii 27 (.bin .add (Tt 26) (Nn 1)),Mv 7 27])))))) (Ss (Oo [Ii 4 (.mov (Bo true))]) .ret))))⟩=F)=>F) ?_ ?_;rotate_left;dsimp only[Tt,Nn,Bo,Ii,Ig,Mv,Lf,Lt,Fa,Ex,Ia,Ca,Oo,Ss];exact rfl
theorem code_scrimref08_Right:lowerF Tryz.prog 52 = some fn_scrimref08_Right:=by kernel_rfl
def fn_scrimref08_Simple:AFn:=by refine (fun (F:AFn)(_:⟨21,[.t 2],Ss (Oo [Ii 1 (.box 26 3 (Tt 0)),Ii 2 (.mov (Bo false))]) (Ss (Oo [Fa 3 1 1,Lf 4 3,Le 5 4,Ii 6 (.bin .eql (Tt 5) (Nn 0)),Mv 7 6,Ig 8 7 true (.faddr 2 (Tt 1)),Ig 9 7 true (.load false 1 (Tt 8)),Ig 10 7 true (.len (Tt 9)),Ig 11 7 true (.bin .eql (Tt 10) (Nn 1)),Ii 12 (.pick (Tt 7) (Tt 11) (Bo false)),Mv 13 12,Ig 14 13 true (.faddr 2 (Tt 1)),Ig 15 13 true (.load false 1 (Tt 14)),Ig 16 13 true (.iaddr 7 (Tt 15) (Nn 0)),Ig 17 13 true (.faddr 1 (Tt 16)),Ig 18 13 true (.load false 1 (Tt 17)),Ig 19 13 true (.bin .neq (Tt 18) (Nn 2)),Ii 20 (.pick (Tt 13) (Tt 19) (Bo false)),Mv 2 20]) .ret)⟩=F)=>F) ?_ ?_;rotate_left;dsimp only[Tt,Nn,Bo,Ii,Ig,Mv,Lf,Fa,Le,Oo,Ss];exact rfl
theorem code_scrimref08_Simple:lowerF Tryz.prog 170 = some fn_scrimref08_Simple:=by kernel_rfl
def fn_scrimref08_thin:AFn:=by refine (fun (F:AFn)(_:⟨62,[.t 2],Ss (Oo [Ii 1 (.box 26 3 (Tt 0)),Ii 2 (.mov (Bo false))]) (Ss (Oo [Ii 3 (.mov (Nn 1))]) (Ss (Ss (Oo [Ii 4 (.mov (Nn 0))]) (.block 0 (.loop (Ss (Ss (Oo [Mv 7 4,Fa 8 1 1,Lf 9 8,Le 10 9,Ii 11 (.bin .lss (Tt 7) (Tt 10)),Mv 12 11,Ig 13 12 true (.mov (Tt 3)),Ig 14 12 true (.bin .leq (Tt 13) (Nn 100000)),Ii 15 (.pick (Tt 12) (Tt 14) (Bo false))]) (.cond (Tt 15) .skip (.exit 0))) (Ss (.block 1 (Ss (Oo [Fa 18 1 1,Lf 19 18,Mv 20 4,Ia 21 1 19 20,Lf 22 21,Ii 23 (.bin .gtr (Tt 22) (Nn 0))]) (.cond (Tt 23) (Oo [Mv 24 3,Fa 25 1 1,Lf 26 25,Mv 27 4,Ia 28 1 26 27,Lf 29 28,Ii 30 (.bin .mul (Tt 24) (Tt 29)),Mv 3 30]) .skip))) (Oo [Mv 16 4,Ii 17 (.bin .add (Tt 16) (Nn 1)),Mv 4 17])))))) (Ss (Ss (Oo [Mv 31 3,Ii 32 (.bin .gtr (Tt 31) (Nn 100000))]) (.cond (Tt 32) (Ss (Oo [Ii 2 (.mov (Bo false))]) .ret) .skip)) (Ss (Ss (Oo [Ii 5 (.mov (Nn 0))]) (.block 2 (.loop (Ss (Ss (Oo [Mv 33 5,Fa 34 2 1,Lf 35 34,Le 36 35,Ii 37 (.bin .lss (Tt 33) (Tt 36))]) (.cond (Tt 37) .skip (.exit 2))) (Ss (.block 3 (Ss (Oo [Ii 6 (.mov (Nn 0))]) (.block 4 (.loop (Ss (Ss (Oo [Mv 40 6,Fa 41 2 1,Lf 42 41,Mv 43 5,Ia 44 7 42 43,Fa 45 6 44,Lf 46 45,Le 47 46,Ii 48 (.bin .lss (Tt 40) (Tt 47))]) (.cond (Tt 48) .skip (.exit 4))) (Ss (.block 5 (Ss (Oo [Fa 51 2 1,Lf 52 51,Mv 53 5,Ia 54 7 52 53,Fa 55 6 54,Lf 56 55,Mv 57 6,Ia 58 3 56 57,Lt 59 3 58,Ca 60 53 [Tt 59],Ii 61 (.un .not (Tt 60))]) (.cond (Tt 61) (Ss (Oo [Ii 2 (.mov (Bo false))]) .ret) .skip))) (Oo [Mv 49 6,Ii 50 (.bin .add (Tt 49) (Nn 1)),Mv 6 50]))))))) (Oo [Mv 38 5,Ii 39 (.bin .add (Tt 38) (Nn 1)),Mv 5 39])))))) (Ss (Oo [Ii 2 (.mov (Bo true))]) .ret)))))⟩=F)=>F) ?_ ?_;rotate_left;dsimp only[Tt,Nn,Bo,Ii,Ig,Mv,Lf,Lt,Fa,Le,Ia,Ca,Oo,Ss];exact rfl
theorem code_scrimref08_thin:lowerF Tryz.prog 53 = some fn_scrimref08_thin:=by kernel_rfl
def fn_scrimref08_zero:AFn:=by refine (fun (F:AFn)(_:⟨18,[.t 2],Ss (Oo [Ii 1 (.box 51 3 (Tt 0)),Ii 2 (.mov (Bo false))]) (Ss (Oo [Fa 3 0 1,Lf 4 3,Ii 5 (.un .not (Tt 4)),Mv 6 5,Ig 7 6 true (.faddr 1 (Tt 1)),Ig 8 6 true (.load false 1 (Tt 7)),Ig 9 6 true (.len (Tt 8)),Ig 10 6 true (.bin .eql (Tt 9) (Nn 0)),Ii 11 (.pick (Tt 6) (Tt 10) (Bo false)),Mv 12 11,Ig 13 12 true (.faddr 2 (Tt 1)),Ig 14 12 true (.load false 1 (Tt 13)),Ig 15 12 true (.len (Tt 14)),Ig 16 12 true (.bin .eql (Tt 15) (Nn 0)),Ii 17 (.pick (Tt 12) (Tt 16) (Bo false)),Mv 2 17]) .ret)⟩=F)=>F) ?_ ?_;rotate_left;dsimp only[Tt,Nn,Bo,Ii,Ig,Mv,Lf,Fa,Oo,Ss];exact rfl
theorem code_scrimref08_zero:lowerF Tryz.prog 168 = some fn_scrimref08_zero:=by kernel_rfl
def fn_scrimref11_Alone:AFn:=by refine (fun (F:AFn)(_:⟨10,[.c 4 true 3],Ss (Oo [Ii 4 (.alloc 26 Za)]) (Ss (Oo [Mv 5 1,Mv 6 0,Ca 7 55 [Tt 6],Ii 8 (.rowlit 54 7 1 Zc [(0,Tt 7)]),Ii 9 (.build Za [(0,1,Tt 5),(2,1,Tt 8)]),Sr 3 4 9]) .ret)⟩=F)=>F) ?_ ?_;rotate_left;dsimp only[Tt,Ii,Mv,Sr,Ca,Oo,Ss,Za,Zc];exact rfl
theorem code_scrimref11_Alone:lowerF Tryz.prog 18 = some fn_scrimref11_Alone:=by kernel_rfl
def fn_scrimref11_Vector:AFn:=by refine (fun (F:AFn)(_:⟨29,[.c 4 true 3],Ss (Oo [Ii 4 (.alloc 26 Za)]) (Ss (Oo [Mv 7 1,Mv 8 0,Le 9 8,Ii 10 (.rowlit 3 1 1 [.int .i64 0] [(0,Tt 9)]),Ii 11 (.build Za [(0,1,Tt 7),(1,1,Tt 10)]),Ii 5 (.alloc 26 Za),Sr 3 5 11]) (Ss (Ss (Oo [Ii 6 (.mov (Nn 0))]) (.block 0 (.loop (Ss (Ss (Oo [Mv 12 6,Mv 13 0,Le 14 13,Ii 15 (.bin .lss (Tt 12) (Tt 14))]) (.cond (Tt 15) .skip (.exit 0))) (Ss (.block 1 (.ops true [Fa 18 2 5,Lf 19 18,Mv 20 0,Mv 21 6,Ia 22 1 20 21,Lf 23 22,Ca 24 55 [Tt 23],Ii 25 (.rowlit 54 7 1 Zc [(0,Tt 24)]),Ii 26 (.append 54 7 104 Zc (Tt 19) (Tt 25)),Fa 27 2 5,Sr 1 27 26] [(1,4),(1,5),(1,6),(1,7)])) (Oo [Mv 16 6,Ii 17 (.bin .add (Tt 16) (Nn 1)),Mv 6 17])))))) (Ss (Oo [Lt 28 3 5,Sr 3 4 28]) .ret)))⟩=F)=>F) ?_ ?_;rotate_left;dsimp only[Tt,Nn,Ii,Mv,Lf,Lt,Fa,Le,Ia,Sr,Ca,Oo,Ss,Za,Zc];exact rfl
theorem code_scrimref11_Vector:lowerF Tryz.prog 17 = some fn_scrimref11_Vector:=by kernel_rfl
def fn_shape_Around:AFn:=by refine (fun (F:AFn)(_:⟨40,[.t 4,.t 5,.t 6,.t 7],Ss (Oo [Ii 4 (.mov (Nn 0)),Ii 5 (.mov (Nn 0)),Ii 6 (.mov (Nn 0)),Ii 7 (.mov (Bo false))]) (Ss (Ss (Oo [Mv 11 0,Ca 12 58 [Tt 11],Mv 10 12,Ex 13 0 10,Ex 14 1 10,Mv 8 13,Mv 9 14]) (Ss (Oo [Mv 15 9,Ii 16 (.bin .neq (Tt 15) (Nn 0)),Mv 17 16,Ig 18 17 false (.mov (Tt 1)),Ig 19 17 false (.bin .lss (Tt 18) (Nn 0)),Ii 20 (.pick (Tt 17) (Bo true) (Tt 19)),Mv 21 20,Ig 22 21 false (.mov (Tt 1)),Ig 23 21 false (.mov (Tt 0)),Ig 24 21 false (.len (Tt 23)),Ig 25 21 false (.bin .geq (Tt 22) (Tt 24)),Ii 26 (.pick (Tt 21) (Bo true) (Tt 25))]) (.cond (Tt 26) (Ss (Oo [Ii 4 (.mov (Nn 0)),Ii 5 (.mov (Nn 0)),Ii 6 (.mov (Nn 0)),Ii 7 (.mov (Bo false))]) .ret) .skip))) (Ss (.ops true [Mv 27 0,Mv 28 1,Ii 29 (.slice 1 (Tt 27) none (some (Tt 28)) none),Ca 30 129 [Tt 29],Mv 31 0,Mv 32 1,Ia 33 1 31 32,Lf 34 33,Mv 35 0,Mv 36 1,Ii 37 (.bin .add (Tt 36) (Nn 1)),Ii 38 (.slice 1 (Tt 35) (some (Tt 37)) none none),Ca 39 129 [Tt 38],Mv 4 30,Mv 5 34,Mv 6 39,Ii 7 (.mov (Bo true))] [(2,6),(3,6),(2,7),(3,7),(2,11),(3,11),(6,11),(7,11),(6,12),(7,12)]) .ret))⟩=F)=>F) ?_ ?_;rotate_left;dsimp only[Tt,Nn,Bo,Ii,Ig,Mv,Lf,Ex,Ia,Ca,Oo,Ss];exact rfl
theorem code_shape_Around:lowerF Tryz.prog 97 = some fn_shape_Around:=by kernel_rfl
def fn_shape_At:AFn:=by refine (fun (F:AFn)(_:⟨52,[.t 4,.t 5],Ss (Oo [Ii 4 (.mov (.const (.slice none 0 0))),Ii 5 (.mov (Bo false))]) (Ss (Oo [Mv 11 0,Ca 12 58 [Tt 11],Mv 10 12,Ex 13 0 10,Ex 14 1 10,Mv 6 13,Mv 7 14]) (Ss (Ss (Oo [Mv 15 7,Ii 16 (.bin .neq (Tt 15) (Nn 0)),Mv 17 16,Ig 18 17 false (.mov (Tt 1)),Ig 19 17 false (.bin .lss (Tt 18) (Nn 0)),Ii 20 (.pick (Tt 17) (Bo true) (Tt 19)),Mv 21 20,Ig 22 21 false (.mov (Tt 1)),Ig 23 21 false (.mov (Tt 6)),Ig 24 21 false (.bin .geq (Tt 22) (Tt 23)),Ii 25 (.pick (Tt 21) (Bo true) (Tt 24))]) (.cond (Tt 25) (Ss (Oo [Ii 4 (.mov (.const (.slice none 0 0))),Ii 5 (.mov (Bo false))]) .ret) .skip)) (Ss (Oo [Mv 26 0,Le 27 26,Ii 28 (.make 3 1 8 [.int .i64 0] (Tt 27) (Tt 27)),Mv 8 28]) (Ss (Ss (Oo [Mv 29 0,Le 30 29,Ii 31 (.bin .sub (Tt 30) (Nn 1)),Mv 9 31]) (.block 0 (.loop (Ss (Ss (Oo [Mv 32 9,Ii 33 (.bin .geq (Tt 32) (Nn 0))]) (.cond (Tt 33) .skip (.exit 0))) (Ss (.block 1 (Ss (Oo [Mv 36 8,Mv 37 9,Mv 38 1,Mv 39 0,Mv 40 9,Ia 41 1 39 40,Lf 42 41,Ii 43 (.bin .rem (Tt 38) (Tt 42)),Ia 44 1 36 37,Sr 1 44 43]) (Oo [Mv 45 1,Mv 46 0,Mv 47 9,Ia 48 1 46 47,Lf 49 48,Ii 50 (.bin .quo (Tt 45) (Tt 49)),Mv 1 50]))) (Oo [Mv 34 9,Ii 35 (.bin .sub (Tt 34) (Nn 1)),Mv 9 35])))))) (Ss (Oo [Mv 51 8,Mv 4 51,Ii 5 (.mov (Bo true))]) .ret)))))⟩=F)=>F) ?_ ?_;rotate_left;dsimp only[Tt,Nn,Bo,Ii,Ig,Mv,Lf,Ex,Le,Ia,Sr,Ca,Oo,Ss];exact rfl
theorem code_shape_At:lowerF Tryz.prog 134 = some fn_shape_At:=by kernel_rfl
def fn_shape_Count:AFn:=by refine (fun (F:AFn)(_:⟨19,[.t 2,.t 3],Ss (Oo [Ii 2 (.mov (Nn 0)),Ii 3 (.mov (Nn 0))]) (Ss (Ss (Oo [Mv 5 0,Le 6 5,Ii 7 (.bin .gtr (Tt 6) (Nn 6))]) (.cond (Tt 7) (Ss (Oo [Ii 2 (.mov (Nn 0)),Ii 3 (.mov (Nn 7))]) .ret) .skip)) (Ss (Ss (Oo [Mv 8 0,Ca 9 125 [Tt 8,.func 126]]) (.cond (Tt 9) (Ss (Oo [Ii 2 (.mov (Nn 0)),Ii 3 (.mov (Nn 3))]) .ret) .skip)) (Ss (Ss (Oo [Mv 10 0,Ca 11 125 [Tt 10,.func 127]]) (.cond (Tt 11) (Ss (Oo [Ii 2 (.mov (Nn 0)),Ii 3 (.mov (Nn 7))]) .ret) .skip)) (Ss (Ss (Oo [Mv 12 0,Ca 13 128 [Tt 12,Nn 0]]) (.cond (Tt 13) (Ss (Oo [Ii 2 (.mov (Nn 0)),Ii 3 (.mov (Nn 0))]) .ret) .skip)) (Ss (Oo [Mv 14 0,Ca 15 129 [Tt 14],Mv 4 15]) (Ss (Ss (Oo [Mv 16 4,Ii 17 (.bin .eql (Tt 16) (Nn 0))]) (.cond (Tt 17) (Ss (Oo [Ii 2 (.mov (Nn 0)),Ii 3 (.mov (Nn 7))]) .ret) .skip)) (Ss (Oo [Mv 18 4,Mv 2 18,Ii 3 (.mov (Nn 0))]) .ret)))))))⟩=F)=>F) ?_ ?_;rotate_left;dsimp only[Tt,Nn,Ii,Mv,Le,Ca,Oo,Ss];exact rfl
theorem code_shape_Count:lowerF Tryz.prog 58 = some fn_shape_Count:=by kernel_rfl
def fn_shape_Count_1:AFn:=by refine (fun (F:AFn)(_:⟨5,[.t 2],Ss (Oo [Ii 2 (.mov (Bo false))]) (Ss (Oo [Mv 3 0,Ii 4 (.bin .lss (Tt 3) (Nn 0)),Mv 2 4]) .ret)⟩=F)=>F) ?_ ?_;rotate_left;dsimp only[Tt,Nn,Bo,Ii,Mv,Oo,Ss];exact rfl
theorem code_shape_Count_1:lowerF Tryz.prog 126 = some fn_shape_Count_1:=by kernel_rfl
def fn_shape_Count_2:AFn:=by refine (fun (F:AFn)(_:⟨5,[.t 2],Ss (Oo [Ii 2 (.mov (Bo false))]) (Ss (Oo [Mv 3 0,Ii 4 (.bin .gtr (Tt 3) (Nn 2048)),Mv 2 4]) .ret)⟩=F)=>F) ?_ ?_;rotate_left;dsimp only[Tt,Nn,Bo,Ii,Mv,Oo,Ss];exact rfl
theorem code_shape_Count_2:lowerF Tryz.prog 127 = some fn_shape_Count_2:=by kernel_rfl
def fn_shape_Index:AFn:=by refine (fun (F:AFn)(_:⟨55,[.t 4,.t 5],Ss (Oo [Ii 4 (.mov (Nn 0)),Ii 5 (.mov (Bo false))]) (Ss (Ss (Oo [Mv 12 0,Ca 13 58 [Tt 12],Mv 11 13,Ex 14 0 11,Ex 15 1 11,Mv 6 14,Mv 7 15]) (Ss (Oo [Mv 16 7,Ii 17 (.bin .neq (Tt 16) (Nn 0)),Mv 18 17,Ig 19 18 false (.mov (Tt 1)),Ig 20 18 false (.len (Tt 19)),Ig 21 18 false (.mov (Tt 0)),Ig 22 18 false (.len (Tt 21)),Ig 23 18 false (.bin .neq (Tt 20) (Tt 22)),Ii 24 (.pick (Tt 18) (Bo true) (Tt 23))]) (.cond (Tt 24) (Ss (Oo [Ii 4 (.mov (Nn 0)),Ii 5 (.mov (Bo false))]) .ret) .skip))) (Ss (Oo [Ii 8 (.mov (Nn 0))]) (Ss (Ss (Oo [Mv 25 0,Le 26 25,Ii 27 (.mov (Nn 0))]) (.block 0 (.loop (Ss (Oo [Ii 28 (.bin .lss (Tt 27) (Tt 26))]) (Ss (.cond (Tt 28) .skip (.exit 0)) (Ss (.block 1 (Ss (Oo [Mv 29 27,Ia 30 1 25 27,Lf 31 30,Mv 9 29,Mv 10 31]) (Ss (Ss (Oo [Mv 32 1,Mv 33 9,Ia 34 1 32 33,Lf 35 34,Ii 36 (.bin .lss (Tt 35) (Nn 0)),Mv 37 36,Ig 38 37 false (.mov (Tt 1)),Ig 39 37 false (.mov (Tt 9)),Ig 40 37 false (.iaddr 1 (Tt 38) (Tt 39)),Ig 41 37 false (.load false 1 (Tt 40)),Ig 42 37 false (.mov (Tt 10)),Ig 43 37 false (.bin .geq (Tt 41) (Tt 42)),Ii 44 (.pick (Tt 37) (Bo true) (Tt 43))]) (.cond (Tt 44) (Ss (Oo [Ii 4 (.mov (Nn 0)),Ii 5 (.mov (Bo false))]) .ret) .skip)) (Oo [Mv 45 8,Mv 46 10,Ii 47 (.bin .mul (Tt 45) (Tt 46)),Mv 48 1,Mv 49 9,Ia 50 1 48 49,Lf 51 50,Ii 52 (.bin .add (Tt 47) (Tt 51)),Mv 8 52])))) (Oo [Ii 53 (.bin .add (Tt 27) (Nn 1)),Mv 27 53]))))))) (Ss (Oo [Mv 54 8,Mv 4 54,Ii 5 (.mov (Bo true))]) .ret))))⟩=F)=>F) ?_ ?_;rotate_left;dsimp only[Tt,Nn,Bo,Ii,Ig,Mv,Lf,Ex,Le,Ia,Ca,Oo,Ss];exact rfl
theorem code_shape_Index:lowerF Tryz.prog 135 = some fn_shape_Index:=by kernel_rfl
def fn_shape_With:AFn:=by refine (fun (F:AFn)(_:⟨24,[.t 6,.t 7],Ss (Oo [Ii 6 (.mov (.const (.slice none 0 0))),Ii 7 (.mov (Bo false))]) (Ss (Ss (Oo [Mv 9 1,Ii 10 (.bin .lss (Tt 9) (Nn 0)),Mv 11 10,Ig 12 11 false (.mov (Tt 1)),Ig 13 11 false (.mov (Tt 0)),Ig 14 11 false (.len (Tt 13)),Ig 15 11 false (.bin .geq (Tt 12) (Tt 14)),Ii 16 (.pick (Tt 11) (Bo true) (Tt 15))]) (.cond (Tt 16) (Ss (Oo [Ii 6 (.mov (.const (.slice none 0 0))),Ii 7 (.mov (Bo false))]) .ret) .skip)) (Ss (Oo [Mv 17 0,Ca 18 71 [Tt 17],Mv 8 18]) (Ss (Oo [Mv 19 8,Mv 20 1,Mv 21 2,Ia 22 1 19 20,Sr 1 22 21]) (Ss (Oo [Mv 23 8,Mv 6 23,Ii 7 (.mov (Bo true))]) .ret))))⟩=F)=>F) ?_ ?_;rotate_left;dsimp only[Tt,Nn,Bo,Ii,Ig,Mv,Ia,Sr,Ca,Oo,Ss];exact rfl
theorem code_shape_With:lowerF Tryz.prog 132 = some fn_shape_With:=by kernel_rfl
def fn_shape_product:AFn:=by refine (fun (F:AFn)(_:⟨19,[.t 2],Ss (Oo [Ii 2 (.mov (Nn 0))]) (Ss (Oo [Ii 3 (.mov (Nn 1))]) (Ss (Ss (Oo [Mv 6 0,Le 7 6,Ii 8 (.mov (Nn 0))]) (.block 0 (.loop (Ss (Oo [Ii 9 (.bin .lss (Tt 8) (Tt 7))]) (Ss (.cond (Tt 9) .skip (.exit 0)) (Ss (.block 1 (Ss (Oo [Ia 10 1 6 8,Lf 11 10,Mv 5 11]) (Ss (Oo [Mv 12 3,Mv 13 5,Ii 14 (.bin .mul (Tt 12) (Tt 13)),Mv 3 14]) (Ss (Oo [Mv 15 3,Ii 16 (.bin .gtr (Tt 15) (Nn 2048))]) (.cond (Tt 16) (Ss (Oo [Ii 2 (.mov (Nn 0))]) .ret) .skip))))) (Oo [Ii 17 (.bin .add (Tt 8) (Nn 1)),Mv 8 17]))))))) (Ss (Oo [Mv 18 3,Mv 2 18]) .ret)))⟩=F)=>F) ?_ ?_;rotate_left;dsimp only[Tt,Nn,Ii,Mv,Lf,Le,Ia,Oo,Ss];exact rfl
theorem code_shape_product:lowerF Tryz.prog 129 = some fn_shape_product:=by kernel_rfl
def fn_slices_ContainsFunc_int:AFn:=by refine (fun (F:AFn)(_:⟨9,[.t 4],Ss (Oo [Ii 4 (.mov (Bo false))]) (Ss (Oo [Mv 5 0,Mv 6 1,Ca 7 178 [Tt 5,Tt 6],Ii 8 (.bin .geq (Tt 7) (Nn 0)),Mv 4 8]) .ret)⟩=F)=>F) ?_ ?_;rotate_left;dsimp only[Tt,Nn,Bo,Ii,Mv,Ca,Oo,Ss];exact rfl
theorem code_slices_ContainsFunc_int:lowerF Tryz.prog 125 = some fn_slices_ContainsFunc_int:=by kernel_rfl
def fn_slices_Contains_int:AFn:=by refine (fun (F:AFn)(_:⟨9,[.t 4],Ss (Oo [Ii 4 (.mov (Bo false))]) (Ss (Oo [Mv 5 0,Mv 6 1,Ca 7 179 [Tt 5,Tt 6],Ii 8 (.bin .geq (Tt 7) (Nn 0)),Mv 4 8]) .ret)⟩=F)=>F) ?_ ?_;rotate_left;dsimp only[Tt,Nn,Bo,Ii,Mv,Ca,Oo,Ss];exact rfl
theorem code_slices_Contains_int:lowerF Tryz.prog 128 = some fn_slices_Contains_int:=by kernel_rfl
def fn_slices_IndexFunc_int:AFn:=by refine (fun (F:AFn)(_:⟨19,[.t 4],Ss (Oo [Ii 4 (.mov (Nn 0))]) (Ss (Ss (Oo [Mv 6 0,Le 7 6,Ii 8 (.mov (Nn 0))]) (.block 0 (.loop (Ss (Oo [Ii 9 (.bin .lss (Tt 8) (Tt 7))]) (Ss (.cond (Tt 9) .skip (.exit 0)) (Ss (.block 1 (Ss (Oo [Mv 10 8,Mv 5 10]) (Ss (Oo [Mv 11 1,Mv 12 0,Mv 13 5,Ia 14 1 12 13,Lf 15 14,Ii 16 (.call (Tt 11) [Tt 15])]) (.cond (Tt 16) (Ss (Oo [Mv 17 5,Mv 4 17]) .ret) .skip)))) (Oo [Ii 18 (.bin .add (Tt 8) (Nn 1)),Mv 8 18]))))))) (Ss (Oo [Ii 4 (.mov (Nn (-1)))]) .ret))⟩=F)=>F) ?_ ?_;rotate_left;dsimp only[Tt,Nn,Ii,Mv,Lf,Le,Ia,Oo,Ss];exact rfl
theorem code_slices_IndexFunc_int:lowerF Tryz.prog 178 = some fn_slices_IndexFunc_int:=by kernel_rfl
def fn_slices_Index_int:AFn:=by refine (fun (F:AFn)(_:⟨19,[.t 4],Ss (Oo [Ii 4 (.mov (Nn 0))]) (Ss (Ss (Oo [Mv 6 0,Le 7 6,Ii 8 (.mov (Nn 0))]) (.block 0 (.loop (Ss (Oo [Ii 9 (.bin .lss (Tt 8) (Tt 7))]) (Ss (.cond (Tt 9) .skip (.exit 0)) (Ss (.block 1 (Ss (Oo [Mv 10 8,Mv 5 10]) (Ss (Oo [Mv 11 1,Mv 12 0,Mv 13 5,Ia 14 1 12 13,Lf 15 14,Ii 16 (.bin .eql (Tt 11) (Tt 15))]) (.cond (Tt 16) (Ss (Oo [Mv 17 5,Mv 4 17]) .ret) .skip)))) (Oo [Ii 18 (.bin .add (Tt 8) (Nn 1)),Mv 8 18]))))))) (Ss (Oo [Ii 4 (.mov (Nn (-1)))]) .ret))⟩=F)=>F) ?_ ?_;rotate_left;dsimp only[Tt,Nn,Ii,Mv,Lf,Le,Ia,Oo,Ss];exact rfl
theorem code_slices_Index_int:lowerF Tryz.prog 179 = some fn_slices_Index_int:=by kernel_rfl
def fn_join_block_row:AFn:=by refine (fun (F:AFn)(_:⟨37,[.t 8],Ss (Oo [Ii 4 (.box 73 3 (Tt 0)),Ii 8 (.mov (.const (.slice none 0 0)))]) (Ss (Ss (Oo [Fa 9 2 4,Lf 10 9,Ii 11 (.un .not (Tt 10))]) (.cond (Tt 11) (Ss (Oo [Mv 12 1,Fa 13 1 4,Lf 14 13,Mv 15 2,Mv 16 3,Ii 17 (.bin .mul (Tt 15) (Tt 16)),Mv 18 2,Mv 19 3,Ii 20 (.bin .mul (Tt 18) (Tt 19)),Mv 21 3,Ii 22 (.bin .add (Tt 20) (Tt 21)),Ii 23 (.slice 7 (Tt 14) (some (Tt 17)) (some (Tt 22)) none),Ii 24 (.append 54 7 104 Zc (Tt 12) (Tt 23)),Mv 8 24]) .ret) .skip)) (Ss (Ss (Oo [Mv 25 3,Ii 26 (.mov (Nn 0))]) (.block 0 (.loop (Ss (Oo [Ii 27 (.bin .lss (Tt 26) (Tt 25))]) (Ss (.cond (Tt 27) .skip (.exit 0)) (Ss (.block 1 (Oo [Mv 28 1,Fa 29 1 4,Lf 30 29,Ii 31 (.iaddr 7 (Tt 30) (Nn 0)),Lt 32 7 31,Ii 33 (.rowlit 54 7 1 Zc [(0,Tt 32)]),Ii 34 (.append 54 7 104 Zc (Tt 28) (Tt 33)),Mv 1 34])) (Oo [Ii 35 (.bin .add (Tt 26) (Nn 1)),Mv 26 35]))))))) (Ss (Oo [Mv 36 1,Mv 8 36]) .ret)))⟩=F)=>F) ?_ ?_;rotate_left;dsimp only[Tt,Nn,Ii,Mv,Lf,Lt,Fa,Oo,Ss,Zc];exact rfl
theorem code_join_block_row:lowerF Tryz.prog 133 = some fn_join_block_row:=by kernel_rfl
def fn_join_pair_merge:AFn:=by refine (fun (F:AFn)(_:⟨64,[.t 4],Ss (Oo [Ii 2 (.box 75 7 (Tt 0)),Ii 4 (.mov (.const (.slice none 0 0)))]) (Ss (Oo [Mv 14 1,Fa 15 6 2,Lf 16 15,Ca 17 97 [Tt 14,Tt 16],Mv 13 17,Ex 18 0 13,Ex 19 1 13,Ex 20 2 13,Ex 21 3 13,Mv 5 18,Mv 6 19,Mv 7 20,Mv 8 21]) (Ss (.ops true [Fa 22 0 2,Fa 23 0 22,Lf 24 23,Fa 25 6 2,Lf 26 25,Ia 27 1 24 26,Lf 28 27,Mv 29 7,Ii 30 (.bin .mul (Tt 28) (Tt 29)),Fa 31 3 2,Fa 32 0 31,Lf 33 32,Fa 34 6 2,Lf 35 34,Ia 36 1 33 35,Lf 37 36,Mv 38 7,Ii 39 (.bin .mul (Tt 37) (Tt 38)),Mv 9 30,Mv 10 39] [(2,4),(2,11),(4,11),(5,11),(6,11),(2,13),(4,13),(5,13),(6,13),(11,13),(2,14),(4,14),(5,14),(6,14),(2,15),(4,15),(5,15),(6,15)]) (Ss (Oo [Mv 40 5,Mv 41 9,Mv 42 10,Ii 43 (.bin .add (Tt 41) (Tt 42)),Ii 44 (.bin .mul (Tt 40) (Tt 43)),Ii 45 (.make 54 7 104 Zc (Nn 0) (Tt 44)),Mv 11 45]) (Ss (Ss (Oo [Mv 46 5,Ii 47 (.mov (Nn 0))]) (.block 0 (.loop (Ss (Oo [Ii 48 (.bin .lss (Tt 47) (Tt 46))]) (Ss (.cond (Tt 48) .skip (.exit 0)) (Ss (.block 1 (Ss (Oo [Mv 49 47,Mv 12 49]) (Ss (Oo [Fa 50 0 2,Lt 51 3 50,Mv 52 11,Mv 53 12,Mv 54 9,Ca 55 133 [Tt 51,Tt 52,Tt 53,Tt 54],Mv 11 55]) (Oo [Fa 56 3 2,Lt 57 3 56,Mv 58 11,Mv 59 12,Mv 60 10,Ca 61 133 [Tt 57,Tt 58,Tt 59,Tt 60],Mv 11 61])))) (Oo [Ii 62 (.bin .add (Tt 47) (Nn 1)),Mv 47 62]))))))) (Ss (Oo [Mv 63 11,Mv 4 63]) .ret)))))⟩=F)=>F) ?_ ?_;rotate_left;dsimp only[Tt,Nn,Ii,Mv,Lf,Lt,Fa,Ex,Ia,Ca,Oo,Ss,Zc];exact rfl
theorem code_join_pair_merge:lowerF Tryz.prog 63 = some fn_join_pair_merge:=by kernel_rfl
def fn_join_pair_whole:AFn:=by refine (fun (F:AFn)(_:⟨67,[.t 2,.t 3],Ss (Oo [Ii 1 (.box 75 7 (Tt 0)),Ii 2 (.mov (.const (.slice none 0 0))),Ii 3 (.mov (Nn 0))]) (Ss (Ss (Oo [Fa 10 0 1,Fa 11 0 10,Lf 12 11,Le 13 12,Ii 14 (.mov (Nn 0))]) (.block 0 (.loop (Ss (Oo [Ii 15 (.bin .lss (Tt 14) (Tt 13))]) (Ss (.cond (Tt 15) .skip (.exit 0)) (Ss (.block 1 (Ss (Oo [Mv 16 14,Ia 17 1 12 14,Lf 18 17,Mv 4 16,Mv 5 18]) (Ss (Oo [Mv 19 4,Fa 20 6 1,Lf 21 20,Ii 22 (.bin .neq (Tt 19) (Tt 21)),Mv 23 22,Ig 24 23 true (.mov (Tt 5)),Ig 25 23 true (.faddr 3 (Tt 1)),Ig 26 23 true (.faddr 0 (Tt 25)),Ig 27 23 true (.load false 1 (Tt 26)),Ig 28 23 true (.mov (Tt 4)),Ig 29 23 true (.iaddr 1 (Tt 27) (Tt 28)),Ig 30 23 true (.load false 1 (Tt 29)),Ig 31 23 true (.bin .neq (Tt 24) (Tt 30)),Ii 32 (.pick (Tt 23) (Tt 31) (Bo false))]) (.cond (Tt 32) (Ss (Oo [Ii 2 (.mov (.const (.slice none 0 0))),Ii 3 (.mov (Nn 4))]) .ret) .skip)))) (Oo [Ii 33 (.bin .add (Tt 14) (Nn 1)),Mv 14 33]))))))) (Ss (.ops true [Fa 35 0 1,Fa 36 0 35,Lf 37 36,Fa 38 6 1,Lf 39 38,Fa 40 0 1,Fa 41 0 40,Lf 42 41,Fa 43 6 1,Lf 44 43,Ia 45 1 42 44,Lf 46 45,Fa 47 3 1,Fa 48 0 47,Lf 49 48,Fa 50 6 1,Lf 51 50,Ia 52 1 49 51,Lf 53 52,Ii 54 (.bin .add (Tt 46) (Tt 53)),Ca 55 132 [Tt 37,Tt 39,Tt 54],Mv 34 55,Ex 56 0 34,Ex 57 1 34,Mv 6 56,Mv 7 57] [(2,4),(2,7),(4,7),(2,9),(4,9),(7,9),(2,10),(4,10),(2,11),(4,11),(2,14),(4,14),(7,14),(9,14),(10,14),(11,14),(2,16),(4,16),(7,16),(9,16),(10,16),(11,16),(14,16),(2,17),(4,17),(7,17),(9,17),(10,17),(11,17),(2,18),(4,18),(7,18),(9,18),(10,18),(11,18)]) (Ss (Ss (Oo [Mv 59 6,Ca 60 58 [Tt 59],Mv 58 60,Ex 61 0 58,Ex 62 1 58,Mv 8 61,Mv 9 62]) (Ss (Oo [Mv 63 9,Ii 64 (.bin .neq (Tt 63) (Nn 0))]) (.cond (Tt 64) (Ss (Oo [Mv 65 9,Ii 2 (.mov (.const (.slice none 0 0))),Mv 3 65]) .ret) .skip))) (Ss (Oo [Mv 66 6,Mv 2 66,Ii 3 (.mov (Nn 0))]) .ret))))⟩=F)=>F) ?_ ?_;rotate_left;dsimp only[Tt,Nn,Bo,Ii,Ig,Mv,Lf,Fa,Ex,Le,Ia,Ca,Oo,Ss];exact rfl
theorem code_join_pair_whole:lowerF Tryz.prog 62 = some fn_join_pair_whole:=by kernel_rfl
def fn_join_widen:AFn:=by refine (fun (F:AFn)(_:⟨67,[.c 8 true 3,.t 9],Ss (Oo [Ii 4 (.box 26 3 (Tt 0)),Ii 8 (.alloc 73 [.slice none 0 0,.slice none 0 0,.bool false]),Ii 9 (.mov (Bo false))]) (Ss (Oo [Mv 11 2,Ii 12 (.make 3 1 8 [.int .i64 0] (Nn 0) (Tt 11)),Mv 10 12]) (Ss (Ss (Oo [Fa 13 1 4,Lf 14 13,Le 15 14]) (.block 0 (Ss (Oo [Mv 17 2,Ii 18 (.bin .eql (Tt 15) (Tt 17)),Mv 16 18]) (.cond (Tt 16) (Ss (.ops true [Mv 19 10,Fa 20 1 4,Lf 21 20,Ii 22 (.append 3 1 8 [.int .i64 0] (Tt 19) (Tt 21)),Fa 23 2 4,Lf 24 23,Ii 25 (.build [.slice none 0 0,.slice none 0 0,.bool false] [(0,1,Tt 22),(1,1,Tt 24)]),Sr 3 8 25,Ii 9 (.mov (Bo true))] [(2,5),(3,5)]) .ret) (Ss (Oo [Ii 27 (.bin .eql (Tt 15) (Nn 0)),Mv 26 27]) (.cond (Tt 26) (Ss (Ss (Oo [Mv 28 1,Le 29 28,Ii 30 (.bin .eql (Tt 29) (Nn 0))]) (.cond (Tt 30) (Oo [Mv 31 10,Ii 32 (.rowlit 3 1 1 [.int .i64 0] [(0,Nn 1)]),Ii 33 (.append 3 1 8 [.int .i64 0] (Tt 31) (Tt 32)),Mv 10 33]) (Ss (Oo [Mv 34 10,Mv 35 1,Ii 36 (.append 3 1 8 [.int .i64 0] (Tt 34) (Tt 35)),Mv 10 36]) (Oo [Mv 37 10,Mv 38 3,Ia 39 1 37 38,Jj (.store 1 (Tt 39) (Nn 1))])))) (Ss (Oo [Mv 40 10,Fa 41 2 4,Lf 42 41,Ii 43 (.build [.slice none 0 0,.slice none 0 0,.bool false] [(0,1,Tt 40),(1,1,Tt 42),(2,1,Bo true)]),Sr 3 8 43,Ii 9 (.mov (Bo true))]) .ret)) (Ss (Oo [Mv 45 2,Ii 46 (.bin .sub (Tt 45) (Nn 1)),Ii 47 (.bin .eql (Tt 15) (Tt 46)),Mv 44 47]) (.cond (Tt 44) (Ss (Oo [Mv 48 10,Fa 49 1 4,Lf 50 49,Mv 51 3,Ii 52 (.slice 1 (Tt 50) none (some (Tt 51)) none),Ii 53 (.append 3 1 8 [.int .i64 0] (Tt 48) (Tt 52)),Mv 10 53]) (Ss (Oo [Mv 54 10,Ii 55 (.rowlit 3 1 1 [.int .i64 0] [(0,Nn 1)]),Ii 56 (.append 3 1 8 [.int .i64 0] (Tt 54) (Tt 55)),Mv 10 56]) (Ss (.ops true [Mv 57 10,Fa 58 1 4,Lf 59 58,Mv 60 3,Ii 61 (.slice 1 (Tt 59) (some (Tt 60)) none none),Ii 62 (.append 3 1 8 [.int .i64 0] (Tt 57) (Tt 61)),Fa 63 2 4,Lf 64 63,Ii 65 (.build [.slice none 0 0,.slice none 0 0,.bool false] [(0,1,Tt 62),(1,1,Tt 64)]),Sr 3 8 65,Ii 9 (.mov (Bo true))] [(2,7),(4,7),(5,7)]) .ret))) .skip)))))))) (Ss (Oo [Ii 66 (.build [.slice none 0 0,.slice none 0 0,.bool false] []),Sr 3 8 66,Ii 9 (.mov (Bo false))]) .ret)))⟩=F)=>F) ?_ ?_;rotate_left;dsimp only[Tt,Nn,Bo,Ii,Jj,Mv,Lf,Fa,Le,Ia,Sr,Oo,Ss];exact rfl
theorem code_join_widen:lowerF Tryz.prog 131 = some fn_join_widen:=by kernel_rfl
def fn_turn_Permute_2:AFn:=by refine (fun (F:AFn)(_:⟨24,[],Ss (Oo [Mv 6 0,Ca 7 71 [Tt 6],Mv 3 7]) (Ss (Oo [Lf 8 1,Le 9 8,Ii 10 (.mov (Nn 0))]) (.block 0 (.loop (Ss (Oo [Ii 11 (.bin .lss (Tt 10) (Tt 9))]) (Ss (.cond (Tt 11) .skip (.exit 0)) (Ss (.block 1 (Ss (Oo [Mv 12 10,Ia 13 1 8 10,Lf 14 13,Mv 4 12,Mv 5 14]) (Oo [Mv 15 0,Mv 16 4,Mv 17 3,Mv 18 5,Ii 19 (.bin .sub (Tt 18) (Nn 1)),Ia 20 1 17 19,Lf 21 20,Ia 22 1 15 16,Sr 1 22 21]))) (Oo [Ii 23 (.bin .add (Tt 10) (Nn 1)),Mv 10 23])))))))⟩=F)=>F) ?_ ?_;rotate_left;dsimp only[Tt,Nn,Ii,Mv,Lf,Le,Ia,Sr,Ca,Oo,Ss];exact rfl
theorem code_turn_Permute_2:lowerF Tryz.prog 70 = some fn_turn_Permute_2:=by kernel_rfl
def fn_turn_Rotate_2:AFn:=by refine (fun (F:AFn)(_:⟨16,[],.ops true [Mv 5 0,Lf 6 1,Mv 7 0,Lf 8 1,Ia 9 1 7 8,Lf 10 9,Lf 11 2,Ii 12 (.bin .add (Tt 10) (Tt 11)),Lf 13 3,Ii 14 (.bin .rem (Tt 12) (Tt 13)),Ia 15 1 5 6,Sr 1 15 14] [(1,3),(1,4),(1,5),(1,6),(3,6),(4,6),(5,6),(1,8),(3,8),(4,8),(5,8),(6,8)]⟩=F)=>F) ?_ ?_;rotate_left;dsimp only[Tt,Ii,Mv,Lf,Ia,Sr];exact rfl
theorem code_turn_Rotate_2:lowerF Tryz.prog 68 = some fn_turn_Rotate_2:=by kernel_rfl
def fn_turn_along:AFn:=by refine (fun (F:AFn)(_:⟨15,[.t 4,.t 5],Ss (Oo [Ii 2 (.box 26 3 (Tt 0)),Ii 4 (.mov (Nn 0)),Ii 5 (.mov (Bo false))]) (Ss (Ss (Oo [Fa 6 1 2,Lf 7 6,Le 8 7,Ii 9 (.bin .eql (Tt 8) (Nn 0))]) (.cond (Tt 9) (Ss (Oo [Ii 4 (.mov (Nn 0)),Ii 5 (.mov (Bo false))]) .ret) .skip)) (Ss (Ss (Oo [Mv 10 1]) (.cond (Tt 10) (Ss (Oo [Ii 4 (.mov (Nn 0)),Ii 5 (.mov (Bo true))]) .ret) .skip)) (Ss (Oo [Fa 11 1 2,Lf 12 11,Le 13 12,Ii 14 (.bin .sub (Tt 13) (Nn 1)),Mv 4 14,Ii 5 (.mov (Bo true))]) .ret)))⟩=F)=>F) ?_ ?_;rotate_left;dsimp only[Tt,Nn,Bo,Ii,Mv,Lf,Fa,Le,Oo,Ss];exact rfl
theorem code_turn_along:lowerF Tryz.prog 66 = some fn_turn_along:=by kernel_rfl
def fn_turn_moved:AFn:=by refine (fun (F:AFn)(_:⟨54,[.c 6 true 3],Ss (Oo [Ii 3 (.box 26 3 (Tt 0)),Ii 6 (.alloc 26 Za)]) (Ss (Oo [Fa 13 2 3,Lf 14 13,Le 15 14,Ii 16 (.make 54 7 104 Zc (Nn 0) (Tt 15)),Mv 7 16]) (Ss (Ss (Oo [Fa 17 2 3,Lf 18 17,Le 19 18,Ii 20 (.mov (Nn 0))]) (.block 0 (.loop (Ss (Oo [Ii 21 (.bin .lss (Tt 20) (Tt 19))]) (Ss (.cond (Tt 21) .skip (.exit 0)) (Ss (.block 1 (Ss (Oo [Mv 22 20,Mv 8 22]) (Ss (Oo [Mv 24 1,Mv 25 8,Ca 26 134 [Tt 24,Tt 25],Mv 23 26,Ex 27 0 23,Ex 28 1 23,Mv 9 27,Mv 10 28]) (Ss (Oo [Mv 29 2,Mv 30 9,Ii 31 (.call (Tt 29) [Tt 30])]) (Ss (Oo [Fa 33 1 3,Lf 34 33,Mv 35 9,Ca 36 135 [Tt 34,Tt 35],Mv 32 36,Ex 37 0 32,Ex 38 1 32,Mv 11 37,Mv 12 38]) (Oo [Mv 39 7,Fa 40 2 3,Lf 41 40,Mv 42 11,Ia 43 7 41 42,Lt 44 7 43,Ii 45 (.rowlit 54 7 1 Zc [(0,Tt 44)]),Ii 46 (.append 54 7 104 Zc (Tt 39) (Tt 45)),Mv 7 46])))))) (Oo [Ii 47 (.bin .add (Tt 20) (Nn 1)),Mv 20 47]))))))) (Ss (.ops true [Fa 48 0 3,Lf 49 48,Mv 50 1,Ca 51 71 [Tt 50],Mv 52 7,Ii 53 (.build Za [(0,1,Tt 49),(1,1,Tt 51),(2,1,Tt 52)]),Sr 3 6 53] [(1,3)]) .ret)))⟩=F)=>F) ?_ ?_;rotate_left;dsimp only[Tt,Nn,Ii,Mv,Lf,Lt,Fa,Ex,Le,Ia,Sr,Ca,Oo,Ss,Za,Zc];exact rfl
theorem code_turn_moved:lowerF Tryz.prog 67 = some fn_turn_moved:=by kernel_rfl
set_option linter.unusedVariables false
theorem freeze_rel {C:Ctx} {E:Env} {st:St} {a:Act} {w:World} (R:Rel C E st a w) (id:Nat) {o:OB} (ho:hl st.h id=some o) :
 ∃ E',Rel C E' { st with h:=(id,some { o with ro:=true })::st.h } a w∧∀ k,E'.live k↔E.live k:=by
 let E':Env:={ E with im:=fun b=>E.im b∨(E.live id∧blkOf (E.val id)=some b) }
 have hlv:∀ k,E.live k→E'.live k∧E'.val k=E.val k∧E'.sz k=E.sz k:=fun k h=>⟨h,rfl,rfl⟩
 have him:∀ b,E.im b→E'.im b:=fun b h=>.inl h
 have hw:∀ b,E.im b→w.heap[b]? = w.heap[b]? := fun _ _=>rfl
 refine ⟨E',⟨R.defers,R.size,fun n=>Rd.mono hlv him hw _ _ (R.tm n),⟨?_,?_,?_,?_⟩,R.nx,?_,R.ext,fun b hb=>.inl (R.imx b hb),?_,R.frm⟩,fun k=>Iff.rfl⟩
 ·intro k ob hk hh
  have old:∀ o',hl st.h k=some o'→obOK E' w k o':=fun o' ho'=>(R.heap.ob k o' hk ho').mono ⟨rfl,rfl⟩ hlv him hw (fun _ _=>rfl)
  rcases hl_new hh with ⟨rfl,e⟩|⟨hne,p1⟩
  ·simp only [Option.some.injEq] at e; subst e
   exact old o ho
  ·exact old ob p1
 ·intro k k' ob ob' b hk hk' hh hh' hb hb'
  have e:∀ j oj,hl ((id,some { o with ro:=true })::st.h) j=some oj→∃ oj',hl st.h j=some oj':=fun j oj hj=>by
   rcases hl_new hj with ⟨rfl,_⟩|⟨_,p⟩
   ·exact ⟨o,ho⟩
   ·exact ⟨oj,p⟩
  obtain ⟨q1,e1⟩:=e k ob hh
  obtain ⟨q2,e2⟩:=e k' ob' hh'
  exact R.heap.apart k k' q1 q2 b hk hk' e1 e2 hb hb'
 ·intro k ob b hk hh hb
  rcases hl_new hh with ⟨rfl,e⟩|⟨hne,p1⟩
  ·simp only [Option.some.injEq] at e; subst e
   exact ⟨fun _=>rfl,fun _=>.inr ⟨hk,hb⟩⟩
  ·rw [← R.heap.im k ob b hk p1 hb]
   constructor
   ·rintro (h|⟨h1,h2⟩)
    ·exact h
    ·exact absurd (R.heap.apart k id ob o b hk h1 p1 ho hb h2) hne
   ·exact fun h=>.inl h
 ·rintro b (h|⟨h1,h2⟩)
  ·exact R.heap.lt b h
  ·exact R.heap.blk_lt h1 ho h2
 ·intro k ob b hk hh hb
  rcases hl_new hh with ⟨rfl,e⟩|⟨hne,p1⟩
  ·exact R.own k o b hk ho hb
  ·exact R.own k ob b hk p1 hb
 ·rintro b (h|⟨h1,h2⟩)
  ·exact R.imn b h
  ·exact .inr (R.own id o b h1 ho h2)
theorem Step.freeze {P:Program} {st:St} {i:AInst} {v:AV} {rd:List Nat} {upd:Hp} (id:Nat) {o:OB} (ho:hl st.h id=some o) (h:Step P { st with h:=(id,some { o with ro:=true })::st.h } ⟨i,v,rd,upd,0⟩) :
 Step P st ⟨i,v,rd,upd++[(id,some { o with ro:=true })],0⟩:=by
 intro N ops op hlow C E a w sx hN R hag hh hnw K Q hK
 have ho':hl sx.h id=some o:=by rw [hh id (.inr (by simp))]; exact ho
 obtain ⟨E1,R1,hlv⟩:=freeze_rel R id ho'
 have hcons:∀ j,(hl sx.h j=hl st.h j)→hl ((id,some { o with ro:=true })::sx.h) j=hl ((id,some { o with ro:=true })::st.h) j:=fun j hj=>by
  have e1:∀ h:Hp,hl ((id,some { o with ro:=true })::h) j=if id=j then some { o with ro:=true } else hl h j:=fun h=>by
   by_cases hj':id=j
   ·subst hj'; simp [hl,look]
   ·have:Nat.beq id j=false:=by cases hb:Nat.beq id j; rfl; exact absurd (Nat.eq_of_beq_eq_true hb) hj'
    simp [hl,look,this,hj']
  rw [e1,e1,hj]
 refine h N ops op hlow C E1 a w { sx with h:=(id,some { o with ro:=true })::sx.h } hN R1 hag (fun j hj => ?_) (fun j hf=>absurd hf (Nat.not_lt_zero _)) K Q (fun v' w' E' hR' hl'=>hK v' w' E' ?_ (fun k hk => ?_))
 ·by_cases hid:j=id
  ·subst hid; simp [hl,look]
  ·refine hcons j (hh j ?_)
   rcases hj with hj|hj
   ·exact .inl hj
   ·exact .inr (by simp only [List.map_append,List.mem_append]; exact .inl hj)
 ·simp only [St.appx,List.append_assoc,List.singleton_append] at hR' ⊢
  exact hR'
 ·rcases hl' k hk with h|h
  ·exact .inl ((hlv k).1 h)
  ·exact .inr h
section
variable {P:Program} {st:St} {d:Option Nat} {g:Option (Nat × Bool)}
theorem q_slice3 {sz:Nat} {x:Operand} {lo hi mx:Option Operand} {es:List (List AV)} {l h:Nat} (hg:gOK st g) (hx:ev st x=.sl sz es) (hl:bndA st lo 0 l) (hh:bndA st hi es.length h) (hm:bndA st mx 0 h∧mx.isSome=true∧hi.isSome=true) (h1:l≤h) (h2:h≤es.length) :
 Step P st ⟨⟨d,g,.slice sz x lo hi mx⟩,.sl sz ((es.drop l).take (h - l)),[],[],0⟩ :=
  step_val [] hg fun o C E ac w sx hlow R hr hh'=>by
 have hv:=hr x (by simp [AOp.opds])
 rw [hx] at hv
 obtain ⟨a,cap,vs,hv,hle,hnil,hmax,hat,h1s,hrd⟩:=hv
 have vint:∀ {y:Option Operand} {dflt z:Int},(∀ o,y=some o→o ∈ (AOp.slice sz x lo hi mx).opds)→bndA st y dflt z→(y=none∧z=dflt)∨(∃ k,y.map ac.eval=some (.int k z)):=fun {y dflt z} hy hb=>by
  cases y with
  | none=>exact .inl ⟨rfl,hb⟩
  | some o =>
    obtain ⟨k,hk⟩:=hb
    exact .inr ⟨k,by simp only [Option.map_some]; rw [lit_eval (hr o (hy o rfl)) hk]⟩
 obtain ⟨dst,o,ty,pos,after,guard⟩:=o
 obtain ⟨t,e,gg,rfl,het,hs⟩:=low_spec hlow
 have hlo:=vint (y:=lo) (fun o ho=>by subst ho; simp [AOp.opds,oL]) hl
 have hhi:=vint (y:=hi) (fun o ho=>by subst ho; simp [AOp.opds,oL]) hh
 obtain ⟨m,hmm,hhm,hmc,hmcap,hiso⟩:∃ m:Nat,(match mx.map ac.eval with|none=>m=cap|some v=>∃ k,v=.int k m∧m≤cap)∧h≤m∧(m=l→h=l)∧m≤cap∧((mx.map ac.eval).isSome=true→(hi.map ac.eval).isSome=true):=by
  obtain ⟨hb,h1',h2'⟩:=hm
  rcases vint (y:=mx) (fun o ho=>by subst ho; simp [AOp.opds,oL]) hb with ⟨h0,_⟩|⟨k,hk⟩
  ·rw [h0] at h1'; cases h1'
  ·exact ⟨h,by rw [hk]; exact ⟨k,rfl,by omega⟩,Nat.le_refl _,fun e=>e,by omega,fun _=>by simpa using h2'⟩
 have hrun:=sliceAt_run (P:=P) (w:=w) (a:=a) (len:=es.length) (cap:=cap) (lo:=lo.map ac.eval) (hi:=hi.map ac.eval) (mx:=mx.map ac.eval) (l:=l) (h:=h) (m:=m) (elemsOf_spec het) hs hmm
  (by rcases hhi with ⟨h0,e⟩|⟨k,hk⟩
      ·rw [h0]; simp only [Option.map_none]; omega
      ·rw [hk]; exact ⟨k,rfl⟩)
  (by rcases hlo with ⟨h0,e⟩|⟨k,hk⟩
      ·rw [h0]; simp only [Option.map_none]; omega
      ·rw [hk]; exact ⟨k,rfl⟩) h1 hhm (by omega) hiso
 have hlen:((es.drop l).take (h - l)).length=h - l:=by simp; omega
 refine ⟨.slice (if m=l then a else a.map (·.add (l * sz))) (h - l) (m - l),by simp only [execOp,hv,Sem.run_bind,hrun,Result.andThen_ok,Sem.run_pure],_,_,_,by rw [hlen],by omega,?_,by omega,hat.part hrd l h h1 h2 (fun e=>(hmc e.symm)),fun u hu=>h1s u (List.mem_of_mem_drop (List.mem_of_mem_take hu)),(hrd.drop l).take (h - l)⟩
 intro hn
 by_cases hml:m=l
 ·omega
 ·rw [if_neg hml] at hn
  have ha:a=none:=by cases a<;>simp at hn ⊢
  have:=hnil ha
  omega
end
section
variable {P:Program} {st:St} {d:Option Nat} {g:Option (Nat × Bool)}
theorem q_shr {x y:Operand} {k yk:IntKind} {a b:Int} (hg:gOK st g) (hx:ev st x=.lit (.int k a)) (hy:ev st y=.lit (.int yk b)) (h0:0≤b):Step P st ⟨⟨d,g,.bin .shr x y⟩,.lit (.int k (a.fdiv (2 ^ (min b.toNat k.bits)))),[],[],0⟩ :=
 step_val [] hg fun o C E ac w sx hlow R hr hh=>by
  have h1:=lit_eval (hr x (by simp [AOp.opds])) hx
  have h2:=lit_eval (hr y (by simp [AOp.opds])) hy
  obtain ⟨dst,o,ty,pos,after,guard⟩:=o
  obtain ⟨t,t2,rfl⟩:=low_spec hlow
  refine ⟨_,?_,rfl⟩
  have hb:(binOp .shr t (.int k a) (.int yk b)).run P w=.ok (.int k (a.fdiv (2 ^ (min b.toNat k.bits)))) w:=by
   simp [binOp,Op.shift,Int.not_lt.2 h0]
  simp only [execOp,h1,h2,Sem.run_bind,eqGuard_run,Result.andThen_ok,hb,Sem.run_pure]
theorem q_shl {x y:Operand} {k yk:IntKind} {a b:Int} (hg:gOK st g) (hx:ev st x=.lit (.int k a)) (hy:ev st y=.lit (.int yk b)) (h0:0≤b):Step P st ⟨⟨d,g,.bin .shl x y⟩,.lit (.int k (k.wrap (a * 2 ^ (min b.toNat k.bits)))),[],[],0⟩ :=
 step_val [] hg fun o C E ac w sx hlow R hr hh=>by
  have h1:=lit_eval (hr x (by simp [AOp.opds])) hx
  have h2:=lit_eval (hr y (by simp [AOp.opds])) hy
  obtain ⟨dst,o,ty,pos,after,guard⟩:=o
  obtain ⟨t,t2,rfl⟩:=low_spec hlow
  refine ⟨_,?_,rfl⟩
  have hb:(binOp .shl t (.int k a) (.int yk b)).run P w=.ok (.int k (k.wrap (a * 2 ^ (min b.toNat k.bits)))) w:=by
   simp [binOp,Op.shift,Int.not_lt.2 h0]
  simp only [execOp,h1,h2,Sem.run_bind,eqGuard_run,Result.andThen_ok,hb,Sem.run_pure]
end
section
variable {P:Program} {tt:List (Nat × AV)} {hh:Hp} {nn dd:Nat} {g:Option (Nat × Bool)} {l:List AInst} {acc:List SD} {K:List SD→St→Prop}
theorem r_callF {fo:Operand} {args:List Operand} {f:FuncId} {fi ca avs avs':List AV} {r:AV} (id:Nat) {o:OB} (rd:List Nat) (hc:ACalls P f avs' r) (h:RG P (⟨⟨some dd,g,.call fo args⟩,r,rd,[(id,some { o with ro:=true })],0⟩::acc) l ⟨(dd,r)::tt,(id,some { o with ro:=true })::hh,nn⟩ K) (hg:gOK ⟨tt,hh,nn⟩ g:=by first|exact True.intro|rfl) (hf:ev ⟨tt,hh,nn⟩ fo=.fn f fi ca:=by rfl) (ho:hl hh id=some o:=by rfl) (hv:optAll (viewN true (restr rd ((id,some { o with ro:=true })::hh)) 4) (fi++(args.map (ev ⟨tt,hh,nn⟩)++ca))=some avs:=by rfl) (hs:SubL avs avs':=by (repeat (first|exact SubL.nil|refine SubL.cons (by first|exact Sub.refl _|exact Sub.nil _|exact Sub.any _|(refine Sub.agg ?_; repeat (first|exact SubL.nil|refine SubL.cons (by first|exact Sub.refl _|exact Sub.nil _) ?_))) ?_))):RG P acc (⟨some dd,g,.call fo args⟩::l) ⟨tt,hh,nn⟩ K:=RG.step (Step.freeze (upd:=[]) id ho (q_call (st:=⟨tt,(id,some { o with ro:=true })::hh,nn⟩) true rd hg hf hv hs hc rfl)) h
theorem r_slice3 {sz:Nat} {x:Operand} {lo hi mx:Option Operand} {es:List (List AV)} (a b:Nat) (h1:a≤b) (h2:b≤es.length) (h:RG P (⟨⟨some dd,g,.slice sz x lo hi mx⟩,.sl sz ((es.drop a).take (b - a)),[],[],0⟩::acc) l ⟨(dd,.sl sz ((es.drop a).take (b - a)))::tt,hh,nn⟩ K)
 (hg:gOK ⟨tt,hh,nn⟩ g:=by first|exact True.intro|rfl) (hx:ev ⟨tt,hh,nn⟩ x=.sl sz es:=by rfl) (hl:bndA ⟨tt,hh,nn⟩ lo 0 a:=by first|rfl|exact ⟨_,rfl⟩) (hh':bndA ⟨tt,hh,nn⟩ hi es.length b:=by first|rfl|exact ⟨_,rfl⟩) (hm:bndA ⟨tt,hh,nn⟩ mx 0 b∧mx.isSome=true∧hi.isSome=true:=by exact ⟨⟨_,rfl⟩,rfl,rfl⟩) :
 RG P acc (⟨some dd,g,.slice sz x lo hi mx⟩::l) ⟨tt,hh,nn⟩ K:=RG.step (q_slice3 hg hx hl hh' hm h1 h2) h
theorem r_shr {x y:Operand} {k yk:IntKind} {a b:Int} (v:Int) (h:RG P (⟨⟨some dd,g,.bin .shr x y⟩,.lit (.int k v),[],[],0⟩::acc) l ⟨(dd,.lit (.int k v))::tt,hh,nn⟩ K)
 (hg:gOK ⟨tt,hh,nn⟩ g:=by first|exact True.intro|rfl) (hx:ev ⟨tt,hh,nn⟩ x=.lit (.int k a):=by rfl) (hy:ev ⟨tt,hh,nn⟩ y=.lit (.int yk b):=by rfl) (h0:0≤b:=by omega) (hv:a.fdiv (2 ^ (min b.toNat k.bits))=v:=by rfl) :
 RG P acc (⟨some dd,g,.bin .shr x y⟩::l) ⟨tt,hh,nn⟩ K:=by subst hv; exact RG.step (q_shr hg hx hy h0) h
theorem r_shl {x y:Operand} {k yk:IntKind} {a b:Int} (v:Int) (h:RG P (⟨⟨some dd,g,.bin .shl x y⟩,.lit (.int k v),[],[],0⟩::acc) l ⟨(dd,.lit (.int k v))::tt,hh,nn⟩ K)
 (hg:gOK ⟨tt,hh,nn⟩ g:=by first|exact True.intro|rfl) (hx:ev ⟨tt,hh,nn⟩ x=.lit (.int k a):=by rfl) (hy:ev ⟨tt,hh,nn⟩ y=.lit (.int yk b):=by rfl) (h0:0≤b:=by omega) (hv:k.wrap (a * 2 ^ (min b.toNat k.bits))=v:=by rfl) :
 RG P acc (⟨some dd,g,.bin .shl x y⟩::l) ⟨tt,hh,nn⟩ K:=by subst hv; exact RG.step (q_shl hg hx hy h0) h
end
theorem u32_in (z:Int) (h1:0≤z) (h2:z≤4294967295):IntKind.u32.wrap z=z:=by
 simp only [IntKind.wrap,IntKind.bits,IntKind.signed]
 simp only [Bool.false_and,Bool.false_eq_true,if_false]
 exact Int.emod_eq_of_lt h1 (by omega)
structure Cut (es:List (List AV)) (a b:Nat) (es':List (List AV)):Prop where
 le:a≤b
 len:b≤es.length
 eq:(es.drop a).take (b - a)=es'
theorem Cut.ints {k:IntKind} {s:List Int} {a b:Nat} (h1:a≤b) (h2:b≤s.length):Cut (intsA k s) a b (intsA k ((s.drop a).take (b - a))) :=
 ⟨h1,by simpa [intsA] using h2,by simp [intsA,List.map_take,List.map_drop]⟩
theorem Cut.upto {k:IntKind} {s:List Int} {b:Nat} (h2:b≤s.length):Cut (intsA k s) 0 b (intsA k (s.take b)) :=
 ⟨Nat.zero_le _,by simpa [intsA] using h2,by simp [intsA,List.map_take]⟩
theorem Cut.from {k:IntKind} {s:List Int} {a:Nat} (h2:a≤s.length):Cut (intsA k s) a (intsA k s).length (intsA k (s.drop a)) :=
 ⟨by simpa [intsA] using h2,Nat.le_refl _,by
  rw [List.take_of_length_le (by simp)]; simp [intsA,List.map_drop]⟩
theorem Cut.map {α:Type} {f:α→List AV} {s:List α} {a b:Nat} (h1:a≤b) (h2:b≤s.length):Cut (s.map f) a b (((s.drop a).take (b - a)).map f) :=
 ⟨h1,by simpa using h2,by simp [List.map_take,List.map_drop]⟩
section
variable {P:Program} {tt:List (Nat × AV)} {hh:Hp} {nn dd:Nat} {g:Option (Nat × Bool)} {l:List AInst} {acc acc':List SD} {l':List AInst} {st':St}
theorem s_sliceC {sz:Nat} {x:Operand} {lo hi:Option Operand} {es es':List (List AV)} {a b:Nat} (hg:gOK ⟨tt,hh,nn⟩ g) (hx:ev ⟨tt,hh,nn⟩ x=.sl sz es) (hl:bndA ⟨tt,hh,nn⟩ lo 0 a) (hh':bndA ⟨tt,hh,nn⟩ hi es.length b) (hc:Cut es a b es')
 (h:Runs P (⟨⟨some dd,g,.slice sz x lo hi none⟩,.sl sz es',[],[],0⟩::acc) l ⟨(dd,.sl sz es')::tt,hh,nn⟩ acc' l' st'):Runs P acc (⟨some dd,g,.slice sz x lo hi none⟩::l) ⟨tt,hh,nn⟩ acc' l' st':=Runs.step' ((q_slice hg hx hl hh' (.inl rfl) hc.le hc.len).cast (by rw [hc.eq])) h
end
theorem q_eqvL {P:Program} {st:St} {d:Option Nat} {g:Option (Nat × Bool)} {t e:TypeId} {x y:Operand} {sz:Nat} {es:List (List AV)} (hu:P.underlying t=some (.slice e)) (hg:gOK st g) (hx:ev st x=.sl sz es) (hn:0<es.length) (hy:ev st y=.lit (.slice none 0 0)):Step P st ⟨⟨d,g,.eqv t false x y⟩,.lit (.bool false),[],[],0⟩ :=
 step_val [] hg fun o C E ac w sx hlow R hr hh=>by
  have h1:=hr x (by simp [AOp.opds])
  rw [hx] at h1
  obtain ⟨a,cap,vs,h1,hle,hnil,_⟩:=h1
  have h2:=lit_eval (hr y (by simp [AOp.opds])) hy
  have ha:a.isNone=false:=by
   cases a with
   | none=>have:=hnil rfl; omega
   | some a=>rfl
  obtain ⟨dst,o,ty,pos,after,guard⟩:=o
  obtain ⟨t2,rfl⟩:=low_spec hlow
  refine ⟨.bool a.isNone,?_,by rw [ha]; rfl⟩
  have hq:(eqGuard .eql t x y (.slice a es.length cap) (.slice none 0 0)).run P w=.ok () w:=rfl
  simp only [execOp,h1,h2,Sem.run_bind,cond_false,hq,Result.andThen_ok,eqvS_run hu,Sem.run_pure]
section
variable {P:Program} {tt:List (Nat × AV)} {hh:Hp} {nn dd:Nat} {g:Option (Nat × Bool)} {l:List AInst} {acc acc':List SD} {l':List AInst} {st':St}
theorem s_eqvL {t e:TypeId} {x y:Operand} {sz:Nat} {es:List (List AV)} (hg:gOK ⟨tt,hh,nn⟩ g) (hx:ev ⟨tt,hh,nn⟩ x=.sl sz es) (hy:ev ⟨tt,hh,nn⟩ y=.lit (.slice none 0 0)) (hu:P.underlying t=some (.slice e)) (hn:0<es.length) (h:Runs P (⟨⟨some dd,g,.eqv t false x y⟩,.lit (.bool false),[],[],0⟩::acc) l ⟨(dd,.lit (.bool false))::tt,hh,nn⟩ acc' l' st'):Runs P acc (⟨some dd,g,.eqv t false x y⟩::l) ⟨tt,hh,nn⟩ acc' l' st':=Runs.step' (q_eqvL hu hg hx hn hy) h
end
def gUn (st:St):Option (Nat × Bool)→Prop
 | none=>False
 | some (t,b)=>st.get t=.lit undef
theorem yielded_undef {ops:Array Oper} {tmps:Array Value} {j t:Nat} (h:(ops[j]?).bind (·.dst)=some t) (hb:tmps.getD t undef=undef):yielded ops tmps j=none:=by
 unfold yielded
 rw [h]
 simp only [Option.bind_some]
 rw [Array.getD_eq_getD_getElem?] at hb
 cases ht:tmps[t]? with
 | none=>rfl
 | some v=>rw [ht] at hb; simp at hb; subst hb; rfl
theorem step_noU {P:Program} {st:St} {i:AInst} (hg:gNo st i.g∨gUn st i.g):Step P st ⟨i,.lit undef,[],[],0⟩:=by
 intro N ops o hlow C E a w sx hN R hag hh hnw K Q hK
 have hw:Region.wanted o (yielded ops a.tmps)=false:=by
  rcases hg with hg|hg
  ·exact unwanted_of hlow R hag hg
  ·obtain ⟨h1,h2,h3,h4⟩:=lower_parts hlow
   unfold Region.wanted
   cases ho:o.guard with
   | none=>rw [ho] at h4; rw [show i.g=none from h4] at hg; exact hg.elim
   | some p =>
     obtain ⟨j,b⟩:=p
     rw [ho] at h4
     obtain ⟨t,ht,e⟩:=h4
     rw [e] at hg
     have:=R.tm t
     rw [hag t (mem_reads_g e),show st.get t=.lit undef from hg] at this
     simp only [yielded_undef ht this]
     cases b<;>rfl
 rw [if_neg (by rw [hw]; exact Bool.false_ne_true)]
 obtain ⟨h1,h2,h3,h4⟩:=lower_parts hlow
 refine hK undef w E ?_ (fun id h=>.inl h)
 have:=R.put (d:=o.dst) (fun k hk=>by rw [hN]; exact h2 k hk) (v:=.lit undef) (u:=undef) rfl
 simp only [St.appx,List.nil_append]
 rw [h1]
 exact this
section
variable {P:Program} {tt:List (Nat × AV)} {hh:Hp} {nn dd:Nat} {g:Option (Nat × Bool)} {l:List AInst} {acc acc':List SD} {l':List AInst} {st':St}
theorem s_noA {o:AOp} (hg:gNo ⟨tt,hh,nn⟩ g) (h:Runs P (⟨⟨some dd,g,o⟩,.lit undef,[],[],0⟩::acc) l ⟨(dd,.lit undef)::tt,hh,nn⟩ acc' l' st'):Runs P acc (⟨some dd,g,o⟩::l) ⟨tt,hh,nn⟩ acc' l' st':=Runs.step' (step_noU (.inl hg)) h
theorem s_noB {o:AOp} (hg:gUn ⟨tt,hh,nn⟩ g) (h:Runs P (⟨⟨some dd,g,o⟩,.lit undef,[],[],0⟩::acc) l ⟨(dd,.lit undef)::tt,hh,nn⟩ acc' l' st'):Runs P acc (⟨some dd,g,o⟩::l) ⟨tt,hh,nn⟩ acc' l' st':=Runs.step' (step_noU (.inr hg)) h
end
def refsA (h:Hp) (avs:List AV):List Nat:=avs.flatMap (refsN h 4)
theorem mm_run {P:Program} {w:World} {ρ:Operand→Value} {mx:Bool} {x y:Operand} {ts:Array TypeId} {dst:Option Tmp} {ty:TypeId} {pos:String} {after:Array Edge} {guard:Option (Nat × Bool)} {k:IntKind} {a b:Int} (hx:ρ x=.int k a) (hy:ρ y=.int k b) :
 (execOp ρ ⟨dst,.call { callee:=.builtin (bif mx then .max else .min),args := #[x,y],argTypes:=ts },ty,pos,after,guard⟩).run P w=.ok (.value (.int k (bif mx then (if b > a then b else a) else (if b<a then b else a)))) w:=by
 have h1:=Go.run_max_int2 (P:=P) (w:=w) ts ty k k a b
 have h2:=Go.run_min_int2 (P:=P) (w:=w) ts ty k k a b
 cases mx<;>simp only [execOp,resolve,Sem.run_bind,Sem.run_pure,Result.andThen_ok,invoke,builtin,List.map_toArray,List.map_cons,List.map_nil,hx,hy,cond_true,cond_false,h1,h2]
theorem q_mm {P:Program} {st:St} {d:Option Nat} {g:Option (Nat × Bool)} {mx:Bool} {x y:Operand} {k:IntKind} {a b:Int} (hg:gOK st g) (hx:ev st x=.lit (.int k a)) (hy:ev st y=.lit (.int k b)):Step P st ⟨⟨d,g,.mm mx x y⟩,.lit (.int k (bif mx then (if b > a then b else a) else (if b<a then b else a))),[],[],0⟩ :=
 step_val [] hg fun o C E ac w sx hlow R hr hh=>by
  have h1:=lit_eval (hr x (by simp [AOp.opds])) hx
  have h2:=lit_eval (hr y (by simp [AOp.opds])) hy
  obtain ⟨dst,o,ty,pos,after,guard⟩:=o
  obtain ⟨t,rfl⟩:=low_spec hlow
  exact ⟨_,mm_run h1 h2,rfl⟩
theorem q_mx3 {P:Program} {st:St} {d:Option Nat} {g:Option (Nat × Bool)} {x y z:Operand} {k:IntKind} {a b c:Int} (hg:gOK st g) (hx:ev st x=.lit (.int k a)) (hy:ev st y=.lit (.int k b)) (hz:ev st z=.lit (.int k c)):Step P st ⟨⟨d,g,.mx3 x y z⟩,.lit (.int k (if c > (if b > a then b else a) then c else (if b > a then b else a))),[],[],0⟩ :=
 step_val [] hg fun o C E ac w sx hlow R hr hh=>by
  have h1:=lit_eval (hr x (by simp [AOp.opds])) hx
  have h2:=lit_eval (hr y (by simp [AOp.opds])) hy
  have h3:=lit_eval (hr z (by simp [AOp.opds])) hz
  obtain ⟨dst,o,ty,pos,after,guard⟩:=o
  obtain ⟨t,rfl⟩:=low_spec hlow
  have h4:=Go.run_max_int3 (P:=P) (w:=w) t ty k k k a b c
  exact ⟨_,by simp only [execOp,resolve,Sem.run_bind,Sem.run_pure,Result.andThen_ok,invoke,builtin,List.map_toArray,List.map_cons,List.map_nil,h1,h2,h3,h4],rfl⟩
section
variable {P:Program} {tt:List (Nat × AV)} {hh:Hp} {nn dd:Nat} {g:Option (Nat × Bool)} {l:List AInst} {acc acc':List SD} {l':List AInst} {st':St}
theorem s_mx3 {x y z:Operand} {k:IntKind} {a b c v:Int} (hg:gOK ⟨tt,hh,nn⟩ g) (hx:ev ⟨tt,hh,nn⟩ x=.lit (.int k a)) (hy:ev ⟨tt,hh,nn⟩ y=.lit (.int k b)) (hz:ev ⟨tt,hh,nn⟩ z=.lit (.int k c)) (hv:max (max a b) c=v) (h:Runs P (⟨⟨some dd,g,.mx3 x y z⟩,.lit (.int k v),[],[],0⟩::acc) l ⟨(dd,.lit (.int k v))::tt,hh,nn⟩ acc' l' st'):Runs P acc (⟨some dd,g,.mx3 x y z⟩::l) ⟨tt,hh,nn⟩ acc' l' st' :=
 Runs.step' ((q_mx3 hg hx hy hz).cast (by subst hv; congr 2; (repeat' split)<;>omega)) h
theorem s_callF {fo:Operand} {args:List Operand} {f:FuncId} {fi ca avs avs':List AV} {r:AV} {id:Nat} {o:OB} (hg:gOK ⟨tt,hh,nn⟩ g) (hf:ev ⟨tt,hh,nn⟩ fo=.fn f fi ca) (hid:refsA hh (args.map (ev ⟨tt,hh,nn⟩))=[id]) (ho:hl hh id=some o)
 (hv:optAll (viewN true (restr [id] ((id,some { o with ro:=true })::hh)) 4) (fi++(args.map (ev ⟨tt,hh,nn⟩)++ca))=some avs) (hc:ACalls P f avs' r) (hs:SubL avs avs') (h:Runs P (⟨⟨some dd,g,.call fo args⟩,r,[id],[(id,some { o with ro:=true })],0⟩::acc) l ⟨(dd,r)::tt,(id,some { o with ro:=true })::hh,nn⟩ acc' l' st'):Runs P acc (⟨some dd,g,.call fo args⟩::l) ⟨tt,hh,nn⟩ acc' l' st' :=
  Runs.step' (Step.freeze (upd:=[]) id ho (q_call (st:=⟨tt,(id,some { o with ro:=true })::hh,nn⟩) true [id] hg hf hv hs hc rfl)) h
end
section
variable {P:Program} {tt:List (Nat × AV)} {hh:Hp} {nn dd:Nat} {g:Option (Nat × Bool)} {l:List AInst} {acc acc':List SD} {l':List AInst} {st':St}
theorem s_callA {fo:Operand} {args:List Operand} {f:FuncId} {fi ca avs:List AV} {r:AV} (hg:gOK ⟨tt,hh,nn⟩ g) (hf:ev ⟨tt,hh,nn⟩ fo=.fn f fi ca) (hv:optAll (viewN true (restr [] hh) 4) (fi++(args.map (ev ⟨tt,hh,nn⟩)++ca))=some avs) (hc:ACalls P f avs r) (h:Runs P (⟨⟨some dd,g,.call fo args⟩,r,[],[],0⟩::acc) l ⟨(dd,r)::tt,hh,nn⟩ acc' l' st'):Runs P acc (⟨some dd,g,.call fo args⟩::l) ⟨tt,hh,nn⟩ acc' l' st':=s_call true [] hg hf hv hc (SubL.refl _) rfl h
theorem s_callS {fo:Operand} {args:List Operand} {f:FuncId} {fi ca avs avs':List AV} {r:AV} (hg:gOK ⟨tt,hh,nn⟩ g) (hf:ev ⟨tt,hh,nn⟩ fo=.fn f fi ca) (hv:optAll (viewN true (restr [] hh) 4) (fi++(args.map (ev ⟨tt,hh,nn⟩)++ca))=some avs) (hc:ACalls P f avs' r) (hs:SubL avs avs') (h:Runs P (⟨⟨some dd,g,.call fo args⟩,r,[],[],0⟩::acc) l ⟨(dd,r)::tt,hh,nn⟩ acc' l' st'):Runs P acc (⟨some dd,g,.call fo args⟩::l) ⟨tt,hh,nn⟩ acc' l' st':=s_call true [] hg hf hv hc hs rfl h
theorem s_callB {fo:Operand} {args:List Operand} {f:FuncId} {fi ca avs:List AV} {r:AV} (hg:gOK ⟨tt,hh,nn⟩ g) (hf:ev ⟨tt,hh,nn⟩ fo=.fn f fi ca) (hv:optAll (viewN false (restr (refsA hh (args.map (ev ⟨tt,hh,nn⟩))) hh) 4) (fi++(args.map (ev ⟨tt,hh,nn⟩)++ca))=some avs) (hc:ACalls P f avs r) (hr:scal r=true) (h:Runs P (⟨⟨some dd,g,.call fo args⟩,r,refsA hh (args.map (ev ⟨tt,hh,nn⟩)),[],0⟩::acc) l ⟨(dd,r)::tt,hh,nn⟩ acc' l' st'):Runs P acc (⟨some dd,g,.call fo args⟩::l) ⟨tt,hh,nn⟩ acc' l' st':=s_call false _ hg hf hv hc (SubL.refl _) hr h
theorem s_callR {fo:Operand} {args:List Operand} {f:FuncId} {fi ca avs:List AV} {r:AV} (hg:gOK ⟨tt,hh,nn⟩ g) (hf:ev ⟨tt,hh,nn⟩ fo=.fn f fi ca) (hv:optAll (viewN true (restr (refsA hh (args.map (ev ⟨tt,hh,nn⟩))) hh) 4) (fi++(args.map (ev ⟨tt,hh,nn⟩)++ca))=some avs) (hc:ACalls P f avs r) (h:Runs P (⟨⟨some dd,g,.call fo args⟩,r,refsA hh (args.map (ev ⟨tt,hh,nn⟩)),[],0⟩::acc) l ⟨(dd,r)::tt,hh,nn⟩ acc' l' st'):Runs P acc (⟨some dd,g,.call fo args⟩::l) ⟨tt,hh,nn⟩ acc' l' st':=s_call true _ hg hf hv hc (SubL.refl _) rfl h
theorem s_addU64 {x y:Operand} {a b:Int} (hg:gOK ⟨tt,hh,nn⟩ g) (hx:ev ⟨tt,hh,nn⟩ x=.lit (.int .u64 a)) (hy:ev ⟨tt,hh,nn⟩ y=.lit (.int .u64 b)) (h1:0≤a+b) (h2:a+b≤18446744073709551615) (h:Runs P (⟨⟨some dd,g,.bin .add x y⟩,.lit (.int .u64 (a+b)),[],[],0⟩::acc) l ⟨(dd,.lit (.int .u64 (a+b)))::tt,hh,nn⟩ acc' l' st'):Runs P acc (⟨some dd,g,.bin .add x y⟩::l) ⟨tt,hh,nn⟩ acc' l' st':=Runs.step' ((q_int hg hx hy rfl).cast (congrArg (fun n=>AV.lit (.int .u64 n)) (IntWalk.u64_in _ (by omega)))) h
theorem s_subU64 {x y:Operand} {a b:Int} (hg:gOK ⟨tt,hh,nn⟩ g) (hx:ev ⟨tt,hh,nn⟩ x=.lit (.int .u64 a)) (hy:ev ⟨tt,hh,nn⟩ y=.lit (.int .u64 b)) (h1:0≤a - b) (h2:a - b≤18446744073709551615) (h:Runs P (⟨⟨some dd,g,.bin .sub x y⟩,.lit (.int .u64 (a - b)),[],[],0⟩::acc) l ⟨(dd,.lit (.int .u64 (a - b)))::tt,hh,nn⟩ acc' l' st'):Runs P acc (⟨some dd,g,.bin .sub x y⟩::l) ⟨tt,hh,nn⟩ acc' l' st':=Runs.step' ((q_int hg hx hy rfl).cast (congrArg (fun n=>AV.lit (.int .u64 n)) (IntWalk.u64_in _ (by omega)))) h
theorem s_mulU64 {x y:Operand} {a b:Int} (hg:gOK ⟨tt,hh,nn⟩ g) (hx:ev ⟨tt,hh,nn⟩ x=.lit (.int .u64 a)) (hy:ev ⟨tt,hh,nn⟩ y=.lit (.int .u64 b)) (h1:0≤a * b) (h2:a * b≤18446744073709551615) (h:Runs P (⟨⟨some dd,g,.bin .mul x y⟩,.lit (.int .u64 (a * b)),[],[],0⟩::acc) l ⟨(dd,.lit (.int .u64 (a * b)))::tt,hh,nn⟩ acc' l' st'):Runs P acc (⟨some dd,g,.bin .mul x y⟩::l) ⟨tt,hh,nn⟩ acc' l' st':=Runs.step' ((q_int hg hx hy rfl).cast (congrArg (fun n=>AV.lit (.int .u64 n)) (IntWalk.u64_in _ ⟨h1,h2⟩))) h
theorem s_divU64 {x y:Operand} {a b:Int} (hg:gOK ⟨tt,hh,nn⟩ g) (hx:ev ⟨tt,hh,nn⟩ x=.lit (.int .u64 a)) (hy:ev ⟨tt,hh,nn⟩ y=.lit (.int .u64 b)) (h0:0≤a) (h1:a≤18446744073709551615) (h2:0<b) (h:Runs P (⟨⟨some dd,g,.bin .quo x y⟩,.lit (.int .u64 (a / b)),[],[],0⟩::acc) l ⟨(dd,.lit (.int .u64 (a / b)))::tt,hh,nn⟩ acc' l' st'):Runs P acc (⟨some dd,g,.bin .quo x y⟩::l) ⟨tt,hh,nn⟩ acc' l' st':=Runs.step' ((q_div hg hx hy (by omega)).cast (congrArg (fun n=>AV.lit (.int .u64 n)) (by rw [Int.tdiv_eq_ediv_of_nonneg h0]; exact IntWalk.u64_in _ ⟨Int.ediv_nonneg h0 (by omega),Int.le_trans (Int.ediv_le_self _ h0) h1⟩))) h
theorem s_divI64 {x y:Operand} {a b:Int} (hg:gOK ⟨tt,hh,nn⟩ g) (hx:ev ⟨tt,hh,nn⟩ x=.lit (.int .i64 a)) (hy:ev ⟨tt,hh,nn⟩ y=.lit (.int .i64 b)) (h0:0≤a) (h1:a≤9223372036854775807) (h2:0<b) (h:Runs P (⟨⟨some dd,g,.bin .quo x y⟩,.lit (.int .i64 (a / b)),[],[],0⟩::acc) l ⟨(dd,.lit (.int .i64 (a / b)))::tt,hh,nn⟩ acc' l' st'):Runs P acc (⟨some dd,g,.bin .quo x y⟩::l) ⟨tt,hh,nn⟩ acc' l' st':=Runs.step' ((q_div hg hx hy (by omega)).cast (congrArg (fun n=>AV.lit (.int .i64 n)) (by rw [Int.tdiv_eq_ediv_of_nonneg h0]; exact IntWalk.i64_in _ ⟨Int.le_trans (by omega) (Int.ediv_nonneg h0 (by omega)),Int.le_trans (Int.ediv_le_self _ h0) h1⟩))) h
theorem s_remP {x y:Operand} {k:IntKind} {a b:Int} (hg:gOK ⟨tt,hh,nn⟩ g) (hx:ev ⟨tt,hh,nn⟩ x=.lit (.int k a)) (hy:ev ⟨tt,hh,nn⟩ y=.lit (.int k b)) (h0:0≤a) (h2:0<b) (h:Runs P (⟨⟨some dd,g,.bin .rem x y⟩,.lit (.int k (a % b)),[],[],0⟩::acc) l ⟨(dd,.lit (.int k (a % b)))::tt,hh,nn⟩ acc' l' st'):Runs P acc (⟨some dd,g,.bin .rem x y⟩::l) ⟨tt,hh,nn⟩ acc' l' st':=Runs.step' ((q_rem hg hx hy (by omega)).cast (congrArg (fun n=>AV.lit (.int k n)) (Int.tmod_eq_emod_of_nonneg h0))) h
theorem s_convU64 {x:Operand} {k0:IntKind} {a:Int} (hg:gOK ⟨tt,hh,nn⟩ g) (hx:ev ⟨tt,hh,nn⟩ x=.lit (.int k0 a)) (h1:0≤a) (h2:a≤18446744073709551615) (h:Runs P (⟨⟨some dd,g,.conv .u64 x⟩,.lit (.int .u64 a),[],[],0⟩::acc) l ⟨(dd,.lit (.int .u64 a))::tt,hh,nn⟩ acc' l' st'):Runs P acc (⟨some dd,g,.conv .u64 x⟩::l) ⟨tt,hh,nn⟩ acc' l' st':=Runs.step' ((q_conv hg hx).cast (congrArg (fun n=>AV.lit (.int .u64 n)) (IntWalk.u64_in _ ⟨h1,h2⟩))) h
theorem s_convU32 {x:Operand} {k0:IntKind} {a:Int} (hg:gOK ⟨tt,hh,nn⟩ g) (hx:ev ⟨tt,hh,nn⟩ x=.lit (.int k0 a)) (h1:0≤a) (h2:a≤4294967295) (h:Runs P (⟨⟨some dd,g,.conv .u32 x⟩,.lit (.int .u32 a),[],[],0⟩::acc) l ⟨(dd,.lit (.int .u32 a))::tt,hh,nn⟩ acc' l' st'):Runs P acc (⟨some dd,g,.conv .u32 x⟩::l) ⟨tt,hh,nn⟩ acc' l' st':=Runs.step' ((q_conv hg hx).cast (congrArg (fun n=>AV.lit (.int .u32 n)) (u32_in _ h1 h2))) h
theorem s_storeRR {n id i off:Nat} {p x:Operand} {ob:OB} {av av':AV} {e cs cs':List AV} (hg:gOK ⟨tt,hh,nn⟩ g) (hp:ev ⟨tt,hh,nn⟩ p=.optr id i off) (ho:hl hh id=some ob) (hrow:ob.row=true) (hro:ob.ro=false) (he:ob.es[i]? = some e) (hx:ev ⟨tt,hh,nn⟩ x=av) (hv:viewN true (restr (refsA hh [av]) hh) 4 av=some av') (hc:cellsA av'=some cs) (hpu:mapL (fun _=>none) cs=some cs') (hn:cs.length=n) (hle:Nat.ble (off+n) e.length=true) (h:Runs P (⟨⟨none,g,.store n p x⟩,.any,refsA hh [av],[(id,some { ob with es:=ob.es.set i (e.take off++(cs'++e.drop (off+n))) })],0⟩::acc) l ⟨tt,(id,some { ob with es:=ob.es.set i (e.take off++(cs'++e.drop (off+n))) })::hh,nn⟩ acc' l' st'):Runs P acc (⟨none,g,.store n p x⟩::l) ⟨tt,hh,nn⟩ acc' l' st':=s_storeR _ hg hp ho hrow hro he hx hv hc hpu hn hle h
theorem s_appendR {e:TypeId} {sz by_ id:Nat} {z:List Value} {s x:Operand} {ob:OB} {av:AV} {news:List (List AV)} (hg:gOK ⟨tt,hh,nn⟩ g) (hs:ev ⟨tt,hh,nn⟩ s=.own id) (ho:hl hh id=some ob) (hr:ob.row=true) (hro:ob.ro=false) (hsz:ob.sz=sz) (he:ob.e=e) (hx:ev ⟨tt,hh,nn⟩ x=av) (hn:srcA (restr (refsA hh [av]) hh) sz av=some news) (hb:(ob.es.length+news.length) * by_≤140737488355328) (h:Runs P (⟨⟨some dd,g,.append e sz by_ z s x⟩,.own nn,refsA hh [av],[(nn,some ⟨true,false,e,sz,ob.es++news⟩),(id,none)],1⟩::acc) l ⟨(dd,.own nn)::tt,(nn,some ⟨true,false,e,sz,ob.es++news⟩)::(id,none)::hh,nn+1⟩ acc' l' st'):Runs P acc (⟨some dd,g,.append e sz by_ z s x⟩::l) ⟨tt,hh,nn⟩ acc' l' st':=s_append _ hg hs ho hr hro hsz he hx hn hb h
end
theorem rrun2 {P:Program} {acc:List SD} {l:List AInst} {st:St} {acc':List SD} {l':List AInst} {st':St} {K:List SD→St→Prop} (h:RG P acc' l' st' K) (hR:Runs P acc l st acc' l' st':=by
 ((repeat (first
   | apply s_movL (by first|exact True.intro|rfl) (by exact rfl)
   | apply s_movS (by first|exact True.intro|rfl) (by exact rfl)
   | apply s_movA (by first|exact True.intro|rfl) (by exact rfl)
   | apply s_movO (by first|exact True.intro|rfl) (by exact rfl)
   | apply s_movP (by first|exact True.intro|rfl) (by exact rfl)
   | apply s_movE (by first|exact True.intro|rfl) (by exact rfl)
   | apply s_movT (by first|exact True.intro|rfl) (by exact rfl)
   | apply s_movF (by first|exact True.intro|rfl) (by exact rfl)
   | apply s_movX (by first|exact True.intro|rfl) (by exact rfl)
   | apply s_noA (by exact rfl)
   | apply s_noB (by exact rfl)
   | apply s_noC (by exact rfl)
   | apply s_no (by exact rfl)
   | apply s_noN (by exact rfl)
   | apply s_add64 (by first|exact True.intro|rfl) (by exact rfl) (by exact rfl) (by omega) (by omega)
   | apply s_sub64 (by first|exact True.intro|rfl) (by exact rfl) (by exact rfl) (by omega) (by omega)
   | apply s_ltT (by first|exact True.intro|rfl) (by exact rfl) (by exact rfl) (by omega)
   | apply s_ltF (by first|exact True.intro|rfl) (by exact rfl) (by exact rfl) (by omega)
   | apply s_leT (by first|exact True.intro|rfl) (by exact rfl) (by exact rfl) (by omega)
   | apply s_leF (by first|exact True.intro|rfl) (by exact rfl) (by exact rfl) (by omega)
   | apply s_gtT (by first|exact True.intro|rfl) (by exact rfl) (by exact rfl) (by omega)
   | apply s_gtF (by first|exact True.intro|rfl) (by exact rfl) (by exact rfl) (by omega)
   | apply s_geT (by first|exact True.intro|rfl) (by exact rfl) (by exact rfl) (by omega)
   | apply s_geF (by first|exact True.intro|rfl) (by exact rfl) (by exact rfl) (by omega)
   | apply s_eqT (by first|exact True.intro|rfl) (by exact rfl) (by exact rfl) (by omega)
   | apply s_eqF (by first|exact True.intro|rfl) (by exact rfl) (by exact rfl) (by omega)
   | apply s_neT (by first|exact True.intro|rfl) (by exact rfl) (by exact rfl) (by omega)
   | apply s_neF (by first|exact True.intro|rfl) (by exact rfl) (by exact rfl) (by omega)
   | apply s_addU64 (by first|exact True.intro|rfl) (by exact rfl) (by exact rfl) (by omega) (by omega)
   | apply s_subU64 (by first|exact True.intro|rfl) (by exact rfl) (by exact rfl) (by omega) (by omega)
   | apply s_mulU64 (by first|exact True.intro|rfl) (by exact rfl) (by exact rfl) (by omega) (by omega)
   | apply s_divU64 (by first|exact True.intro|rfl) (by exact rfl) (by exact rfl) (by omega) (by omega) (by omega)
   | apply s_addU32 (by first|exact True.intro|rfl) (by exact rfl) (by exact rfl) (by omega) (by omega)
   | apply s_divI64 (by first|exact True.intro|rfl) (by exact rfl) (by exact rfl) (by omega) (by omega) (by omega)
   | apply s_remP (by first|exact True.intro|rfl) (by exact rfl) (by exact rfl) (by omega) (by omega)
   | apply s_mul64 (by first|exact True.intro|rfl) (by exact rfl) (by exact rfl) (by first|assumption|omega)
   | apply s_convU64 (by first|exact True.intro|rfl) (by exact rfl) (by omega) (by omega)
   | apply s_convU32 (by first|exact True.intro|rfl) (by exact rfl) (by omega) (by omega)
   | apply s_int (by first|exact True.intro|rfl) (by exact rfl) (by exact rfl) (by exact rfl)
   | apply s_div (by first|exact True.intro|rfl) (by exact rfl) (by exact rfl) (by omega)
   | apply s_rem (by first|exact True.intro|rfl) (by exact rfl) (by exact rfl) (by omega)
   | apply s_bool (by first|exact True.intro|rfl) (by exact rfl) (by exact rfl) (by exact rfl)
   | apply s_notT (by first|exact True.intro|rfl) (by exact rfl)
   | apply s_notF (by first|exact True.intro|rfl) (by exact rfl)
   | apply s_not (by first|exact True.intro|rfl) (by exact rfl)
   | apply s_pickTL (by first|exact True.intro|rfl) (by exact rfl) (by exact rfl)
   | apply s_pickFL (by first|exact True.intro|rfl) (by exact rfl) (by exact rfl)
   | apply s_pickTS (by first|exact True.intro|rfl) (by exact rfl) (by exact rfl)
   | apply s_pickFS (by first|exact True.intro|rfl) (by exact rfl) (by exact rfl)
   | apply s_pickTA (by first|exact True.intro|rfl) (by exact rfl) (by exact rfl)
   | apply s_pickFA (by first|exact True.intro|rfl) (by exact rfl) (by exact rfl)
   | apply s_pickTO (by first|exact True.intro|rfl) (by exact rfl) (by exact rfl)
   | apply s_pickFO (by first|exact True.intro|rfl) (by exact rfl) (by exact rfl)
   | apply s_pickTP (by first|exact True.intro|rfl) (by exact rfl) (by exact rfl)
   | apply s_pickFP (by first|exact True.intro|rfl) (by exact rfl) (by exact rfl)
   | apply s_pickTE (by first|exact True.intro|rfl) (by exact rfl) (by exact rfl)
   | apply s_pickFE (by first|exact True.intro|rfl) (by exact rfl) (by exact rfl)
   | apply s_pickTT (by first|exact True.intro|rfl) (by exact rfl) (by exact rfl)
   | apply s_pickFT (by first|exact True.intro|rfl) (by exact rfl) (by exact rfl)
   | apply s_pickTF (by first|exact True.intro|rfl) (by exact rfl) (by exact rfl)
   | apply s_pickFF (by first|exact True.intro|rfl) (by exact rfl) (by exact rfl)
   | apply s_pickTX (by first|exact True.intro|rfl) (by exact rfl) (by exact rfl)
   | apply s_pickFX (by first|exact True.intro|rfl) (by exact rfl) (by exact rfl)
   | apply s_pickB (by first|exact True.intro|rfl) (by exact rfl) (by exact rfl) (by exact rfl)
   | apply s_conv64 (by first|exact True.intro|rfl) (by exact rfl) (by omega) (by omega)
   | apply s_conv (by first|exact True.intro|rfl) (by exact rfl)
   | apply s_faddr (by first|exact True.intro|rfl) (by exact rfl)
   | apply s_faddrE (by first|exact True.intro|rfl) (by exact rfl)
   | apply s_load1 (by first|exact True.intro|rfl) (by exact rfl) (by exact rfl) (by exact rfl) (by exact rfl)
   | apply s_loadA (by first|exact True.intro|rfl) (by exact rfl) (by exact rfl) (by exact rfl) (by exact rfl)
   | apply s_loadG (by first|exact True.intro|rfl) (by exact rfl) (by exact rfl) (by exact rfl) (by exact rfl)
   | apply s_loadE1 (by first|exact True.intro|rfl) (by exact rfl) (by first|assumption|rfl) (by exact rfl)
   | apply s_loadEA (by first|exact True.intro|rfl) (by exact rfl) (by first|assumption|rfl) (by exact rfl)
   | apply s_loadEG (by first|exact True.intro|rfl) (by exact rfl) (by first|assumption|rfl) (by exact rfl)
   | apply s_extract (by first|exact True.intro|rfl) (by exact rfl) (by exact rfl)
   | apply s_field1 (by first|exact True.intro|rfl) (by exact rfl) (by exact rfl)
   | apply s_fieldG (by first|exact True.intro|rfl) (by exact rfl) (by exact rfl)
   | apply s_len (by first|exact True.intro|rfl) (by exact rfl) (by first|assumption|rfl)
   | apply s_lenN (by first|exact True.intro|rfl) (by exact rfl)
   | apply s_lenO (by first|exact True.intro|rfl) (by exact rfl) (by exact rfl) (by exact rfl) (by first|assumption|rfl)
   | apply s_slen (by first|exact True.intro|rfl) (by exact rfl)
   | apply s_iaddr (by first|exact True.intro|rfl) (by exact rfl) (by exact rfl) (by omega) (by first|omega|assumption)
   | apply s_iaddrO (by first|exact True.intro|rfl) (by exact rfl) (by exact rfl) (by exact rfl) (by exact rfl) (by exact rfl) (by omega) (by first|omega|(dsimp only; omega))
   | apply s_nilckP (by first|exact True.intro|rfl) (by exact rfl)
   | apply s_nilckE (by first|exact True.intro|rfl) (by exact rfl)
   | apply s_nilckF (by first|exact True.intro|rfl) (by exact rfl)
   | apply s_mkfn (by first|exact True.intro|rfl)
   | apply s_alloc (by first|exact True.intro|rfl)
   | apply s_box (by first|exact True.intro|rfl) (by exact rfl) (by exact rfl) (by exact rfl)
   | apply s_build (by first|exact True.intro|rfl) (by exact rfl)
   | apply s_storeB (by first|exact True.intro|rfl) (by exact rfl) (by exact rfl) (by exact rfl) (by exact rfl) (by exact rfl) (by exact rfl) (by exact rfl) (by exact rfl) (by exact rfl) (by exact rfl)
   | apply s_callA (by first|exact True.intro|rfl) (by exact rfl) (by exact rfl) (by assumption)
   | apply s_callS (by first|exact True.intro|rfl) (by exact rfl) (by exact rfl) (by assumption) (by (repeat (first|exact SubL.nil|refine SubL.cons (by first|exact Sub.refl _|exact Sub.nil _|exact Sub.any _|(refine Sub.agg ?_; repeat (first|exact SubL.nil|refine SubL.cons (by first|exact Sub.refl _|exact Sub.nil _) ?_))) ?_)))
   | apply s_callB (by first|exact True.intro|rfl) (by exact rfl) (by exact rfl) (by assumption) (by exact rfl)
   | apply s_callR (by first|exact True.intro|rfl) (by exact rfl) (by exact rfl) (by assumption)
   | apply s_callF (by first|exact True.intro|rfl) (by exact rfl) (by exact rfl) (by exact rfl) (by exact rfl) (by assumption) (by (repeat (first|exact SubL.nil|refine SubL.cons (by first|exact Sub.refl _|exact Sub.nil _|exact Sub.any _|(refine Sub.agg ?_; repeat (first|exact SubL.nil|refine SubL.cons (by first|exact Sub.refl _|exact Sub.nil _) ?_))) ?_)))
   | apply s_min (by first|exact True.intro|rfl) (by exact rfl) (by exact rfl) (by first|exact .inl ⟨by omega,Eq.refl _⟩|exact .inr ⟨by omega,Eq.refl _⟩)
   | apply s_max (by first|exact True.intro|rfl) (by exact rfl) (by exact rfl) (by first|exact .inl ⟨by omega,Eq.refl _⟩|exact .inr ⟨by omega,Eq.refl _⟩)
   | apply s_cap (by first|exact True.intro|rfl) (by exact rfl)
   | apply s_mx3 (by first|exact True.intro|rfl) (by exact rfl) (by exact rfl) (by exact rfl) (by first|assumption|exact Eq.refl _)
   | apply s_storeR [] (by first|exact True.intro|rfl) (by exact rfl) (by exact rfl) (by exact rfl) (by exact rfl) (by first|assumption|rfl) (by exact rfl) (by exact rfl) (by exact rfl) (by exact rfl) (by exact rfl) (by exact rfl)
   | apply s_rowlit [] (by first|exact True.intro|rfl) (by exact rfl) (by exact rfl) (by exact rfl) (by exact rfl)
   | apply s_append [] (by first|exact True.intro|rfl) (by exact rfl) (by exact rfl) (by exact rfl) (by exact rfl) (by exact rfl) (by exact rfl) (by exact rfl) (by exact rfl) (by first|omega|assumption|(dsimp only; omega)|(simp only [List.length_append,List.length_cons,List.length_nil,List.length_map,List.length_replicate,List.length_take,List.length_drop,chunk,intsA]; omega))
   | apply s_appendN [] (by first|exact True.intro|rfl) (by exact rfl) (by exact rfl) (by exact rfl) (by first|omega|assumption|(dsimp only; omega)|(simp only [List.length_append,List.length_cons,List.length_nil,List.length_map,List.length_replicate,List.length_take,List.length_drop,chunk,intsA]; omega))
   | apply s_storeRR (by first|exact True.intro|rfl) (by exact rfl) (by exact rfl) (by exact rfl) (by exact rfl) (by first|assumption|rfl) (by exact rfl) (by exact rfl) (by exact rfl) (by exact rfl) (by exact rfl) (by exact rfl)
   | apply s_rowlitR (by first|exact True.intro|rfl) (by exact rfl) (by exact rfl) (by exact rfl) (by exact rfl)
   | apply s_appendR (by first|exact True.intro|rfl) (by exact rfl) (by exact rfl) (by exact rfl) (by exact rfl) (by exact rfl) (by exact rfl) (by exact rfl) (by exact rfl) (by first|omega|assumption|(dsimp only; omega)|(simp only [List.length_append,List.length_cons,List.length_nil,List.length_map,List.length_replicate,List.length_take,List.length_drop,chunk,intsA]; omega))
   | apply s_appendNR (by first|exact True.intro|rfl) (by exact rfl) (by exact rfl) (by exact rfl) (by first|omega|assumption|(dsimp only; omega)|(simp only [List.length_append,List.length_cons,List.length_nil,List.length_map,List.length_replicate,List.length_take,List.length_drop,chunk,intsA]; omega))
   | apply s_sliceC (by first|exact True.intro|rfl) (by exact rfl) (by first|exact Eq.refl _|exact ⟨_,Eq.refl _⟩) (by first|exact Eq.refl _|exact ⟨_,Eq.refl _⟩) (by assumption)
   | apply s_iaddrO (by first|exact True.intro|rfl) (by exact rfl) (by exact rfl) (by exact rfl) (by exact rfl) (by exact rfl) (by omega) (by simp only [List.length_set,List.length_append,List.length_cons,List.length_nil,List.length_replicate]; omega)
   | apply s_load1 (by first|exact True.intro|rfl) (by exact rfl) (by exact rfl) (by assumption) (by exact rfl)
   | apply s_loadA (by first|exact True.intro|rfl) (by exact rfl) (by exact rfl) (by assumption) (by exact rfl)
   | apply s_loadG (by first|exact True.intro|rfl) (by exact rfl) (by exact rfl) (by assumption) (by exact rfl)
   | apply s_eqvL (by first|exact True.intro|rfl) (by exact rfl) (by exact rfl) (by assumption) (by first|assumption|omega)
   | apply s_make (by first|exact True.intro|rfl) (by exact rfl) (by exact rfl) (by omega) (by omega) (by omega))); exact Runs.refl _ _ _)):RG P acc l st K:=rg_runs hR h
theorem aw_R2 {P:Program} {C:Ctx} {Q:Exit→St→Prop} {st:St} {d:Bool} {l:List AInst} {free:List (Nat × Nat)} {acc:List SD} {st':St} (hQ:Q .normal st') (hR:Runs P [] l st acc [] st':=by
 ((repeat (first
   | apply s_movL (by first|exact True.intro|rfl) (by exact rfl)
   | apply s_movS (by first|exact True.intro|rfl) (by exact rfl)
   | apply s_movA (by first|exact True.intro|rfl) (by exact rfl)
   | apply s_movO (by first|exact True.intro|rfl) (by exact rfl)
   | apply s_movP (by first|exact True.intro|rfl) (by exact rfl)
   | apply s_movE (by first|exact True.intro|rfl) (by exact rfl)
   | apply s_movT (by first|exact True.intro|rfl) (by exact rfl)
   | apply s_movF (by first|exact True.intro|rfl) (by exact rfl)
   | apply s_movX (by first|exact True.intro|rfl) (by exact rfl)
   | apply s_noA (by exact rfl)
   | apply s_noB (by exact rfl)
   | apply s_noC (by exact rfl)
   | apply s_no (by exact rfl)
   | apply s_noN (by exact rfl)
   | apply s_add64 (by first|exact True.intro|rfl) (by exact rfl) (by exact rfl) (by omega) (by omega)
   | apply s_sub64 (by first|exact True.intro|rfl) (by exact rfl) (by exact rfl) (by omega) (by omega)
   | apply s_ltT (by first|exact True.intro|rfl) (by exact rfl) (by exact rfl) (by omega)
   | apply s_ltF (by first|exact True.intro|rfl) (by exact rfl) (by exact rfl) (by omega)
   | apply s_leT (by first|exact True.intro|rfl) (by exact rfl) (by exact rfl) (by omega)
   | apply s_leF (by first|exact True.intro|rfl) (by exact rfl) (by exact rfl) (by omega)
   | apply s_gtT (by first|exact True.intro|rfl) (by exact rfl) (by exact rfl) (by omega)
   | apply s_gtF (by first|exact True.intro|rfl) (by exact rfl) (by exact rfl) (by omega)
   | apply s_geT (by first|exact True.intro|rfl) (by exact rfl) (by exact rfl) (by omega)
   | apply s_geF (by first|exact True.intro|rfl) (by exact rfl) (by exact rfl) (by omega)
   | apply s_eqT (by first|exact True.intro|rfl) (by exact rfl) (by exact rfl) (by omega)
   | apply s_eqF (by first|exact True.intro|rfl) (by exact rfl) (by exact rfl) (by omega)
   | apply s_neT (by first|exact True.intro|rfl) (by exact rfl) (by exact rfl) (by omega)
   | apply s_neF (by first|exact True.intro|rfl) (by exact rfl) (by exact rfl) (by omega)
   | apply s_addU64 (by first|exact True.intro|rfl) (by exact rfl) (by exact rfl) (by omega) (by omega)
   | apply s_subU64 (by first|exact True.intro|rfl) (by exact rfl) (by exact rfl) (by omega) (by omega)
   | apply s_mulU64 (by first|exact True.intro|rfl) (by exact rfl) (by exact rfl) (by omega) (by omega)
   | apply s_divU64 (by first|exact True.intro|rfl) (by exact rfl) (by exact rfl) (by omega) (by omega) (by omega)
   | apply s_addU32 (by first|exact True.intro|rfl) (by exact rfl) (by exact rfl) (by omega) (by omega)
   | apply s_divI64 (by first|exact True.intro|rfl) (by exact rfl) (by exact rfl) (by omega) (by omega) (by omega)
   | apply s_remP (by first|exact True.intro|rfl) (by exact rfl) (by exact rfl) (by omega) (by omega)
   | apply s_mul64 (by first|exact True.intro|rfl) (by exact rfl) (by exact rfl) (by first|assumption|omega)
   | apply s_convU64 (by first|exact True.intro|rfl) (by exact rfl) (by omega) (by omega)
   | apply s_convU32 (by first|exact True.intro|rfl) (by exact rfl) (by omega) (by omega)
   | apply s_int (by first|exact True.intro|rfl) (by exact rfl) (by exact rfl) (by exact rfl)
   | apply s_div (by first|exact True.intro|rfl) (by exact rfl) (by exact rfl) (by omega)
   | apply s_rem (by first|exact True.intro|rfl) (by exact rfl) (by exact rfl) (by omega)
   | apply s_bool (by first|exact True.intro|rfl) (by exact rfl) (by exact rfl) (by exact rfl)
   | apply s_notT (by first|exact True.intro|rfl) (by exact rfl)
   | apply s_notF (by first|exact True.intro|rfl) (by exact rfl)
   | apply s_not (by first|exact True.intro|rfl) (by exact rfl)
   | apply s_pickTL (by first|exact True.intro|rfl) (by exact rfl) (by exact rfl)
   | apply s_pickFL (by first|exact True.intro|rfl) (by exact rfl) (by exact rfl)
   | apply s_pickTS (by first|exact True.intro|rfl) (by exact rfl) (by exact rfl)
   | apply s_pickFS (by first|exact True.intro|rfl) (by exact rfl) (by exact rfl)
   | apply s_pickTA (by first|exact True.intro|rfl) (by exact rfl) (by exact rfl)
   | apply s_pickFA (by first|exact True.intro|rfl) (by exact rfl) (by exact rfl)
   | apply s_pickTO (by first|exact True.intro|rfl) (by exact rfl) (by exact rfl)
   | apply s_pickFO (by first|exact True.intro|rfl) (by exact rfl) (by exact rfl)
   | apply s_pickTP (by first|exact True.intro|rfl) (by exact rfl) (by exact rfl)
   | apply s_pickFP (by first|exact True.intro|rfl) (by exact rfl) (by exact rfl)
   | apply s_pickTE (by first|exact True.intro|rfl) (by exact rfl) (by exact rfl)
   | apply s_pickFE (by first|exact True.intro|rfl) (by exact rfl) (by exact rfl)
   | apply s_pickTT (by first|exact True.intro|rfl) (by exact rfl) (by exact rfl)
   | apply s_pickFT (by first|exact True.intro|rfl) (by exact rfl) (by exact rfl)
   | apply s_pickTF (by first|exact True.intro|rfl) (by exact rfl) (by exact rfl)
   | apply s_pickFF (by first|exact True.intro|rfl) (by exact rfl) (by exact rfl)
   | apply s_pickTX (by first|exact True.intro|rfl) (by exact rfl) (by exact rfl)
   | apply s_pickFX (by first|exact True.intro|rfl) (by exact rfl) (by exact rfl)
   | apply s_pickB (by first|exact True.intro|rfl) (by exact rfl) (by exact rfl) (by exact rfl)
   | apply s_conv64 (by first|exact True.intro|rfl) (by exact rfl) (by omega) (by omega)
   | apply s_conv (by first|exact True.intro|rfl) (by exact rfl)
   | apply s_faddr (by first|exact True.intro|rfl) (by exact rfl)
   | apply s_faddrE (by first|exact True.intro|rfl) (by exact rfl)
   | apply s_load1 (by first|exact True.intro|rfl) (by exact rfl) (by exact rfl) (by exact rfl) (by exact rfl)
   | apply s_loadA (by first|exact True.intro|rfl) (by exact rfl) (by exact rfl) (by exact rfl) (by exact rfl)
   | apply s_loadG (by first|exact True.intro|rfl) (by exact rfl) (by exact rfl) (by exact rfl) (by exact rfl)
   | apply s_loadE1 (by first|exact True.intro|rfl) (by exact rfl) (by first|assumption|rfl) (by exact rfl)
   | apply s_loadEA (by first|exact True.intro|rfl) (by exact rfl) (by first|assumption|rfl) (by exact rfl)
   | apply s_loadEG (by first|exact True.intro|rfl) (by exact rfl) (by first|assumption|rfl) (by exact rfl)
   | apply s_extract (by first|exact True.intro|rfl) (by exact rfl) (by exact rfl)
   | apply s_field1 (by first|exact True.intro|rfl) (by exact rfl) (by exact rfl)
   | apply s_fieldG (by first|exact True.intro|rfl) (by exact rfl) (by exact rfl)
   | apply s_len (by first|exact True.intro|rfl) (by exact rfl) (by first|assumption|rfl)
   | apply s_lenN (by first|exact True.intro|rfl) (by exact rfl)
   | apply s_lenO (by first|exact True.intro|rfl) (by exact rfl) (by exact rfl) (by exact rfl) (by first|assumption|rfl)
   | apply s_slen (by first|exact True.intro|rfl) (by exact rfl)
   | apply s_iaddr (by first|exact True.intro|rfl) (by exact rfl) (by exact rfl) (by omega) (by first|omega|assumption)
   | apply s_iaddrO (by first|exact True.intro|rfl) (by exact rfl) (by exact rfl) (by exact rfl) (by exact rfl) (by exact rfl) (by omega) (by first|omega|(dsimp only; omega))
   | apply s_nilckP (by first|exact True.intro|rfl) (by exact rfl)
   | apply s_nilckE (by first|exact True.intro|rfl) (by exact rfl)
   | apply s_nilckF (by first|exact True.intro|rfl) (by exact rfl)
   | apply s_mkfn (by first|exact True.intro|rfl)
   | apply s_alloc (by first|exact True.intro|rfl)
   | apply s_box (by first|exact True.intro|rfl) (by exact rfl) (by exact rfl) (by exact rfl)
   | apply s_build (by first|exact True.intro|rfl) (by exact rfl)
   | apply s_storeB (by first|exact True.intro|rfl) (by exact rfl) (by exact rfl) (by exact rfl) (by exact rfl) (by exact rfl) (by exact rfl) (by exact rfl) (by exact rfl) (by exact rfl) (by exact rfl)
   | apply s_callA (by first|exact True.intro|rfl) (by exact rfl) (by exact rfl) (by assumption)
   | apply s_callS (by first|exact True.intro|rfl) (by exact rfl) (by exact rfl) (by assumption) (by (repeat (first|exact SubL.nil|refine SubL.cons (by first|exact Sub.refl _|exact Sub.nil _|exact Sub.any _|(refine Sub.agg ?_; repeat (first|exact SubL.nil|refine SubL.cons (by first|exact Sub.refl _|exact Sub.nil _) ?_))) ?_)))
   | apply s_callB (by first|exact True.intro|rfl) (by exact rfl) (by exact rfl) (by assumption) (by exact rfl)
   | apply s_callR (by first|exact True.intro|rfl) (by exact rfl) (by exact rfl) (by assumption)
   | apply s_callF (by first|exact True.intro|rfl) (by exact rfl) (by exact rfl) (by exact rfl) (by exact rfl) (by assumption) (by (repeat (first|exact SubL.nil|refine SubL.cons (by first|exact Sub.refl _|exact Sub.nil _|exact Sub.any _|(refine Sub.agg ?_; repeat (first|exact SubL.nil|refine SubL.cons (by first|exact Sub.refl _|exact Sub.nil _) ?_))) ?_)))
   | apply s_min (by first|exact True.intro|rfl) (by exact rfl) (by exact rfl) (by first|exact .inl ⟨by omega,Eq.refl _⟩|exact .inr ⟨by omega,Eq.refl _⟩)
   | apply s_max (by first|exact True.intro|rfl) (by exact rfl) (by exact rfl) (by first|exact .inl ⟨by omega,Eq.refl _⟩|exact .inr ⟨by omega,Eq.refl _⟩)
   | apply s_cap (by first|exact True.intro|rfl) (by exact rfl)
   | apply s_mx3 (by first|exact True.intro|rfl) (by exact rfl) (by exact rfl) (by exact rfl) (by first|assumption|exact Eq.refl _)
   | apply s_storeR [] (by first|exact True.intro|rfl) (by exact rfl) (by exact rfl) (by exact rfl) (by exact rfl) (by first|assumption|rfl) (by exact rfl) (by exact rfl) (by exact rfl) (by exact rfl) (by exact rfl) (by exact rfl)
   | apply s_rowlit [] (by first|exact True.intro|rfl) (by exact rfl) (by exact rfl) (by exact rfl) (by exact rfl)
   | apply s_append [] (by first|exact True.intro|rfl) (by exact rfl) (by exact rfl) (by exact rfl) (by exact rfl) (by exact rfl) (by exact rfl) (by exact rfl) (by exact rfl) (by first|omega|assumption|(dsimp only; omega)|(simp only [List.length_append,List.length_cons,List.length_nil,List.length_map,List.length_replicate,List.length_take,List.length_drop,chunk,intsA]; omega))
   | apply s_appendN [] (by first|exact True.intro|rfl) (by exact rfl) (by exact rfl) (by exact rfl) (by first|omega|assumption|(dsimp only; omega)|(simp only [List.length_append,List.length_cons,List.length_nil,List.length_map,List.length_replicate,List.length_take,List.length_drop,chunk,intsA]; omega))
   | apply s_storeRR (by first|exact True.intro|rfl) (by exact rfl) (by exact rfl) (by exact rfl) (by exact rfl) (by first|assumption|rfl) (by exact rfl) (by exact rfl) (by exact rfl) (by exact rfl) (by exact rfl) (by exact rfl)
   | apply s_rowlitR (by first|exact True.intro|rfl) (by exact rfl) (by exact rfl) (by exact rfl) (by exact rfl)
   | apply s_appendR (by first|exact True.intro|rfl) (by exact rfl) (by exact rfl) (by exact rfl) (by exact rfl) (by exact rfl) (by exact rfl) (by exact rfl) (by exact rfl) (by first|omega|assumption|(dsimp only; omega)|(simp only [List.length_append,List.length_cons,List.length_nil,List.length_map,List.length_replicate,List.length_take,List.length_drop,chunk,intsA]; omega))
   | apply s_appendNR (by first|exact True.intro|rfl) (by exact rfl) (by exact rfl) (by exact rfl) (by first|omega|assumption|(dsimp only; omega)|(simp only [List.length_append,List.length_cons,List.length_nil,List.length_map,List.length_replicate,List.length_take,List.length_drop,chunk,intsA]; omega))
   | apply s_sliceC (by first|exact True.intro|rfl) (by exact rfl) (by first|exact Eq.refl _|exact ⟨_,Eq.refl _⟩) (by first|exact Eq.refl _|exact ⟨_,Eq.refl _⟩) (by assumption)
   | apply s_iaddrO (by first|exact True.intro|rfl) (by exact rfl) (by exact rfl) (by exact rfl) (by exact rfl) (by exact rfl) (by omega) (by simp only [List.length_set,List.length_append,List.length_cons,List.length_nil,List.length_replicate]; omega)
   | apply s_load1 (by first|exact True.intro|rfl) (by exact rfl) (by exact rfl) (by assumption) (by exact rfl)
   | apply s_loadA (by first|exact True.intro|rfl) (by exact rfl) (by exact rfl) (by assumption) (by exact rfl)
   | apply s_loadG (by first|exact True.intro|rfl) (by exact rfl) (by exact rfl) (by assumption) (by exact rfl)
   | apply s_eqvL (by first|exact True.intro|rfl) (by exact rfl) (by exact rfl) (by assumption) (by first|assumption|omega)
   | apply s_make (by first|exact True.intro|rfl) (by exact rfl) (by exact rfl) (by omega) (by omega) (by omega))); exact Runs.refl _ _ _)) (hi:(bif d then indepOK acc.reverse free else true)=true:=by rfl):AW P C (.ops d l free) Q st:=aw_reg (rg_runs hR (rg_nil ⟨hi,hQ⟩))
theorem walk2 {P:Program} {C:Ctx} {Q:Exit→St→Prop} {st:St} {c:ACode} {G:Prop} (hG:G) (h:Left G→AW P C c Q st:=by
 (intro hG; repeat (first|refine aw_seq ?_|refine aw_block ?_|refine aw_skip ?_|refine aw_exit ?_|refine aw_ret ?_|refine aw_cond_t rfl ?_|refine aw_cond_f rfl ?_|refine aw_condF rfl ?_|refine aw_condT rfl ?_|refine aw_R2 ?_)
  exact hG.out)):AW P C c Q st:=h ⟨hG⟩
section
variable {P:Program} {C:Ctx} {Q:Exit→St→Prop} {st:St}
def sigR (ren:List (Nat × Nat)) (h:Hp):List (Nat × Nat):=h.map fun p=>((match look ren p.1 with|some o=>o|none=>p.1),p.1)
def keepB (m:Nat) (σ:List (Nat × Nat)):Bool:=(List.range m).all fun i=>σ.any fun p=>Nat.beq p.1 i && Nat.beq p.2 i
theorem keepB_mem {m:Nat} {σ:List (Nat × Nat)} (h:keepB m σ=true) {i:Nat} (hi:i<m):(i,i) ∈ σ:=by
 simp only [keepB,List.all_eq_true,List.mem_range,List.any_eq_true,Bool.and_eq_true] at h
 obtain ⟨p,hp,h1,h2⟩:=h i hi
 obtain ⟨a,b⟩:=p
 have h1:=Nat.eq_of_beq_eq_true h1
 have h2:=Nat.eq_of_beq_eq_true h2
 simp only at h1 h2
 subst h1; subst h2; exact hp
theorem wkR {m:Nat} {s s':St} (hm:C.m=m) (ren:List (Nat × Nat)) (e:canonWith (sigR ren s'.h) (s'.t.map (·.1)) s'.nx s=s':=by rfl) (h:okR s'.nx (sigR ren s'.h)=true:=by rfl) (hk:keepB m (sigR ren s'.h)=true:=by rfl):Weak C s s':=weak_canon _ _ _ h (fun i hi=>keepB_mem hk (by rw [← hm]; exact hi)) e
def pickT:List (Nat × AV)→Nat→AV
 | [],_=>.any
 | p::r,n=>if p.1=n then p.2 else pickT r n
def pickH:Hp→Nat→Option OB
 | [],_=>none
 | p::r,n=>if p.1=n then p.2 else pickH r n
theorem weak_keep {C:Ctx} {s:St} (L H:List Nat) (n:Nat) (hn:s.nx≤n):Weak C s ⟨L.map fun k=>(k,getT s.t k),H.map fun k=>(k,hl s.h k),n⟩:=fun E a w R=>by
 refine ⟨E,R.defers,R.size,fun k => ?_,⟨?_,?_,?_,R.heap.lt⟩,fun id h=>Nat.lt_of_lt_of_le (R.nx id h) hn,?_,R.ext,R.imx,R.imn,R.frm⟩
 ·show Rd E w (getT (L.map fun k=>(k,getT s.t k)) k) _
  rw [getT_map]
  split
  ·exact R.tm k
  ·trivial
 all_goals
  have key:∀ id o,hl (H.map fun k=>(k,hl s.h k)) id=some o→hl s.h id=some o:=fun id o ho=>by
   obtain ⟨x,hx,hxo⟩:∃ x,look (H.map fun k=>(k,hl s.h k)) id=some x∧x=some o:=by
    simp only [hl] at ho
    split at ho
    ·rename_i x' hx'
     cases ho; exact ⟨_,hx',rfl⟩
    ·cases ho
   have:=look_mem hx
   rw [List.mem_map] at this
   obtain ⟨k,_,e⟩:=this
   simp only [Prod.mk.injEq] at e
   obtain ⟨rfl,e⟩:=e
   rw [e,hxo]
 ·exact fun id o h1 h2=>R.heap.ob id o h1 (key id o h2)
 ·exact fun id id' o o' b h1 h2 h3 h4=>R.heap.apart id id' o o' b h1 h2 (key _ _ h3) (key _ _ h4)
 ·exact fun id o b h1 h2=>R.heap.im id o b h1 (key _ _ h2)
 ·exact fun id o b h1 h2=>R.own id o b h1 (key _ _ h2)
theorem weak_sub {C:Ctx} {s s':St} (ht:∀ n,∀ E w v,Rd E w (s.get n) v→Rd E w (s'.get n) v) (hh:s'.h=s.h) (hn:s.nx≤s'.nx):Weak C s s':=fun E a w R =>
 ⟨E,R.defers,R.size,fun n=>ht n E w _ (R.tm n),by rw [hh]; exact R.heap,fun id h=>Nat.lt_of_lt_of_le (R.nx id h) hn,by rw [hh]; exact R.own,R.ext,R.imx,R.imn,R.frm⟩
theorem aw_say {c:ACode} (n:Nat) {a b:AV} (ha:st.get n=a) (hs:∀ E w v,Rd E w a v→Rd E w b v) (h:AW P C c Q ⟨(n,b)::st.t,st.h,st.nx⟩):AW P C c Q st:=by
 refine aw_weak (s':=⟨(n,b)::st.t,st.h,st.nx⟩) (weak_sub (fun k E w v hk => ?_) rfl (Nat.le_refl _)) h
 by_cases hkn:k=n
 ·subst hkn
  have e:St.get ⟨(k,b)::st.t,st.h,st.nx⟩ k=b:=getT_same st.t k b
  rw [e]; rw [ha] at hk; exact hs E w v hk
 ·have e:St.get ⟨(n,b)::st.t,st.h,st.nx⟩ k=st.get k:=getT_ne st.t (some n) b k (by simpa using fun h=>hkn h.symm)
  rw [e]; exact hk
theorem aw_view {c:ACode} (n:Nat) {a b:AV} (ha:st.get n=a) (hv:viewN true st.h 4 a=some b) (h:AW P C c Q ⟨(n,b)::st.t,st.h,st.nx⟩):AW P C c Q st:=by
 refine aw_weak (s':=⟨(n,b)::st.t,st.h,st.nx⟩) (fun E a' w R=>⟨E,R.defers,R.size,fun k => ?_,R.heap,R.nx,R.own,R.ext,R.imx,R.imn,R.frm⟩) h
 by_cases hkn:k=n
 ·subst hkn
  have e:St.get ⟨(k,b)::st.t,st.h,st.nx⟩ k=b:=getT_same st.t k b
  rw [e]
  have hk:=R.tm k
  rw [ha] at hk
  refine RdI.rd _ _ (RdI.mono (fun i hi => ?_) (fun _ _=>rfl) _ _ (view_rd R.heap 4 a _ b hk hv))
  rcases hi with hi|⟨id,o,k1,k2,k3,k4⟩
  ·exact hi
  ·exact (R.heap.im id o i k1 k2 k3).2 (k4 rfl)
 ·have e:St.get ⟨(n,b)::st.t,st.h,st.nx⟩ k=st.get k:=getT_ne st.t (some n) b k (by simpa using fun h=>hkn h.symm)
  rw [e]; exact R.tm k
theorem aw_nilS {c:ACode} (n sz:Nat) (ha:st.get n=.lit (.slice none 0 0)) (h:AW P C c Q ⟨(n,.sl sz [])::st.t,st.h,st.nx⟩):AW P C c Q st :=
 aw_say (b:=.sl sz []) n ha (fun E w v hv=>Sub.nil sz E.im w v hv) h
theorem look_if {α:Type} (k:Nat) (v:α) (r:List (Nat × α)) (n:Nat):look ((k,v)::r) n=if k=n then some v else look r n:=by
 by_cases h:k=n
 ·subst h; simp [look]
 ·simp [look,beq_ne h,h]
theorem look_nil {α:Type} (n:Nat):look ([]:List (Nat × α)) n=none:=rfl
theorem Weak.trans {C:Ctx} {s s' s'':St} (h:Weak C s s') (k:Weak C s' s''):Weak C s s'':=fun E a w R=>let ⟨E',R'⟩:=h E a w R; k E' a w R'
theorem aw_loopB {X:Type} {c:ACode} (L H:List Nat) (ov:X→List (Nat × AV)) (oh:X→Hp) (n:Nat) (I:X→Prop) (μ:X→Nat) (x0:X) {kt:List (Nat × AV)} {kh:Hp}
 (hI:I x0)
 (round:∀ x,I x→AW P C c (thenQ (fun s'=>∃ x',μ x'<μ x∧I x'∧Weak C s' ⟨ov x'++kt,oh x'++kh,n⟩) Q) ⟨ov x++kt,oh x++kh,n⟩)
 (et:(L.map fun k=>(k,pickT st.t k))=kt:=by (simp only [List.map_cons,List.map_nil,pickT,pickH,argT,↓reduceIte,Nat.reduceEqDiff,Nat.reduceAdd,List.length_cons,List.length_nil,List.take_zero,List.take_succ_cons,List.take_nil,List.drop_zero,List.drop_succ_cons,List.drop_nil,List.nil_append,List.cons_append,List.append_nil]; exact rfl))
 (eh:(H.map fun k=>(k,pickH st.h k))=kh:=by (simp only [List.map_cons,List.map_nil,pickT,pickH,argT,↓reduceIte,Nat.reduceEqDiff,Nat.reduceAdd,List.length_cons,List.length_nil,List.take_zero,List.take_succ_cons,List.take_nil,List.drop_zero,List.drop_succ_cons,List.drop_nil,List.nil_append,List.cons_append,List.append_nil]; exact rfl))
 (ht:(ov x0++kt).map (fun p=>(p.1,st.get p.1))=ov x0++kt:=by rfl)
 (hh:(oh x0++kh).map (fun p=>(p.1,hl st.h p.1))=oh x0++kh:=by rfl)
 (hn:Nat.ble st.nx n=true:=by rfl):AW P C (.loop c) Q st:=by
 refine aw_loop (fun x=>⟨ov x++kt,oh x++kh,n⟩) I μ x0 ?_ hI round
 have:=weak_keep (C:=C) (s:=st) ((ov x0++kt).map (·.1)) ((oh x0++kh).map (·.1)) n (Nat.ble_eq ▸ hn)
 rw [List.map_map,List.map_map] at this
 have e1:(ov x0++kt).map ((fun k=>(k,getT st.t k)) ∘ (·.1))=ov x0++kt:=ht
 have e2:(oh x0++kh).map ((fun k=>(k,hl st.h k)) ∘ (·.1))=oh x0++kh:=hh
 rw [e1,e2] at this
 exact this
theorem fin {res:List ARes} {r:AV} {s:St} {r0 r1:AV} (h1:resAV s res=some r0:=by rfl) (h2:viewN false s.h 4 r0=some r1:=by rfl)
 (h3:Sub r1 r:=by (repeat (first|exact SubL.nil|refine SubL.cons ?_ ?_|exact Sub.nil _|exact Sub.refl _|exact Sub.any _|refine Sub.agg ?_|refine Sub.tup ?_))):Ret res r s:=⟨r0,r1,h1,h2,h3⟩
theorem aw_nil {c:ACode} (n:Nat) (e:TypeId) (sz:Nat) (hn:st.get n=.lit (.slice none 0 0)) (h:AW P C c Q ⟨(n,.own st.nx)::st.t,(st.nx,some ⟨true,false,e,sz,[]⟩)::st.h,st.nx+1⟩):AW P C c Q st:=by
 refine aw_weak (fun E a w R => ?_) h
 have hid:¬ E.live st.nx:=fun hl=>absurd (R.nx _ hl) (Nat.lt_irrefl _)
 have hl0:=newE_live (V:=.slice none 0 0) (sz:=sz) hid
 have hval:(newE E st.nx (.slice none 0 0) sz).val st.nx=.slice none 0 0:=by simp [newE]
 have hsz:(newE E st.nx (.slice none 0 0) sz).sz st.nx=sz:=by simp [newE]
 have hne:∀ k,E.live k→k≠st.nx:=fun k hk e=>hid (e ▸ hk)
 have hlv:∀ k,(newE E st.nx (.slice none 0 0) sz).live k→k≠st.nx→E.live k:=fun k hk h=>by
  rcases hk with hk|hk
  ·exact hk
  ·exact absurd hk h
 refine ⟨newE E st.nx (.slice none 0 0) sz,R.defers,R.size,fun k => ?_,⟨?_,?_,?_,R.heap.lt⟩,?_,?_,?_,R.imx,R.imn,R.frm⟩
 ·by_cases hk:k=n
  ·subst hk
   have h1:a.tmps.getD k undef=.slice none 0 0:=by have:=R.tm k; rw [hn] at this; exact this
   have e1:St.get ⟨(k,.own st.nx)::st.t,(st.nx,some ⟨true,false,e,sz,[]⟩)::st.h,st.nx+1⟩ k=.own st.nx:=getT_same st.t k _
   rw [h1,e1]
   exact ⟨.inr rfl,rfl,hval.symm⟩
  ·have e1:St.get ⟨(n,.own st.nx)::st.t,(st.nx,some ⟨true,false,e,sz,[]⟩)::st.h,st.nx+1⟩ k=st.get k:=getT_ne st.t (some n) _ k (by simpa using fun h=>hk h.symm)
   rw [e1]
   exact Rd.mono hl0 (fun b hb=>hb) (fun b _=>rfl) _ _ (R.tm k)
 ·intro k o hk ho
  rcases hl_new ho with ⟨rfl,e1⟩|⟨hkn,e1⟩
  ·simp only [Option.some.injEq] at e1
   subst e1
   refine ⟨hsz,[],none,0,hval,?_,rfl,(fun u hu=>by cases hu),Nat.zero_le _⟩
   rw [hval]
   exact ⟨by simp,.inl ⟨rfl,rfl⟩⟩
  ·have hlk:=hlv k hk hkn
   obtain ⟨k1,k2,k3⟩:=hl0 k hlk
   exact (R.heap.ob k o hlk e1).mono ⟨k2,k3⟩ hl0 (fun b hb=>hb) (fun b _=>rfl) (fun b _=>rfl)
 ·intro k k' o o' b hk hk' ho ho' hb hb'
  by_cases h1:k=st.nx
  ·subst h1; rw [hval] at hb; cases hb
  by_cases h2:k'=st.nx
  ·subst h2; rw [hval] at hb'; cases hb'
  have l1:=hlv k hk h1
  have l2:=hlv k' hk' h2
  rw [(hl0 k l1).2.1] at hb
  rw [(hl0 k' l2).2.1] at hb'
  rcases hl_new ho with ⟨e1,_⟩|⟨_,e1⟩
  ·exact absurd e1 h1
  rcases hl_new ho' with ⟨e2,_⟩|⟨_,e2⟩
  ·exact absurd e2 h2
  exact R.heap.apart k k' o o' b l1 l2 e1 e2 hb hb'
 ·intro k o b hk ho hb
  by_cases h1:k=st.nx
  ·subst h1; rw [hval] at hb; cases hb
  have l1:=hlv k hk h1
  rw [(hl0 k l1).2.1] at hb
  rcases hl_new ho with ⟨e1,_⟩|⟨_,e1⟩
  ·exact absurd e1 h1
  exact R.heap.im k o b l1 e1 hb
 ·intro k hk
  by_cases h1:k=st.nx
  ·subst h1; exact Nat.lt_succ_self _
  ·exact Nat.lt_succ_of_lt (R.nx k (hlv k hk h1))
 ·intro k o b hk ho hb
  by_cases h1:k=st.nx
  ·subst h1; rw [hval] at hb; cases hb
  have l1:=hlv k hk h1
  rw [(hl0 k l1).2.1] at hb
  rcases hl_new ho with ⟨e1,_⟩|⟨_,e1⟩
  ·exact absurd e1 h1
  exact R.own k o b l1 e1 hb
 ·intro k hk
  obtain ⟨k1,k2,k3⟩:=R.ext k hk
  obtain ⟨j1,j2,j3⟩:=hl0 k k1
  exact ⟨j1,by rw [j2]; exact k2,by rw [j3]; exact k3⟩
end
structure CtxM (C:Ctx) (N m:Nat):Prop where
 N:C.N=N
 m:C.m=m
 ds:C.ds=[]
def blksOf (E:Env) (h:Hp) (b:Nat):Prop:=∃ id o,E.live id∧hl h id=some o∧blkOf (E.val id)=some b
structure AMut (P:Program) (f:FuncId) (args:List AV) (h:Hp) (m:Nat) (r:AV) (h':Hp) (m':Nat):Prop where
 able:Callable P f
 calls:∀ (E0:Env) (w:World) (vs:List Value),RdL E0 w args vs→HeapOK E0 w h→(∀ id,E0.live id↔id<m) →
  Calls P f vs.toArray w fun e w'=>∃ v E1,e=.returned v∧Rd E1 w' r v∧HeapOK E1 w' h'∧(∀ id,E1.live id→id<m') ∧
   (∀ id,id<m→E1.live id∧E1.val id=E0.val id∧E1.sz id=E0.sz id)∧(∀ b,E0.im b→E1.im b)∧(∀ b,E1.im b→E0.im b∨w.heap.size≤b∨blksOf E0 h b) ∧
    (∀ id o b,E1.live id→hl h' id=some o→blkOf (E1.val id)=some b→w.heap.size≤b∨blksOf E0 h b)∧Frm (blksOf E0 h) w w'
def RetM (m:Nat) (res:List ARes) (r:AV) (h':Hp) (m':Nat) (s:St):Prop :=
 ∃ r0 σ,resAV s res=some r0∧okR m' σ=true∧keepB m σ=true∧renAV σ r0=r∧(σ.map fun p=>(p.2,(hl s.h p.1).map (renOB σ)))=h'
def retM (m:Nat) (res:List ARes) (r:AV) (h':Hp) (m':Nat):Exit→St→Prop
 | .normal,s=>RetM m res r h' m' s
 | .ret,s=>RetM m res r h' m' s
 | _,_=>False
theorem fin_m {m:Nat} {res:List ARes} {r:AV} {h':Hp} {m':Nat} {s:St} (ren:List (Nat × Nat)) {r0:AV} (hr:resAV s res=some r0:=by rfl) (ho:okR m' (sigR ren h')=true:=by rfl) (hk:keepB m (sigR ren h')=true:=by rfl)
 (hs:renAV (sigR ren h') r0=r:=by rfl) (hh:((sigR ren h').map fun p=>(p.2,(hl s.h p.1).map (renOB (sigR ren h'))))=h':=by rfl):RetM m res r h' m' s:=⟨r0,_,hr,ho,hk,hs,hh⟩
theorem amut_of {P:Program} {f:FuncId} {F:AFn} {args:List AV} {h:Hp} {m:Nat} {r:AV} {h':Hp} {m':Nat} (hF:lowerF P f=some F) (hlen:args.length≤F.N)
 (hw:∀ C:Ctx,CtxM C F.N m→AW P C F.body (retM m F.res r h' m') ⟨argT 0 args,h,m⟩):AMut P f args h m r h' m':=by
 simp only [lowerF] at hF
 split at hF
 ·rename_i fn hfn
  split at hF
  ·rename_i b hb
   cases hnm : (fn.name == "runtime.NumGoroutine") with
   | true=>rw [hnm] at hF; cases hF
   | false =>
   rw [hnm,cond_false] at hF
   refine ⟨⟨fn,hfn,hnm,by rw [hb]; rfl⟩,?_⟩
   intro E0 w vs hrd H0 hlv
   split at hF
   ·rename_i c res hc hres
    simp only [Option.some.injEq] at hF
    subst hF
    let C:Ctx:=⟨blksOf E0 h,w,fn.ntmps,E0,m,[]⟩
    have hC:CtxM C fn.ntmps m:=⟨rfl,rfl,rfl⟩
    have hvl:vs.length=args.length:=hrd.length
    simp only at hlen
    have hR:Rel C E0 ⟨argT 0 args,h,m⟩ { tmps:=vs.toArray++Array.replicate (fn.ntmps - vs.toArray.size) undef,defers:=[] } w:=by
     refine ⟨rfl,?_,fun n => ?_,H0,fun id h=>(hlv id).1 h,fun id o b h1 h2 h3=>.inr ⟨id,o,h1,h2,h3⟩,fun id hid=>⟨(hlv id).2 hid,rfl,rfl⟩,fun b h=>h,fun b h=>.inl h,⟨rfl,rfl,rfl,Nat.le_refl _,fun _ _ _=>rfl⟩⟩
     ·show (vs.toArray++Array.replicate (fn.ntmps - vs.toArray.size) undef).size=fn.ntmps
      simp; omega
     ·have:=getT_args (E:=E0) (w:=w) args vs 0 n hrd
      rw [if_pos (Nat.zero_le _),Nat.sub_zero] at this
      have e:(vs.toArray++Array.replicate (fn.ntmps - vs.toArray.size) undef).getD n undef=vs.getD n undef:=by
       simp only [Array.getD_eq_getD_getElem?,List.getD_eq_getElem?_getD,Array.getElem?_append]
       by_cases hn:n<vs.length
       ·simp [hn]
       ·rw [if_neg (by simpa using hn)]
        rw [List.getElem?_eq_none (by omega)]
        simp only [Array.getElem?_replicate]
        split<;>rfl
      show Rd E0 w (getT (argT 0 args) n) ((vs.toArray++Array.replicate (fn.ntmps - vs.toArray.size) undef).getD n undef)
      rw [e]; exact this
    refine calls_of_wp hfn hb (wp_mono (hw C hC b hc E0 _ w hR) ?_)
    rintro e a' w' ⟨E',s,hq,hR'⟩
    have fin:RetM m res r h' m' s→a'.defers=[]∧∃ v,(results fn a'.tmps).run P w'=.ok v w'∧∃ v_1 E1,Ending.returned v=.returned v_1∧Rd E1 w' r v_1∧HeapOK E1 w' h'∧(∀ id,E1.live id→id<m') ∧
     (∀ id,id<m→E1.live id∧E1.val id=E0.val id∧E1.sz id=E0.sz id)∧(∀ b,E0.im b→E1.im b)∧(∀ b,E1.im b→E0.im b∨w.heap.size≤b∨blksOf E0 h b) ∧
      (∀ id o b,E1.live id→hl h' id=some o→blkOf (E1.val id)=some b→w.heap.size≤b∨blksOf E0 h b)∧Frm (blksOf E0 h) w w':=by
     rintro ⟨r0,σ,h1,h2,h3,h4,h5⟩
     obtain ⟨v,hv,hr⟩:=run_results hR' hres h1
     have hmm:∀ i,i<C.m→(i,i) ∈ σ:=fun i hi=>keepB_mem h3 hi
     have hren:=Rd.ren h2 r0 v hr
     rw [h4] at hren
     have hcan:canonWith σ [] m' s=⟨[],h',m'⟩:=by simp only [canonWith,List.map_nil,h5]
     have R':=canon_rel σ [] m' h2 hmm hcan hR'
     exact ⟨hR'.defers,v,hv,v,renE σ E',rfl,hren,R'.heap,R'.nx,R'.ext,R'.imx,R'.imn,R'.own,R'.frm⟩
    cases e with
    | normal=>exact fin hq
    | ret=>exact fin hq
    | _=>exact hq.elim
   ·cases hF
  ·cases hF
 ·cases hF
mutual
theorem refAV_mem {E:Env} {w:World} {k:Nat→List Nat} {Q:Nat→Prop} (hk:∀ id,E.live id→∀ j ∈ k id,Q j):∀ (av:AV) (v:Value),Rd E w av v→∀ j ∈ refAV k av,Q j
 | .own id,v,h,j,hj=>by simp only [refAV] at hj; simp only [Rd] at h; exact hk id h.1 j hj
 | .optr id _ _,v,h,j,hj=>by simp only [refAV] at hj; simp only [Rd] at h; exact hk id h.1 j hj
 | .osl id _ _,v,h,j,hj=>by simp only [refAV] at hj; simp only [Rd] at h; exact hk id h.1 j hj
 | .agg cs,v,h,j,hj=>by
   simp only [refAV] at hj; simp only [Rd] at h
   obtain ⟨vs,_,_,h2⟩:=h
   exact refL_mem hk cs vs h2 j hj
 | .tup cs,v,h,j,hj=>by
   simp only [refAV] at hj; simp only [Rd] at h
   obtain ⟨vs,_,h2⟩:=h
   exact refL_mem hk cs vs h2 j hj
 | .fn f fi ca,v,h,j,hj=>by
   simp only [refAV,List.mem_append] at hj; simp only [Rd] at h
   obtain ⟨vs,us,_,h2,h3⟩:=h
   rcases hj with hj|hj
   ·exact refL_mem hk fi vs h2 j hj
   ·exact refL_mem hk ca us h3 j hj
 | .any,_,_,j,hj=>by simp [refAV] at hj
 | .lit _,_,_,j,hj=>by simp [refAV] at hj
 | .sl _ _,_,_,j,hj=>by simp [refAV] at hj
 | .ep _ _ _ _,_,_,j,hj=>by simp [refAV] at hj
 | .sem _,_,_,j,hj=>by simp [refAV] at hj
theorem refL_mem {E:Env} {w:World} {k:Nat→List Nat} {Q:Nat→Prop} (hk:∀ id,E.live id→∀ j ∈ k id,Q j):∀ (l:List AV) (vs:List Value),RdL E w l vs→∀ j ∈ refL k l,Q j
 | [],_,_,j,hj=>by simp [refL] at hj
 | a::l,vs,h,j,hj=>by
   simp only [refL,List.mem_append] at hj; simp only [RdL] at h
   obtain ⟨v,rest,_,h1,h2⟩:=h
   rcases hj with hj|hj
   ·exact refAV_mem hk a v h1 j hj
   ·exact refL_mem hk l rest h2 j hj
end
theorem refs_own {E:Env} {w:World} {h:Hp} (H:HeapOK E w h):∀ (n:Nat) (id:Nat),E.live id→∀ j ∈ refsN h n (.own id),E.live j
 | 0,id,_,j,hj=>by simp [refsN] at hj
 | n+1,id,hl1,j,hj=>by
   simp only [refsN,refAV,List.mem_cons] at hj
   rcases hj with rfl|hj
   ·exact hl1
   ·cases ho:hl h id with
    | none=>simp [ho] at hj
    | some o =>
      simp only [ho] at hj
      obtain ⟨_,k2⟩:=H.ob id o hl1 ho
      cases hr:o.row with
      | true=>simp [hr] at hj
      | false =>
        rw [hr,cond_false] at k2
        rcases k2 with ⟨hz,g,vs,cs,j1,j2,j3,j4,j5,j6⟩|⟨hz,g,es,clock,j1,j2,j3,j4⟩
        ·have hb:Nat.beq o.sz 0=false:=beq_ne (by omega)
         simp only [hr,hb,Bool.or_self,cond_false,j3] at hj
         exact refL_mem (fun i hi=>refs_own H n i hi) cs vs j5 j hj
        ·simp [hr,hz] at hj
theorem refs_live {E:Env} {w:World} {h:Hp} (H:HeapOK E w h) (n:Nat) (av:AV) (v:Value) (hr:Rd E w av v):∀ j ∈ refsN h n av,E.live j:=by
 cases n with
 | zero=>intro j hj; simp [refsN] at hj
 | succ n =>
   intro j hj
   unfold refsN at hj
   refine refAV_mem ?_ av v hr j hj
   intro id hid i hi
   refine refs_own H (n+1) id hid i ?_
   unfold refsN
   simp only [refAV]
   exact hi
theorem refsA_live {E:Env} {w:World} {h:Hp} (H:HeapOK E w h):∀ (l:List AV) (vs:List Value),RdL E w l vs→∀ j ∈ refsA h l,E.live j
 | [],_,_,j,hj=>by simp [refsA] at hj
 | a::l,vs,hr,j,hj=>by
   simp only [refsA,List.flatMap_cons,List.mem_append] at hj
   simp only [RdL] at hr
   obtain ⟨v,rest,_,h1,h2⟩:=hr
   rcases hj with hj|hj
   ·exact refs_live H 4 a v h1 j hj
   ·exact refsA_live H l rest h2 j hj
def SubR (a b:AV):Prop:=∀ E w v,Rd E w a v→Rd E w b v
theorem SubR.refl (a:AV):SubR a a:=fun _ _ _ h=>h
theorem SubR.any (a:AV):SubR a .any:=fun _ _ _ _=>trivial
theorem SubR.nil (sz:Nat):SubR (.lit (.slice none 0 0)) (.sl sz []):=fun E w v h=>Sub.nil sz E.im w v h
def SubRL (a b:List AV):Prop:=∀ E w v,RdL E w a v→RdL E w b v
theorem SubRL.refl (a:List AV):SubRL a a:=fun _ _ _ h=>h
theorem SubRL.nil:SubRL [] []:=fun _ _ _ h=>h
theorem SubRL.cons {a b:AV} {l r:List AV} (h:SubR a b) (k:SubRL l r):SubRL (a::l) (b::r):=fun E w v hv=>by
 simp only [RdL] at hv ⊢
 obtain ⟨x,rest,h1,h2,h3⟩:=hv
 exact ⟨x,rest,h1,h E w x h2,k E w rest h3⟩
theorem SubR.agg {l r:List AV} (h:SubRL l r):SubR (.agg l) (.agg r):=fun E w v hv=>by
 simp only [Rd] at hv ⊢
 obtain ⟨vs,h1,h0,h2⟩:=hv
 exact ⟨vs,h1,h0,h E w vs h2⟩
def swapL (σ:List (Nat × Nat)):List (Nat × Nat):=σ.map fun p=>(p.2,p.1)
def tauL (σ:List (Nat × Nat)) (m m' nx:Nat):List (Nat × Nat):=(List.range (m' - m)).map (fun i=>(m+i,nx+i))++swapL σ
def coverB (m:Nat) (σ:List (Nat × Nat)):Bool:=(List.range m).all fun i=>σ.any fun p=>Nat.beq p.2 i
theorem coverB_mem {m:Nat} {σ:List (Nat × Nat)} (h:coverB m σ=true) {i:Nat} (hi:i<m):∃ p ∈ σ,p.2=i:=by
 simp only [coverB,List.all_eq_true,List.mem_range,List.any_eq_true] at h
 obtain ⟨p,hp,h1⟩:=h i hi
 exact ⟨p,hp,Nat.eq_of_beq_eq_true h1⟩
mutual
theorem Rd.map {E E':Env} {w:World} {τ:List (Nat × Nat)} (hi:∀ b,E.im b→E'.im b) (hτ:∀ j,E.live j→∃ k,look τ j=some k∧E'.live k∧E'.val k=E.val j∧E'.sz k=E.sz j):∀ (av:AV) (v:Value),Rd E w av v→Rd E' w (renAV τ av) v
 | .any,_,_=>trivial
 | .lit _,_,h=>h
 | .sl sz es,v,h=>RdI.mono hi (fun _ _=>rfl) (.sl sz es) v h
 | .ep sz es i off,v,h=>RdI.mono hi (fun _ _=>rfl) (.ep sz es i off) v h
 | .agg cs,v,h=>by
   simp only [renAV,Rd] at h ⊢
   obtain ⟨vs,h1,h0,h2⟩:=h
   exact ⟨vs,h1,h0,RdL.map hi hτ cs vs h2⟩
 | .tup cs,v,h=>by
   simp only [renAV,Rd] at h ⊢
   obtain ⟨vs,h1,h2⟩:=h
   exact ⟨vs,h1,RdL.map hi hτ cs vs h2⟩
 | .own id,v,h=>by
   simp only [renAV,Rd] at h ⊢
   obtain ⟨h1,h0,h2⟩:=h
   obtain ⟨k,e,k1,k2,k3⟩:=hτ id h1
   rw [e]
   exact ⟨k1,h0,by rw [k2]; exact h2⟩
 | .optr id i off,v,h=>by
   simp only [renAV,Rd] at h ⊢
   obtain ⟨h1,b,h2,h3⟩:=h
   obtain ⟨k,e,k1,k2,k3⟩:=hτ id h1
   rw [e]
   exact ⟨k1,b,by rw [k2]; exact h2,by rw [k3]; exact h3⟩
 | .osl id off n,v,h=>by
   simp only [renAV,Rd] at h ⊢
   obtain ⟨h1,b,len,cap,h2,h3,h4⟩:=h
   obtain ⟨k,e,k1,k2,k3⟩:=hτ id h1
   rw [e]
   exact ⟨k1,b,len,cap,by rw [k2]; exact h2,h3,by rw [k3]; exact h4⟩
 | .sem s,v,h=>by
   simp only [renAV,Rd] at h ⊢
   exact s.mono _ _ _ _ _ hi (fun _ _=>rfl) h
 | .fn f fi ca,v,h=>by
   simp only [renAV,Rd] at h ⊢
   obtain ⟨vs,us,h1,h2,h3⟩:=h
   exact ⟨vs,us,h1,RdL.map hi hτ fi vs h2,RdL.map hi hτ ca us h3⟩
theorem RdL.map {E E':Env} {w:World} {τ:List (Nat × Nat)} (hi:∀ b,E.im b→E'.im b) (hτ:∀ j,E.live j→∃ k,look τ j=some k∧E'.live k∧E'.val k=E.val j∧E'.sz k=E.sz j):∀ (l:List AV) (vs:List Value),RdL E w l vs→RdL E' w (renL τ l) vs
 | [],_,h=>h
 | a::l,vs,h=>by
   simp only [renL,RdL] at h ⊢
   obtain ⟨v,rest,h1,h2,h3⟩:=h
   exact ⟨v,rest,h1,Rd.map hi hτ a v h2,RdL.map hi hτ l rest h3⟩
end
theorem obOK.map {E E':Env} {w:World} {τ:List (Nat × Nat)} (hi:∀ b,E.im b→E'.im b) (hτ:∀ j,E.live j→∃ k,look τ j=some k∧E'.live k∧E'.val k=E.val j∧E'.sz k=E.sz j) {j k:Nat} {o:OB} (h:obOK E w j o) (hv:E'.val k=E.val j) (hs:E'.sz k=E.sz j):obOK E' w k (renOB τ o):=by
 obtain ⟨k1,k2⟩:=h
 cases hr:o.row with
 | true =>
   have ee:renOB τ o=o:=by simp [renOB,hr]
   rw [ee]
   refine ⟨by rw [hs]; exact k1,?_⟩
   rw [hr] at k2 ⊢
   obtain ⟨vs,a',cap,j1,j2,j3,j4,j5⟩:=k2
   exact ⟨vs,a',cap,by rw [hv]; exact j1,by rw [hv]; exact j2,RdIE.mono hi (fun _ _=>rfl) _ _ _ j3,j4,j5⟩
 | false =>
   rw [hr] at k2
   rcases k2 with ⟨hz,g,vs,cs,j1,j2,j3,j4,j5,j6⟩|⟨hz,g,es,clock,j1,j2,j3,j4⟩
   ·have ee:renOB τ o={ o with es:=o.es.map (renL τ) }:=by
     have:(o.sz == 0)=false:=by simp; omega
     simp [renOB,hr,this]
    rw [ee]
    refine ⟨by rw [hs]; exact k1,?_⟩
    rw [hr]
    exact .inl ⟨hz,g,vs,renL τ cs,by rw [hv]; exact j1,j2,by simp [j3],j4,RdL.map hi hτ _ _ j5,j6⟩
   ·have ee:renOB τ o=o:=by simp [renOB,hr,hz]
    rw [ee]
    refine ⟨by rw [hs]; exact k1,?_⟩
    rw [hr]
    exact .inr ⟨hz,g,es,clock,by rw [hv]; exact j1,j2,RdM.imp (fun cs vs=>RdIL.mono hi (fun _ _=>rfl) cs vs) _ _ j3,j4⟩
end Go.Proofs.YtnnipocjapblkaaGreat
