/- Which characters are scalar functions of two arrays. -/
import Derived.Test.YtnnipocjapblkaaGreatK07
import Derived.Test.YtnnipocjapblkaaGreatK04
import Derived.KernelRfl
import Derived.Test.YtnnipocjapblkaaGreatProg
set_option maxRecDepth 100000
set_option maxHeartbeats 4000000
namespace Go.Proofs.YtnnipocjapblkaaGreat
set_option linter.unusedVariables false
open Go.RowKit
def isTwoB (f:Int):Bool:=[43,45,215,247,8968,8970,124,42,60,8804,61,8805,62,8800,8743,8744].any (fun z=>f == z)
theorem isTwo_no {f:Int} (h:isTwoB f=false):ACalls Tryz.prog 150 [.lit (.int .i64 f)] (.lit (.bool false)):=by
 simp only [isTwoB,List.any_cons,List.any_nil,Bool.or_false,Bool.or_eq_false_iff,beq_eq_false_iff_ne] at h
 obtain ⟨h1,h2,h3,h4,h5,h6,h7,h8,h9,h10,h11,h12,h13,h14,h15,h16⟩:=h
 refine acalls_of code_scalar_IsTwo (by simp [fn_scalar_IsTwo]) fun C hC => ?_
 refine wk5 ?_
 exact fin
theorem isTwo_yes {f:Int} (h:isTwoB f=true):ACalls Tryz.prog 150 [.lit (.int .i64 f)] (.lit (.bool true)):=by
 simp only [isTwoB,List.any_cons,List.any_nil,Bool.or_false,Bool.or_eq_true,beq_iff_eq] at h
 refine acalls_of code_scalar_IsTwo (by simp [fn_scalar_IsTwo]) fun C hC => ?_
 rcases h with h|h|h|h|h|h|h|h|h|h|h|h|h|h|h|h<;>subst h
 all_goals
  refine wk5 ?_
  exact fin
def fn_join_Catenate:AFnD:=by refine (fun (F:AFnD)(_:⟨41,[.c 6 true 3,.c 7 false 1],Oo [Ii 3 (.box 26 3 (Tt 0)),Ii 4 (.box 26 3 (Tt 1)),Ii 6 (.alloc 26 Za),Ii 7 (.alloc 29 [.int .i64 0])],10,60,Ss (Oo [Lt 12 3 3,Lt 13 3 4,Mv 14 2,Ca 15 61 [Tt 12,Tt 13,Tt 14],Mv 11 15,Ex 16 0 11,Ex 17 1 11,Ii 8 (.alloc 75 [.slice none 0 0,.slice none 0 0,.bool false,.slice none 0 0,.slice none 0 0,.bool false,.int .i64 0]),Sr 7 8 16,Sr 1 7 17]) (Ss (Ss (Oo [Lf 18 7,Ii 19 (.bin .neq (Tt 18) (Nn 0))]) (.cond (Tt 19) (Ss (.ops true [Ii 20 (.build Za []),Lf 21 7,Sr 3 6 20,Sr 1 7 21] [(1,2)]) .ret) .skip)) (Ss (Oo [Lt 23 7 8,Ca 24 62 [Tt 23],Mv 22 24,Ex 25 0 22,Ex 26 1 22,Mv 9 25,Sr 1 7 26]) (Ss (Ss (Oo [Lf 27 7,Ii 28 (.bin .neq (Tt 27) (Nn 0))]) (.cond (Tt 28) (Ss (.ops true [Ii 29 (.build Za []),Lf 30 7,Sr 3 6 29,Sr 1 7 30] [(1,2)]) .ret) .skip)) (Ss (.ops true [Fa 31 0 3,Lf 32 31,Fa 33 0 4,Lf 34 33,Ca 35 30 [Tt 32,Tt 34],Mv 36 9,Lt 37 7 8,Mv 38 9,Ca 39 63 [Tt 37,Tt 38],Ii 40 (.build Za [(0,1,Tt 35),(1,1,Tt 36),(2,1,Tt 39)]),Sr 3 6 40,Jj (.store 1 (Tt 7) (Nn 0))] [(1,3),(1,6),(3,6),(4,6)]) .ret))))⟩=F)=>F) ?_ ?_;rotate_left;dsimp only[Tt,Nn,Ii,Jj,Mv,Lf,Lt,Fa,Ex,Sr,Ca,Oo,Ss,Za];exact rfl
theorem code_join_Catenate:lowerFD Tryz.prog 21 = some fn_join_Catenate:=by kernel_rfl
def fn_join_fit:AFn:=by refine (fun (F:AFn)(_:⟨52,[.c 6 true 7,.t 7],Ss (Oo [Ii 3 (.box 26 3 (Tt 0)),Ii 4 (.box 26 3 (Tt 1)),Ii 6 (.alloc 75 [.slice none 0 0,.slice none 0 0,.bool false,.slice none 0 0,.slice none 0 0,.bool false,.int .i64 0]),Ii 7 (.mov (Nn 0))]) (Ss (Oo [Fa 11 1 3,Lf 12 11,Le 13 12,Fa 14 1 4,Lf 15 14,Le 16 15,Ii 17 (.mx3 (Tt 13) (Tt 16) (Nn 1)),Mv 8 17]) (Ss (Oo [Mv 18 8,Ii 19 (.bin .sub (Tt 18) (Nn 1)),Ii 20 (.build [.slice none 0 0,.slice none 0 0,.bool false,.slice none 0 0,.slice none 0 0,.bool false,.int .i64 0] [(6,1,Tt 19)]),Ii 9 (.alloc 75 [.slice none 0 0,.slice none 0 0,.bool false,.slice none 0 0,.slice none 0 0,.bool false,.int .i64 0]),Sr 7 9 20]) (Ss (Ss (Oo [Mv 21 2]) (.cond (Tt 21) (Oo [Fa 22 6 9,Jj (.store 1 (Tt 22) (Nn 0))]) .skip)) (Ss (Oo [Ii 10 (.mov (Bo false))]) (Ss (Ss (Oo [Lt 24 3 3,Fa 25 1 4,Lf 26 25,Mv 27 8,Fa 28 6 9,Lf 29 28,Ca 30 131 [Tt 24,Tt 26,Tt 27,Tt 29],Mv 23 30,Ex 31 0 23,Ex 32 1 23,Fa 33 0 9,Sr 3 33 31,Mv 10 32]) (Ss (Oo [Mv 34 10,Ii 35 (.un .not (Tt 34))]) (.cond (Tt 35) (Ss (Oo [Ii 36 (.build [.slice none 0 0,.slice none 0 0,.bool false,.slice none 0 0,.slice none 0 0,.bool false,.int .i64 0] []),Sr 7 6 36,Ii 7 (.mov (Nn 5))]) .ret) .skip))) (Ss (Ss (Oo [Lt 38 3 4,Fa 39 1 3,Lf 40 39,Mv 41 8,Fa 42 6 9,Lf 43 42,Ca 44 131 [Tt 38,Tt 40,Tt 41,Tt 43],Mv 37 44,Ex 45 0 37,Ex 46 1 37,Fa 47 3 9,Sr 3 47 45,Mv 10 46]) (Ss (Oo [Mv 48 10,Ii 49 (.un .not (Tt 48))]) (.cond (Tt 49) (Ss (Oo [Ii 50 (.build [.slice none 0 0,.slice none 0 0,.bool false,.slice none 0 0,.slice none 0 0,.bool false,.int .i64 0] []),Sr 7 6 50,Ii 7 (.mov (Nn 5))]) .ret) .skip))) (Ss (Oo [Lt 51 7 9,Sr 7 6 51,Ii 7 (.mov (Nn 0))]) .ret)))))))⟩=F)=>F) ?_ ?_;rotate_left;dsimp only[Tt,Nn,Bo,Ii,Jj,Mv,Lf,Lt,Fa,Ex,Le,Sr,Ca,Oo,Ss];exact rfl
theorem code_join_fit:lowerF Tryz.prog 61 = some fn_join_fit:=by kernel_rfl
def fn_turn_Rotate:AFnD:=by refine (fun (F:AFnD)(_:⟨68,[.c 6 true 3,.c 7 false 1],Oo [Ii 3 (.box 26 3 (Tt 0)),Ii 4 (.box 26 3 (Tt 1)),Ii 6 (.alloc 26 Za),Ii 7 (.alloc 29 [.int .i64 0])],14,64,Ss (Oo [Lt 16 3 3,Ca 17 57 [Tt 16],Mv 15 17,Ex 18 0 15,Ex 19 1 15,Mv 8 18,Sr 1 7 19]) (Ss (Ss (Oo [Lf 20 7,Ii 21 (.bin .neq (Tt 20) (Nn 0))]) (.cond (Tt 21) (Ss (.ops true [Ii 22 (.build Za []),Lf 23 7,Sr 3 6 22,Sr 1 7 23] [(1,2)]) .ret) .skip)) (Ss (Ss (Oo [Mv 24 8,Le 25 24,Ii 26 (.bin .neq (Tt 25) (Nn 1))]) (.cond (Tt 26) (Ss (Oo [Ii 27 (.build Za []),Sr 3 6 27,Jj (.store 1 (Tt 7) (Nn 4))]) .ret) .skip)) (Ss (.ops true [Lt 28 3 4,Lt 29 3 3,Ca 30 11 [Tt 29],Ca 31 65 [Tt 28,Tt 30],Ii 9 (.alloc 26 Za),Sr 3 9 31] [(0,1),(0,2),(0,4),(1,4),(2,4),(3,4)]) (Ss (Oo [Lt 33 3 4,Mv 34 2,Ca 35 66 [Tt 33,Tt 34],Mv 32 35,Ex 36 0 32,Ex 37 1 32,Ii 10 (.alloc 3 [.int .i64 0]),Sr 1 10 36,Mv 11 37]) (Ss (Ss (Oo [Mv 38 11,Ii 39 (.un .not (Tt 38)),Mv 40 39,Ig 41 40 false (.faddr 1 (Tt 4)),Ig 42 40 false (.load false 1 (Tt 41)),Ig 43 40 false (.load false 1 (Tt 10)),Ig 44 40 false (.iaddr 1 (Tt 42) (Tt 43)),Ig 45 40 false (.load false 1 (Tt 44)),Ig 46 40 false (.bin .eql (Tt 45) (Nn 0)),Ii 47 (.pick (Tt 40) (Bo true) (Tt 46))]) (.cond (Tt 47) (Ss (Oo [Lt 48 3 9,Sr 3 6 48,Jj (.store 1 (Tt 7) (Nn 0))]) .ret) .skip)) (Ss (Oo [Fa 49 1 4,Lf 50 49,Lf 51 10,Ia 52 1 50 51,Lf 53 52,Ii 12 (.alloc 3 [.int .i64 0]),Sr 1 12 53]) (Ss (.ops true [Mv 54 8,Ii 55 (.iaddr 1 (Tt 54) (Nn 0)),Lf 56 55,Lf 57 12,Ii 58 (.bin .rem (Tt 56) (Tt 57)),Lf 59 12,Ii 60 (.bin .add (Tt 58) (Tt 59)),Lf 61 12,Ii 62 (.bin .rem (Tt 60) (Tt 61)),Ii 13 (.alloc 3 [.int .i64 0]),Sr 1 13 62] [(1,3),(2,3),(1,5),(2,5),(3,5),(1,7),(2,7),(3,7),(5,7),(1,9),(2,9),(3,9),(5,9),(7,9)]) (Ss (Oo [Lt 63 3 9,Fa 64 1 4,Lf 65 64,Ii 66 (.mkfn 68 [] [Tt 10,Tt 13,Tt 12]),Ca 67 67 [Tt 63,Tt 65,Tt 66],Sr 3 6 67,Jj (.store 1 (Tt 7) (Nn 0))]) .ret))))))))⟩=F)=>F) ?_ ?_;rotate_left;dsimp only[Tt,Nn,Bo,Ii,Ig,Jj,Mv,Lf,Lt,Fa,Ex,Le,Ia,Sr,Ca,Oo,Ss,Za];exact rfl
theorem code_turn_Rotate:lowerFD Tryz.prog 22 = some fn_turn_Rotate:=by kernel_rfl
def fn_turn_Permute:AFnD:=by refine (fun (F:AFnD)(_:⟨81,[.c 4 true 3,.c 5 false 1],Oo [Ii 2 (.box 26 3 (Tt 0)),Ii 3 (.box 26 3 (Tt 1)),Ii 4 (.alloc 26 Za),Ii 5 (.alloc 29 [.int .i64 0])],11,69,Ss (Oo [Lt 13 3 2,Ca 14 57 [Tt 13],Mv 12 14,Ex 15 0 12,Ex 16 1 12,Ii 6 (.alloc 23 [.slice none 0 0]),Sr 1 6 15,Sr 1 5 16]) (Ss (Ss (Oo [Lf 17 5,Ii 18 (.bin .neq (Tt 17) (Nn 0))]) (.cond (Tt 18) (Ss (.ops true [Ii 19 (.build Za []),Lf 20 5,Sr 3 4 19,Sr 1 5 20] [(1,2)]) .ret) .skip)) (Ss (Ss (Oo [Lf 21 6,Le 22 21,Fa 23 1 3,Lf 24 23,Le 25 24,Ii 26 (.bin .neq (Tt 22) (Tt 25))]) (.cond (Tt 26) (Ss (Oo [Ii 27 (.build Za []),Sr 3 4 27,Jj (.store 1 (Tt 5) (Nn 4))]) .ret) .skip)) (Ss (Oo [Lf 28 6,Le 29 28,Ii 30 (.make 3 1 8 [.int .i64 0] (Tt 29) (Tt 29)),Mv 7 30]) (Ss (Ss (Oo [Mv 31 7,Le 32 31,Ii 33 (.mov (Nn 0))]) (.block 0 (.loop (Ss (Oo [Ii 34 (.bin .lss (Tt 33) (Tt 32))]) (Ss (.cond (Tt 34) .skip (.exit 0)) (Ss (.block 1 (Ss (Oo [Mv 35 33,Mv 8 35]) (Oo [Mv 36 7,Mv 37 8,Ia 38 1 36 37,Jj (.store 1 (Tt 38) (Nn (-1)))]))) (Oo [Ii 39 (.bin .add (Tt 33) (Nn 1)),Mv 33 39]))))))) (Ss (Ss (Oo [Lf 40 6,Le 41 40,Ii 42 (.mov (Nn 0))]) (.block 2 (.loop (Ss (Oo [Ii 43 (.bin .lss (Tt 42) (Tt 41))]) (Ss (.cond (Tt 43) .skip (.exit 2)) (Ss (.block 3 (Ss (Oo [Mv 44 42,Ia 45 1 40 42,Lf 46 45,Mv 9 44,Mv 10 46]) (Ss (Ss (Oo [Mv 47 10,Ii 48 (.bin .lss (Tt 47) (Nn 1)),Mv 49 48,Ig 50 49 false (.mov (Tt 10)),Ig 51 49 false (.load false 1 (Tt 6)),Ig 52 49 false (.len (Tt 51)),Ig 53 49 false (.bin .gtr (Tt 50) (Tt 52)),Ii 54 (.pick (Tt 49) (Bo true) (Tt 53)),Mv 55 54,Ig 56 55 false (.mov (Tt 7)),Ig 57 55 false (.mov (Tt 10)),Ig 58 55 false (.bin .sub (Tt 57) (Nn 1)),Ig 59 55 false (.iaddr 1 (Tt 56) (Tt 58)),Ig 60 55 false (.load false 1 (Tt 59)),Ig 61 55 false (.bin .geq (Tt 60) (Nn 0)),Ii 62 (.pick (Tt 55) (Bo true) (Tt 61))]) (.cond (Tt 62) (Ss (Oo [Ii 63 (.build Za []),Sr 3 4 63,Jj (.store 1 (Tt 5) (Nn 3))]) .ret) .skip)) (Oo [Mv 64 7,Mv 65 10,Ii 66 (.bin .sub (Tt 65) (Nn 1)),Fa 67 1 3,Lf 68 67,Mv 69 9,Ia 70 1 68 69,Lf 71 70,Ia 72 1 64 66,Sr 1 72 71])))) (Oo [Ii 73 (.bin .add (Tt 42) (Nn 1)),Mv 42 73]))))))) (Ss (.ops true [Lt 74 3 3,Lt 75 3 2,Ca 76 11 [Tt 75],Ca 77 65 [Tt 74,Tt 76],Mv 78 7,Ii 79 (.mkfn 70 [] [Tt 6]),Ca 80 67 [Tt 77,Tt 78,Tt 79],Sr 3 4 80,Jj (.store 1 (Tt 5) (Nn 0))] [(0,1),(0,2)]) .ret))))))⟩=F)=>F) ?_ ?_;rotate_left;dsimp only[Tt,Nn,Bo,Ii,Ig,Jj,Mv,Lf,Lt,Fa,Ex,Le,Ia,Sr,Ca,Oo,Ss,Za];exact rfl
theorem code_turn_Permute:lowerFD Tryz.prog 23 = some fn_turn_Permute:=by kernel_rfl
theorem idle_join_Catenate:Idle Tryz.prog 60 := by
 refine ⟨⟨_,Tryz.func60,by rfl,by rfl⟩,fun args w => ?_⟩
 refine callsD_of_wpS Tryz.func60 rfl fun c₀ cs hu => ?_
 rw [Tryz.ntmps60]
 have hsz:5≤(args++Array.replicate (5 - args.size) undef).size:=by simp; omega
 generalize (args++Array.replicate (5 - args.size) undef)=T at hsz ⊢
 have h2:2<T.size:=by omega
 have h3:3<T.size:=by omega
 apply wpS_seq
 apply wpS_region
 simp [wpOpsS,go_sem,recoverD,hu,Exit.thenS,h2]
 refine wpS_cond (t:=false) (by simp [Act.eval,h3]) ?_
 simp only [Bool.false_eq_true,if_false]
 refine wpS_of_wp (wp_skip ?_)
 cases c₀
 simp_all [bodyPostS,results,Tryz.results60]
theorem idle_turn_Rotate:Idle Tryz.prog 64 := by
 refine ⟨⟨_,Tryz.func64,by rfl,by rfl⟩,fun args w => ?_⟩
 refine callsD_of_wpS Tryz.func64 rfl fun c₀ cs hu => ?_
 rw [Tryz.ntmps64]
 have hsz:5≤(args++Array.replicate (5 - args.size) undef).size:=by simp; omega
 generalize (args++Array.replicate (5 - args.size) undef)=T at hsz ⊢
 have h2:2<T.size:=by omega
 have h3:3<T.size:=by omega
 apply wpS_seq
 apply wpS_region
 simp [wpOpsS,go_sem,recoverD,hu,Exit.thenS,h2]
 refine wpS_cond (t:=false) (by simp [Act.eval,h3]) ?_
 simp only [Bool.false_eq_true,if_false]
 refine wpS_of_wp (wp_skip ?_)
 cases c₀
 simp_all [bodyPostS,results,Tryz.results64]
theorem idle_turn_Permute:Idle Tryz.prog 69 := by
 refine ⟨⟨_,Tryz.func69,by rfl,by rfl⟩,fun args w => ?_⟩
 refine callsD_of_wpS Tryz.func69 rfl fun c₀ cs hu => ?_
 rw [Tryz.ntmps69]
 have hsz:5≤(args++Array.replicate (5 - args.size) undef).size:=by simp; omega
 generalize (args++Array.replicate (5 - args.size) undef)=T at hsz ⊢
 have h2:2<T.size:=by omega
 have h3:3<T.size:=by omega
 apply wpS_seq
 apply wpS_region
 simp [wpOpsS,go_sem,recoverD,hu,Exit.thenS,h2]
 refine wpS_cond (t:=false) (by simp [Act.eval,h3]) ?_
 simp only [Bool.false_eq_true,if_false]
 refine wpS_of_wp (wp_skip ?_)
 cases c₀
 simp_all [bodyPostS,results,Tryz.results69]
end Go.Proofs.YtnnipocjapblkaaGreat
