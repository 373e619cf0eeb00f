/- The types of arrays, in this form; arguments that are arrays, opened. -/
import Derived.ChangeOld
import Derived.Deep.AppendLies
import Derived.Deep.RegionHeld3
import Derived.Maps.OwnRows
import Derived.ShutString
import Derived.Test.YtjcolpcfcdkckaaGreatK06
set_option maxRecDepth 100000
set_option maxHeartbeats 4000000
namespace Go.Proofs.YtjcolpcfcdkckaaGreat
set_option linter.unusedVariables false
open Go.RowKit
theorem Ano:AmU Tryz.prog 26 43 40 23 24 41 38 22 3 4 146 :=
 ⟨⟨_,_,_,Tryz.underlying26,rfl,rfl,rfl,rfl,rfl,rfl⟩,⟨_,_,_,_,_,Tryz.underlying43,rfl,rfl,rfl,rfl,rfl,rfl,rfl,rfl,rfl,rfl⟩,⟨_,_,_,Tryz.underlying40,rfl,rfl,rfl,rfl,rfl,rfl⟩,
   Tryz.underlying23,Tryz.underlying24,Tryz.underlying41,Tryz.underlying38,Tryz.underlying22,Tryz.underlying3,Tryz.underlying4,Tryz.underlying146,
    ⟨by kernel_rfl,by kernel_rfl,by kernel_rfl,by kernel_rfl,by kernel_rfl,by kernel_rfl,by kernel_rfl,by kernel_rfl,by kernel_rfl,by kernel_rfl,by kernel_rfl⟩,
     ⟨of_decide_eq_true (by kernel_rfl),of_decide_eq_true (by kernel_rfl),of_decide_eq_true (by kernel_rfl),of_decide_eq_true (by kernel_rfl)⟩⟩
abbrev Aly:List TypeId:=[26,43,40,23,24,41,38,22,3,4,146]
theorem Ze:Aef Tryz.prog Aly=true:=by kernel_rfl
section
variable {H:Type} {enc:TypeId × Value→H} {W:World} {held:Bool}
theorem PN {fuel:Nat} {c:Array Value} {x:DataW H × List MemPlace} (h:DataW.trod enc Tryz.prog W 0 (fun _=>true) held fuel 26 c.toList=some x) (hw:∀ k ∈ x.1.weights Tryz.prog 26,k≤reachBytes) :
 ∃ A:Al,Dm (fun b=>b<W.heap.size) W (.agg (Ao A)) (.agg c)∧arrOK A:=by
 obtain ⟨avs,r1,r2,_,r4⟩:=Ag5 Ze fuel _ _ x (by simp [Aly]) h hw;obtain ⟨A,rfl,ok⟩:=AjY Ano fuel avs r4;exact ⟨A,⟨c.toList,by simp,r2,by rw [← OY]; exact r1⟩,ok⟩
end
section
variable {H:Type} {enc:TypeId × Value→H} {W:World} {held:Bool}
end
theorem AkE {z:Int} (h:(Lit.int .u64 z).wf=true):∃ n:Nat,z=(n:Int)∧n<18446744073709551616:=by
 have h':IntKind.u64.min≤z∧z≤IntKind.u64.max:=by simpa [Lit.wf] using h
 have h1:IntKind.u64.min=0:=by decide
 have h2:IntKind.u64.max=18446744073709551615:=by decide
 exact ⟨z.toNat,by omega,by omega⟩
def WK:A6:=Kf ⟨11,[.t 2],So [Bx 1 153 2 0,Mn 2 0] (Ss (.block 0 (So [Fa 4 1 1,Lf 5 4,Ca 6 219 [Tt 5,.const (.slice none 0 0)],Bk 7 .eql 6 0,Mv 3 7] (Cd 3 (So [Mn 2 0] .ret) (So [Fa 9 0 1,Lf 10 9,Mv 8 10] (Cd 8 (So [Mn 2 (-1)] .ret) .skip))))) (So [Mn 2 1] .ret))⟩
theorem SO:Ag Tryz.prog 218 = some WK:=by kernel_rfl
def Zf:A6:=Kf ⟨32,[.t 4],So [Bx 2 153 2 0,Bx 3 153 2 1,Mn 4 0] (Ss (.ops true [Lt 7 2 2,Cc 8 218 [7],Lt 9 2 3,Cc 10 218 [9],Mv 5 8,Mv 6 10] [(0,2),(1,2)]) (Ss (.block 0 (So [Mv 12 5,Mv 13 6,Bt 14 .lss 12 13,Mv 11 14] (Cd 11 (So [Mn 4 (-1)] .ret) (So [Mv 16 5,Mv 17 6,Bt 18 .gtr 16 17,Mv 15 18] (Cd 15 (So [Mn 4 1] .ret) (So [Mv 20 5,Bk 21 .lss 20 0,Mv 19 21] (Cd 19 (So [Fa 22 1 3,Lf 23 22,Fa 24 1 2,Lf 25 24,Cc 26 219 [23,25],Mv 4 26] .ret) .skip))))))) (So [Fa 27 1 2,Lf 28 27,Fa 29 1 3,Lf 30 29,Cc 31 219 [28,30],Mv 4 31] .ret)))⟩
theorem Vb:Ag Tryz.prog 181 = some Zf:=by kernel_rfl
def Zg:A6:=Kf ⟨47,[.c 4 true 2],So [Bx 2 153 2 0,Bx 3 153 2 1,Ii 4 (.alloc 153 [.bool false,.slice none 0 0])] (Ss (So [Fa 9 0 2,Lf 10 9,Fa 11 0 3,Lf 12 11,Ii 13 (.binB .eql (Tt 10) (Tt 12))] (Cd 13 (Ss (.ops true [Fa 14 0 2,Lf 15 14,Fa 16 1 2,Lf 17 16,Fa 18 1 3,Lf 19 18,Cc 20 243 [17,19],Cc 21 215 [15,20],Sr 2 4 21] [(1,3),(1,5),(3,5),(1,6)]) .ret) .skip)) (Ss (So [Fa 23 1 2,Lf 24 23,Fa 25 1 3,Lf 26 25,Cc 27 244 [24,26],Mv 22 27,Ex 28 0 22,Ex 29 1 22,Mv 5 28,Mv 6 29] (So [Mv 30 6] (Cd 30 (So [Fa 31 0 2,Lf 32 31,Mv 33 5,Cc 34 215 [32,33],Sr 2 4 34] .ret) .skip))) (So [Fa 36 1 3,Lf 37 36,Fa 38 1 2,Lf 39 38,Cc 40 244 [37,39],Mv 35 40,Ex 41 0 35,Ex 42 1 35,Mv 7 41,Mv 8 42] (So [Fa 43 0 3,Lf 44 43,Mv 45 7,Cc 46 215 [44,45],Sr 2 4 46] .ret))))⟩
theorem Hy:Ag Tryz.prog 232 = some Zg:=by kernel_rfl
def Zh:A6:=Kf ⟨13,[.c 4 true 2],So [Bx 2 153 2 0,Bx 3 153 2 1,Ii 4 (.alloc 153 [.bool false,.slice none 0 0])] (So [Lt 5 2 2,Fa 6 0 3,Lf 7 6,Ii 8 (.un .not (Tt 7)),Fa 9 1 3,Lf 10 9,Ii 11 (.build [.bool false,.slice none 0 0] [(0,1,Tt 8),(1,1,Tt 10)]),Cc 12 232 [5,11],Sr 2 4 12] .ret)⟩
theorem Vc:Ag Tryz.prog 238 = some Zh:=by kernel_rfl
def Zi:A6:=Kf ⟨16,[.c 4 true 2],So [Bx 2 153 2 0,Bx 3 153 2 1,Ii 4 (.alloc 153 [.bool false,.slice none 0 0])] (Ss (.ops true [Fa 5 0 2,Lf 6 5,Fa 7 0 3,Lf 8 7,Ii 9 (.binB .neq (Tt 6) (Tt 8)),Fa 10 1 2,Lf 11 10,Fa 12 1 3,Lf 13 12,Cc 14 220 [11,13],Cc 15 215 [9,14],Sr 2 4 15] [(1,3),(1,6),(3,6),(1,8),(3,8),(6,8),(1,9),(3,9)]) .ret)⟩
theorem Vd:Ag Tryz.prog 182 = some Zi:=by kernel_rfl
def SP:A6:=Kf ⟨54,[.c 4 true 2,.c 5 true 2,.t 6],So [Bx 2 153 2 0,Bx 3 153 2 1,Ii 4 (.alloc 153 [.bool false,.slice none 0 0]),Ii 5 (.alloc 153 [.bool false,.slice none 0 0]),Ii 6 (.mov (Bo false))] (So [Fa 13 1 2,Lf 14 13,Fa 15 1 3,Lf 16 15,Cc 17 237 [14,16],Mv 12 17,Ex 18 0 12,Ex 19 1 12,Ex 20 2 12,Mv 7 18,Mv 8 19,Mv 9 20] (Ss (So [Mv 21 9,Ii 22 (.un .not (Tt 21))] (Cd 22 (So [Ii 23 (.build [.bool false,.slice none 0 0] []),Ii 24 (.build [.bool false,.slice none 0 0] []),Sr 2 4 23,Sr 2 5 24,Ii 6 (.mov (Bo false))] .ret) .skip)) (Ss (.ops true [Fa 25 0 2,Lf 26 25,Fa 27 0 3,Lf 28 27,Ii 29 (.binB .neq (Tt 26) (Tt 28)),Mv 30 7,Cc 31 215 [29,30],Fa 32 0 2,Lf 33 32,Mv 34 8,Cc 35 215 [33,34],Ii 10 (.alloc 153 [.bool false,.slice none 0 0]),Ii 11 (.alloc 153 [.bool false,.slice none 0 0]),Sr 2 10 31,Sr 2 11 35] [(1,3),(1,8),(3,8),(6,8),(1,11),(3,11),(6,11),(8,11),(10,11),(1,12),(3,12),(6,12),(8,12),(10,12),(11,12)]) (Ss (So [Fa 36 0 2,Lf 37 36,Fa 38 0 3,Lf 39 38,Ii 40 (.binB .neq (Tt 37) (Tt 39)),Mv 41 40,Gg 41 true (Mv 42 8),Gg 41 true (Le 43 42),Gg 41 true (Bk 44 .gtr 43 0),Ii 45 (.pick (Tt 41) (Tt 44) (Bo false))] (Cd 45 (.ops true [Lt 46 2 10,Ca 47 174 [Nn 1],Cc 48 238 [46,47],Lt 49 2 11,Lt 50 2 3,Cc 51 232 [49,50],Sr 2 10 48,Sr 2 11 51] [(0,1),(0,3),(1,3),(2,3),(0,4),(1,4),(2,4),(3,4)]) .skip)) (Ss (.ops true [Lt 52 2 10,Lt 53 2 11,Sr 2 4 52,Sr 2 5 53,Ii 6 (.mov (Bo true))] [(0,1),(1,2)]) .ret)))))⟩
theorem PO:Ag Tryz.prog 223 = some SP:=by kernel_rfl
def Zj:A6:=Kf ⟨40,[.c 4 true 2,.t 5],So [Bx 2 153 2 0,Ii 4 (.alloc 153 [.bool false,.slice none 0 0]),Mn 5 0] (Ss (So [Mv 8 1,Bk 9 .lss 8 0] (Cd 9 (So [Ii 10 (.build [.bool false,.slice none 0 0] []),Sr 2 4 10,Mn 5 3] .ret) .skip)) (Ss (.ops true [Ca 11 174 [Nn 1],Lt 12 2 2,Cc 13 199 [12],Ii 6 (.alloc 153 [.bool false,.slice none 0 0]),Ii 7 (.alloc 153 [.bool false,.slice none 0 0]),Sr 2 6 11,Sr 2 7 13] [(0,1),(0,3),(1,3),(2,3),(0,4),(1,4),(2,4),(3,4)]) (Ss (.block 0 (.loop (Ss (So [Mv 14 1,Bk 15 .gtr 14 0] (Cd 15 .skip (.exit 0))) (.block 1 (Ss (So [Fa 16 1 7,Lf 17 16,Le 18 17,Bk 19 .gtr 18 32] (Cd 19 (So [Ii 20 (.build [.bool false,.slice none 0 0] []),Sr 2 4 20,Mn 5 7] .ret) .skip)) (Ss (So [Mv 21 1,Bk 22 .and 21 1,Bk 23 .eql 22 1] (Cd 23 (Oo [Lt 24 2 6,Lt 25 2 7,Cc 26 182 [24,25],Sr 2 6 26]) .skip)) (Ss (So [Fa 27 1 6,Lf 28 27,Le 29 28,Bk 30 .gtr 29 32] (Cd 30 (So [Ii 31 (.build [.bool false,.slice none 0 0] []),Sr 2 4 31,Mn 5 7] .ret) .skip)) (So [Mv 32 1,Ii 33 (.bin .shr (Tt 32) (.const (.int .u64 1))),Mv 1 33] (So [Mv 34 1,Bk 35 .gtr 34 0] (Cd 35 (Oo [Lt 36 2 7,Lt 37 2 7,Cc 38 182 [36,37],Sr 2 7 38]) .skip)))))))))) (So [Lt 39 2 6,Sr 2 4 39,Mn 5 0] .ret))))⟩
theorem Ve:Ag Tryz.prog 233 = some Zj:=by kernel_rfl
def Zk:A6:=Kf ⟨6,[.c 2 true 2],So [Bx 1 40 3 0,Ii 2 (.alloc 153 [.bool false,.slice none 0 0])] (So [Fa 3 2 1,Lf 4 3,Ii 5 (.build [.bool false,.slice none 0 0] [(1,1,Tt 4)]),Sr 2 2 5] .ret)⟩
theorem Vf:Ag Tryz.prog 183 = some Zk:=by kernel_rfl
def WL:A6:=Kf ⟨64,[.c 4 true 3,.t 5],So [Bx 2 153 2 0,Bx 3 153 2 1,Ii 4 (.alloc 40 [.bool false,.slice none 0 0,.slice none 0 0]),Mn 5 0] (Ss (.ops true [Fa 9 1 2,Lf 10 9,Cc 11 216 [10],Fa 12 1 3,Lf 13 12,Cc 14 216 [13],Mv 6 11,Mv 7 14] [(1,4),(2,4)]) (Ss (So [Mv 15 7,Le 16 15,Bk 17 .eql 16 0] (Cd 17 (So [Ii 18 (.build [.bool false,.slice none 0 0,.slice none 0 0] []),Sr 3 4 18,Mn 5 3] .ret) .skip)) (Ss (So [Mv 19 7,Cc 20 161 [19],Ii 21 (.un .not (Tt 20))] (Cd 21 (So [Mv 22 6,Mv 23 7,Cc 24 234 [22,23],Mv 8 24] (So [Mv 25 8,Cc 26 161 [25],Ii 27 (.un .not (Tt 26))] (Cd 27 (So [Mv 29 6,Mv 30 8,Cc 31 237 [29,30],Mv 28 31,Ex 32 0 28,Ex 33 1 28,Ex 34 2 28,Mv 6 32] (Oo [Mv 36 7,Mv 37 8,Cc 38 237 [36,37],Mv 35 38,Ex 39 0 35,Ex 40 1 35,Ex 41 2 35,Mv 7 39])) .skip))) .skip)) (Ss (So [Mv 42 6,Le 43 42,Bk 44 .gtr 43 32,Mv 45 44,Gg 45 false (Mv 46 7),Gg 45 false (Le 47 46),Gg 45 false (Bk 48 .gtr 47 32),Ii 49 (.pick (Tt 45) (Bo true) (Tt 48))] (Cd 49 (So [Ii 50 (.build [.bool false,.slice none 0 0,.slice none 0 0] []),Sr 3 4 50,Mn 5 7] .ret) .skip)) (So [Mv 51 6,Le 52 51,Bk 53 .gtr 52 0,Mv 54 53,Gg 54 true (Fa 55 0 2),Gg 54 true (Lf 56 55),Gg 54 true (Fa 57 0 3),Gg 54 true (Lf 58 57),Gg 54 true (Ii 59 (.binB .neq (Tt 56) (Tt 58))),Ii 60 (.pick (Tt 54) (Tt 59) (Bo false)),Mv 61 6,Mv 62 7,Ii 63 (.build [.bool false,.slice none 0 0,.slice none 0 0] [(0,1,Tt 60),(1,1,Tt 61),(2,1,Tt 62)]),Sr 3 4 63,Mn 5 0] .ret)))))⟩
theorem SQ:Ag Tryz.prog 222 = some WL:=by kernel_rfl
def SR:A6:=Kf ⟨22,[.c 4 true 3],So [Bx 3 40 3 1,Ii 4 (.alloc 40 [.bool false,.slice none 0 0,.slice none 0 0])] (Ss (.ops true [Fa 7 1 3,Lf 8 7,Cc 9 216 [8],Fa 10 2 3,Lf 11 10,Cc 12 216 [11],Mv 5 9,Mv 6 12] [(1,4),(2,4)]) (So [Mv 13 0,Mv 14 13,Gg 14 true (Mv 15 5),Gg 14 true (Le 16 15),Gg 14 true (Bk 17 .gtr 16 0),Ii 18 (.pick (Tt 14) (Tt 17) (Bo false)),Mv 19 5,Mv 20 6,Ii 21 (.build [.bool false,.slice none 0 0,.slice none 0 0] [(0,1,Tt 18),(1,1,Tt 19),(2,1,Tt 20)]),Sr 3 4 21] .ret))⟩
theorem PP:Ag Tryz.prog 221 = some SR:=by kernel_rfl
def Zl:A6:=Kf ⟨8,[.c 2 true 3],So [Bx 1 40 3 0,Ii 2 (.alloc 40 [.bool false,.slice none 0 0,.slice none 0 0])] (So [Fa 3 0 1,Lf 4 3,Ii 5 (.un .not (Tt 4)),Lt 6 3 1,Cc 7 221 [5,6],Sr 3 2 7] .ret)⟩
theorem Vg:Ag Tryz.prog 186 = some Zl:=by kernel_rfl
def Zm:A6:=Kf ⟨5,[.c 2 true 3],So [Bx 1 40 3 0,Ii 2 (.alloc 40 [.bool false,.slice none 0 0,.slice none 0 0])] (So [Lt 3 3 1,Ca 4 221 [Bo false,Tt 3],Sr 3 2 4] .ret)⟩
theorem Vh:Ag Tryz.prog 191 = some Zm:=by kernel_rfl
def WM:A6:=Kf ⟨6,[.t 2],So [Bx 1 40 3 0,Mn 2 0] (So [Lt 3 3 1,Cc 4 163 [3],Cc 5 218 [4],Mv 2 5] .ret)⟩
theorem SS:Ag Tryz.prog 187 = some WM:=by kernel_rfl
def Zn:A6:=Kf ⟨29,[.t 4],So [Bx 2 40 3 0,Bx 3 40 3 1,Mn 4 0] (Ss (So [Fa 5 2 2,Lf 6 5,Cc 7 161 [6],Mv 8 7,Gg 8 true (Fa 9 2 3),Gg 8 true (Lf 10 9),Gg 8 true (Cc 11 161 [10]),Ii 12 (.pick (Tt 8) (Tt 11) (Bo false))] (Cd 12 (Ss (.ops true [Lt 13 3 2,Cc 14 163 [13],Lt 15 3 3,Cc 16 163 [15],Cc 17 181 [14,16],Mv 4 17] [(0,2),(1,2)]) .ret) .skip)) (Ss (.ops true [Lt 18 3 2,Cc 19 163 [18],Lt 20 3 3,Cc 21 183 [20],Cc 22 182 [19,21],Lt 23 3 3,Cc 24 163 [23],Lt 25 3 2,Cc 26 183 [25],Cc 27 182 [24,26],Cc 28 181 [22,27],Mv 4 28] [(0,2),(1,2),(0,5),(1,5),(2,5),(3,5),(4,5),(0,7),(1,7),(2,7),(3,7),(4,7),(5,7),(6,7)]) .ret))⟩
theorem Vi:Ag Tryz.prog 149 = some Zn:=by kernel_rfl
def Zo:A6:=Kf ⟨27,[.c 4 true 3,.t 5],So [Bx 2 40 3 0,Bx 3 40 3 1,Ii 4 (.alloc 40 [.bool false,.slice none 0 0,.slice none 0 0]),Mn 5 0] (Ss (.ops true [Lt 7 3 2,Cc 8 163 [7],Lt 9 3 3,Cc 10 183 [9],Cc 11 182 [8,10],Lt 12 3 3,Cc 13 163 [12],Lt 14 3 2,Cc 15 183 [14],Cc 16 182 [13,15],Cc 17 232 [11,16],Ii 6 (.alloc 153 [.bool false,.slice none 0 0]),Sr 2 6 17] [(0,2),(1,2),(0,5),(1,5),(2,5),(3,5),(4,5),(0,7),(1,7),(2,7),(3,7),(4,7),(5,7),(6,7),(0,11),(1,11),(2,11),(3,11),(4,11),(5,11),(6,11),(7,11),(8,11),(9,11),(10,11)]) (Ss (.ops true [Lt 18 2 6,Lt 19 3 2,Cc 20 183 [19],Lt 21 3 3,Cc 22 183 [21],Cc 23 182 [20,22],Cc 24 222 [18,23],Ex 25 0 24,Ex 26 1 24,Sr 3 4 25,Mv 5 26] [(0,1),(0,2),(0,3),(1,3),(2,3),(0,4),(0,5)]) .ret))⟩
theorem Vj:Ag Tryz.prog 207 = some Zo:=by kernel_rfl
def Zp:A6:=Kf ⟨12,[.c 4 true 3,.t 5],So [Bx 2 40 3 0,Bx 3 40 3 1,Ii 4 (.alloc 40 [.bool false,.slice none 0 0,.slice none 0 0]),Mn 5 0] (Ss (.ops true [Lt 6 3 2,Lt 7 3 3,Cc 8 186 [7],Cc 9 207 [6,8],Ex 10 0 9,Ex 11 1 9,Sr 3 4 10,Mv 5 11] [(0,1),(0,2)]) .ret)⟩
theorem Vk:Ag Tryz.prog 208 = some Zp:=by kernel_rfl
def Zq:A6:=Kf ⟨19,[.c 4 true 3,.t 5],So [Bx 2 40 3 0,Bx 3 40 3 1,Ii 4 (.alloc 40 [.bool false,.slice none 0 0,.slice none 0 0]),Mn 5 0] (Ss (.ops true [Lt 6 3 2,Cc 7 163 [6],Lt 8 3 3,Cc 9 163 [8],Cc 10 182 [7,9],Lt 11 3 2,Cc 12 183 [11],Lt 13 3 3,Cc 14 183 [13],Cc 15 182 [12,14],Cc 16 222 [10,15],Ex 17 0 16,Ex 18 1 16,Sr 3 4 17,Mv 5 18] [(0,2),(1,2),(0,5),(1,5),(2,5),(3,5),(4,5),(0,7),(1,7),(2,7),(3,7),(4,7),(5,7),(6,7)]) .ret)⟩
theorem Vl:Ag Tryz.prog 209 = some Zq:=by kernel_rfl
def Zr:A6:=Kf ⟨19,[.c 4 true 3,.t 5],So [Bx 2 40 3 0,Bx 3 40 3 1,Ii 4 (.alloc 40 [.bool false,.slice none 0 0,.slice none 0 0]),Mn 5 0] (Ss (.ops true [Lt 6 3 2,Cc 7 163 [6],Lt 8 3 3,Cc 9 183 [8],Cc 10 182 [7,9],Lt 11 3 2,Cc 12 183 [11],Lt 13 3 3,Cc 14 163 [13],Cc 15 182 [12,14],Cc 16 222 [10,15],Ex 17 0 16,Ex 18 1 16,Sr 3 4 17,Mv 5 18] [(0,2),(1,2),(0,5),(1,5),(2,5),(3,5),(4,5),(0,7),(1,7),(2,7),(3,7),(4,7),(5,7),(6,7)]) .ret)⟩
theorem Vm:Ag Tryz.prog 188 = some Zr:=by kernel_rfl
def Vn:A6:=Kf ⟨17,[.c 2 true 3],So [Bx 1 40 3 0,Ii 2 (.alloc 40 [.bool false,.slice none 0 0,.slice none 0 0])] (Ss (.ops true [Lt 7 3 1,Cc 8 163 [7],Lt 9 3 1,Cc 10 183 [9],Cc 11 223 [8,10],Mv 6 11,Ex 12 0 6,Ex 13 1 6,Ex 14 2 6,Ii 3 (.alloc 153 [.bool false,.slice none 0 0]),Ii 4 (.alloc 153 [.bool false,.slice none 0 0]),Sr 2 3 12,Sr 2 4 13,Mv 5 14] [(0,2),(1,2),(0,9),(1,9),(2,9),(3,9),(4,9),(0,10),(1,10),(2,10),(3,10),(4,10),(9,10)]) (So [Lt 15 2 3,Cc 16 173 [15],Sr 3 2 16] .ret))⟩
theorem Rq:Ag Tryz.prog 190 = some Vn:=by kernel_rfl
def WN:A6:=Kf ⟨7,[.c 2 true 3],So [Bx 1 40 3 0,Ii 2 (.alloc 40 [.bool false,.slice none 0 0,.slice none 0 0])] (So [Lt 3 3 1,Cc 4 186 [3],Cc 5 190 [4],Cc 6 186 [5],Sr 3 2 6] .ret)⟩
theorem ST:Ag Tryz.prog 189 = some WN:=by kernel_rfl
def Zs:A6:=Kf ⟨42,[.c 4 true 3,.t 5],So [Bx 2 40 3 0,Bx 3 40 3 1,Ii 4 (.alloc 40 [.bool false,.slice none 0 0,.slice none 0 0]),Mn 5 0] (Ss (So [Lt 9 3 2,Cc 10 187 [9],Bk 11 .eql 10 0] (Cd 11 (So [Fa 12 0 3,Lf 13 12,Lt 14 3 3,Cc 15 221 [13,14],Sr 3 4 15,Mn 5 0] .ret) .skip)) (So [Lt 17 3 3,Lt 18 3 2,Cc 19 188 [17,18],Mv 16 19,Ex 20 0 16,Ex 21 1 16,Ii 6 (.alloc 40 [.bool false,.slice none 0 0,.slice none 0 0]),Sr 3 6 20,Mv 7 21] (Ss (So [Mv 22 7,Bk 23 .neq 22 0] (Cd 23 (So [Ii 24 (.build [.bool false,.slice none 0 0,.slice none 0 0] []),Mv 25 7,Sr 3 4 24,Mv 5 25] .ret) .skip)) (Ss (.ops true [Lt 27 3 2,Lt 28 3 6,Cc 29 190 [28],Cc 30 209 [27,29],Mv 26 30,Ex 31 0 26,Ex 32 1 26,Ii 8 (.alloc 40 [.bool false,.slice none 0 0,.slice none 0 0]),Sr 3 8 31,Mv 7 32] [(0,1),(0,2),(0,7),(1,7),(2,7),(3,7)]) (Ss (So [Mv 33 7,Bk 34 .neq 33 0] (Cd 34 (So [Ii 35 (.build [.bool false,.slice none 0 0,.slice none 0 0] []),Mv 36 7,Sr 3 4 35,Mv 5 36] .ret) .skip)) (So [Lt 37 3 3,Lt 38 3 8,Cc 39 208 [37,38],Ex 40 0 39,Ex 41 1 39,Sr 3 4 40,Mv 5 41] .ret))))))⟩
theorem Fi:Ag Tryz.prog 210 = some Zs:=by kernel_rfl
def Zt:A6:=Kf ⟨54,[.c 4 true 3,.t 5],So [Bx 2 40 3 0,Ii 4 (.alloc 40 [.bool false,.slice none 0 0,.slice none 0 0]),Mn 5 0] (Ss (.ops true [Lt 11 3 2,Cc 12 163 [11],Lt 13 3 2,Cc 14 183 [13],Ii 6 (.alloc 153 [.bool false,.slice none 0 0]),Ii 7 (.alloc 153 [.bool false,.slice none 0 0]),Sr 2 6 12,Sr 2 7 14] [(0,2),(1,2),(0,4),(1,4),(2,4),(3,4),(0,5),(1,5),(2,5),(3,5),(4,5)]) (Ss (So [Mv 15 1,Bk 16 .lss 15 0] (Cd 16 (Ss (So [Lt 17 2 6,Cc 18 218 [17],Bk 19 .eql 18 0,Mv 20 19,Gg 20 false (Mv 21 1),Gg 20 false (Bk 22 .eql 21 (-9223372036854775808)),Ii 23 (.pick (Tt 20) (Bo true) (Tt 22))] (Cd 23 (So [Ii 24 (.build [.bool false,.slice none 0 0,.slice none 0 0] []),Sr 3 4 24,Mn 5 3] .ret) .skip)) (Oo [Lt 25 2 7,Lt 26 2 6,Mv 27 1,Ii 28 (.un .neg (Tt 27)),Sr 2 6 25,Sr 2 7 26,Mv 1 28])) .skip)) (So [Lt 30 2 6,Mv 31 1,Cc 32 233 [30,31],Mv 29 32,Ex 33 0 29,Ex 34 1 29,Ii 8 (.alloc 153 [.bool false,.slice none 0 0]),Sr 2 8 33,Mv 9 34] (Ss (So [Mv 35 9,Bk 36 .neq 35 0] (Cd 36 (So [Ii 37 (.build [.bool false,.slice none 0 0,.slice none 0 0] []),Mv 38 9,Sr 3 4 37,Mv 5 38] .ret) .skip)) (So [Lt 40 2 7,Mv 41 1,Cc 42 233 [40,41],Mv 39 42,Ex 43 0 39,Ex 44 1 39,Ii 10 (.alloc 153 [.bool false,.slice none 0 0]),Sr 2 10 43,Mv 9 44] (Ss (So [Mv 45 9,Bk 46 .neq 45 0] (Cd 46 (So [Ii 47 (.build [.bool false,.slice none 0 0,.slice none 0 0] []),Mv 48 9,Sr 3 4 47,Mv 5 48] .ret) .skip)) (So [Lt 49 2 8,Lt 50 2 10,Cc 51 222 [49,50],Ex 52 0 51,Ex 53 1 51,Sr 3 4 52,Mv 5 53] .ret)))))))⟩
theorem B6:Ag Tryz.prog 211 = some Zt:=by kernel_rfl
def Zu:A6:=Kf ⟨24,[.c 4 true 3,.t 5],So [Bx 2 40 3 0,Bx 3 40 3 1,Ii 4 (.alloc 40 [.bool false,.slice none 0 0,.slice none 0 0]),Mn 5 0] (Ss (So [Fa 6 2 2,Lf 7 6,Cc 8 161 [7],Ii 9 (.un .not (Tt 8)),Mv 10 9,Gg 10 false (Fa 11 2 3),Gg 10 false (Lf 12 11),Gg 10 false (Cc 13 161 [12]),Gg 10 false (Ii 14 (.un .not (Tt 13))),Ii 15 (.pick (Tt 10) (Bo true) (Tt 14))] (Cd 15 (So [Ii 16 (.build [.bool false,.slice none 0 0,.slice none 0 0] []),Sr 3 4 16,Mn 5 3] .ret) .skip)) (So [Fa 17 1 2,Lf 18 17,Fa 19 1 3,Lf 20 19,Cc 21 234 [18,20],Ii 22 (.build [.bool false,.slice none 0 0] [(1,1,Tt 21)]),Cc 23 173 [22],Sr 3 4 23,Mn 5 0] .ret))⟩
theorem Vo:Ag Tryz.prog 213 = some Zu:=by kernel_rfl
def Zv:A6:=Kf ⟨38,[.c 4 true 3,.t 5],So [Bx 2 40 3 0,Bx 3 40 3 1,Ii 4 (.alloc 40 [.bool false,.slice none 0 0,.slice none 0 0]),Mn 5 0] (So [Lt 10 3 2,Lt 11 3 3,Cc 12 213 [10,11],Mv 9 12,Ex 13 0 9,Ex 14 1 9,Ii 6 (.alloc 40 [.bool false,.slice none 0 0,.slice none 0 0]),Sr 3 6 13,Mv 7 14] (Ss (So [Mv 15 7,Bk 16 .neq 15 0] (Cd 16 (So [Ii 17 (.build [.bool false,.slice none 0 0,.slice none 0 0] []),Mv 18 7,Sr 3 4 17,Mv 5 18] .ret) .skip)) (Ss (So [Lt 19 3 6,Cc 20 187 [19],Bk 21 .eql 20 0] (Cd 21 (So [Ca 22 142 [Nn 0],Sr 3 4 22,Mn 5 0] .ret) .skip)) (So [Lt 24 3 2,Lt 25 3 6,Cc 26 188 [24,25],Mv 23 26,Ex 27 0 23,Ex 28 1 23,Ii 8 (.alloc 40 [.bool false,.slice none 0 0,.slice none 0 0]),Sr 3 8 27,Mv 7 28] (Ss (So [Mv 29 7,Bk 30 .neq 29 0] (Cd 30 (So [Ii 31 (.build [.bool false,.slice none 0 0,.slice none 0 0] []),Mv 32 7,Sr 3 4 31,Mv 5 32] .ret) .skip)) (So [Lt 33 3 8,Lt 34 3 3,Cc 35 209 [33,34],Ex 36 0 35,Ex 37 1 35,Sr 3 4 36,Mv 5 37] .ret))))))⟩
theorem Fj:Ag Tryz.prog 212 = some Zv:=by kernel_rfl
def SU:A6:=Kf ⟨6,[.c 2 true 3],So [Ii 2 (.alloc 40 [.bool false,.slice none 0 0,.slice none 0 0])] (Ss (So [Mv 3 0] (Cd 3 (So [Ca 4 142 [Nn 1],Sr 3 2 4] .ret) .skip)) (So [Ca 5 142 [Nn 0],Sr 3 2 5] .ret))⟩
theorem H7:Ag Tryz.prog 172 = some SU:=by kernel_rfl
def Oe:A6:=Kf ⟨41,[.c 6 true 3,.t 7],So [Bx 4 40 3 1,Bx 5 40 3 2,Ii 6 (.alloc 40 [.bool false,.slice none 0 0,.slice none 0 0]),Mn 7 0] (So [Lt 10 3 4,Lt 11 3 5,Cc 12 149 [10,11],Mv 8 12,Ii 9 (.mov (Bo false))] (Ss (So [Mv 13 0] (.block 0 (So [Bk 16 .eql 13 60,Mv 15 16] (Cd 15 (Oo [Mv 17 8,Bk 18 .lss 17 0,Mv 9 18]) (So [Bk 20 .eql 13 8804,Mv 19 20] (Cd 19 (Oo [Mv 21 8,Bk 22 .leq 21 0,Mv 9 22]) (So [Bk 24 .eql 13 61,Mv 23 24] (Cd 23 (Oo [Mv 25 8,Bk 26 .eql 25 0,Mv 9 26]) (So [Bk 28 .eql 13 8805,Mv 27 28] (Cd 27 (Oo [Mv 29 8,Bk 30 .geq 29 0,Mv 9 30]) (So [Bk 32 .eql 13 62,Mv 31 32] (Cd 31 (Oo [Mv 33 8,Bk 34 .gtr 33 0,Mv 9 34]) (So [Bk 36 .eql 13 8800,Mv 35 36] (Cd 35 (Oo [Mv 37 8,Bk 38 .neq 37 0,Mv 9 38]) (So [Ii 14 (.build [.bool false,.slice none 0 0,.slice none 0 0] []),Sr 3 6 14,Mn 7 8] .ret))))))))))))))) (So [Mv 39 9,Cc 40 172 [39],Sr 3 6 40,Mn 7 0] .ret)))⟩
theorem AT:Ag Tryz.prog 214 = some Oe:=by kernel_rfl
def PQ:A6:=Kf ⟨95,[.c 6 true 3,.t 7],So [Bx 4 40 3 1,Bx 5 40 3 2,Ii 6 (.alloc 40 [.bool false,.slice none 0 0,.slice none 0 0]),Mn 7 0] (Ss (So [Mv 10 0] (.block 0 (So [Bk 12 .eql 10 43,Mv 11 12] (Cd 11 (So [Lt 13 3 4,Lt 14 3 5,Cc 15 207 [13,14],Ex 16 0 15,Ex 17 1 15,Sr 3 6 16,Mv 7 17] .ret) (So [Bk 19 .eql 10 45,Mv 18 19] (Cd 18 (So [Lt 20 3 4,Lt 21 3 5,Cc 22 208 [20,21],Ex 23 0 22,Ex 24 1 22,Sr 3 6 23,Mv 7 24] .ret) (So [Bk 26 .eql 10 215,Mv 25 26] (Cd 25 (So [Lt 27 3 4,Lt 28 3 5,Cc 29 209 [27,28],Ex 30 0 29,Ex 31 1 29,Sr 3 6 30,Mv 7 31] .ret) (So [Bk 33 .eql 10 247,Mv 32 33] (Cd 32 (So [Lt 34 3 4,Lt 35 3 5,Cc 36 188 [34,35],Ex 37 0 36,Ex 38 1 36,Sr 3 6 37,Mv 7 38] .ret) (Ss (So [Bk 40 .eql 10 8968,Mv 39 40] (Cd 39 .skip (Oo [Bk 41 .eql 10 8970,Mv 39 41]))) (Cd 39 (Ss (So [Lt 42 3 4,Lt 43 3 5,Cc 44 149 [42,43],Bk 45 .lss 44 0,Mv 46 0,Bk 47 .eql 46 8968,Ii 48 (.binB .eql (Tt 45) (Tt 47))] (Cd 48 (Oo [Lt 49 3 5,Sr 3 4 49]) .skip)) (So [Lt 50 3 4,Cc 51 185 [50],Ii 52 (.field true 2 3 (Tt 51)),Sr 3 6 52,Mn 7 0] .ret)) (So [Bk 54 .eql 10 124,Mv 53 54] (Cd 53 (So [Lt 55 3 4,Lt 56 3 5,Cc 57 210 [55,56],Ex 58 0 57,Ex 59 1 57,Sr 3 6 58,Mv 7 59] .ret) (So [Bk 61 .eql 10 42,Mv 60 61] (Cd 60 (So [Lt 63 3 5,Cc 64 111 [63],Mv 62 64,Ex 65 0 62,Ex 66 1 62,Mv 8 65,Mv 9 66] (Ss (So [Mv 67 9,Ii 68 (.un .not (Tt 67))] (Cd 68 (So [Ii 69 (.build [.bool false,.slice none 0 0,.slice none 0 0] []),Sr 3 6 69,Mn 7 8] .ret) .skip)) (So [Lt 70 3 4,Mv 71 8,Cc 72 211 [70,71],Ex 73 0 72,Ex 74 1 72,Sr 3 6 73,Mv 7 74] .ret))) (So [Bk 76 .eql 10 8743,Mv 75 76] (Cd 75 (So [Lt 77 3 4,Lt 78 3 5,Cc 79 212 [77,78],Ex 80 0 79,Ex 81 1 79,Sr 3 6 80,Mv 7 81] .ret) (So [Bk 83 .eql 10 8744,Mv 82 83] (Cd 82 (So [Lt 84 3 4,Lt 85 3 5,Cc 86 213 [84,85],Ex 87 0 86,Ex 88 1 86,Sr 3 6 87,Mv 7 88] .ret) .skip)))))))))))))))))))) (So [Mv 89 0,Lt 90 3 4,Lt 91 3 5,Cc 92 214 [89,90,91],Ex 93 0 92,Ex 94 1 92,Sr 3 6 93,Mv 7 94] .ret))⟩
theorem AP:Ag Tryz.prog 171 = some PQ:=by kernel_rfl
def SV:A6:=Kf ⟨21,[.t 2],So [Ii 2 (.mov (Bo false))] (Ss (So [Mv 3 0] (.block 0 (Ss (So [Bk 5 .eql 3 43,Mv 4 5] (Cd 4 .skip (So [Bk 6 .eql 3 45,Mv 4 6] (Cd 4 .skip (So [Bk 7 .eql 3 215,Mv 4 7] (Cd 4 .skip (So [Bk 8 .eql 3 247,Mv 4 8] (Cd 4 .skip (So [Bk 9 .eql 3 8968,Mv 4 9] (Cd 4 .skip (So [Bk 10 .eql 3 8970,Mv 4 10] (Cd 4 .skip (So [Bk 11 .eql 3 124,Mv 4 11] (Cd 4 .skip (So [Bk 12 .eql 3 42,Mv 4 12] (Cd 4 .skip (So [Bk 13 .eql 3 60,Mv 4 13] (Cd 4 .skip (So [Bk 14 .eql 3 8804,Mv 4 14] (Cd 4 .skip (So [Bk 15 .eql 3 61,Mv 4 15] (Cd 4 .skip (So [Bk 16 .eql 3 8805,Mv 4 16] (Cd 4 .skip (So [Bk 17 .eql 3 62,Mv 4 17] (Cd 4 .skip (So [Bk 18 .eql 3 8800,Mv 4 18] (Cd 4 .skip (So [Bk 19 .eql 3 8743,Mv 4 19] (Cd 4 .skip (Oo [Bk 20 .eql 3 8744,Mv 4 20]))))))))))))))))))))))))))))))) (Cd 4 (So [Ii 2 (.mov (Bo true))] .ret) .skip)))) (So [Ii 2 (.mov (Bo false))] .ret))⟩
theorem H8:Ag Tryz.prog 138 = some SV:=by kernel_rfl
def PR:A6:=Kf ⟨40,[.t 4,.t 5],So [Bx 2 26 3 0,Bx 3 26 3 1,Ii 4 (.mov (.const (.slice none 0 0))),Mn 5 0] (Ss (.block 0 (So [Fa 7 1 2,Lf 8 7,Le 9 8,Bk 10 .eql 9 0,Mv 6 10] (Cd 6 (So [Fa 11 1 3,Lf 12 11,Cc 13 64 [12],Mv 4 13,Mn 5 0] .ret) (So [Fa 15 1 3,Lf 16 15,Le 17 16,Bk 18 .eql 17 0,Mv 14 18] (Cd 14 (So [Fa 19 1 2,Lf 20 19,Cc 21 64 [20],Mv 4 21,Mn 5 0] .ret) (So [Fa 23 1 2,Lf 24 23,Le 25 24,Fa 26 1 3,Lf 27 26,Le 28 27,Bt 29 .neq 25 28,Mv 22 29] (Cd 22 (So [Ii 4 (.mov (.const (.slice none 0 0))),Mn 5 5] .ret) (So [Fa 31 1 2,Lf 32 31,Fa 33 1 3,Lf 34 33,Cc 35 169 [32,34],Ii 36 (.un .not (Tt 35)),Mv 30 36] (Cd 30 (So [Ii 4 (.mov (.const (.slice none 0 0))),Mn 5 4] .ret) .skip))))))))) (So [Fa 37 1 2,Lf 38 37,Cc 39 64 [38],Mv 4 39,Mn 5 0] .ret))⟩
theorem MV:Ag Tryz.prog 139 = some PR:=by kernel_rfl
def Vp:A6:=Kf ⟨24,[.c 4 true 7],So [Bx 2 26 3 0,Ii 4 (.alloc 43 Zc)] (Ss (So [Fa 5 1 2,Lf 6 5,Le 7 6,Bk 8 .eql 7 0] (Cd 8 (Oo [Mn 1 0]) .skip)) (Ss (So [Mv 9 1,Bk 10 .lss 9 0,Mv 11 10,Gg 11 false (Mv 12 1),Gg 11 false (Fa 13 2 2),Gg 11 false (Lf 14 13),Gg 11 false (Le 15 14),Gg 11 false (Bt 16 .geq 12 15),Ii 17 (.pick (Tt 11) (Bo true) (Tt 16))] (Cd 17 (So [Ii 18 (.build Zc []),Sr 7 4 18] .ret) .skip)) (So [Fa 19 2 2,Lf 20 19,Mv 21 1,Ia 22 7 20 21,Lt 23 7 22,Sr 7 4 23] .ret)))⟩
theorem Rr:Ag Tryz.prog 141 = some Vp:=by kernel_rfl
def Rs:A6:=Kf ⟨12,[.c 2 true 3],So [Bx 1 43 7 0,Ii 2 (.alloc 26 Za)] (Ss (So [Fa 3 6 1,Lf 4 3,Le 5 4,Bk 6 .eql 5 0] (Cd 6 (So [Ii 7 (.build Za []),Sr 3 2 7] .ret) .skip)) (So [Fa 8 6 1,Lf 9 8,Ii 10 (.iaddr 3 (Tt 9) (Nn 0)),Lt 11 3 10,Sr 3 2 11] .ret))⟩
theorem Og:Ag Tryz.prog 152 = some Rs:=by kernel_rfl
def PS:A6:=Kf ⟨11,[.c 2 true 3],So [Bx 1 43 7 0,Ii 2 (.alloc 26 Za)] (Ss (So [Fa 3 1 1,Lf 4 3,Bk 5 .eql 4 2] (Cd 5 (So [Lt 6 7 1,Cc 7 152 [6],Sr 3 2 7] .ret) .skip)) (So [Fa 8 0 1,Jj (.store 1 (Tt 8) (.const (.int .u64 0)))] (So [Lt 9 7 1,Cc 10 124 [9],Sr 3 2 10] .ret)))⟩
theorem GD:Ag Tryz.prog 170 = some PS:=by kernel_rfl
open Go.RowKit Go.Maps Go.WideMaps
open Go.ChangeShapes (lits)
theorem Tg:Keyed Tryz.prog 22 := int_keyed Tryz.underlying22
theorem AkF:(Tryz.prog.info? 3).map (fun i=>(i.zero,i.size,i.bytes))=some (some (.int .i64 0),1,8):=by kernel_rfl
theorem PT (w:World):(zeroValue 23).run Tryz.prog w=.ok (.slice none 0 0) w:=by kernel_rfl
def Rt {H:Type}:DataW H→List (DataW H)
 | .slice es _=>es
 | _=>[]
def PU {H:Type} (mk:Nat→Int):Nat→DataW H
 | 0=>.map []
 | k+1=>(PU mk k).put (.int .u64 (mk k)) (.slice (Rt ((PU mk k).atKey (.int .u64 (mk k)) .nil)++[.lit (.int .i64 k)]) [])
theorem Af8 {H:Type} {w:World} {base:Nat} {e:TypeId} {v:Value} {zs:List Int} (mk:Nat→Int) (k:Nat) (ho:w.ownsInts base e .i64 v zs)
 (hat:(PU (H:=H) mk k).atKey (.int .u64 (mk k)) .nil=rowDatum .i64 v zs):PU (H:=H) mk (k+1)=(PU mk k).put (.int .u64 (mk k)) (.slice (lits .i64 (zs++[(k:Int)])) []):=by
 rw [PU,hat];rcases ho.datum (H:=H) with ⟨h1,rfl⟩|h1<;>rw [h1]<;>simp [Rt,lits]
theorem R7 {H:Type} {P:Program} {w w':World} {k e:TypeId} {q:IntKind} {base b n:Nat} {D:DataW H} (h:w.ownsGroups P k base e q b n D) (hg:w.grownBy w' none):w'.ownsGroups P k base e q b n D:=by
 obtain ⟨es,clock,hb,F,hs,rfl,hbb,hlen,hap⟩:=h;have hbl:=(Array.getElem?_eq_some_iff.1 hb).1;have keep:∀ {u:Value} {ys:List Int},w.ownsInts base e q u ys→w'.ownsInts base e q u ys:=fun {u ys} ho=>ho.kept hg (by cases hu:u.ownBlock with|none=>exact .inl rfl|some g=>exact .inr (by simp))
 have hs2:∀ x ∈ es.toList,∀ z,rowElem (H:=H) w base e q x.val=some z→rowElem w' base e q x.val=some z:=by
  intro x _ z hz;obtain ⟨ys,ho,rfl⟩:=rowElem_inv hz;exact rowElem_mk (keep ho)
 obtain ⟨F2,hmap2,_⟩:=F.stay hs2;refine ⟨es,clock,(hg.block b hbl (by simp)).trans hb,F2,hs,by rw [hmap2],hbb,fun x hx zs ho => ?_,hap⟩;obtain ⟨y,hy⟩:=F.reads x hx;obtain ⟨z,hz,_⟩:=Go.WideElems.rd_val hy;obtain ⟨zs',ho',_⟩:=rowElem_inv hz;rw [ho.unique (keep ho')];exact hlen x hx zs' ho'
theorem Vq {H:Type} {P:Program} {w:World} {t E k e:TypeId} {q:IntKind} {base b n:Nat} {D:DataW H} (h:w.ownsGroups P k base e q b n D) (K:Keyed P k) (ht:P.underlying t=some (.map k E)) (hz:∀ w,(zeroValue E).run P w=.ok (.slice none 0 0) w) {key:Value} {kl:Lit} (hkey:keyOf P k key=some kl)
 {w1 w2:World} (e1:w1.heap[b]? = w.heap[b]?) (e2:w2.heap[b]? = w.heap[b]?) {v:Value} (hv:(Instr.lookup t (.map (some b)) key false).run P w1=.ok v w1):(Instr.lookup t (.map (some b)) key false).run P w2=.ok v w2:=by
 obtain ⟨es,clock,hb,F,_⟩:=h;have hb1:w1.heap[b]? = some (.map es clock):=e1.trans hb;have hb2:w2.heap[b]? = some (.map es clock):=e2.trans hb
 have uniq:∀ x ∈ es.toList,∀ y ∈ es.toList,x.key=y.key→x=y:=fun x hx y hy e=>by
  obtain ⟨i,hi⟩:=List.mem_iff_getElem?.1 hx;obtain ⟨j,hj⟩:=List.mem_iff_getElem?.1 hy;have hil:=(List.getElem?_eq_some_iff.1 hi).1;have hjl:=(List.getElem?_eq_some_iff.1 hj).1;have hnd:=F.stamped.2.2
  have:i=j:=by
   refine (List.getElem?_inj (i:=i) (j:=j) (by simpa using hil) hnd).1 ?_;rw [List.getElem?_map,List.getElem?_map,hi,hj];simp [e]
  subst this;rw [hi] at hj;exact Option.some.inj hj
 rcases K.find w1 hkey es.toList F.keys with ⟨h1,h2⟩|⟨j,x,h1,h2,h3⟩
 ·have r1:(Instr.lookup t (.map (some b)) key false).run P w1=.ok (.slice none 0 0) w1:=by simp [Instr.lookup,run_underlying ht,MapKept.run_getObj_map hb1,K.check w1 _ hkey,h1,hz w1,Result.andThen]
  rcases K.find w2 hkey es.toList F.keys with ⟨g1,_⟩|⟨j',y,_,g2,g3⟩
  ·have r2:(Instr.lookup t (.map (some b)) key false).run P w2=.ok (.slice none 0 0) w2:=by simp [Instr.lookup,run_underlying ht,MapKept.run_getObj_map hb2,K.check w2 _ hkey,g1,hz w2,Result.andThen]
   rw [hv] at r1;cases r1;exact r2
  ·exact absurd g3 (h2 y (List.mem_of_getElem? g2))
 ·have r1:(Instr.lookup t (.map (some b)) key false).run P w1=.ok x.val w1:=by simp [Instr.lookup,run_underlying ht,MapKept.run_getObj_map hb1,K.check w1 _ hkey,h1,Result.andThen]
  rcases K.find w2 hkey es.toList F.keys with ⟨_,g1⟩|⟨j',y,g1,g2,g3⟩
  ·exact absurd h3 (g1 x (List.mem_of_getElem? h2))
  ·have r2:(Instr.lookup t (.map (some b)) key false).run P w2=.ok y.val w2:=by simp [Instr.lookup,run_underlying ht,MapKept.run_getObj_map hb2,K.check w2 _ hkey,g1,Result.andThen]
   obtain rfl:=uniq x (List.mem_of_getElem? h2) y (List.mem_of_getElem? g2) (h3.trans g3.symm);rw [hv] at r1;cases r1;exact r2
theorem AbJ {w w':World} (h:Below w.heap.size w w'):w.grownBy w' none:=⟨h.os,h.tape,h.output,h.size,fun i hi _=>h.block i hi⟩
theorem Aim {H:Type} (a:Option Addr) (n cap:Nat) (CV:Nat→List Value) (mk:Nat→Int) (w:World) (hn:n≤100000)
 (hc:∀ k,k<n→∃ b off,a=some ⟨b,off,none⟩∧b<w.heap.size∧(CV k).length=7∧(∀ u ∈ CV k,u.oneCell'=true)∧∀ j u,(CV k)[j]? = some u→w.cell? ⟨b,off+(k * 7+j),none⟩=some u)
 (hm:∀ k,k<n→∀ wr,Below w.heap.size w wr→Calls Tryz.prog 145 #[.int .u64 0,.agg (CV k).toArray] wr fun e w'=>e=.returned (.int .u64 (mk k))∧Below wr.heap.size wr w')
 (hmk:∀ k,0≤mk k∧mk k<18446744073709551616) :
 Calls Tryz.prog 95 #[.slice a n cap] w fun e w'=>e=.returned (.func (.func 146) #[] #[.pointer (some ⟨w.heap.size+1+1,0,none⟩),.pointer (some ⟨w.heap.size,0,none⟩)]) ∧
  w'.cell? ⟨w.heap.size,0,none⟩=some (.slice a n cap)∧w'.cell? ⟨w.heap.size+1+1,0,none⟩=some (.map (some (w.heap.size+1))) ∧
   w'.ownsGroups (H:=H) Tryz.prog 22 (w.heap.size+3) 3 .i64 (w.heap.size+1) n (PU mk n)∧Below w.heap.size w w':=by
 have hmm := @run_makeMap Tryz.prog;obtain ⟨i0,hi,hz0,hz1,hz2⟩:=info_parts AkF
 go_enter Tryz.func95,Tryz.ntmps95
 go_wp2
 go_loopw [10] (fun i wr=>∃ k:Nat,k≤n∧i=.int .i64 k∧wr.ownsGroups Tryz.prog 22 (w.heap.size+3) 3 .i64 (w.heap.size+1) k (PU (H:=H) mk k)∧Below w.heap.size w wr∧w.heap.size+3≤wr.heap.size ∧
  wr.cell? ⟨w.heap.size,0,none⟩=some (.slice a n cap)∧wr.cell? ⟨w.heap.size+1+1,0,none⟩=some (.map (some (w.heap.size+1))))
  (fun i _=>n - (Go.RowKit.intOf i).toNat)
 case atStart =>
  refine ⟨0,Nat.zero_le _,rfl,?_,?_,?_,?_,?_⟩
  ·refine R7 ?_ (World.grownBy_alloc _ _ none)
   exact ⟨#[],0,by have:=(MapKept.heap_alloc (w.alloc (.cells #[.slice a n cap] 24)) (.map #[] 0)).1; simpa using this,⟨by simp,MapKept.stamped_empty 0,by simp⟩,Nat.le_refl _,rfl,by omega,by simp,by simp⟩
  ·exact (((Below.refl _ _).alloc (Nat.le_refl _) _).alloc (by simp) _).alloc (by simp; omega) _
  ·simp
  ·have h1:(w.alloc (.cells #[.slice a n cap] 24)).cell? ⟨w.heap.size,0,none⟩=some (.slice a n cap):=cell_one_new w _ _ 0 _ rfl
   have h2:=(World.cell?_alloc_some _ _ (.map #[] 0) (by rw [h1]; rfl)).trans h1;exact (World.cell?_alloc_some _ _ _ (by rw [h2]; rfl)).trans h2
  ·have e:((w.alloc (.cells #[.slice a n cap] 24)).alloc (.map #[] 0)).heap.size=w.heap.size+1+1:=by simp
   have h1:=cell_one_new ((w.alloc (.cells #[.slice a n cap] 24)).alloc (.map #[] 0)) (.map (some (w.heap.size+1))) 139 0 _ rfl;rw [e] at h1;exact h1
 case round =>
  obtain ⟨k,hk,rfl,hown,hnx,hws,hl,hp⟩:=hrel;by_cases hlt:k<n
  ·obtain ⟨b,off,rfl,hbl,hl7,hones,hcc⟩:=hc k hlt
   obtain ⟨c0,c1,c2,c3,c4,c5,c6,hcv⟩:∃ c0 c1 c2 c3 c4 c5 c6,CV k=[c0,c1,c2,c3,c4,c5,c6]:=by
    generalize CV k=l at hl7 ⊢
    match l,hl7 with
    | [c0,c1,c2,c3,c4,c5,c6],_=>exact ⟨_,_,_,_,_,_,_,rfl⟩
   have hmr:=hm k hlt;rw [hcv] at hcc hones hmr;have hw:∀ j u,[c0,c1,c2,c3,c4,c5,c6][j]? = some u→wr.cell? ⟨b,off+k * 7+j,none⟩=some u:=fun j u hu=>by rw [Nat.add_assoc]; exact (hnx.cell (by exact hbl)).trans (hcc j u hu)
   have h0:wr.cell? ⟨b,off+k * 7,none⟩=some c0:=hw 0 c0 rfl;have h1:=hw 1 c1 rfl;have h2:=hw 2 c2 rfl;have h3:=hw 3 c3 rfl;have h4:=hw 4 c4 rfl;have h5:=hw 5 c5 rfl;have h6:=hw 6 c6 rfl;have o0:∀ w a m,(store a c0 m).run Tryz.prog w=stored Tryz.prog w a c0 m:=fun w a m=>run_store Tryz.prog w a c0 m (hones c0 (by simp));have o1:∀ w a m,(store a c1 m).run Tryz.prog w=stored Tryz.prog w a c1 m:=fun w a m=>run_store Tryz.prog w a c1 m (hones c1 (by simp));have o2:∀ w a m,(store a c2 m).run Tryz.prog w=stored Tryz.prog w a c2 m:=fun w a m=>run_store Tryz.prog w a c2 m (hones c2 (by simp));have o3:∀ w a m,(store a c3 m).run Tryz.prog w=stored Tryz.prog w a c3 m:=fun w a m=>run_store Tryz.prog w a c3 m (hones c3 (by simp));have o4:∀ w a m,(store a c4 m).run Tryz.prog w=stored Tryz.prog w a c4 m:=fun w a m=>run_store Tryz.prog w a c4 m (hones c4 (by simp));have o5:∀ w a m,(store a c5 m).run Tryz.prog w=stored Tryz.prog w a c5 m:=fun w a m=>run_store Tryz.prog w a c5 m (hones c5 (by simp));have o6:∀ w a m,(store a c6 m).run Tryz.prog w=stored Tryz.prog w a c6 m:=fun w a m=>run_store Tryz.prog w a c6 m (hones c6 (by simp));clear hcc hones hw hcv hl7;have hsz:w.heap.size≤wr.heap.size:=by omega
   go_wp2_with (go_at_call 145; refine (hmr _ (hnx.alloc hsz _)).mono ?_; rintro e w2 ⟨rfl,hb2⟩)
   have hg2:wr.grownBy w2 none:=(World.grownBy_alloc _ _ _).trans (AbJ hb2);have hown2:=R7 hown hg2;have hl2:w2.cell? ⟨w.heap.size,0,none⟩=some (.slice (some ⟨b,off,none⟩) n cap):=(hg2.cell_far ⟨w.heap.size,0,none⟩ (by show w.heap.size<wr.heap.size; omega) (by simp)).trans hl;have hp2:w2.cell? ⟨w.heap.size+1+1,0,none⟩=some (.map (some (w.heap.size+1))):=(hg2.cell_far ⟨w.heap.size+1+1,0,none⟩ (by show w.heap.size+1+1<wr.heap.size; omega) (by simp)).trans hp;have hws2:w.heap.size+3≤w2.heap.size:=Nat.le_trans hws hg2.size;have hnx2:Below w.heap.size w w2:=hnx.grown hg2 hsz (fun j hj=>by cases hj);have hkey:keyOf Tryz.prog 22 (.int .u64 (mk k))=some (.int .u64 (mk k)):=keyOf_int_mk Tryz.underlying22 (WalkArith.wf_u64 (by have:=hmk k; omega));obtain ⟨v,zs,hrun,hat,hoi,hzl,hback⟩:=hown2.at Tg Tryz.underlying139 (PT _) (by unfold maxLen; omega) hkey;have hany:=fun w' e=>Vq hown2 Tg Tryz.underlying139 PT hkey (w1:=w2) (w2:=w') rfl e hrun;clear h0 h1 h2 h3 h4 h5 h6 o0 o1 o2 o3 o4 o5 o6 hmr hc hm hmm hown hl hp hb2 hnx;have hB:w.heap.size+1<w2.heap.size:=by omega
   have hq1:=hany w2.drew rfl;have hq2:∀ o:Obj,(Instr.lookup 139 (.map (some (w.heap.size+1))) (.int .u64 (mk k)) false).run Tryz.prog (w2.alloc o).drew=.ok v (w2.alloc o).drew:=fun o=>hany _ ((World.grownBy_alloc w2 o none).block _ hB (by simp))
   have kA:∀ (X:World) (o:Obj),X.cell? ⟨w.heap.size+1+1,0,none⟩=some (.map (some (w.heap.size+1)))→(X.alloc o).cell? ⟨w.heap.size+1+1,0,none⟩=some (.map (some (w.heap.size+1))) :=
    fun X o x1=>(World.cell?_alloc_some _ _ _ (by rw [x1]; rfl)).trans x1
   have kG:∀ X Y:World,w2.heap.size≤X.heap.size→X.grownBy Y v.ownBlock→X.cell? ⟨w.heap.size+1+1,0,none⟩=some (.map (some (w.heap.size+1)))→Y.cell? ⟨w.heap.size+1+1,0,none⟩=some (.map (some (w.heap.size+1))) :=
    fun X Y hs hg x1=>by
     have hne:∀ i,i<w.heap.size+3→some i≠v.ownBlock:=fun i hi e=>by
      have:=(hoi.1.lt i e.symm).1; omega
     exact (hg.cell_far _ (by show w.heap.size+1+1<_; omega) (hne _ (by show w.heap.size+1+1<_; omega))).trans x1
   have hend:∀ (X w3:World) (gg cap1:Nat),w2.grownBy X v.ownBlock→X.grownBy w3 v.ownBlock→w3.ownsRow (w.heap.size+3) 3 1 (.slice (some ⟨gg,0,none⟩) (zs.length+1) cap1) (zs.length+1) (zs.map (Value.int .i64)++[.int .i64 k])→(v.ownBlock=some gg∨gg=w2.heap.size+1) →
    ∃ w4,(Instr.mapUpdate 139 (.map (some (w.heap.size+1))) (.int .u64 (mk k)) (.slice (some ⟨gg,0,none⟩) (zs.length+1) cap1)).run Tryz.prog w3=.ok () w4 ∧
      w4.ownsGroups Tryz.prog 22 (w.heap.size+3) 3 .i64 (w.heap.size+1) (k+1) (PU (H:=H) mk (k+1))∧Below w.heap.size w w4∧w.heap.size+3≤w4.heap.size ∧
       w4.cell? ⟨w.heap.size,0,none⟩=some (.slice (some ⟨b,off,none⟩) n cap)∧w4.cell? ⟨w.heap.size+1+1,0,none⟩=some (.map (some (w.heap.size+1))):=by
    intro X w3 gg cap1 g1 g2 ho3 hat3;have hall:=g1.trans g2;have ho3':=hoi.appended ho3 (WalkArith.wf_i64 (by omega))
    have hne:∀ i,i<w.heap.size+3→some i≠v.ownBlock:=fun i hi e=>by
     have:=(hoi.1.lt i e.symm).1; omega
    obtain ⟨w4,r1,r2,r3⟩:=hback w3 _ _ hall ho3' (by simp; omega) (by
     rcases hat3 with h|h
     ·exact .inl (by rw [h]; rfl)
     ·exact .inr ⟨gg,rfl,by omega⟩)
    have hs3:=hall.size;have hs4:=r3.size;refine ⟨w4,r1,?_,(hnx2.grown hall (by omega) (fun j hj=>by have:=(hoi.1.lt j hj).1; omega)).grown r3 (by omega) (fun j hj=>by cases hj; omega),by omega,?_,?_⟩
    ·rw [Af8 mk k hoi hat,← ho3'.datum_pos (by simp)]
     exact r2
    ·exact (r3.cell_far ⟨w.heap.size,0,none⟩ (by show w.heap.size<_; omega) (by simp)).trans ((hall.cell_far ⟨w.heap.size,0,none⟩ (by show w.heap.size<_; omega) (hne _ (by show w.heap.size<_; omega))).trans hl2)
    ·exact (r3.cell_far ⟨w.heap.size+1+1,0,none⟩ (by show w.heap.size+1+1<_; omega) (by simp)).trans ((hall.cell_far ⟨w.heap.size+1+1,0,none⟩ (by show w.heap.size+1+1<_; omega) (hne _ (by show w.heap.size+1+1<_; omega))).trans hp2)
   have hzl2:zs.length≤100000:=by omega
   clear hnx2 hback hat hzl
   go_region_held3 (fun w'=>w'.cell? ⟨w.heap.size+1+1,0,none⟩=some (.map (some (w.heap.size+1))))
    (first|exact hp2|exact e5|exact kA _ _ hp2|exact kA _ _ (by assumption)|exact kG _ _ (by simp) hgrow (by assumption))
    ((refine step_append_lies _ (by rfl) _ _ _ (by rfl) (w.heap.size+3) 3 i0 (.int .i64 0) 1 8 Tryz.underlying23 hi hz0 hz1 hz2 rfl (by omega) v zs.length (zs.map (Value.int .i64)) (by rfl) ((hoi.1.alloc _).drew) ⟨w2.heap.size,0,none⟩ 1 1 [.int .i64 k] (by rfl) (by rfl) (World.news_of_block (cs := #[.int .i64 k]) (t := 3) (fr:=(0,0)) (heap_alloc_new w2 _)) (by simp [Value.oneCell']) (by omega) (by unfold maxLen; omega) (by omega) (by simp; omega) (w2.heap.size+1) (by simp) ?_; intro gg cap1 w3 hown3 hgrow hat3 hlt3; obtain ⟨w4,hmu,e1,e2,e3,e4,e5⟩:=hend (w2.alloc (.cells #[.int .i64 k] 3)).drew w3 gg cap1 ⟨rfl,rfl,rfl,by simp,fun i hi _=>(World.grownBy_alloc w2 _ none).block i hi (by simp)⟩ hgrow hown3 hat3))
   all_goals
    go_wp2
    go_roundw
    case rel=>exact ⟨k+1,by omega,by go_num,e1,e2,e3,e4,e5⟩
    case measure=>simp [Go.RowKit.intOf]; omega
  ·have:k=n:=by omega
   subst this
   go_wp2
   go_ret
   exact ⟨rfl,hl,hp,hown,hnx⟩
def Ru (f:Int):Bool:=[43,45,215,247,8968,8970,124,42,60,8804,61,8805,62,8800,8743,8744].any (fun z=>f == z)
theorem Ain {f:Int} (h:Ru f=false):Ae Tryz.prog 138 [.lit (.int .i64 f)] (.lit (.bool false)):=by
 simp only [Ru,List.any_cons,List.any_nil,Bool.or_false,Bool.or_eq_false_iff,beq_eq_false_iff_ne] at h;obtain ⟨h1,h2,h3,h4,h5,h6,h7,h8,h9,h10,h11,h12,h13,h14,h15,h16⟩:=h;refine Aa H8 fun C hC => ?_;refine Aj ?_;exact Am
theorem Af9 {f:Int} (h:Ru f=true):Ae Tryz.prog 138 [.lit (.int .i64 f)] (.lit (.bool true)):=by
 simp only [Ru,List.any_cons,List.any_nil,Bool.or_false,Bool.or_eq_true,beq_iff_eq] at h;refine Aa H8 fun C hC => ?_;rcases h with h|h|h|h|h|h|h|h|h|h|h|h|h|h|h|h<;>subst h
 all_goals
  refine Aj ?_;exact Am
end Go.Proofs.YtjcolpcfcdkckaaGreat
