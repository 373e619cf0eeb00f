/- TopChain: the statement, out of its walk. It says: for every input the law returns true, and each argument reads behind the call as it read before. -/
import Derived.Test.YtjcolpcfcdkckaaGreatRows
import Derived.Test.YtjcolpcfcdkckaaGreatK23
import Derived.Test.YtjcolpcfcdkckaaGreatK52
import Derived.Test.YtjcolpcfcdkckaaGreatLTopChainF
set_option maxRecDepth 100000
namespace Go.Proofs.YtjcolpcfcdkckaaGreat.topChain
open Go.ChangeShapes Go.WideShapes Go.ChangeAt Go.RowKit
set_option linter.unusedVariables false
theorem own:ownKnob Tryz.prog.godebug=none:=by kernel_rfl
theorem laidOut:laidOutB Tryz.prog=true:=by kernel_rfl
theorem lifted (os:Os) (started:os.Started) (H:Type) (enc:TypeId × Value→H) :
 ReturnsInHanded {} Tryz.checked os 3 .any (Rows.topChainSpec.pre6 enc Tryz.prog Tryz.f3 Rows.topChainRow.domain false) (Rows.topChainSpec.post enc Tryz.prog Tryz.f3 false true false false):=by
 refine returnsInHanded_of_change_sized (C := Tryz.checked) own started (by kernel_rfl) Tryz.func3
  (ChangeSpec.witness6 (enc:=enc) (C := Tryz.checked) false ⟨#[], #[.int .i64 0,.int .i64 0,.agg #[.int .u64 0,.slice none 0 0,.slice none 0 0],.agg #[.int .u64 0,.slice none 0 0,.slice none 0 0],.agg #[.int .u64 0,.slice none 0 0,.slice none 0 0],.agg #[.int .u64 0,.slice none 0 0,.slice none 0 0],.int .u64 0],[]⟩ 8 (by kernel_rfl) (by kernel_rfl) (by kernel_rfl) (by kernel_rfl)) ?_
 intro W base args ds gs before hval0 hW hcnd hsz _;have hval:∀ (j:Nat) t v,Tryz.f3.params[j]? = some t→args[j]? = some v→Value.okWide Tryz.prog W .any base t v:=hval0;have hW':=hW;obtain ⟨p,q,hA0,hV,rfl,hfz,hnd⟩:=hW;have hA:DataW.TrodAll enc Tryz.prog W 0 (fun _=>true) true Tryz.f3.params.toList args.toList ds p:=hA0;rw [Tryz.params3] at hA hval hsz;obtain ⟨v0,vs0,d0,ds0,p0,q0,hargs,rfl,rfl,h0,r0⟩:=trodAll_cons hA;obtain ⟨v1,vs1,d1,ds1,p1,q1,rfl,rfl,rfl,h1,r1⟩:=trodAll_cons r0;obtain ⟨v2,vs2,d2,ds2,p2,q2,rfl,rfl,rfl,h2,r2⟩:=trodAll_cons r1;obtain ⟨v3,vs3,d3,ds3,p3,q3,rfl,rfl,rfl,h3,r3⟩:=trodAll_cons r2;obtain ⟨v4,vs4,d4,ds4,p4,q4,rfl,rfl,rfl,h4,r4⟩:=trodAll_cons r3;obtain ⟨v5,vs5,d5,ds5,p5,q5,rfl,rfl,rfl,h5,r5⟩:=trodAll_cons r4;obtain ⟨v6,vs6,d6,ds6,p6,q6,rfl,rfl,rfl,h6,r6⟩:=trodAll_cons r5;obtain ⟨rfl,rfl,rfl⟩:=trodAll_nil r6;obtain rfl:args = #[v0,v1,v2,v3,v4,v5,v6]:=by cases args; simp_all
 obtain ⟨rfl,rfl⟩:=trodVars_none hV;obtain ⟨a0,rfl,rfl,rfl,w0⟩:=open_int Tryz.underlying3 (hval 0 3 v0 rfl rfl) h0;obtain ⟨a1,rfl,rfl,rfl,w1⟩:=open_int Tryz.underlying3 (hval 1 3 v1 rfl rfl) h1;obtain ⟨c2,rfl,s2⟩:=okWide_struct Tryz.underlying26 (hval 2 26 v2 rfl rfl);have k2:=h2;have lt2:∀ x ∈ p2,x.block<W.heap.size:=by obtain ⟨m,hm⟩:=k2; exact DataW.trod_lt m _ _ _ hm
 obtain ⟨a2,rd2,w2⟩:∃ A:Al,Dm (fun b=>b<W.heap.size) W (.agg (Ao A)) (.agg c2)∧arrOK A:=by
  obtain ⟨fuel,hf⟩:=h2;exact PN hf (fun n hn=>of_decide_eq_true (List.all_eq_true.1 hsz n (DataW.weights_mem_each (j:=2) rfl rfl n hn)))
 obtain ⟨c3,rfl,s3⟩:=okWide_struct Tryz.underlying26 (hval 3 26 v3 rfl rfl);have k3:=h3;have lt3:∀ x ∈ p3,x.block<W.heap.size:=by obtain ⟨m,hm⟩:=k3; exact DataW.trod_lt m _ _ _ hm
 obtain ⟨a3,rd3,w3⟩:∃ A:Al,Dm (fun b=>b<W.heap.size) W (.agg (Ao A)) (.agg c3)∧arrOK A:=by
  obtain ⟨fuel,hf⟩:=h3;exact PN hf (fun n hn=>of_decide_eq_true (List.all_eq_true.1 hsz n (DataW.weights_mem_each (j:=3) rfl rfl n hn)))
 obtain ⟨c4,rfl,s4⟩:=okWide_struct Tryz.underlying26 (hval 4 26 v4 rfl rfl);have k4:=h4;have lt4:∀ x ∈ p4,x.block<W.heap.size:=by obtain ⟨m,hm⟩:=k4; exact DataW.trod_lt m _ _ _ hm
 obtain ⟨a4,rd4,w4⟩:∃ A:Al,Dm (fun b=>b<W.heap.size) W (.agg (Ao A)) (.agg c4)∧arrOK A:=by
  obtain ⟨fuel,hf⟩:=h4;exact PN hf (fun n hn=>of_decide_eq_true (List.all_eq_true.1 hsz n (DataW.weights_mem_each (j:=4) rfl rfl n hn)))
 obtain ⟨c5,rfl,s5⟩:=okWide_struct Tryz.underlying26 (hval 5 26 v5 rfl rfl);have k5:=h5;have lt5:∀ x ∈ p5,x.block<W.heap.size:=by obtain ⟨m,hm⟩:=k5; exact DataW.trod_lt m _ _ _ hm
 obtain ⟨a5,rd5,w5⟩:∃ A:Al,Dm (fun b=>b<W.heap.size) W (.agg (Ao A)) (.agg c5)∧arrOK A:=by
  obtain ⟨fuel,hf⟩:=h5;exact PN hf (fun n hn=>of_decide_eq_true (List.all_eq_true.1 hsz n (DataW.weights_mem_each (j:=5) rfl rfl n hn)))
 obtain ⟨a6,rfl,rfl,rfl,w6⟩:=open_int Tryz.underlying22 (hval 6 22 v6 rfl rfl) h6;obtain ⟨n6,rfl,l6⟩:∃ n:Nat,a6=(n:Int)∧n<18446744073709551616:=AkE w6;clear hA0 hval0;refine ((AdM a0 a1 a2 a3 a4 a5 n6 w0 w1 w2 w3 w4 w5 l6).2 (fun b=>b<W.heap.size) W [.int .i64 a0,.int .i64 a1,.agg c2,.agg c3,.agg c4,.agg c5,.int .u64 (n6:Int)] (fun b h=>h) ⟨_,_,rfl,rfl,⟨_,_,rfl,rfl,⟨_,_,rfl,rd2,⟨_,_,rfl,rd3,⟨_,_,rfl,rd4,⟨_,_,rfl,rd5,⟨_,_,rfl,rfl,rfl⟩⟩⟩⟩⟩⟩⟩).mono fun e W' ⟨v,im',he,hv,_,_,_,bel⟩ => ?_;have hv':v=.bool true:=hv;subst hv';subst he;exact ⟨_,rfl,_,_,_,[],_,[],hW',trodAll_mk1 (shut_bool Tryz.underlying4 _),(trodAll_cons_mk (shut_int Tryz.underlying3 w0) (trodAll_cons_mk (shut_int Tryz.underlying3 w1) (trodAll_cons_mk (Below.trod laidOut (by kernel_rfl) (of_decide_eq_true (by kernel_rfl)) k2 bel lt2) (trodAll_cons_mk (Below.trod laidOut (by kernel_rfl) (of_decide_eq_true (by kernel_rfl)) k3 bel lt3) (trodAll_cons_mk (Below.trod laidOut (by kernel_rfl) (of_decide_eq_true (by kernel_rfl)) k4 bel lt4) (trodAll_cons_mk (Below.trod laidOut (by kernel_rfl) (of_decide_eq_true (by kernel_rfl)) k5 bel lt5) (trodAll_cons_mk (shut_int Tryz.underlying22 w6) trodAll_mk0))))))),rfl,bel.frame _,fun h=>by cases h⟩
theorem over:Rows.topChainRow.holds Tryz.pinned (OpenSpec.ofChange Rows.topChainSpec) :=
 OpenClaim.holds_of_wide 3 Tryz.f3 rfl rfl rfl rfl rfl rfl rfl ⟨rfl,rfl,rfl,rfl,rfl⟩ rfl rfl rfl rfl rfl (by kernel_rfl) Tryz.func3 facts
  (of_decide_eq_true (by kernel_rfl)) (by unfold Func.isWrapper; first|(rw [if_pos (by decide +kernel)]; kernel_rfl)|(rw [if_neg (by decide +kernel)]; exact ⟨rfl,rfl⟩))
  (fun os started H enc _=>lifted os started H enc)
theorem proved:Rows.TopChainSaid:=over
end Go.Proofs.YtjcolpcfcdkckaaGreat.topChain
