/- An abstract layer over the walk, part 1: operations lowered, states of a call, a region in whatever order. No program in sight. -/
import Derived.WalkKit
import Derived.ArgAppend
import Derived.Orders
import Derived.MapKept
import Derived.Deep.LoopGhost
import Derived.Deep.MidRow
import Derived.Lib.SliceRun
namespace Go.Proofs.YtnnipocjapblkaaGreat
set_option linter.unusedVariables false
open Go.RowKit
inductive AOp where
 | mov (x:Operand)
 | pick (c a b:Operand)
 | alloc (e:TypeId) (z:List Value)
 | box (e:TypeId) (n:Nat) (x:Operand)
 | build (z:List Value) (ps:List (Nat × Nat × Operand))
 | rowlit (e:TypeId) (sz len:Nat) (z:List Value) (ps:List (Nat × Operand))
 | load (g:Bool) (n:Nat) (x:Operand)
 | store (n:Nat) (p x:Operand)
 | nilck (x:Operand)
 | bin (op:BinOp) (x y:Operand)
 | binB (op:BinOp) (x y:Operand)
 | binS (op:BinOp) (x y:Operand)
 | eqv (t:TypeId) (neg:Bool) (x y:Operand)
 | un (op:UnOp) (x:Operand)
 | conv (k:IntKind) (x:Operand)
 | make (e:TypeId) (sz bytes:Nat) (z:List Value) (l c:Operand)
 | slice (sz:Nat) (x:Operand) (lo hi mx:Option Operand)
 | faddr (off:Nat) (x:Operand)
 | field (g:Bool) (off n:Nat) (x:Operand)
 | iaddr (sz:Nat) (x i:Operand)
 | iaddrA (len sz:Nat) (x i:Operand)
 | idx (g:Bool) (len sz:Nat) (x i:Operand)
 | sidx (x i:Operand)
 | extract (i:Nat) (x:Operand)
 | len (x:Operand)
 | slen (x:Operand)
 | append (e:TypeId) (sz bytes:Nat) (z:List Value) (s x:Operand)
 | copy (sz:Nat) (d s:Operand)
 | mm (mx:Bool) (x y:Operand)
 | mx3 (x y z:Operand)
 | appendZ (e:TypeId) (sz bytes:Nat) (z:List Value) (s n:Operand)
 | cap (x:Operand)
 | mkmap
 | look (z:Value) (ok:Bool) (x k:Operand)
 | lookG (t:TypeId) (x k:Operand)
 | mupd (x k v:Operand)
 | mdel (x k:Operand)
 | mlen (x:Operand)
 | mkfn (f:FuncId) (fi ca:List Operand)
 | call (f:Operand) (args:List Operand)
 | other (why:String)
 deriving Inhabited
def oL:Option Operand→List Operand|some x=>[x]|none=>[]
def AOp.opds:AOp→List Operand
 | .mov x|.box _ _ x|.load _ _ x|.nilck x|.un _ x|.conv _ x|.faddr _ x|.field _ _ _ x|.extract _ x|.len x|.slen x=>[x]
 | .pick c a b=>[c,a,b]
 | .alloc .. | .other _=>[]
 | .build _ ps=>ps.map (·.2.2)
 | .rowlit _ _ _ _ ps=>ps.map (·.2)
 | .store _ p x=>[p,x]
 | .bin _ x y|.binB _ x y|.binS _ x y|.eqv _ _ x y|.mm _ x y|.iaddr _ x y|.iaddrA _ _ x y|.idx _ _ _ x y|.sidx x y=>[x,y]
 | .make _ _ _ _ l c=>[l,c]
 | .slice _ x lo hi mx=>[x]++oL lo++oL hi++oL mx
 | .append _ _ _ _ s x=>[s,x]
 | .copy _ d s=>[d,s]
 | .mx3 x y z=>[x,y,z]
 | .appendZ _ _ _ _ s n=>[s,n]
 | .cap x=>[x]
 | .mkmap=>[]
 | .look _ _ x k=>[x,k]
 | .lookG _ x k=>[x,k]
 | .mupd x k v=>[x,k,v]
 | .mdel x k=>[x,k]
 | .mlen x=>[x]
 | .mkfn _ fi ca=>fi++ca
 | .call f args=>f::args
structure AInst where
 dst:Option Nat
 g:Option (Nat × Bool)
 op:AOp
 deriving Inhabited
def aggD:TypeDesc→Bool
 | .struct _|.array _ _=>true
 | _=>false
def szOf (P:Program) (t:TypeId):Option (Bool × Nat) :=
 match P.underlying t,P.info? t with
 | some d,some i=>if aggD d || Nat.beq i.size 1 then some (aggD d,i.size) else none
 | _,_=>none
def strMap (P:Program) (t:TypeId):Option TypeId :=
 match P.underlying t with
 | some (.map k e)=>match P.underlying k with
   | some .string=>some e
   | _=>none
 | _=>none
def zeroOf (P:Program) (t:TypeId):Option (List Value × Nat × Nat) :=
 match P.info? t with
 | some i=>match i.zero with
   | some z=>if Nat.beq z.cells.size i.size && z.cells.all (fun u=>u.oneCell') && Nat.blt 0 i.size && Nat.blt 0 i.bytes then some (z.cells.toList,i.size,i.bytes) else none
   | none=>none
 | none=>none
def elemsOf (P:Program) (t:TypeId):Option TypeId :=
 match P.underlying t with
 | some (.slice e)=>some e
 | _=>none
def placesOf (P:Program) (t:TypeId) (n:Nat):Option (Nat × Nat) :=
 match P.underlying t with
 | some (.struct fs)=>match fs[n]? with
   | some f=>(P.info? f.type).map fun i=>(f.offset,i.size)
   | none=>none
 | some (.array _ e)=>(P.info? e).map fun i=>(n * i.size,i.size)
 | _=>none
def fieldsOK (P:Program) (t:TypeId):Bool :=
 match P.underlying t with
 | some (.struct fs)=>fs.toList.all fun f=>(P.info? f.type).isSome
 | some (.array _ e)=>(P.info? e).isSome
 | _=>false
def optAll {α β:Type} (f:α→Option β):List α→Option (List β)
 | []=>some []
 | a::l=>match f a,optAll f l with
   | some b,some bs=>some (b::bs)
   | _,_=>none
def lowerO (P:Program) (o:Op):Option AOp :=
 match o with
 | .move x|.assign x=>some (.mov x)
 | .pick c a b=>some (.pick c a b)
 | .alloc t=>match zeroOf P t with|some (z,_,_)=>some (.alloc t z)|none=>none
 | .box t x=>match szOf P t with|some (_,n)=>if Nat.blt 0 n then some (.box t n x) else none|none=>none
 | .build t ps=>match zeroOf P t,optAll (fun p:Nat × Operand=>(placesOf P t p.1).map fun q=>(q.1,q.2,p.2)) ps.toList with
   | some (z,_,_),some l=>if fieldsOK P t then some (.build z l) else none
   | _,_=>none
 | .buildSlice t len ps=>match elemsOf P t with
   | some e=>match zeroOf P e with
     | some (z,sz,_)=>if Nat.ble (len * sz) 16777216 && ps.toList.all (fun p=>Nat.blt p.1 len) then some (.rowlit e sz len z ps.toList) else none
     | none=>none
   | none=>none
 | .load t x=>match szOf P t with|some (g,n)=>some (.load g n x)|none=>none
 | .store t a x=>match szOf P t with|some (_,n)=>some (.store n a x)|none=>none
 | .nilCheck x=>some (.nilck x)
 | .binOp op t x y _=>match P.underlying t with
   | some (.int _)=>some (.bin op x y)
   | some .bool=>some (.binB op x y)
   | some .string=>some (.binS op x y)
   | some _=>match op with|.eql=>some (.eqv t false x y)|.neq=>some (.eqv t true x y)|_=>none
   | none=>none
 | .unOp op _ x=>some (.un op x)
 | .convert s d x=>match P.underlying s,P.underlying d with|some _,some (.int k)=>some (.conv k x)|_,_=>none
 | .makeFunc (.func f) fi ca=>some (.mkfn f fi.toList ca.toList)
 | .makeSlice t l c=>match elemsOf P t with
   | some e=>match zeroOf P e with
     | some (z,sz,by_)=>some (.make e sz by_ z l c)
     | none=>none
   | none=>none
 | .slice t x lo hi mx=>match elemsOf P t with
   | some e=>match szOf P e with
     | some (_,sz)=>some (.slice sz x lo hi mx)
     | none=>none
   | none=>none
 | .fieldAddr t x f=>match P.underlying t with
   | some (.struct fs)=>match fs[f]? with
     | some fd=>match szOf P fd.type with
       | some (_,n)=>if Nat.blt 0 n then some (.faddr fd.offset x) else none
       | none=>none
     | none=>none
   | _=>none
 | .field t x f=>match P.underlying t with
   | some (.struct fs)=>match fs[f]? with
     | some fd=>match szOf P fd.type with
       | some (g,n)=>some (.field g fd.offset n x)
       | none=>none
     | none=>none
   | _=>none
 | .indexAddr t x i=>match P.underlying t with
   | some (.slice e)=>match szOf P e with|some (_,n)=>if Nat.blt 0 n then some (.iaddr n x i) else none|none=>none
   | some (.array len e)=>match szOf P e with|some (_,n)=>some (.iaddrA len n x i)|none=>none
   | _=>none
 | .index t x i=>match P.underlying t with
   | some (.array len e)=>match szOf P e with|some (g,n)=>some (.idx g len n x i)|none=>none
   | some .string=>some (.sidx x i)
   | _=>none
 | .extract x i=>some (.extract i x)
 | .makeMap t none=>match strMap P t with|some _=>some .mkmap|none=>none
 | .lookup t x k ok=>match strMap P t with
   | some e=>match zeroOf P e,(P.info? e).bind (·.zero) with
     | some _,some z=>some (.look z ok x k)
     | _,_=>none
   | none=>bif ok then none else some (.lookG t x k)
 | .mapUpdate t m k v=>match strMap P t with|some _=>some (.mupd m k v)|none=>none
 | .call c=>match c.callee with
   | .value f=>some (.call f c.args.toList)
   | .builtin b=>match b,c.args.toList,c.argTypes.toList with
     | .len,[x],[t]=>match P.underlying t with
       | some (.slice _)=>some (.len x)
       | some .string=>some (.slen x)
       | some (.map _ _)=>match strMap P t with|some _=>some (.mlen x)|none=>none
       | _=>none
     | .delete,[m,k],t::_=>match strMap P t with|some _=>some (.mdel m k)|none=>none
     | .append,[s,x],[t,t']=>if Nat.beq t t' then (match elemsOf P t with
       | some e=>match zeroOf P e with
         | some (z,sz,by_)=>some (.append e sz by_ z s x)
         | none=>none
       | none=>none) else (match elemsOf P t,P.underlying t' with
       | some e,some (.int _)=>match zeroOf P e with
         | some (z,sz,by_)=>some (.appendZ e sz by_ z s x)
         | none=>none
       | _,_=>none)
     | .copy,[d,s],[t,t']=>match elemsOf P t,elemsOf P t' with
       | some e,some _=>match szOf P e with|some (_,sz)=>some (.copy sz d s)|none=>none
       | _,_=>none
     | .max,[x,y],_=>some (.mm true x y)
     | .max,[x,y,z],_=>some (.mx3 x y z)
     | .cap,[x],[t]=>match P.underlying t with|some (.slice _)=>some (.cap x)|_=>none
     | .min,[x,y],_=>some (.mm false x y)
     | _,_,_=>none
   | _=>none
 | _=>none
def lowerOp (P:Program) (N:Nat) (ops:Array Oper) (o:Oper):Option AInst :=
 match (match o.dst with|some d=>Nat.blt d N|none=>true) with
 | false=>none
 | true =>
 match (match o.guard with
  | none=>some none
  | some (j,b)=>((ops[j]?).bind (·.dst)).map fun t=>some (t,b)),lowerO P o.op with
 | some g,some op=>some ⟨o.dst,g,op⟩
 | _,_=>none
def AOp.heapy:AOp→Bool
 | .alloc .. | .box .. | .rowlit .. | .load .. | .store .. | .make .. | .append .. | .appendZ .. | .copy .. | .call .. | .slice .. | .eqv .. | .iaddr .. | .len .. | .idx .. | .mkmap|.look .. | .lookG .. | .mupd .. | .mdel .. | .mlen .. => true
 | _=>false
inductive ACode where
 | skip
 | ops (draw:Bool) (l:List AInst) (free:List (Nat × Nat))
 | seq (a b:ACode)
 | cond (c:Operand) (a b:ACode)
 | condT (c:Operand) (a:ACode)
 | condF (c:Operand) (b:ACode)
 | block (id:Nat) (a:ACode)
 | loop (a:ACode)
 | exit (id:Nat)
 | ret
 deriving Inhabited
def anc (ops:Array Oper):Nat→Nat→Nat→Bool
 | 0,_,_=>false
 | n+1,i,j=>match ops[j]? with
   | some o=>o.after.toList.any fun e=>Region.binds .any e && (Nat.beq e.on i || (Nat.blt e.on j && anc ops n i e.on))
   | none=>false
def tmpsOf (l:List Operand):List Nat:=l.filterMap fun|.tmp t=>some t|_=>none
def readsOf (ops:Array Oper) (o:Oper):List Nat :=
 tmpsOf o.op.operands.toList++(match o.guard with|some (g,_)=>((ops[g]?).bind (·.dst)).toList|none=>[])
def clash (ops:Array Oper) (x y:Oper):Bool :=
 (match x.dst with|some d=>(readsOf ops y).any (Nat.beq d) || (match y.dst with|some d'=>Nat.beq d d'|none=>false)|none=>false) ||
 (match y.dst with|some d=>(readsOf ops x).any (Nat.beq d)|none=>false)
def drawOK (ops:Array Oper):Bool :=
 (List.range ops.size).all fun j=>(List.range j).all fun i =>
  match ops[i]?,ops[j]? with
  | some x,some y => !clash ops x y || anc ops (j+1) i j
  | _,_=>false
def freeOf (ops:Array Oper) (l:List AInst):List (Nat × Nat) :=
 (List.range ops.size).flatMap fun j=>((List.range j).filter fun i=>match l[i]?,l[j]? with
  | some x,some y=>x.op.heapy && y.op.heapy && !anc ops (j+1) i j
  | _,_=>false).map fun i=>(i,j)
def edgesOK (ops:Array Oper):Bool :=
 (List.range ops.size).all fun j=>match ops[j]? with
  | some o=>o.after.toList.all fun e => !Region.binds .any e || Nat.blt e.on j
  | none=>false
def lowerC (P:Program) (N:Nat):Code→Option ACode
 | .skip=>some .skip
 | .region id ops draw=>match optAll (lowerOp P N ops) ops.toList with
   | some l=>match draw with
     | false=>some (.ops false l [])
     | true=>if P.follows .mixedOrders && drawOK ops && edgesOK ops then some (.ops true l (freeOf ops l)) else none
   | none=>none
 | .seq a b=>match lowerC P N a,lowerC P N b with|some x,some y=>some (.seq x y)|_,_=>none
 | .cond c a b=>match lowerC P N a,lowerC P N b with|some x,some y=>some (.cond c x y)|some x,none=>some (.condT c x)|none,some y=>some (.condF c y)|none,none=>none
 | .block id a=>match lowerC P N a with|some x=>some (.block id x)|none=>none
 | .loop a=>match lowerC P N a with|some x=>some (.loop x)|none=>none
 | .exit id=>some (.exit id)
 | .ret=>some .ret
 | _=>none
inductive ARes where
 | t (n:Nat)
 | c (n:Nat) (g:Bool) (sz:Nat)
 deriving Inhabited
structure AFn where
 N:Nat
 res:List ARes
 body:ACode
 deriving Inhabited
def lowerF (P:Program) (f:FuncId):Option AFn :=
 match P.funcs[f]? with
 | some fn=>match fn.body with
   | some b => bif fn.name == "runtime.NumGoroutine" then none else match lowerC P fn.ntmps b, optAll (fun (r : ResultVar) => match r with | .tmp t => some (ARes.t t) | .cell a t => (szOf P t).map fun q => .c a q.1 q.2) fn.results.toList with
     | some c,some r=>some ⟨fn.ntmps,r,c⟩
     | _,_=>none
   | none=>none
 | none=>none
structure Rdg where
 p:(Nat→Prop)→World→Value→Prop
 mono:∀ (im im':Nat→Prop) (w w':World) (v:Value),(∀ b,im b→im' b)→(∀ b,im b→w'.heap[b]? = w.heap[b]?)→p im w v→p im' w' v
 one:∀ (im:Nat→Prop) (w:World) (v:Value),p im w v→v.oneCell'=true
inductive AV where
 | any
 | lit (v:Value)
 | sl (sz:Nat) (es:List (List AV))
 | agg (cs:List AV)
 | tup (vs:List AV)
 | ep (sz:Nat) (es:List (List AV)) (i off:Nat)
 | own (id:Nat)
 | optr (id i off:Nat)
 | fn (f:FuncId) (first cap:List AV)
 | osl (id off n:Nat)
 | sem (s:Rdg)
 deriving Inhabited
def maxN:Nat:=281474976710656
def AtA (im:Nat→Prop) (w:World) (a:Option Addr) (vs:List Value):Prop :=
 ∀ i v,vs[i]? = some v→∃ b off,a=some ⟨b,off,none⟩∧im b∧w.cell? ⟨b,off+i,none⟩=some v
def Ones (vs:List Value):Prop:=∀ u ∈ vs,u.oneCell'=true
mutual
def RdI (im:Nat→Prop) (w:World):AV→Value→Prop
 | .any,_=>True
 | .lit u,v=>v=u
 | .sl sz es,v=>∃ a cap vs,v=.slice a es.length cap∧es.length≤cap∧(a=none→cap=0)∧es.length≤maxN∧AtA im w a vs∧Ones vs∧RdIE im w sz es vs
 | .agg cs,v=>∃ vs,v=.agg vs.toArray∧Ones vs∧RdIL im w cs vs
 | .tup cs,v=>∃ vs,v=.tuple vs.toArray∧RdIL im w cs vs
 | .ep sz es i off,v=>∃ b o vs,v=.pointer (some ⟨b,o+(i * sz+off),none⟩)∧AtA im w (some ⟨b,o,none⟩) vs∧Ones vs∧RdIE im w sz es vs
 | .own _,_=>False
 | .optr _ _ _,_=>False
 | .fn f fi ca,v=>∃ vs us,v=.func (.func f) vs.toArray us.toArray∧RdIL im w fi vs∧RdIL im w ca us
 | .osl _ _ _,_=>False
 | .sem s,v=>s.p im w v
def RdIL (im:Nat→Prop) (w:World):List AV→List Value→Prop
 | [],vs=>vs=[]
 | a::as,vs=>∃ v rest,vs=v::rest∧RdI im w a v∧RdIL im w as rest
def RdIE (im:Nat→Prop) (w:World) (sz:Nat):List (List AV)→List Value→Prop
 | [],vs=>vs=[]
 | e::es,vs=>∃ x rest,vs=x++rest∧x.length=sz∧RdIL im w e x∧RdIE im w sz es rest
end
theorem AtA.mono {im im':Nat→Prop} {w w':World} {a:Option Addr} {vs:List Value} (h:AtA im w a vs) (hi:∀ b,im b→im' b) (hw:∀ b,im b→w'.heap[b]? = w.heap[b]?):AtA im' w' a vs:=fun i v hv=>by
 obtain ⟨b,off,e,hb,hc⟩:=h i v hv
 exact ⟨b,off,e,hi b hb,(World.cell?_of_block (a:=⟨b,off+i,none⟩) (hw b hb)).trans hc⟩
mutual
theorem RdI.mono {im im':Nat→Prop} {w w':World} (hi:∀ b,im b→im' b) (hw:∀ b,im b→w'.heap[b]? = w.heap[b]?):∀ (av:AV) (v:Value),RdI im w av v→RdI im' w' av v
 | .any,_,h=>h
 | .lit _,_,h=>h
 | .sl sz es,v,h=>by
   simp only [RdI] at h ⊢
   obtain ⟨a,cap,vs,h1,h2,h3,h4,h5,h6,h7⟩:=h
   exact ⟨a,cap,vs,h1,h2,h3,h4,h5.mono hi hw,h6,RdIE.mono hi hw sz es vs h7⟩
 | .agg cs,v,h=>by
   simp only [RdI] at h ⊢
   obtain ⟨vs,h1,h0,h2⟩:=h
   exact ⟨vs,h1,h0,RdIL.mono hi hw cs vs h2⟩
 | .tup cs,v,h=>by
   simp only [RdI] at h ⊢
   obtain ⟨vs,h1,h2⟩:=h
   exact ⟨vs,h1,RdIL.mono hi hw cs vs h2⟩
 | .ep sz es i off,v,h=>by
   simp only [RdI] at h ⊢
   obtain ⟨b,o,vs,h1,h2,h3,h4⟩:=h
   exact ⟨b,o,vs,h1,h2.mono hi hw,h3,RdIE.mono hi hw sz es vs h4⟩
 | .own _,_,h=>by simp only [RdI] at h
 | .optr _ _ _,_,h=>by simp only [RdI] at h
 | .fn f fi ca,v,h=>by
   simp only [RdI] at h ⊢
   obtain ⟨vs,us,h1,h2,h3⟩:=h
   exact ⟨vs,us,h1,RdIL.mono hi hw fi vs h2,RdIL.mono hi hw ca us h3⟩
 | .osl _ _ _,_,h=>by simp only [RdI] at h
 | .sem s,v,h=>by
   simp only [RdI] at h ⊢
   exact s.mono _ _ _ _ _ hi hw h
theorem RdIL.mono {im im':Nat→Prop} {w w':World} (hi:∀ b,im b→im' b) (hw:∀ b,im b→w'.heap[b]? = w.heap[b]?):∀ (l:List AV) (vs:List Value),RdIL im w l vs→RdIL im' w' l vs
 | [],_,h=>h
 | a::as,vs,h=>by
   simp only [RdIL] at h ⊢
   obtain ⟨v,rest,h1,h2,h3⟩:=h
   exact ⟨v,rest,h1,RdI.mono hi hw a v h2,RdIL.mono hi hw as rest h3⟩
theorem RdIE.mono {im im':Nat→Prop} {w w':World} (hi:∀ b,im b→im' b) (hw:∀ b,im b→w'.heap[b]? = w.heap[b]?) (sz:Nat):∀ (l:List (List AV)) (vs:List Value),RdIE im w sz l vs→RdIE im' w' sz l vs
 | [],_,h=>h
 | e::es,vs,h=>by
   simp only [RdIE] at h ⊢
   obtain ⟨x,rest,h1,h2,h3,h4⟩:=h
   exact ⟨x,rest,h1,h2,RdIL.mono hi hw e x h3,RdIE.mono hi hw sz es rest h4⟩
end
structure Env where
 im:Nat→Prop
 live:Nat→Prop
 val:Nat→Value
 sz:Nat→Nat
def ptrOf:Value→Option Nat
 | .slice (some a) _ _=>some a.block
 | .pointer (some a)=>some a.block
 | _=>none
def blkOf:Value→Option Nat
 | .slice (some a) _ _=>some a.block
 | .pointer (some a)=>some a.block
 | .map (some g)=>some g
 | _=>none
theorem ptr_blk {v:Value} {b:Nat} (h:ptrOf v=some b):blkOf v=some b:=by
 unfold ptrOf at h
 split at h
 ·exact h
 ·exact h
 ·cases h
mutual
def Rd (E:Env) (w:World):AV→Value→Prop
 | .any,_=>True
 | .lit u,v=>v=u
 | .sl sz es,v=>RdI E.im w (.sl sz es) v
 | .ep sz es i off,v=>RdI E.im w (.ep sz es i off) v
 | .agg cs,v=>∃ vs,v=.agg vs.toArray∧Ones vs∧RdL E w cs vs
 | .tup cs,v=>∃ vs,v=.tuple vs.toArray∧RdL E w cs vs
 | .own id,v=>E.live id∧v.oneCell'=true∧v=E.val id
 | .optr id i off,v=>E.live id∧∃ b,ptrOf (E.val id)=some b∧v=.pointer (some ⟨b,i * E.sz id+off,none⟩)
 | .fn f fi ca,v=>∃ vs us,v=.func (.func f) vs.toArray us.toArray∧RdL E w fi vs∧RdL E w ca us
 | .osl id off n,v=>E.live id∧∃ b len cap,E.val id=.slice (some ⟨b,0,none⟩) len cap∧off+n≤len∧v=.slice (some ⟨b,off * E.sz id,none⟩) n (cap - off)
 | .sem s,v=>s.p E.im w v
def RdL (E:Env) (w:World):List AV→List Value→Prop
 | [],vs=>vs=[]
 | a::as,vs=>∃ v rest,vs=v::rest∧Rd E w a v∧RdL E w as rest
end
mutual
theorem RdI.rd {E:Env} {w:World}:∀ (av:AV) (v:Value),RdI E.im w av v→Rd E w av v
 | .any,_,h=>trivial
 | .lit _,_,h=>h
 | .sl sz es,v,h=>h
 | .ep sz es i off,v,h=>h
 | .agg cs,v,h=>by
   simp only [RdI] at h; simp only [Rd]
   obtain ⟨vs,h1,h0,h2⟩:=h
   exact ⟨vs,h1,h0,RdIL.rd cs vs h2⟩
 | .tup cs,v,h=>by
   simp only [RdI] at h; simp only [Rd]
   obtain ⟨vs,h1,h2⟩:=h
   exact ⟨vs,h1,RdIL.rd cs vs h2⟩
 | .own _,_,h=>by simp only [RdI] at h
 | .optr _ _ _,_,h=>by simp only [RdI] at h
 | .fn f fi ca,v,h=>by
   simp only [RdI] at h; simp only [Rd]
   obtain ⟨vs,us,h1,h2,h3⟩:=h
   exact ⟨vs,us,h1,RdIL.rd fi vs h2,RdIL.rd ca us h3⟩
 | .osl _ _ _,_,h=>by simp only [RdI] at h
 | .sem s,v,h=>h
theorem RdIL.rd {E:Env} {w:World}:∀ (l:List AV) (vs:List Value),RdIL E.im w l vs→RdL E w l vs
 | [],_,h=>h
 | a::as,vs,h=>by
   simp only [RdIL] at h; simp only [RdL]
   obtain ⟨v,rest,h1,h2,h3⟩:=h
   exact ⟨v,rest,h1,RdI.rd a v h2,RdIL.rd as rest h3⟩
end
structure Ext (E E':Env) (w w':World):Prop where
 live:∀ id,E.live id→E'.live id∧E'.val id=E.val id∧E'.sz id=E.sz id
 im:∀ b,E.im b→E'.im b
 new:∀ b,E'.im b→E.im b∨w.heap.size≤b
 lt:∀ b,E'.im b→b<w'.heap.size
 bel:Below w.heap.size w w'
mutual
theorem Rd.mono {E E':Env} {w w':World} (hl:∀ id,E.live id→E'.live id∧E'.val id=E.val id∧E'.sz id=E.sz id) (hi:∀ b,E.im b→E'.im b) (hw:∀ b,E.im b→w'.heap[b]? = w.heap[b]?):∀ (av:AV) (v:Value),Rd E w av v→Rd E' w' av v
 | .any,_,h=>trivial
 | .lit _,_,h=>h
 | .sl sz es,v,h=>RdI.mono hi hw _ v h
 | .ep sz es i off,v,h=>RdI.mono hi hw _ v h
 | .agg cs,v,h=>by
   simp only [Rd] at h ⊢
   obtain ⟨vs,h1,h0,h2⟩:=h
   exact ⟨vs,h1,h0,RdL.mono hl hi hw cs vs h2⟩
 | .tup cs,v,h=>by
   simp only [Rd] at h ⊢
   obtain ⟨vs,h1,h2⟩:=h
   exact ⟨vs,h1,RdL.mono hl hi hw cs vs h2⟩
 | .own id,v,h=>by
   simp only [Rd] at h ⊢
   obtain ⟨h1,h0,h2⟩:=h
   obtain ⟨k1,k2,k3⟩:=hl id h1
   exact ⟨k1,h0,by rw [k2]; exact h2⟩
 | .optr id i off,v,h=>by
   simp only [Rd] at h ⊢
   obtain ⟨h1,b,h2,h3⟩:=h
   obtain ⟨k1,k2,k3⟩:=hl id h1
   exact ⟨k1,b,by rw [k2]; exact h2,by rw [k3]; exact h3⟩
 | .fn f fi ca,v,h=>by
   simp only [Rd] at h ⊢
   obtain ⟨vs,us,h1,h2,h3⟩:=h
   exact ⟨vs,us,h1,RdL.mono hl hi hw fi vs h2,RdL.mono hl hi hw ca us h3⟩
 | .osl id off n,v,h=>by
   simp only [Rd] at h ⊢
   obtain ⟨h1,b,len,cap,h2,h3,h4⟩:=h
   obtain ⟨k1,k2,k3⟩:=hl id h1
   exact ⟨k1,b,len,cap,by rw [k2]; exact h2,h3,by rw [k3]; exact h4⟩
 | .sem s,v,h=>by
   simp only [Rd] at h ⊢
   exact s.mono _ _ _ _ _ hi hw h
theorem RdL.mono {E E':Env} {w w':World} (hl:∀ id,E.live id→E'.live id∧E'.val id=E.val id∧E'.sz id=E.sz id) (hi:∀ b,E.im b→E'.im b) (hw:∀ b,E.im b→w'.heap[b]? = w.heap[b]?):∀ (l:List AV) (vs:List Value),RdL E w l vs→RdL E' w' l vs
 | [],_,h=>h
 | a::as,vs,h=>by
   simp only [RdL] at h ⊢
   obtain ⟨v,rest,h1,h2,h3⟩:=h
   exact ⟨v,rest,h1,Rd.mono hl hi hw a v h2,RdL.mono hl hi hw as rest h3⟩
end
def look {α:Type}:List (Nat × α)→Nat→Option α
 | [],_=>none
 | (k,v)::r,n=>bif Nat.beq k n then some v else look r n
structure OB where
 row:Bool
 ro:Bool
 e:TypeId
 sz:Nat
 es:List (List AV)
abbrev Hp:=List (Nat × Option OB)
def hl (h:Hp) (id:Nat):Option OB:=match look h id with|some (some o)=>some o|_=>none
def obRow (E:Env) (w:World) (id:Nat) (o:OB):Prop :=
 ∃ vs a cap,E.val id=.slice a o.es.length cap∧w.ownsRow 0 o.e o.sz (E.val id) o.es.length vs∧RdIE E.im w o.sz o.es vs∧Ones vs∧o.es.length≤maxN
def obBox0 (E:Env) (w:World) (id:Nat) (o:OB):Prop :=
 ∃ g vs cs,E.val id=.pointer (some ⟨g,0,none⟩)∧w.heap[g]? = some (.cells vs.toArray o.e (0,0))∧o.es=[cs]∧vs.length=o.sz∧RdL E w cs vs∧Ones vs
def RdM (E:Env) (w:World):List (List AV)→List MapEntry→Prop
 | [],es=>es=[]
 | e::l,es=>∃ m rest,es=m::rest∧RdIL E.im w e [m.key,m.val]∧RdM E w l rest
def keyOK (es:Array MapEntry) (clock:Nat):Prop :=
 (∀ m ∈ es.toList,∃ s:ByteArray,m.key=.string s∧s.size≤maxN)∧MapKept.Stamped es clock
def obMap (E:Env) (w:World) (id:Nat) (o:OB):Prop :=
 ∃ g es clock,E.val id=.map (some g)∧w.heap[g]? = some (.map es clock)∧RdM E w o.es es.toList∧keyOK es clock
def obBox (E:Env) (w:World) (id:Nat) (o:OB):Prop:=(0<o.sz∧obBox0 E w id o)∨(o.sz=0∧obMap E w id o)
theorem obBox.box {E:Env} {w:World} {id:Nat} {o:OB} (h:obBox E w id o) {b:Nat} (hb:ptrOf (E.val id)=some b):obBox0 E w id o:=by
 rcases h with ⟨_,h⟩|⟨_,g,es,clock,hv,_⟩
 ·exact h
 ·rw [hv] at hb; cases hb
theorem obBox.pos {E:Env} {w:World} {id:Nat} {o:OB} (h:obBox E w id o) {b:Nat} (hb:ptrOf (E.val id)=some b):0<o.sz:=by
 rcases h with ⟨h,_⟩|⟨_,g,es,clock,hv,_⟩
 ·exact h
 ·rw [hv] at hb; cases hb
theorem RdM.imp {E E':Env} {w w':World} (h:∀ cs vs,RdIL E.im w cs vs→RdIL E'.im w' cs vs):∀ (l:List (List AV)) (es:List MapEntry),RdM E w l es→RdM E' w' l es
 | [],_,hm=>hm
 | _::l,_,hm=>by
   obtain ⟨m,rest,h1,h2,h3⟩:=hm
   exact ⟨m,rest,h1,h _ _ h2,RdM.imp h l rest h3⟩
def obOK (E:Env) (w:World) (id:Nat) (o:OB):Prop :=
 E.sz id=o.sz∧(bif o.row then obRow E w id o else obBox E w id o)
structure HeapOK (E:Env) (w:World) (h:Hp):Prop where
 ob:∀ id o,E.live id→hl h id=some o→obOK E w id o
 apart:∀ id id' o o' b,E.live id→E.live id'→hl h id=some o→hl h id'=some o'→blkOf (E.val id)=some b→blkOf (E.val id')=some b→id=id'
 im:∀ id o b,E.live id→hl h id=some o→blkOf (E.val id)=some b→(E.im b↔o.ro=true)
 lt:∀ b,E.im b→b<w.heap.size
structure St where
 t:List (Nat × AV)
 h:Hp
 nx:Nat
def getT (t:List (Nat × AV)) (n:Nat):AV:=match look t n with|some v=>v|none=>.any
def St.get (st:St) (n:Nat):AV:=getT st.t n
structure Ctx where
 X:Nat→Prop
 w0:World
 N:Nat
 E0:Env
 m:Nat
 ds:List Deferred
structure Frm (X:Nat→Prop) (w w':World):Prop where
 os:w'.os=w.os
 tape:w'.tape=w.tape
 output:w'.output=w.output
 size:w.heap.size≤w'.heap.size
 block:∀ k,k<w.heap.size→¬ X k→w'.heap[k]? = w.heap[k]?
structure Rel (C:Ctx) (E:Env) (st:St) (a:Act) (w:World):Prop where
 defers:a.defers=C.ds
 size:a.tmps.size=C.N
 tm:∀ n,Rd E w (st.get n) (a.tmps.getD n undef)
 heap:HeapOK E w st.h
 nx:∀ id,E.live id→id<st.nx
 own:∀ id o b,E.live id→hl st.h id=some o→blkOf (E.val id)=some b→C.w0.heap.size≤b∨C.X b
 ext:∀ id,id<C.m→E.live id∧E.val id=C.E0.val id∧E.sz id=C.E0.sz id
 imx:∀ b,C.E0.im b→E.im b
 imn:∀ b,E.im b→C.E0.im b∨C.w0.heap.size≤b∨C.X b
 frm:Frm C.X C.w0 w
theorem HeapOK.congr {E:Env} {w:World} {h h':Hp} (H:HeapOK E w h) (e:∀ id,hl h' id=hl h id):HeapOK E w h' :=
 ⟨fun id o hl' ho=>H.ob id o hl' (by rw [← e]; exact ho),fun id id' o o' b h1 h2 h3 h4=>H.apart id id' o o' b h1 h2 (by rw [← e]; exact h3) (by rw [← e]; exact h4),
  fun id o b h1 h2=>H.im id o b h1 (by rw [← e]; exact h2),H.lt⟩
theorem Rel.congr {C:Ctx} {E:Env} {st st':St} {a:Act} {w:World} (R:Rel C E st a w) (ht:∀ n,st'.get n=st.get n) (hh:∀ id,hl st'.h id=hl st.h id) (hn:st.nx≤st'.nx):Rel C E st' a w :=
 ⟨R.defers,R.size,fun n=>by rw [ht]; exact R.tm n,R.heap.congr hh,fun id h=>Nat.lt_of_lt_of_le (R.nx id h) hn,fun id o b h1 h2=>R.own id o b h1 (by rw [← hh]; exact h2),R.ext,R.imx,R.imn,R.frm⟩
structure SD where
 i:AInst
 v:AV
 rd:List Nat
 upd:Hp
 nw:Nat
def putT (t:List (Nat × AV)) (d:Option Nat) (v:AV):List (Nat × AV):=match d with|some n=>(n,v)::t|none=>t
def St.appx (st:St) (s:SD):St:=⟨putT st.t s.i.dst s.v,s.upd++st.h,st.nx⟩
def St.app (st:St) (s:SD):St:=⟨putT st.t s.i.dst s.v,s.upd++st.h,st.nx+s.nw⟩
def AInst.reads (i:AInst):List Nat:=tmpsOf (i.op.opds)++(match i.g with|some (t,_)=>[t]|none=>[])
def Step (P:Program) (st:St) (s:SD):Prop :=
 ∀ (N:Nat) (ops:Array Oper) (o:Oper),lowerOp P N ops o=some s.i→∀ (C:Ctx) (E:Env) (a:Act) (w:World) (sx:St),C.N=N→Rel C E sx a w →
   (∀ t ∈ s.i.reads,sx.get t=st.get t)→(∀ id,id ∈ s.rd∨id ∈ s.upd.map (·.1)→hl sx.h id=hl st.h id) →
    (∀ j,j<s.nw→¬ E.live (st.nx+j)∧st.nx+j<sx.nx) →
     ∀ (K:Act→World→Prop) (Q:Exit→Act→World→Prop),
       (∀ (v':Value) (w':World) (E':Env),Rel C E' (sx.appx s) (a.put o.dst v') w'→(∀ id,E'.live id→E.live id∨(∃ j,j<s.nw∧id=st.nx+j))→K (a.put o.dst v') w') →
        if Region.wanted o (yielded ops a.tmps) then o.wp P a w K Q else K (a.put o.dst undef) w
theorem getT_same (t:List (Nat × AV)) (d:Nat) (v:AV):getT (putT t (some d) v) d=v:=by
 simp [getT,putT,look]
theorem getT_ne (t:List (Nat × AV)) (d:Option Nat) (v:AV) (n:Nat) (h:d≠some n):getT (putT t d v) n=getT t n:=by
 cases d with
 | none=>rfl
 | some k =>
   have:Nat.beq k n=false:=by
    cases hb:Nat.beq k n
    ·rfl
    ·exact absurd (congrArg some (Nat.eq_of_beq_eq_true hb)) h
   simp [getT,putT,look,this]
theorem look_append {α:Type} (u h:List (Nat × α)) (id:Nat):look (u++h) id=match look u id with|some x=>some x|none=>look h id:=by
 induction u with
 | nil=>rfl
 | cons p u ih =>
   obtain ⟨k,v⟩:=p
   simp only [List.cons_append,look]
   cases Nat.beq k id<;>simp [ih]
theorem look_none {α:Type} {u:List (Nat × α)} {id:Nat} (h:id ∉ u.map (·.1)):look u id=none:=by
 induction u with
 | nil=>rfl
 | cons p u ih =>
   obtain ⟨k,v⟩:=p
   simp only [List.map_cons,List.mem_cons,not_or] at h
   have:Nat.beq k id=false:=by
    cases hb:Nat.beq k id
    ·rfl
    ·exact absurd (Nat.eq_of_beq_eq_true hb).symm h.1
   simp [look,this,ih h.2]
theorem look_some {α:Type} {u:List (Nat × α)} {id:Nat} (h:id ∈ u.map (·.1)):∃ x,look u id=some x:=by
 induction u with
 | nil=>simp at h
 | cons p u ih =>
   obtain ⟨k,v⟩:=p
   simp only [look]
   cases hb:Nat.beq k id
   ·simp only [List.map_cons,List.mem_cons] at h
    rcases h with h|h
    ·subst h; simp at hb
    ·exact ih h
   ·exact ⟨v,rfl⟩
theorem hl_in (u h h':Hp) (id:Nat) (hm:id ∈ u.map (·.1)):hl (u++h) id=hl (u++h') id:=by
 obtain ⟨x,hx⟩:=look_some hm
 simp [hl,look_append,hx]
theorem hl_out (u h:Hp) (id:Nat) (hm:id ∉ u.map (·.1)):hl (u++h) id=hl h id:=by
 simp [hl,look_append,look_none hm]
def partSt (L:Nat→Bool):St→List SD→Nat→St
 | st,[],_=>st
 | st,s::ss,k=>partSt L (bif L k then st.appx s else st) ss (k+1)
theorem part_get (L L':Nat→Bool) (t:Nat):∀ (ss:List SD) (k:Nat) (st st':St),st.get t=st'.get t→(∀ i s,ss[i]? = some s→s.i.dst=some t→L (k+i)=L' (k+i)) →
 (partSt L st ss k).get t=(partSt L' st' ss k).get t
 | [],k,st,st',h,_=>h
 | s::ss,k,st,st',h,hw=>by
   simp only [partSt]
   refine part_get L L' t ss (k+1) _ _ ?_ (fun i s' hs hd=>by have:=hw (i+1) s' (by simpa using hs) hd; rw [show k+(i+1)=k+1+i from by omega] at this; exact this)
   by_cases hd:s.i.dst=some t
   ·have:=hw 0 s (by simp) hd
    simp only [Nat.add_zero] at this
    rw [← this]
    cases L k
    ·exact h
    ·simp only [cond_true,St.get,St.appx,hd,getT_same]
   ·have e1:(bif L k then st.appx s else st).get t=st.get t:=by
     cases L k
     ·rfl
     ·exact getT_ne _ _ _ _ hd
    have e2:(bif L' k then st'.appx s else st').get t=st'.get t:=by
     cases L' k
     ·rfl
     ·exact getT_ne _ _ _ _ hd
    rw [e1,e2]; exact h
theorem part_hl (L L':Nat→Bool) (id:Nat):∀ (ss:List SD) (k:Nat) (st st':St),hl st.h id=hl st'.h id→(∀ i s,ss[i]? = some s→id ∈ s.upd.map (·.1)→L (k+i)=L' (k+i)) →
 hl (partSt L st ss k).h id=hl (partSt L' st' ss k).h id
 | [],k,st,st',h,_=>h
 | s::ss,k,st,st',h,hw=>by
   simp only [partSt]
   refine part_hl L L' id ss (k+1) _ _ ?_ (fun i s' hs hd=>by have:=hw (i+1) s' (by simpa using hs) hd; rw [show k+(i+1)=k+1+i from by omega] at this; exact this)
   by_cases hd:id ∈ s.upd.map (·.1)
   ·have:=hw 0 s (by simp) hd
    simp only [Nat.add_zero] at this
    rw [← this]
    cases L k
    ·exact h
    ·exact hl_in _ _ _ _ hd
   ·have e1:hl (bif L k then st.appx s else st).h id=hl st.h id:=by
     cases L k
     ·rfl
     ·exact hl_out _ _ _ hd
    have e2:hl (bif L' k then st'.appx s else st').h id=hl st'.h id:=by
     cases L' k
     ·rfl
     ·exact hl_out _ _ _ hd
    rw [e1,e2]; exact h
theorem part_nx (L:Nat→Bool):∀ (ss:List SD) (k:Nat) (st:St),(partSt L st ss k).nx=st.nx
 | [],_,_=>rfl
 | s::ss,k,st=>by simp only [partSt]; rw [part_nx L ss]; cases L k<;>rfl
theorem part_get_last (L:Nat→Bool) (t:Nat):∀ (ss:List SD) (k:Nat) (st:St) (j:Nat) (s:SD),ss[j]? = some s→L (k+j)=true→s.i.dst=some t →
 (∀ i s',j<i→ss[i]? = some s'→s'.i.dst=some t→L (k+i)=false)→(partSt L st ss k).get t=s.v
 | [],k,st,j,s,h,_,_,_=>by simp at h
 | s0::ss,k,st,0,s,h,hL,hd,hw=>by
   simp only [List.getElem?_cons_zero,Option.some.injEq] at h
   subst h
   simp only [Nat.add_zero] at hL
   simp only [partSt,hL,cond_true]
   rw [part_get L (fun _=>false) t ss (k+1) _ (st.appx s0) rfl (fun i s' hs hd'=>by
    have:=hw (i+1) s' (by omega) (by simpa using hs) hd'
    rw [show k+(i+1)=k+1+i from by omega] at this; exact this)]
   have:∀ (ss:List SD) (k:Nat) (st:St),partSt (fun _=>false) st ss k=st:=by
    intro ss; induction ss with
    | nil=>intro k st; rfl
    | cons s ss ih=>intro k st; simp only [partSt,cond_false]; exact ih _ _
   rw [this]
   simp only [St.get,St.appx,hd,getT_same]
 | s0::ss,k,st,j+1,s,h,hL,hd,hw=>by
   simp only [partSt]
   exact part_get_last L t ss (k+1) _ j s (by simpa using h) (by rw [show k+1+j=k+(j+1) from by omega]; exact hL) hd (fun i s' hi hs hd'=>by
    have:=hw (i+1) s' (by omega) (by simpa using hs) hd'
    rw [show k+(i+1)=k+1+i from by omega] at this; exact this)
theorem part_hl_last (L:Nat→Bool) (id:Nat) (h0:Hp):∀ (ss:List SD) (k:Nat) (st:St) (j:Nat) (s:SD),ss[j]? = some s→L (k+j)=true→id ∈ s.upd.map (·.1) →
 (∀ i s',j<i→ss[i]? = some s'→id ∈ s'.upd.map (·.1)→L (k+i)=false)→hl (partSt L st ss k).h id=hl (s.upd++h0) id
 | [],k,st,j,s,h,_,_,_=>by simp at h
 | s0::ss,k,st,0,s,h,hL,hd,hw=>by
   simp only [List.getElem?_cons_zero,Option.some.injEq] at h
   subst h
   simp only [Nat.add_zero] at hL
   simp only [partSt,hL,cond_true]
   rw [part_hl L (fun _=>false) id ss (k+1) _ (st.appx s0) rfl (fun i s' hs hd'=>by
    have:=hw (i+1) s' (by omega) (by simpa using hs) hd'
    rw [show k+(i+1)=k+1+i from by omega] at this; exact this)]
   have:∀ (ss:List SD) (k:Nat) (st:St),partSt (fun _=>false) st ss k=st:=by
    intro ss; induction ss with
    | nil=>intro k st; rfl
    | cons s ss ih=>intro k st; simp only [partSt,cond_false]; exact ih _ _
   rw [this]
   exact hl_in _ _ _ _ hd
 | s0::ss,k,st,j+1,s,h,hL,hd,hw=>by
   simp only [partSt]
   exact part_hl_last L id h0 ss (k+1) _ j s (by simpa using h) (by rw [show k+1+j=k+(j+1) from by omega]; exact hL) hd (fun i s' hi hs hd'=>by
    have:=hw (i+1) s' (by omega) (by simpa using hs) hd'
    rw [show k+(i+1)=k+1+i from by omega] at this; exact this)
def lexSt (st:St) (ss:List SD) (j:Nat):St:=(ss.take j).foldl St.app st
theorem lex_get (t:Nat):∀ (ss:List SD) (st st0:St) (j k:Nat),st.get t=st0.get t→(lexSt st ss j).get t=(partSt (fun i=>decide (i<k+j)) st0 ss k).get t
 | [],st,st0,j,k,h=>by simpa [lexSt,partSt] using h
 | s::ss,st,st0,0,k,h=>by
   have:∀ (ss:List SD) (k k':Nat) (st:St),k≤k'→partSt (fun i=>decide (i<k)) st ss k'=st:=by
    intro ss; induction ss with
    | nil=>intro k k' st _; rfl
    | cons s ss ih =>
      intro k k' st hk
      have:decide (k'<k)=false:=by simp; omega
      simp only [partSt,this,cond_false]; exact ih _ _ _ (by omega)
   simp only [Nat.add_zero]
   rw [this _ _ _ _ (Nat.le_refl k)]
   simpa [lexSt] using h
 | s::ss,st,st0,j+1,k,h=>by
   have hk:decide (k<k+(j+1))=true:=by simp
   simp only [lexSt,List.take_succ_cons,List.foldl_cons,partSt,hk,cond_true]
   have:=lex_get t ss (st.app s) (st0.appx s) j (k+1) (by
    show getT (putT _ _ _) t=getT (putT _ _ _) t
    by_cases hd:s.i.dst=some t
    ·rw [hd,getT_same,getT_same]
    ·rw [getT_ne _ _ _ _ hd,getT_ne _ _ _ _ hd]; exact h)
   rw [show k+(j+1)=k+1+j from by omega]
   exact this
theorem lex_hl (id:Nat):∀ (ss:List SD) (st st0:St) (j k:Nat),hl st.h id=hl st0.h id→hl (lexSt st ss j).h id=hl (partSt (fun i=>decide (i<k+j)) st0 ss k).h id
 | [],st,st0,j,k,h=>by simpa [lexSt,partSt] using h
 | s::ss,st,st0,0,k,h=>by
   have:∀ (ss:List SD) (k k':Nat) (st:St),k≤k'→partSt (fun i=>decide (i<k)) st ss k'=st:=by
    intro ss; induction ss with
    | nil=>intro k k' st _; rfl
    | cons s ss ih =>
      intro k k' st hk
      have:decide (k'<k)=false:=by simp; omega
      simp only [partSt,this,cond_false]; exact ih _ _ _ (by omega)
   simp only [Nat.add_zero]
   rw [this _ _ _ _ (Nat.le_refl k)]
   simpa [lexSt] using h
 | s::ss,st,st0,j+1,k,h=>by
   have hk:decide (k<k+(j+1))=true:=by simp
   simp only [lexSt,List.take_succ_cons,List.foldl_cons,partSt,hk,cond_true]
   have:=lex_hl id ss (st.app s) (st0.appx s) j (k+1) (by
    show hl (s.upd++_) id=hl (s.upd++_) id
    by_cases hd:id ∈ s.upd.map (·.1)
    ·exact hl_in _ _ _ _ hd
    ·rw [hl_out _ _ _ hd,hl_out _ _ _ hd]; exact h)
   rw [show k+(j+1)=k+1+j from by omega]
   exact this
theorem app_nx_le (st:St) (s:SD):st.nx≤(st.app s).nx:=by
 simp only [St.app]; omega
theorem fold_nx_le:∀ (ss:List SD) (st:St),st.nx≤(ss.foldl St.app st).nx
 | [],_=>Nat.le_refl _
 | s::ss,st=>Nat.le_trans (app_nx_le st s) (fold_nx_le ss (st.app s))
theorem lex_succ (st:St) (ss:List SD) (j:Nat) (s:SD) (h:ss[j]? = some s):lexSt st ss (j+1)=(lexSt st ss j).app s:=by
 unfold lexSt
 rw [List.take_add_one,h]
 simp
theorem lex_nx_mono (st:St) (ss:List SD):∀ (i j:Nat),i≤j→(lexSt st ss i).nx≤(lexSt st ss j).nx:=by
 intro i j h
 obtain ⟨d,rfl⟩:=Nat.le.dest h
 induction d with
 | zero=>exact Nat.le_refl _
 | succ d ih =>
   refine Nat.le_trans (ih (by omega)) ?_
   cases hs:ss[i+d]? with
   | none =>
     have:lexSt st ss (i+(d+1))=lexSt st ss (i+d):=by
      unfold lexSt
      rw [List.take_of_length_le (by simp at hs; omega),List.take_of_length_le (by simp at hs; omega)]
     rw [this]; exact Nat.le_refl _
   | some s=>rw [show i+(d+1)=i+d+1 from by omega,lex_succ st ss _ s hs]; exact app_nx_le _ _
theorem lex_all (st:St) (ss:List SD):lexSt st ss ss.length=ss.foldl St.app st:=by simp [lexSt]
inductive Steps (P:Program):List AInst→St→List SD→St→Prop
 | nil (st:St):Steps P [] st [] st
 | cons {s:SD} {l:List AInst} {st:St} {ss:List SD} {st':St}:Step P st s→Steps P l (st.app s) ss st'→Steps P (s.i::l) st (s::ss) st'
theorem Steps.parts {P:Program} {l:List AInst} {st:St} {ss:List SD} {st':St} (h:Steps P l st ss st') :
 l=ss.map (·.i)∧st'=ss.foldl St.app st∧∀ j s,ss[j]? = some s→Step P (lexSt st ss j) s:=by
 induction h with
 | nil st=>exact ⟨rfl,rfl,fun j s h=>by simp at h⟩
 | @cons s l st ss st' h hs ih =>
   obtain ⟨h1,h2,h3⟩:=ih
   refine ⟨by rw [h1]; rfl,by rw [h2]; rfl,fun j s' hj => ?_⟩
   cases j with
   | zero =>
     simp only [List.getElem?_cons_zero,Option.some.injEq] at hj
     subst hj
     simpa [lexSt] using h
   | succ j =>
     have:=h3 j s' (by simpa using hj)
     simpa [lexSt] using this
theorem optAll_get {α β:Type} {f:α→Option β}:∀ {l:List α} {r:List β},optAll f l=some r→l.length=r.length∧∀ (i:Nat) x,l[i]? = some x→∃ y,r[i]? = some y∧f x=some y
 | [],r,h=>by simp only [optAll,Option.some.injEq] at h; subst h; simp
 | a::l,r,h=>by
   simp only [optAll] at h
   cases h1:f a with
   | none=>simp [h1] at h
   | some b =>
     cases h2:optAll f l with
     | none=>simp [h1,h2] at h
     | some bs =>
       simp only [h1,h2,Option.some.injEq] at h
       subst h
       obtain ⟨k1,k2⟩:=optAll_get h2
       refine ⟨by simp [k1],fun i x hi => ?_⟩
       cases i with
       | zero=>simp only [List.getElem?_cons_zero,Option.some.injEq] at hi; subst hi; exact ⟨b,by simp,h1⟩
       | succ i=>simpa using k2 i x (by simpa using hi)
theorem anc_listed {ops:Array Oper} {L:Nat→Bool} (hcl:∀ (j:Nat) o (e:Edge),L j=true→ops[j]? = some o→e ∈ o.after→Region.binds .any e=true→L e.on=true) :
 ∀ (n i j:Nat),anc ops n i j=true→(∀ o (e:Edge),ops[j]? = some o→e ∈ o.after→Region.binds .any e=true→L e.on=true)→L i=true
 | 0,_,_,h,_=>by simp [anc] at h
 | n+1,i,j,h,hd=>by
   simp only [anc] at h
   cases ho:ops[j]? with
   | none=>simp [ho] at h
   | some o =>
     simp only [ho,List.any_eq_true] at h
     obtain ⟨e,he,h⟩:=h
     simp only [Bool.and_eq_true,Bool.or_eq_true] at h
     obtain ⟨hb,h⟩:=h
     have hL:=hd o e ho (by simpa using he) hb
     rcases h with h|⟨_,h⟩
     ·have:=Nat.eq_of_beq_eq_true h; rw [← this]; exact hL
     ·exact anc_listed hcl n i e.on h (fun o' e' ho' he' hb'=>hcl e.on o' e' hL ho' he' hb')
def meets (x y:SD):Bool :=
 (x.upd.any fun u=>y.rd.any (Nat.beq u.1) || y.upd.any fun u'=>Nat.beq u.1 u'.1) || (y.upd.any fun u=>x.rd.any (Nat.beq u.1))
def indepOK (ss:List SD) (free:List (Nat × Nat)):Bool :=
 (ss.all fun s=>s.i.op.heapy || (s.rd.isEmpty && s.upd.isEmpty)) &&
 free.all fun p=>match ss[p.1]?,ss[p.2]? with
  | some x,some y => !meets x y
  | _,_=>false
theorem meets_of {x y:SD} {id:Nat} (h:(id ∈ x.upd.map (·.1)∧(id ∈ y.rd∨id ∈ y.upd.map (·.1)))∨(id ∈ x.rd∧id ∈ y.upd.map (·.1))):meets x y=true:=by
 simp only [meets,Bool.or_eq_true,List.any_eq_true]
 rcases h with ⟨h1,h2⟩|⟨h1,h2⟩
 ·left
  obtain ⟨u,hu,rfl⟩:=List.mem_map.1 h1
  refine ⟨u,hu,?_⟩
  rcases h2 with h2|h2
  ·left; exact ⟨u.1,h2,by simp⟩
  ·right
   obtain ⟨u',hu',e⟩:=List.mem_map.1 h2
   exact ⟨u',hu',by simp [e]⟩
 ·right
  obtain ⟨u,hu,rfl⟩:=List.mem_map.1 h2
  exact ⟨u,hu,u.1,h1,by simp⟩
theorem anc_of_meets {P:Program} {N:Nat} {ops:Array Oper} {l:List AInst} {ss:List SD} (hl:optAll (lowerOp P N ops) ops.toList=some l) (hss:l=ss.map (·.i)) (hind:indepOK ss (freeOf ops l)=true)
 {i j:Nat} (hij:i<j) {x y:SD} (hx:ss[i]? = some x) (hy:ss[j]? = some y) (hm:meets x y=true):anc ops (j+1) i j=true:=by
 simp only [indepOK,Bool.and_eq_true,List.all_eq_true] at hind
 obtain ⟨h1,h2⟩:=hind
 have hlen:l.length=ops.size:=by have:=(optAll_get hl).1; simpa using this.symm
 have hj:j<ops.size:=by
  have:=(List.getElem?_eq_some_iff.1 hy).1
  rw [← hlen,hss]; simpa using this
 have heap:∀ s ∈ ss,s.i.op.heapy=true∨(s.rd=[]∧s.upd=[]):=fun s hs=>by
  have:=h1 s hs
  simpa [Bool.or_eq_true,List.isEmpty_iff] using this
 have hxh:x.i.op.heapy=true:=by
  rcases heap x (List.mem_of_getElem? hx) with h|⟨h,h'⟩
  ·exact h
  ·simp [meets,h,h'] at hm
 have hyh:y.i.op.heapy=true:=by
  rcases heap y (List.mem_of_getElem? hy) with h|⟨h,h'⟩
  ·exact h
  ·simp [meets,h,h'] at hm
 cases ha:anc ops (j+1) i j with
 | true=>rfl
 | false =>
   have hmem:(i,j) ∈ freeOf ops l:=by
    unfold freeOf
    rw [List.mem_flatMap]
    refine ⟨j,by simpa using hj,?_⟩
    rw [List.mem_map]
    refine ⟨i,?_,rfl⟩
    rw [List.mem_filter]
    refine ⟨by simpa using hij,?_⟩
    have ei:l[i]? = some x.i:=by rw [hss]; simp [hx]
    have ej:l[j]? = some y.i:=by rw [hss]; simp [hy]
    simp [ei,ej,hxh,hyh,ha]
   have:=h2 (i,j) hmem
   simp [hx,hy,hm] at this
theorem lower_parts {P:Program} {N:Nat} {ops:Array Oper} {o:Oper} {i:AInst} (h:lowerOp P N ops o=some i) :
 i.dst=o.dst∧(∀ d,o.dst=some d→d<N)∧lowerO P o.op=some i.op ∧
  (match o.guard with|none=>i.g=none|some (j,b)=>∃ t,(ops[j]?).bind (·.dst)=some t∧i.g=some (t,b)):=by
 unfold lowerOp at h
 split at h
 ·cases h
 ·rename_i hd
  split at h
  ·rename_i g op hg hop
   simp only [Option.some.injEq] at h
   subst h
   refine ⟨rfl,?_,hop,?_⟩
   ·intro d hd'
    rw [hd'] at hd
    simpa [Nat.blt_eq] using hd
   ·cases hgd:o.guard with
    | none=>rw [hgd] at hg; simp at hg; exact hg.symm
    | some p =>
      obtain ⟨j,b⟩:=p
      rw [hgd] at hg
      simp only [Option.map_eq_some_iff] at hg
      obtain ⟨t,ht,e⟩:=hg
      exact ⟨t,ht,e.symm⟩
  ·cases h
theorem mem_tmpsOf {l:List Operand} {t:Nat}:t ∈ tmpsOf l↔Operand.tmp t ∈ l:=by
 unfold tmpsOf
 rw [List.mem_filterMap]
 constructor
 ·rintro ⟨x,hx,h⟩
  cases x<;>simp at h
  subst h; exact hx
 ·intro h; exact ⟨_,h,rfl⟩
theorem optAll_map {α β γ:Type} {f:α→Option β} {g:α→γ} {k:β→γ} (hk:∀ a b,f a=some b→k b=g a):∀ {l:List α} {r:List β},optAll f l=some r→r.map k=l.map g
 | [],r,h=>by simp only [optAll,Option.some.injEq] at h; subst h; rfl
 | a::l,r,h=>by
   simp only [optAll] at h
   cases h1:f a with
   | none=>simp [h1] at h
   | some b =>
     cases h2:optAll f l with
     | none=>simp [h1,h2] at h
     | some bs =>
       simp only [h1,h2,Option.some.injEq] at h
       subst h
       simp [hk a b h1,optAll_map hk h2]
theorem lower_opds {P:Program} {o:Op} {a:AOp} (h:lowerO P o=some a):∀ x ∈ a.opds,x ∈ o.operands.toList:=by
 cases o
 case build t ps =>
  simp only [lowerO] at h
  split at h
  ·rename_i z _ _ l hz hl
   split at h
   case isFalse=>cases h
   simp only [Option.some.injEq] at h
   subst h
   have:=optAll_map (g:=fun p:Nat × Operand=>p.2) (k:=fun q:Nat × Nat × Operand=>q.2.2) (fun p q hq=>by
    simp only [Option.map_eq_some_iff] at hq
    obtain ⟨r,_,rfl⟩:=hq; rfl) hl
   intro x hx
   simp only [AOp.opds] at hx
   rw [this] at hx
   simpa [Op.operands] using hx
  ·cases h
 case call c =>
  obtain ⟨callee,args,tys⟩:=c
  cases callee with
  | value f =>
    simp only [lowerO,Option.some.injEq] at h
    subst h
    intro x hx
    simpa [AOp.opds,Op.operands,Call.operands] using hx
  | invoke r m=>simp [lowerO] at h
  | builtin b =>
    have e:(Op.call { callee:=.builtin b,args:=args,argTypes:=tys }).operands.toList=args.toList:=by simp [Op.operands,Call.operands]
    rw [e]
    simp only [lowerO] at h
    generalize args.toList=al at h
    generalize tys.toList=tl at h
    intro x hx
    repeat' split at h
    all_goals first
     | (cases h; done)
     | (simp only [Option.some.injEq] at h; subst h; simpa [AOp.opds] using hx)
 case slice t x lo hi mx =>
  simp only [lowerO] at h
  repeat' split at h
  all_goals first
   | (cases h; done)
   | (simp only [Option.some.injEq] at h; subst h; intro y hy; cases lo<;>cases hi<;>cases mx<;>simpa [AOp.opds,Op.operands,oL] using hy)
 case makeFunc f fi ca =>
  cases f<;>simp only [lowerO] at h
  case func f=>simp only [Option.some.injEq] at h; subst h; intro y hy; simpa [AOp.opds,Op.operands] using hy
  all_goals cases h
 case makeMap t r =>
  cases r with
  | some r=>simp [lowerO] at h
  | none =>
    simp only [lowerO] at h
    split at h
    ·simp only [Option.some.injEq] at h; subst h; intro y hy; simp [AOp.opds] at hy
    ·cases h
 case lookup t x k ok =>
  simp only [lowerO] at h
  split at h
  ·split at h
   ·simp only [Option.some.injEq] at h; subst h; intro y hy; simp [AOp.opds] at hy; simpa [Op.operands] using hy
   ·cases h
  ·cases ok
   ·simp only [cond_false,Option.some.injEq] at h; subst h; intro y hy; simp [AOp.opds] at hy; simpa [Op.operands] using hy
   ·simp only [cond_true] at h; cases h
 all_goals
  simp only [lowerO] at h
  repeat' split at h
  all_goals first
   | (cases h; done)
   | (simp only [Option.some.injEq] at h; subst h; intro y hy; simp [AOp.opds] at hy; done)
   | (simp only [Option.some.injEq] at h; subst h; intro y hy; simp [AOp.opds] at hy; simp [Op.operands,hy]; done)
   | (simp only [Option.some.injEq] at h; subst h; intro y hy; simp [AOp.opds] at hy; simpa [Op.operands] using hy)
theorem lower_reads {P:Program} {N:Nat} {ops:Array Oper} {o:Oper} {i:AInst} (h:lowerOp P N ops o=some i):∀ t ∈ i.reads,t ∈ readsOf ops o:=by
 obtain ⟨h1,h2,h3,h4⟩:=lower_parts h
 intro t ht
 simp only [AInst.reads,List.mem_append] at ht
 simp only [readsOf,List.mem_append]
 rcases ht with ht|ht
 ·left
  rw [mem_tmpsOf] at ht ⊢
  exact lower_opds h3 _ ht
 ·right
  cases hg:o.guard with
  | none=>rw [hg] at h4; rw [show i.g=none from h4] at ht; simp at ht
  | some p =>
    obtain ⟨j,b⟩:=p
    rw [hg] at h4
    obtain ⟨t',ht',e⟩:=h4
    rw [e] at ht
    simp only [List.mem_singleton] at ht
    subst ht
    simp [ht']
theorem clash_dst {ops:Array Oper} {x y:Oper} {d:Nat} (hx:x.dst=some d) (h:d ∈ readsOf ops y∨y.dst=some d):clash ops x y=true:=by
 simp only [clash,hx,Bool.or_eq_true]
 left
 rcases h with h|h
 ·left; rw [List.any_eq_true]; exact ⟨d,h,by simp⟩
 ·right; simp [h]
theorem clash_rev {ops:Array Oper} {x y:Oper} {d:Nat} (hy:y.dst=some d) (h:d ∈ readsOf ops x):clash ops x y=true:=by
 simp only [clash,hy,Bool.or_eq_true]
 right
 rw [List.any_eq_true]; exact ⟨d,h,by simp⟩
theorem draw_anc {ops:Array Oper} (h:drawOK ops=true) {i j:Nat} {x y:Oper} (hij:i<j) (hx:ops[i]? = some x) (hy:ops[j]? = some y) (hc:clash ops x y=true):anc ops (j+1) i j=true:=by
 simp only [drawOK,List.all_eq_true,List.mem_range] at h
 have:=h j (Array.getElem?_eq_some_iff.1 hy).1 i hij
 simpa [hx,hy,hc] using this
def lis (listed:Array Bool) (i:Nat):Bool:=listed.getD i false
theorem countP_lt {l:List Nat} {p q:Nat→Bool} (hpq:∀ i,q i=true→p i=true) {j:Nat} (hj:j ∈ l) (hp:p j=true) (hq:q j=false):l.countP q<l.countP p:=by
 induction l with
 | nil=>cases hj
 | cons a l ih =>
   have hle:l.countP q≤l.countP p:=List.countP_mono_left (fun i _ h=>hpq i h)
   rw [List.countP_cons,List.countP_cons]
   rcases List.mem_cons.1 hj with rfl|h
   ·simp only [hp,hq,if_true]; simp; omega
   ·have:=ih h
    have ha:(if q a=true then 1 else 0)≤(if p a=true then 1 else 0):=by
     by_cases hqa:q a=true
     ·simp [hqa,hpq a hqa]
     ·simp [hqa]
    omega
theorem beq_ne {i j:Nat} (h:i≠j):Nat.beq i j=false:=by
 cases hb:Nat.beq i j
 ·rfl
 ·exact absurd (Nat.eq_of_beq_eq_true hb) h
section
variable {P:Program} {N:Nat} {ops:Array Oper} {l:List AInst} {st:St} {ss:List SD} {st':St}
theorem any_sound (hlow:optAll (lowerOp P N ops) ops.toList=some l) (hdraw:drawOK ops=true) (hedge:edgesOK ops=true) (hS:Steps P l st ss st') (hind:indepOK ss (freeOf ops l)=true)
 (C:Ctx) (hN:C.N=N) (Q:Exit→Act→World→Prop) (hQ:∀ E a w,Rel C E st' a w→Q .normal a w) :
 ∀ (fuel:Nat) (listed:Array Bool) (a:Act) (w:World) (E:Env),listed.size=ops.size →
   (∀ (j:Nat) o (e:Edge),lis listed j=true→ops[j]? = some o→e ∈ o.after→Region.binds .any e=true→lis listed e.on=true) →
    (List.range ops.size).countP (fun i => !lis listed i)≤fuel →
     Rel C E (partSt (lis listed) { st with nx:=st'.nx } ss 0) a w →
      (∀ id,E.live id→id<st.nx∨∃ i s,lis listed i=true∧ss[i]? = some s∧∃ q,q<s.nw∧id=(lexSt st ss i).nx+q) →
       wpAny P .any ops Q fuel listed a w:=by
 obtain ⟨hss,hst',hstep⟩:=hS.parts
 have hlen:ss.length=ops.size:=by
  have:=(optAll_get hlow).1
  rw [hss] at this; simpa using this.symm
 have hget:∀ (i:Nat) (o:Oper),ops[i]? = some o→∃ s:SD,ss[i]? = some s∧lowerOp P N ops o=some s.i:=fun i o ho=>by
  obtain ⟨y,hy,hf⟩:=(optAll_get hlow).2 i o (by simpa using ho)
  rw [hss] at hy
  simp only [List.getElem?_map,Option.map_eq_some_iff] at hy
  obtain ⟨s,hs,rfl⟩:=hy
  exact ⟨s,hs,hf⟩
 have hops:∀ (i:Nat) (s:SD),ss[i]? = some s→∃ o,ops[i]? = some o∧lowerOp P N ops o=some s.i:=fun i s hs=>by
  have hi:i<ops.size:=by have:=(List.getElem?_eq_some_iff.1 hs).1; omega
  obtain ⟨s',hs',hf⟩:=hget i ops[i] (by simp [hi])
  rw [hs] at hs'
  obtain rfl:s=s':=by simpa using hs'
  exact ⟨ops[i],by simp [hi],hf⟩
 have key:∀ (i j:Nat) (x y:SD),i<j→ss[i]? = some x→ss[j]? = some y →
  ((∃ d,x.i.dst=some d∧(d ∈ y.i.reads∨y.i.dst=some d))∨(∃ d,y.i.dst=some d∧d ∈ x.i.reads)∨meets x y=true)→anc ops (j+1) i j=true:=by
  intro i j x y hij hx hy h
  obtain ⟨ox,hox,hlx⟩:=hops i x hx
  obtain ⟨oy,hoy,hly⟩:=hops j y hy
  have ex:=(lower_parts hlx).1
  have ey:=(lower_parts hly).1
  rcases h with ⟨d,hd,h⟩|⟨d,hd,h⟩|h
  ·refine draw_anc hdraw hij hox hoy (clash_dst (d:=d) (by rw [← ex]; exact hd) ?_)
   rcases h with h|h
   ·exact .inl (lower_reads hly d h)
   ·exact .inr (by rw [← ey]; exact h)
  ·exact draw_anc hdraw hij hox hoy (clash_rev (d:=d) (by rw [← ey]; exact hd) (lower_reads hlx d h))
  ·exact anc_of_meets hlow hss hind hij hx hy h
 have hback:∀ (j:Nat) o (e:Edge),ops[j]? = some o→e ∈ o.after→Region.binds .any e=true→e.on<j:=fun j o e ho he hb=>by
  simp only [edgesOK,List.all_eq_true,List.mem_range] at hedge
  have:=hedge j (Array.getElem?_eq_some_iff.1 ho).1
  simp only [ho,List.all_eq_true] at this
  have:=this e (by simpa using he)
  simpa [hb,Nat.blt_eq] using this
 intro fuel
 induction fuel with
 | zero =>
   intro listed a w E hsz hcl hcnt hR hlive
   have hall:∀ i,i<ops.size→lis listed i=true:=fun i hi=>by
    have h0:(List.range ops.size).countP (fun i => !lis listed i)=0:=by omega
    rw [List.countP_eq_zero] at h0
    have:=h0 i (by simpa using hi)
    simpa using this
   have hfin:Rel C E st' a w:=by
    refine hR.congr (fun n => ?_) (fun id => ?_) (by rw [part_nx]; exact Nat.le_refl _)
    ·rw [hst',← lex_all]
     rw [lex_get n ss st { st with nx:=st'.nx } ss.length 0 rfl]
     refine part_get _ _ n ss 0 _ _ rfl (fun i s hs _ => ?_)
     have hi:=(List.getElem?_eq_some_iff.1 hs).1
     simp only [Nat.zero_add]
     rw [hall i (by omega)]
     simpa using hi
    ·rw [hst',← lex_all]
     rw [lex_hl id ss st { st with nx:=st'.nx } ss.length 0 rfl]
     refine part_hl _ _ id ss 0 _ _ rfl (fun i s hs _ => ?_)
     have hi:=(List.getElem?_eq_some_iff.1 hs).1
     simp only [Nat.zero_add]
     rw [hall i (by omega)]
     simpa using hi
   refine ⟨?_,hQ _ _ _ hfin⟩
   cases hr:Region.ready .any ops listed with
   | nil=>rfl
   | cons j r =>
     have hj:j ∈ Region.ready .any ops listed:=by rw [hr]; simp
     obtain ⟨h0,o,ho,_⟩:=mem_ready.1 hj
     have hlt:=(Array.getElem?_eq_some_iff.1 ho).1
     have:=hall j hlt
     simp [lis,hsz,hlt] at this h0
     rw [this] at h0; cases h0
 | succ fuel ih =>
   intro listed a w E hsz hcl hcnt hR hlive
   refine ⟨fun hr => ?_,fun j hj => ?_⟩
   ·
    have hall:∀ i,i<ops.size→lis listed i=true:=by
     intro i
     induction i using Nat.strongRecOn with
     | _ i ihi =>
       intro hi
       cases hli:lis listed i with
       | true=>rfl
       | false =>
         have:i ∈ Region.ready .any ops listed:=mem_ready.2 ⟨by simp [lis,hsz,hi] at hli ⊢; exact hli,ops[i],by simp [hi],fun e he hb=>by
          have hlt:=hback i ops[i] e (by simp [hi]) he hb
          have:=ihi e.on hlt (by omega)
          exact this⟩
         rw [hr] at this; cases this
    refine hQ E _ _ (hR.congr (fun n => ?_) (fun id => ?_) (by rw [part_nx]; exact Nat.le_refl _))
    ·rw [hst',← lex_all]
     rw [lex_get n ss st { st with nx:=st'.nx } ss.length 0 rfl]
     refine part_get _ _ n ss 0 _ _ rfl (fun i s hs _ => ?_)
     have hi:=(List.getElem?_eq_some_iff.1 hs).1
     simp only [Nat.zero_add]
     rw [hall i (by omega)]
     simpa using hi
    ·rw [hst',← lex_all]
     rw [lex_hl id ss st { st with nx:=st'.nx } ss.length 0 rfl]
     refine part_hl _ _ id ss 0 _ _ rfl (fun i s hs _ => ?_)
     have hi:=(List.getElem?_eq_some_iff.1 hs).1
     simp only [Nat.zero_add]
     rw [hall i (by omega)]
     simpa using hi
   ·obtain ⟨hun,o,ho,hdeps⟩:=mem_ready.1 hj
    have hjlt:=(Array.getElem?_eq_some_iff.1 ho).1
    have hunl:lis listed j=false:=by simp [lis,hsz,hjlt] at hun ⊢; exact hun
    obtain ⟨s,hs,hlo⟩:=hget j o ho
    have hdeps':∀ o' (e:Edge),ops[j]? = some o'→e ∈ o'.after→Region.binds .any e=true→lis listed e.on=true:=fun o' e ho' he hb=>by
     rw [ho] at ho'
     obtain rfl:o=o':=by simpa using ho'
     exact hdeps e he hb
    have hahead:∀ i,anc ops (j+1) i j=true→lis listed i=true:=fun i h=>anc_listed hcl (j+1) i j h hdeps'
    have hbehind:∀ i,anc ops (i+1) j i=true→lis listed i=false:=fun i h=>by
     cases hli:lis listed i with
     | false=>rfl
     | true =>
       have:lis listed j=true:=anc_listed hcl (i+1) j i h (fun o' e ho' he hb=>hcl i o' e hli ho' he hb)
       rw [hunl] at this; cases this
    have hrel:∀ (i:Nat) (x:SD),ss[i]? = some x→((∃ d,x.i.dst=some d∧(d ∈ s.i.reads∨s.i.dst=some d))∨(∃ d,s.i.dst=some d∧d ∈ x.i.reads)∨meets x s=true∨meets s x=true)→i≠j →
     lis listed i=decide (i<j):=fun i x hx h hne=>by
     have hm:meets x s=meets s x:=by
      apply Bool.eq_iff_iff.2
      simp only [meets,Bool.or_eq_true,List.any_eq_true]
      constructor
      ·rintro (⟨u,hu,h|⟨u',hu',h⟩⟩|⟨u,hu,h⟩)
       ·exact .inr ⟨u,hu,h⟩
       ·exact .inl ⟨u',hu',.inr ⟨u,hu,by simpa using (by simpa using h:u.1=u'.1).symm⟩⟩
       ·exact .inl ⟨u,hu,.inl h⟩
      ·rintro (⟨u,hu,h|⟨u',hu',h⟩⟩|⟨u,hu,h⟩)
       ·exact .inr ⟨u,hu,h⟩
       ·exact .inl ⟨u',hu',.inr ⟨u,hu,by simpa using (by simpa using h:u.1=u'.1).symm⟩⟩
       ·exact .inl ⟨u,hu,.inl h⟩
     rcases Nat.lt_or_ge i j with hlt|hge
     ·rw [hahead i (key i j x s hlt hx hs (by
       rcases h with h|h|h|h
       ·exact .inl h
       ·exact .inr (.inl h)
       ·exact .inr (.inr h)
       ·exact .inr (.inr (by rw [hm]; exact h))))]
      simpa using hlt
     ·have hgt:j<i:=by omega
      rw [hbehind i (key j i s x hgt hs hx (by
       rcases h with ⟨d,h1,h2⟩|⟨d,h1,h2⟩|h|h
       ·rcases h2 with h2|h2
        ·exact .inr (.inl ⟨d,h1,h2⟩)
        ·exact .inl ⟨d,h2,.inr h1⟩
       ·exact .inl ⟨d,h1,.inl h2⟩
       ·exact .inr (.inr (by rw [← hm]; exact h))
       ·exact .inr (.inr h)))]
      simp; omega
    have hset:∀ i,lis (listed.setIfInBounds j true) i=(lis listed i || Nat.beq i j):=fun i=>by
     by_cases hij:j=i
     ·subst hij
      simp [lis,hsz,hjlt]
     ·have:Nat.beq i j=false:=by
       cases hb:Nat.beq i j
       ·rfl
       ·exact absurd (Nat.eq_of_beq_eq_true hb).symm hij
      simp only [lis,getD_set_ne _ hij,this,Bool.or_false]
    have hnow:=hstep j s hs N ops o hlo C E a w (partSt (lis listed) { st with nx:=st'.nx } ss 0) hN hR
     (fun t ht=>by
      rw [lex_get t ss st { st with nx:=st'.nx } j 0 rfl]
      refine part_get _ _ t ss 0 _ _ rfl (fun i x hx hd => ?_)
      simp only [Nat.zero_add]
      by_cases hij:i=j
      ·subst hij; rw [hunl]; simp
      ·exact hrel i x hx (.inl ⟨t,hd,.inl ht⟩) hij)
     (fun id hid=>by
      rw [lex_hl id ss st { st with nx:=st'.nx } j 0 rfl]
      refine part_hl _ _ id ss 0 _ _ rfl (fun i x hx hd => ?_)
      simp only [Nat.zero_add]
      by_cases hij:i=j
      ·subst hij; rw [hunl]; simp
      ·exact hrel i x hx (.inr (.inr (.inl (meets_of (.inl ⟨hd,hid⟩))))) hij)
     (fun q hnw=>by
      constructor
      ·intro hl
       rcases hlive _ hl with h|⟨i,x,h1,h2,q',h3,h4⟩
       ·have:=lex_nx_mono st ss 0 j (Nat.zero_le _)
        have e0:(lexSt st ss 0).nx=st.nx:=by simp [lexSt]
        omega
       ·rcases Nat.lt_trichotomy i j with h|h|h
        ·have:=lex_nx_mono st ss (i+1) j h
         rw [lex_succ st ss i x h2] at this
         simp only [St.app] at this
         omega
        ·subst h; rw [hunl] at h1; cases h1
        ·have:=lex_nx_mono st ss (j+1) i h
         rw [lex_succ st ss j s hs] at this
         simp only [St.app] at this
         omega
      ·rw [part_nx]
       have:=lex_nx_mono st ss (j+1) ss.length (by omega)
       rw [lex_succ st ss j s hs,lex_all,← hst'] at this
       simp only [St.app] at this
       show _<st'.nx
       omega)
    unfold wpOp
    simp only [ho]
    have hgo:∀ (v':Value) (w':World) (E':Env),Rel C E' ((partSt (lis listed) { st with nx:=st'.nx } ss 0).appx s) (a.put o.dst v') w'→(∀ id,E'.live id→E.live id∨(∃ q,q<s.nw∧id=(lexSt st ss j).nx+q)) →
     wpAny P .any ops Q fuel (listed.setIfInBounds j true) (a.put o.dst v') w':=fun v' w' E' hR' hl'=>by
     refine ih (listed.setIfInBounds j true) (a.put o.dst v') w' E' (by simpa using hsz) ?_ ?_ ?_ ?_
     ·intro i o' e hli ho' he hb
      rw [hset] at hli ⊢
      rw [Bool.or_eq_true] at hli ⊢
      rcases hli with hli|hli
      ·exact .inl (hcl i o' e hli ho' he hb)
      ·have:=Nat.eq_of_beq_eq_true hli
       subst this
       exact .inl (hdeps' o' e ho' he hb)
     ·have:=countP_lt (l:=List.range ops.size) (p:=fun i => !lis listed i) (q:=fun i => !lis (listed.setIfInBounds j true) i) (fun i hi=>by
       simp only [hset,Bool.not_or,Bool.and_eq_true] at hi; exact hi.1) (j:=j) (by simpa using hjlt) (by simp [hunl]) (by simp [hset])
      omega
     ·refine hR'.congr (fun n => ?_) (fun id => ?_) (by simp only [part_nx,St.appx]; exact Nat.le_refl _)
      ·by_cases hd:s.i.dst=some n
       ·rw [part_get_last _ n ss 0 _ j s hs (by rw [hset]; simp) hd (fun i x hji hx hdx=>by
         rw [hset]
         have:=hrel i x hx (.inl ⟨n,hdx,.inr hd⟩) (by omega)
         have e1:decide (i<j)=false:=by simp; omega
         rw [Nat.zero_add,this,e1,beq_ne (by omega)]; rfl)]
        simp only [St.get,St.appx,hd,getT_same]
       ·have e1:((partSt (lis listed) { st with nx:=st'.nx } ss 0).appx s).get n=(partSt (lis listed) { st with nx:=st'.nx } ss 0).get n:=getT_ne _ _ _ _ hd
        rw [e1]
        refine part_get _ _ n ss 0 _ _ rfl (fun i x hx hdx => ?_)
        rw [hset]
        simp only [Nat.zero_add]
        by_cases hij:i=j
        ·subst hij; rw [hs] at hx
         obtain rfl:s=x:=by simpa using hx
         exact absurd hdx hd
        ·have:Nat.beq i j=false:=by
          cases hb:Nat.beq i j
          ·rfl
          ·exact absurd (Nat.eq_of_beq_eq_true hb) hij
         simp [this]
      ·by_cases hd:id ∈ s.upd.map (·.1)
       ·rw [part_hl_last _ id (partSt (lis listed) { st with nx:=st'.nx } ss 0).h ss 0 _ j s hs (by rw [hset]; simp) hd (fun i x hji hx hdx=>by
         rw [hset]
         have:=hrel i x hx (.inr (.inr (.inl (meets_of (.inl ⟨hdx,.inr hd⟩))))) (by omega)
         have e1:decide (i<j)=false:=by simp; omega
         rw [Nat.zero_add,this,e1,beq_ne (by omega)]; rfl)]
        rfl
       ·have e1:hl ((partSt (lis listed) { st with nx:=st'.nx } ss 0).appx s).h id=hl (partSt (lis listed) { st with nx:=st'.nx } ss 0).h id:=hl_out _ _ _ hd
        rw [e1]
        refine part_hl _ _ id ss 0 _ _ rfl (fun i x hx hdx => ?_)
        rw [hset]
        simp only [Nat.zero_add]
        by_cases hij:i=j
        ·subst hij; rw [hs] at hx
         obtain rfl:s=x:=by simpa using hx
         exact absurd hdx hd
        ·have:Nat.beq i j=false:=by
          cases hb:Nat.beq i j
          ·rfl
          ·exact absurd (Nat.eq_of_beq_eq_true hb) hij
         simp [this]
     ·intro id hid
      rcases hl' id hid with h|⟨q,h1,h2⟩
      ·rcases hlive id h with h|⟨i,x,k1,k2,q,k3,k4⟩
       ·exact .inl h
       ·exact .inr ⟨i,x,by rw [hset,k1]; rfl,k2,q,k3,k4⟩
      ·exact .inr ⟨j,s,by rw [hset]; simp,hs,q,h1,h2⟩
    have:=hnow (wpAny P .any ops Q fuel (listed.setIfInBounds j true)) Q hgo
    split
    ·rename_i hw; rw [if_pos hw] at this; exact .inl this
    ·rename_i hw; rw [if_neg hw] at this; exact this
end
def liftQ (C:Ctx) (Q:Exit→St→Prop):Exit→Act→World→Prop:=fun e a w=>∃ E st,Q e st∧Rel C E st a w
theorem Rel.drew {C:Ctx} {E:Env} {st:St} {a:Act} {w:World} (R:Rel C E st a w):Rel C E st a { w with drawn:=w.drawn+1 }:=by
 refine ⟨R.defers,R.size,fun n => ?_,⟨fun id o h1 h2 => ?_,R.heap.apart,R.heap.im,R.heap.lt⟩,R.nx,R.own,R.ext,R.imx,R.imn,⟨R.frm.os,R.frm.tape,R.frm.output,R.frm.size,R.frm.block⟩⟩
 ·exact Rd.mono (w:=w) (w':={ w with drawn:=w.drawn+1 }) (fun id h=>⟨h,rfl,rfl⟩) (fun b h=>h) (fun b h=>rfl) _ _ (R.tm n)
 ·obtain ⟨k1,k2⟩:=R.heap.ob id o h1 h2
  refine ⟨k1,?_⟩
  cases hr:o.row
  ·rw [hr] at k2
   rcases k2 with ⟨hz,g,vs,cs,j1,j2,j3,j4,j5,j6⟩|⟨hz,g,es,clock,j1,j2,j3,j4⟩
   ·exact .inl ⟨hz,g,vs,cs,j1,j2,j3,j4,RdL.mono (w:=w) (w':={ w with drawn:=w.drawn+1 }) (fun id h=>⟨h,rfl,rfl⟩) (fun b h=>h) (fun b h=>rfl) _ _ j5,j6⟩
   ·exact .inr ⟨hz,g,es,clock,j1,j2,RdM.imp (fun cs vs=>RdIL.mono (w:=w) (w':={ w with drawn:=w.drawn+1 }) (fun b h=>h) (fun b h=>rfl) cs vs) _ _ j3,j4⟩
  ·rw [hr] at k2
   obtain ⟨vs,a,cap,j1,j2,j3,j4,j5⟩:=k2
   exact ⟨vs,a,cap,j1,j2,RdIE.mono (w:=w) (w':={ w with drawn:=w.drawn+1 }) (fun b h=>h) (fun b h=>rfl) _ _ _ j3,j4,j5⟩
theorem region_draw {P:Program} {N:Nat} {ops:Array Oper} {l:List AInst} {st:St} {ss:List SD} {st':St} {id:Nat} (hm:P.follows .mixedOrders=true)
 (hlow:optAll (lowerOp P N ops) ops.toList=some l) (hdraw:drawOK ops=true) (hedge:edgesOK ops=true) (hS:Steps P l st ss st') (hind:indepOK ss (freeOf ops l)=true)
 (C:Ctx) (hN:C.N=N) (Q:Exit→Act→World→Prop) (hQ:∀ E a w,Rel C E st' a w→Q .normal a w) (E:Env) (a:Act) (w:World) (hR:Rel C E st a w):(Code.region id ops true).wp P Q a w:=by
 refine wp_region_any hm ?_
 have hn:∀ i,lis (Array.replicate ops.size false) i=false:=fun i=>by
  simp only [lis,Array.getD_eq_getD_getElem?,Array.getElem?_replicate]
  split<;>rfl
 have hp:∀ (ss:List SD) (k:Nat) (st:St),partSt (lis (Array.replicate ops.size false)) st ss k=st:=by
  intro ss; induction ss with
  | nil=>intro k st; rfl
  | cons s ss ih=>intro k st; simp only [partSt,hn,cond_false]; exact ih _ _
 refine any_sound hlow hdraw hedge hS hind C hN Q hQ ops.size _ a _ E (by simp) (fun j o e h=>by rw [hn] at h; cases h) ?_ ?_ (fun id h=>.inl (hR.nx id h))
 ·exact Nat.le_trans List.countP_le_length (by simp)
 ·rw [hp]
  refine hR.drew.congr (fun n=>rfl) (fun id=>rfl) ?_
  obtain ⟨_,h2,_⟩:=hS.parts
  rw [h2]; exact fold_nx_le ss st
theorem seq_sound {P:Program} {N:Nat} {ops:Array Oper} (C:Ctx) (hN:C.N=N) (Q:Exit→Act→World→Prop) :
 ∀ {l:List AInst} {st:St} {ss:List SD} {st':St},Steps P l st ss st'→(∀ E a w,Rel C E st' a w→Q .normal a w)→∀ (os:List Oper),optAll (lowerOp P N ops) os=some l→∀ (E:Env) (a:Act) (w:World),Rel C E st a w→wpList P ops Q os a w:=by
 intro l st ss st' hS
 induction hS with
 | nil st =>
   intro hQ os hos E a w hR
   cases os with
   | nil=>exact hQ E a w hR
   | cons o os=>simp only [optAll] at hos; cases h1:lowerOp P N ops o<;>cases h2:optAll (lowerOp P N ops) os<;>simp [h1,h2] at hos
 | @cons s l st ss st' h hs ih =>
   intro hQ os hos E a w hR
   cases os with
   | nil=>simp [optAll] at hos
   | cons o os =>
     simp only [optAll] at hos
     cases h1:lowerOp P N ops o with
     | none=>simp [h1] at hos
     | some i =>
       cases h2:optAll (lowerOp P N ops) os with
       | none=>simp [h1,h2] at hos
       | some is =>
         simp only [h1,h2,Option.some.injEq,List.cons.injEq] at hos
         obtain ⟨rfl,rfl⟩:=hos
         have hnx:st.nx≤(st.app s).nx:=app_nx_le st s
         have:=h N ops o h1 C E a w { st with nx:=(st.app s).nx } hN (hR.congr (fun _=>rfl) (fun _=>rfl) hnx) (fun _ _=>rfl) (fun _ _=>rfl)
          (fun q hq=>⟨fun hl=>by have:=hR.nx _ hl; omega,by simp only [St.app]; omega⟩)
          (wpList P ops Q os) Q (fun v' w' E' hR' _=>ih hQ os h2 E' _ w' hR')
         refine wpList_step fun K hK => ?_
         split
         ·rename_i hw; rw [if_pos hw] at this; exact Oper.wp_mono hK this
         ·rename_i hw; rw [if_neg hw] at this; exact hK _ _ this
def AW (P:Program) (C:Ctx) (c:ACode) (Q:Exit→St→Prop) (st:St):Prop :=
 ∀ code,lowerC P C.N code=some c→∀ E a w,Rel C E st a w→code.wp P (liftQ C Q) a w
theorem aw_ops {P:Program} {C:Ctx} {Q:Exit→St→Prop} {st st':St} {d:Bool} {l:List AInst} {free:List (Nat × Nat)} {ss:List SD} (hS:Steps P l st ss st') (hi:(bif d then indepOK ss free else true)=true) (hQ:Q .normal st') :
 AW P C (.ops d l free) Q st:=by
 intro code hc E a w hR
 cases code with
 | region id ops draw =>
   simp only [lowerC] at hc
   cases hl:optAll (lowerOp P C.N ops) ops.toList with
   | none=>simp [hl] at hc
   | some l' =>
     cases draw with
     | false =>
       simp only [hl,Option.some.injEq,ACode.ops.injEq] at hc
       obtain ⟨rfl,rfl,rfl⟩:=hc
       exact wp_region_list (seq_sound C rfl _ hS (fun E a w hR=>⟨E,st',hQ,hR⟩) ops.toList hl E a w hR)
     | true =>
       simp only [hl] at hc
       split at hc
       ·rename_i hb
        simp only [Bool.and_eq_true] at hb
        simp only [Option.some.injEq,ACode.ops.injEq] at hc
        obtain ⟨rfl,rfl,rfl⟩:=hc
        exact region_draw hb.1.1 hl hb.1.2 hb.2 hS (by simpa using hi) C rfl _ (fun E a w hR=>⟨E,st',hQ,hR⟩) E a w hR
       ·cases hc
 | seq a b=>simp only [lowerC] at hc; split at hc<;>cases hc
 | cond c a b=>simp only [lowerC] at hc; split at hc<;>cases hc
 | block id a=>simp only [lowerC] at hc; split at hc<;>cases hc
 | loop a=>simp only [lowerC] at hc; split at hc<;>cases hc
 | _=>simp [lowerC] at hc
def Tt(k:Nat):Operand:=.tmp k
def Nn(z:Int):Operand:=.const (.int .i64 z)
def Bo(z:Bool):Operand:=.const (.bool z)
def Ii(d:Nat)(o:AOp):AInst:=⟨some d,none,o⟩
def Ig(d k:Nat)(b:Bool)(o:AOp):AInst:=⟨some d,some (k,b),o⟩
def Jj(o:AOp):AInst:=⟨none,none,o⟩
def Mv(d k:Nat):AInst:=⟨some d,none,.mov (.tmp k)⟩
def Lf(d k:Nat):AInst:=⟨some d,none,.load false 1 (.tmp k)⟩
def Lt(d n k:Nat):AInst:=⟨some d,none,.load true n (.tmp k)⟩
def Fa(d n k:Nat):AInst:=⟨some d,none,.faddr n (.tmp k)⟩
def Ex(d n k:Nat):AInst:=⟨some d,none,.extract n (.tmp k)⟩
def Le(d k:Nat):AInst:=⟨some d,none,.len (.tmp k)⟩
def Ia(d n j k:Nat):AInst:=⟨some d,none,.iaddr n (.tmp j) (.tmp k)⟩
def Sr(n k j:Nat):AInst:=⟨none,none,.store n (.tmp k) (.tmp j)⟩
def Ca(d f:Nat)(l:List Operand):AInst:=⟨some d,none,.call (.func f) l⟩
def Oo(l:List AInst):ACode:=.ops false l []
def Ss(a b:ACode):ACode:=.seq a b
def Za:List Value:=[.int .u64 0,.slice none 0 0,.slice none 0 0]
def Zc:List Value:=[.int .u64 0,.int .i64 0,.bool false,.slice none 0 0,.slice none 0 0,.int .i64 0,.slice none 0 0]
theorem lower_region {P:Program} {N id:Nat} {ops:Array Oper} {draw:Bool} {c:ACode} (h:lowerC P N (.region id ops draw)=some c):∃ d l f,c=.ops d l f:=by
 simp only [lowerC] at h
 split at h
 ·split at h
  ·simp only [Option.some.injEq] at h; exact ⟨_,_,_,h.symm⟩
  ·split at h
   ·simp only [Option.some.injEq] at h; exact ⟨_,_,_,h.symm⟩
   ·cases h
 ·cases h
section
variable {P:Program} {C:Ctx} {Q:Exit→St→Prop} {st:St}
theorem AW.mono {c:ACode} {Q':Exit→St→Prop} (h:AW P C c Q st) (hq:∀ e s,Q e s→Q' e s):AW P C c Q' st :=
 fun code hc E a w hR=>wp_mono (h code hc E a w hR) fun e a' w' ⟨E',s,h1,h2⟩=>⟨E',s,hq e s h1,h2⟩
theorem aw_skip (h:Q .normal st):AW P C .skip Q st:=by
 intro code hc E a w hR
 cases code with
 | skip=>exact wp_skip ⟨E,st,h,hR⟩
 | region id ops draw=>obtain ⟨_,_,_,e⟩:=lower_region hc; cases e
 | seq a b=>simp only [lowerC] at hc; split at hc<;>cases hc
 | cond c a b=>simp only [lowerC] at hc; split at hc<;>cases hc
 | block id a=>simp only [lowerC] at hc; split at hc<;>cases hc
 | loop a=>simp only [lowerC] at hc; split at hc<;>cases hc
 | _=>simp [lowerC] at hc
theorem aw_ret (h:Q .ret st):AW P C .ret Q st:=by
 intro code hc E a w hR
 cases code with
 | ret=>exact wp_ret ⟨E,st,h,hR⟩
 | region id ops draw=>obtain ⟨_,_,_,e⟩:=lower_region hc; cases e
 | seq a b=>simp only [lowerC] at hc; split at hc<;>cases hc
 | cond c a b=>simp only [lowerC] at hc; split at hc<;>cases hc
 | block id a=>simp only [lowerC] at hc; split at hc<;>cases hc
 | loop a=>simp only [lowerC] at hc; split at hc<;>cases hc
 | _=>simp [lowerC] at hc
theorem aw_exit {id:Nat} (h:Q (.exit id) st):AW P C (.exit id) Q st:=by
 intro code hc E a w hR
 cases code with
 | exit i=>simp only [lowerC,Option.some.injEq,ACode.exit.injEq] at hc; subst hc; exact wp_exit ⟨E,st,h,hR⟩
 | region id ops draw=>obtain ⟨_,_,_,e⟩:=lower_region hc; cases e
 | seq a b=>simp only [lowerC] at hc; split at hc<;>cases hc
 | cond c a b=>simp only [lowerC] at hc; split at hc<;>cases hc
 | block id a=>simp only [lowerC] at hc; split at hc<;>cases hc
 | loop a=>simp only [lowerC] at hc; split at hc<;>cases hc
 | _=>simp [lowerC] at hc
def thenQ (R:St→Prop) (Q:Exit→St→Prop):Exit→St→Prop
 | .normal,s=>R s
 | e,s=>Q e s
theorem aw_seq {a b:ACode} (h:AW P C a (thenQ (fun s=>AW P C b Q s) Q) st):AW P C (.seq a b) Q st:=by
 intro code hc E a' w hR
 cases code with
 | seq x y =>
   simp only [lowerC] at hc
   split at hc
   ·rename_i x' y' hx hy
    simp only [Option.some.injEq,ACode.seq.injEq] at hc
    obtain ⟨rfl,rfl⟩:=hc
    refine wp_seq (wp_mono (h x hx E a' w hR) ?_)
    rintro e a'' w' ⟨E',s,h1,h2⟩
    cases e with
    | normal=>exact h1 y hy E' a'' w' h2
    | _=>exact ⟨E',s,h1,h2⟩
   ·cases hc
 | region id ops draw=>obtain ⟨_,_,_,e⟩:=lower_region hc; cases e
 | cond c a b=>simp only [lowerC] at hc; split at hc<;>cases hc
 | block id a=>simp only [lowerC] at hc; split at hc<;>cases hc
 | loop a=>simp only [lowerC] at hc; split at hc<;>cases hc
 | _=>simp [lowerC] at hc
def constAV:Value→AV
 | .agg cs=>bif cs.toList.all (fun u=>u.oneCell') then .agg (cs.toList.map .lit) else .any
 | v=>.lit v
def ev (st:St):Operand→AV
 | .tmp t=>st.get t
 | .const v=>constAV v
 | .global _=>.any
 | .func f=>.fn f [] []
theorem rdL_lits {E:Env} {w:World}:∀ (l:List Value),RdL E w (l.map .lit) l
 | []=>rfl
 | v::l=>⟨v,l,rfl,rfl,rdL_lits l⟩
theorem Rel.ev {C:Ctx} {E:Env} {st:St} {a:Act} {w:World} (R:Rel C E st a w) (x:Operand):Rd E w (ev st x) (a.eval x):=by
 cases x with
 | tmp t=>exact R.tm t
 | const v =>
   simp only [Go.Proofs.YtnnipocjapblkaaGreat.ev,Act.eval]
   cases v<;>simp only [constAV,Rd]
   case agg cs =>
    cases hc:cs.toList.all (fun u=>u.oneCell') with
    | false=>trivial
    | true=>exact ⟨cs.toList,by simp,fun u hu=>List.all_eq_true.1 hc u hu,rdL_lits _⟩
 | global g=>trivial
 | func f=>exact ⟨[],[],rfl,rfl,rfl⟩
theorem aw_cond {c:Operand} {x y:ACode} {b:Bool} (hb:ev st c=.lit (.bool b)) (h1:b=true→AW P C x Q st) (h2:b=false→AW P C y Q st):AW P C (.cond c x y) Q st:=by
 intro code hc E a w hR
 cases code with
 | cond c' x' y' =>
   simp only [lowerC] at hc
   split at hc
   ·rename_i x'' y'' hx hy
    simp only [Option.some.injEq,ACode.cond.injEq] at hc
    obtain ⟨rfl,rfl,rfl⟩:=hc
    have:=hR.ev c'
    rw [hb] at this
    have:a.eval c'=.bool b:=this
    refine wp_cond_split this (fun e=>h1 e x' hx E a w hR) (fun e=>h2 e y' hy E a w hR)
   all_goals cases hc
 | region id ops draw=>obtain ⟨_,_,_,e⟩:=lower_region hc; cases e
 | seq a b=>simp only [lowerC] at hc; split at hc<;>cases hc
 | block id a=>simp only [lowerC] at hc; split at hc<;>cases hc
 | loop a=>simp only [lowerC] at hc; split at hc<;>cases hc
 | _=>simp [lowerC] at hc
theorem aw_condF {c:Operand} {y:ACode} (hb:ev st c=.lit (.bool false)) (h2:AW P C y Q st):AW P C (.condF c y) Q st:=by
 intro code hc E a w hR
 cases code with
 | cond c' x' y' =>
   simp only [lowerC] at hc
   split at hc
   ·cases hc
   ·cases hc
   ·rename_i y'' hx hy
    simp only [Option.some.injEq,ACode.condF.injEq] at hc
    obtain ⟨rfl,rfl⟩:=hc
    have:=hR.ev c'
    rw [hb] at this
    have:a.eval c'=.bool false:=this
    refine wp_cond_split this (fun e=>by cases e) (fun e=>h2 y' hy E a w hR)
   ·cases hc
 | region id ops draw=>obtain ⟨_,_,_,e⟩:=lower_region hc; cases e
 | seq a b=>simp only [lowerC] at hc; split at hc<;>cases hc
 | block id a=>simp only [lowerC] at hc; split at hc<;>cases hc
 | loop a=>simp only [lowerC] at hc; split at hc<;>cases hc
 | _=>simp [lowerC] at hc
theorem aw_condT {c:Operand} {x:ACode} (hb:ev st c=.lit (.bool true)) (h1:AW P C x Q st):AW P C (.condT c x) Q st:=by
 intro code hc E a w hR
 cases code with
 | cond c' x' y' =>
   simp only [lowerC] at hc
   split at hc
   ·cases hc
   ·rename_i x'' hx hy
    simp only [Option.some.injEq,ACode.condT.injEq] at hc
    obtain ⟨rfl,rfl⟩:=hc
    have:=hR.ev c'
    rw [hb] at this
    have:a.eval c'=.bool true:=this
    refine wp_cond_split this (fun e=>h1 x' hx E a w hR) (fun e=>by cases e)
   ·cases hc
   ·cases hc
 | region id ops draw=>obtain ⟨_,_,_,e⟩:=lower_region hc; cases e
 | seq a b=>simp only [lowerC] at hc; split at hc<;>cases hc
 | block id a=>simp only [lowerC] at hc; split at hc<;>cases hc
 | loop a=>simp only [lowerC] at hc; split at hc<;>cases hc
 | _=>simp [lowerC] at hc
theorem aw_cond_t {c:Operand} {x y:ACode} (hb:ev st c=.lit (.bool true)) (h1:AW P C x Q st):AW P C (.cond c x y) Q st:=aw_cond hb (fun _=>h1) (fun h=>by cases h)
theorem aw_cond_f {c:Operand} {x y:ACode} (hb:ev st c=.lit (.bool false)) (h1:AW P C y Q st):AW P C (.cond c x y) Q st:=aw_cond hb (fun h=>by cases h) (fun _=>h1)
def blockQ (id:Nat) (Q:Exit→St→Prop):Exit→St→Prop
 | .exit i,s=>bif Nat.beq i id then Q .normal s else Q (.exit i) s
 | e,s=>Q e s
theorem aw_block {id:Nat} {c:ACode} (h:AW P C c (blockQ id Q) st):AW P C (.block id c) Q st:=by
 intro code hc E a' w hR
 cases code with
 | block i x =>
   simp only [lowerC] at hc
   split at hc
   ·rename_i x' hx
    simp only [Option.some.injEq,ACode.block.injEq] at hc
    obtain ⟨rfl,rfl⟩:=hc
    refine wp_block (wp_mono (h x hx E a' w hR) ?_)
    rintro e a'' w' ⟨E',s,h1,h2⟩
    cases e with
    | exit k =>
      simp only [blockQ] at h1
      simp only [Exit.inBlock]
      by_cases hk:k=i
      ·subst hk
       rw [Nat.beq_refl,cond_true] at h1
       rw [if_pos rfl]; exact ⟨E',s,h1,h2⟩
      ·rw [beq_ne hk,cond_false] at h1
       rw [if_neg hk]; exact ⟨E',s,h1,h2⟩
    | _=>exact ⟨E',s,h1,h2⟩
   ·cases hc
 | region id ops draw=>obtain ⟨_,_,_,e⟩:=lower_region hc; cases e
 | seq a b=>simp only [lowerC] at hc; split at hc<;>cases hc
 | cond c a b=>simp only [lowerC] at hc; split at hc<;>cases hc
 | loop a=>simp only [lowerC] at hc; split at hc<;>cases hc
 | _=>simp [lowerC] at hc
def Weak (C:Ctx) (s s':St):Prop:=∀ E a w,Rel C E s a w→∃ E',Rel C E' s' a w
theorem aw_weak {c:ACode} {s':St} (hw:Weak C st s') (h:AW P C c Q s'):AW P C c Q st :=
 fun code hc E a w hR=>let ⟨E',hR'⟩:=hw E a w hR; h code hc E' a w hR'
theorem aw_learn {c:ACode} (F:Prop) (hF:∀ E a w,Rel C E st a w→F) (h:F→AW P C c Q st):AW P C c Q st :=
 fun code hc E a w hR=>h (hF E a w hR) code hc E a w hR
theorem aw_loop {X:Type} {c:ACode} (S:X→St) (I:X→Prop) (μ:X→Nat) (x0:X) (h0:Weak C st (S x0)) (hI:I x0)
 (round:∀ x,I x→AW P C c (thenQ (fun s'=>∃ x',μ x'<μ x∧I x'∧Weak C s' (S x')) Q) (S x)):AW P C (.loop c) Q st:=by
 intro code hc E a w hR
 cases code with
 | loop b =>
   simp only [lowerC] at hc
   split at hc
   ·rename_i b' hb
    simp only [Option.some.injEq,ACode.loop.injEq] at hc
    subst hc
    refine wp_loop_ghost (fun n a w=>∃ x,μ x=n∧I x∧∃ E,Rel C E (S x) a w) (μ x0) ⟨x0,rfl,hI,h0 E a w hR⟩ ?_
    rintro n a w ⟨x,rfl,hx,E,hR⟩
    refine wp_mono (round x hx b hb E a w hR) ?_
    rintro e a' w' ⟨E',s,h1,h2⟩
    cases e with
    | normal =>
      obtain ⟨x',hlt,hx',hw⟩:=h1
      exact ⟨μ x',hlt,x',rfl,hx',hw E' a' w' h2⟩
    | _=>exact ⟨E',s,h1,h2⟩
   ·cases hc
 | region id ops draw=>obtain ⟨_,_,_,e⟩:=lower_region hc; cases e
 | seq a b=>simp only [lowerC] at hc; split at hc<;>cases hc
 | cond c a b=>simp only [lowerC] at hc; split at hc<;>cases hc
 | block id a=>simp only [lowerC] at hc; split at hc<;>cases hc
 | _=>simp [lowerC] at hc
end
mutual
def renAV (σ:List (Nat × Nat)):AV→AV
 | .own id=>match look σ id with|some k=>.own k|none=>.any
 | .optr id i off=>match look σ id with|some k=>.optr k i off|none=>.any
 | .agg cs=>.agg (renL σ cs)
 | .tup cs=>.tup (renL σ cs)
 | .fn f fi ca=>.fn f (renL σ fi) (renL σ ca)
 | .any=>.any
 | .lit v=>.lit v
 | .sl sz es=>.sl sz es
 | .ep sz es i off=>.ep sz es i off
 | .osl id off n=>match look σ id with|some k=>.osl k off n|none=>.any
 | .sem s=>.sem s
def renL (σ:List (Nat × Nat)):List AV→List AV
 | []=>[]
 | a::l=>renAV σ a::renL σ l
end
def renOB (σ:List (Nat × Nat)) (o:OB):OB:=bif o.row then o else bif o.sz == 0 then o else { o with es:=o.es.map (renL σ) }
def canonWith (σ:List (Nat × Nat)) (L:List Nat) (n:Nat) (st:St):St :=
 ⟨L.map fun k=>(k,renAV σ (st.get k)),σ.map fun p=>(p.2,(hl st.h p.1).map (renOB σ)),n⟩
def okR (n:Nat):List (Nat × Nat)→Bool
 | []=>true
 | p::r=>Nat.blt p.2 n && (r.all fun q => !Nat.beq q.1 p.1 && !Nat.beq q.2 p.2) && okR n r
theorem okR_lt {n:Nat}:∀ {σ:List (Nat × Nat)},okR n σ=true→∀ p ∈ σ,p.2<n
 | [],_,p,h=>by cases h
 | q::r,h,p,hp=>by
   simp only [okR,Bool.and_eq_true] at h
   rcases List.mem_cons.1 hp with rfl|hp
   ·simpa [Nat.blt_eq] using h.1.1
   ·exact okR_lt h.2 p hp
theorem okR_left {n:Nat}:∀ {σ:List (Nat × Nat)},okR n σ=true→∀ p ∈ σ,look σ p.1=some p.2
 | [],_,p,h=>by cases h
 | q::r,h,p,hp=>by
   simp only [okR,Bool.and_eq_true,List.all_eq_true] at h
   obtain ⟨q1,q2⟩:=q
   rcases List.mem_cons.1 hp with rfl|hp
   ·simp [look]
   ·have:=h.1.2 p hp
    simp only [Bool.not_eq_true'] at this
    have hb:Nat.beq q1 p.1=false:=by
     have:=this.1
     cases hb:Nat.beq q1 p.1
     ·rfl
     ·rw [Nat.eq_of_beq_eq_true hb] at this; simp at this
    simp only [look,hb,cond_false]
    exact okR_left h.2 p hp
theorem okR_inj {n:Nat}:∀ {σ:List (Nat × Nat)},okR n σ=true→∀ p q,p ∈ σ→q ∈ σ→p.2=q.2→p=q
 | [],_,p,q,h,_,_=>by cases h
 | r0::r,h,p,q,hp,hq,e=>by
   simp only [okR,Bool.and_eq_true,List.all_eq_true] at h
   rcases List.mem_cons.1 hp with h1|h1<;>rcases List.mem_cons.1 hq with h2|h2
   ·rw [h1,h2]
   ·have:=h.1.2 q h2
    simp only [Bool.not_eq_true'] at this
    rw [← e,h1] at this; simp at this
   ·have:=h.1.2 p h1
    simp only [Bool.not_eq_true'] at this
    rw [e,h2] at this; simp at this
   ·exact okR_inj h.2 p q h1 h2 e
theorem look_mem {α:Type}:∀ {u:List (Nat × α)} {id:Nat} {x:α},look u id=some x→(id,x) ∈ u
 | [],_,_,h=>by cases h
 | (k,v)::u,id,x,h=>by
   simp only [look] at h
   cases hb:Nat.beq k id with
   | true =>
     rw [hb,cond_true] at h
     rw [Nat.eq_of_beq_eq_true hb]
     simp only [Option.some.injEq] at h
     rw [h]; exact List.mem_cons_self
   | false =>
     rw [hb,cond_false] at h
     exact List.mem_cons_of_mem _ (look_mem h)
def back (σ:List (Nat × Nat)) (k:Nat):Nat:=match look (σ.map fun p=>(p.2,p.1)) k with|some o=>o|none=>0
theorem back_of {n:Nat} {σ:List (Nat × Nat)} (h:okR n σ=true) {p:Nat × Nat} (hp:p ∈ σ):back σ p.2=p.1:=by
 have hm:p.2 ∈ (σ.map fun p=>(p.2,p.1)).map (·.1):=by
  rw [List.map_map]; exact List.mem_map.2 ⟨p,hp,rfl⟩
 obtain ⟨x,hx⟩:=look_some hm
 have:=look_mem hx
 obtain ⟨q,hq,e⟩:=List.mem_map.1 this
 simp only [Prod.mk.injEq] at e
 have hqp:=okR_inj h q p hq hp e.1
 subst hqp
 simp only [back,hx]; exact e.2.symm
def renE (σ:List (Nat × Nat)) (E:Env):Env:=⟨E.im,fun k=>∃ p ∈ σ,p.2=k∧E.live p.1,fun k=>E.val (back σ k),fun k=>E.sz (back σ k)⟩
mutual
theorem Rd.ren {n:Nat} {σ:List (Nat × Nat)} (h:okR n σ=true) {E:Env} {w:World}:∀ (av:AV) (v:Value),Rd E w av v→Rd (renE σ E) w (renAV σ av) v
 | .any,_,_=>trivial
 | .lit _,_,h=>h
 | .sl sz es,v,h=>h
 | .ep sz es i off,v,h=>h
 | .agg cs,v,hr=>by
   simp only [renAV,Rd] at hr ⊢
   obtain ⟨vs,h1,h0,h2⟩:=hr
   exact ⟨vs,h1,h0,RdL.ren h cs vs h2⟩
 | .tup cs,v,hr=>by
   simp only [renAV,Rd] at hr ⊢
   obtain ⟨vs,h1,h2⟩:=hr
   exact ⟨vs,h1,RdL.ren h cs vs h2⟩
 | .fn f fi ca,v,hr=>by
   simp only [renAV,Rd] at hr ⊢
   obtain ⟨vs,us,h1,h2,h3⟩:=hr
   exact ⟨vs,us,h1,RdL.ren h fi vs h2,RdL.ren h ca us h3⟩
 | .own id,v,hr=>by
   simp only [renAV]
   cases hk:look σ id with
   | none=>trivial
   | some k =>
     have hm:=look_mem hk
     have hb:=back_of h hm
     simp only [Rd] at hr ⊢
     exact ⟨⟨(id,k),hm,rfl,hr.1⟩,hr.2.1,by rw [hr.2.2]; simp only [renE]; rw [hb]⟩
 | .optr id i off,v,hr=>by
   simp only [renAV]
   cases hk:look σ id with
   | none=>trivial
   | some k =>
     have hm:=look_mem hk
     have hb:=back_of h hm
     simp only [Rd] at hr ⊢
     obtain ⟨h1,b,h2,h3⟩:=hr
     exact ⟨⟨(id,k),hm,rfl,h1⟩,b,by simp only [renE]; rw [hb]; exact h2,by simp only [renE]; rw [hb]; exact h3⟩
 | .osl id off n,v,hr=>by
   simp only [renAV]
   cases hk:look σ id with
   | none=>trivial
   | some k =>
     have hm:=look_mem hk
     have hb:=back_of h hm
     simp only [Rd] at hr ⊢
     obtain ⟨h1,b,len,cap,h2,h3,h4⟩:=hr
     exact ⟨⟨(id,k),hm,rfl,h1⟩,b,len,cap,by simp only [renE]; rw [hb]; exact h2,h3,by simp only [renE]; rw [hb]; exact h4⟩
 | .sem s,v,hr=>hr
theorem RdL.ren {n:Nat} {σ:List (Nat × Nat)} (h:okR n σ=true) {E:Env} {w:World}:∀ (l:List AV) (vs:List Value),RdL E w l vs→RdL (renE σ E) w (renL σ l) vs
 | [],_,hr=>hr
 | a::l,vs,hr=>by
   simp only [renL,RdL] at hr ⊢
   obtain ⟨v,rest,h1,h2,h3⟩:=hr
   exact ⟨v,rest,h1,Rd.ren h a v h2,RdL.ren h l rest h3⟩
end
theorem getT_map (f:Nat→AV):∀ (L:List Nat) (n:Nat),getT (L.map fun k=>(k,f k)) n=(if n ∈ L then f n else .any)
 | [],n=>by simp [getT,look]
 | k::L,n=>by
   have ih:=getT_map f L n
   simp only [getT] at ih
   simp only [getT,List.map_cons,look]
   by_cases hk:k=n
   ·subst hk; simp
   ·rw [beq_ne hk,cond_false,ih]
    have:n ∈ k::L↔n ∈ L:=by simp [Ne.symm hk]
    simp only [this]
theorem hl_canon {σ:List (Nat × Nat)} {n:Nat} (h:okR n σ=true) {st:St} {k:Nat} {o:OB} (ho:hl (σ.map fun p=>(p.2,(hl st.h p.1).map (renOB σ))) k=some o) :
 ∃ p o0,p ∈ σ∧p.2=k∧hl st.h p.1=some o0∧o=renOB σ o0:=by
 simp only [hl] at ho
 split at ho
 ·rename_i o' hl'
  simp only [Option.some.injEq] at ho
  subst ho
  obtain ⟨p,hp,e⟩:=List.mem_map.1 (look_mem hl')
  simp only [Prod.mk.injEq] at e
  obtain ⟨e1,e2⟩:=e
  simp only [Option.map_eq_some_iff] at e2
  obtain ⟨o0,h1,h2⟩:=e2
  exact ⟨p,o0,hp,e1,h1,h2.symm⟩
 ·cases ho
theorem canon_rel {C:Ctx} {s:St} (σ:List (Nat × Nat)) (L:List Nat) (n:Nat) (h:okR n σ=true) (hm:∀ i,i<C.m→(i,i) ∈ σ) {s':St} (e:canonWith σ L n s=s') {E:Env} {a:Act} {w:World} (R:Rel C E s a w):Rel C (renE σ E) s' a w:=by
 subst e
 refine ⟨R.defers,R.size,fun k => ?_,⟨?_,?_,?_,R.heap.lt⟩,?_,?_,?_,R.imx,R.imn,R.frm⟩
 ·have:=getT_map (fun k=>renAV σ (s.get k)) L k
  show Rd _ w (getT (L.map fun k=>(k,renAV σ (s.get k))) k) _
  rw [this]
  split
  ·exact Rd.ren h _ _ (R.tm k)
  ·trivial
 ·rintro id o ⟨p,hp,rfl,hlive⟩ ho
  obtain ⟨q,o0,hq,e1,h1,rfl⟩:=hl_canon h ho
  obtain rfl:=okR_inj h q p hq hp e1
  obtain ⟨k1,k2⟩:=R.heap.ob _ _ hlive h1
  have hb:=back_of h hp
  cases hr:o0.row
  ·rw [hr] at k2
   rcases k2 with ⟨hz,g,vs,cs,j1,j2,j3,j4,j5,j6⟩|⟨hz,g,es,clock,j1,j2,j3,j4⟩
   ·have ee:renOB σ o0={ o0 with es:=o0.es.map (renL σ) }:=by
     have:(o0.sz == 0)=false:=by simp; omega
     simp [renOB,hr,this]
    rw [ee]
    refine ⟨by simp only [renE]; rw [hb]; exact k1,?_⟩
    rw [hr]
    exact .inl ⟨hz,g,vs,renL σ cs,by simp only [renE]; rw [hb]; exact j1,j2,by simp [j3],j4,RdL.ren h _ _ j5,j6⟩
   ·have ee:renOB σ o0=o0:=by simp [renOB,hr,hz]
    rw [ee]
    refine ⟨by simp only [renE]; rw [hb]; exact k1,?_⟩
    rw [hr]
    exact .inr ⟨hz,g,es,clock,by simp only [renE]; rw [hb]; exact j1,j2,RdM.imp (E:=E) (E':=renE σ E) (w:=w) (w':=w) (fun cs vs h=>h) _ _ j3,j4⟩
  ·have ee:renOB σ o0=o0:=by simp [renOB,hr]
   rw [ee]
   refine ⟨by simp only [renE]; rw [hb]; exact k1,?_⟩
   rw [hr] at k2 ⊢
   obtain ⟨vs,a',cap,j1,j2,j3,j4,j5⟩:=k2
   exact ⟨vs,a',cap,by simp only [renE]; rw [hb]; exact j1,by simp only [renE]; rw [hb]; exact j2,j3,j4,j5⟩
 ·rintro id id' o o' b ⟨p,hp,rfl,hl1⟩ ⟨p',hp',rfl,hl2⟩ ho ho' hb hb'
  obtain ⟨q,o0,hq,e1,h1,rfl⟩:=hl_canon h ho
  obtain ⟨q',o0',hq',e1',h1',rfl⟩:=hl_canon h ho'
  obtain rfl:=okR_inj h q p hq hp e1
  obtain rfl:=okR_inj h q' p' hq' hp' e1'
  simp only [renE,back_of h hp,back_of h hp'] at hb hb'
  have:=R.heap.apart _ _ _ _ b hl1 hl2 h1 h1' hb hb'
  have k1:=okR_left h _ hp
  have k2:=okR_left h _ hp'
  rw [this] at k1
  rw [k1] at k2
  exact Option.some.inj k2
 ·rintro id o b ⟨p,hp,rfl,hl1⟩ ho hb
  obtain ⟨q,o0,hq,e1,h1,rfl⟩:=hl_canon h ho
  obtain rfl:=okR_inj h q p hq hp e1
  simp only [renE,back_of h hp] at hb
  have:=R.heap.im _ _ b hl1 h1 hb
  have er:(renOB σ o0).ro=o0.ro:=by unfold renOB; cases o0.row<;>cases (o0.sz == 0)<;>rfl
  rw [er]; exact this
 ·rintro id ⟨p,hp,rfl,hl1⟩
  exact okR_lt h p hp
 ·rintro id o b ⟨p,hp,rfl,hl1⟩ ho hb
  obtain ⟨q,o0,hq,e1,h1,rfl⟩:=hl_canon h ho
  obtain rfl:=okR_inj h q p hq hp e1
  simp only [renE,back_of h hp] at hb
  exact R.own _ _ b hl1 h1 hb
 ·intro id hid
  have hmem:=hm id hid
  obtain ⟨k1,k2,k3⟩:=R.ext id hid
  have hb:=back_of h hmem
  simp only at hb
  exact ⟨⟨(id,id),hmem,rfl,k1⟩,by simp only [renE]; rw [hb]; exact k2,by simp only [renE]; rw [hb]; exact k3⟩
theorem weak_canon {C:Ctx} {s:St} (σ:List (Nat × Nat)) (L:List Nat) (n:Nat) (h:okR n σ=true) (hm:∀ i,i<C.m→(i,i) ∈ σ) {s':St} (e:canonWith σ L n s=s'):Weak C s s':=fun E a w R=>⟨renE σ E,canon_rel σ L n h hm e R⟩
theorem addr_add (b off i:Nat):(⟨b,off,none⟩:Addr).add i=⟨b,off+i,none⟩:=by unfold Addr.add; split<;>simp_all
def ofCells (g:Bool) (cs:List AV):Option AV:=bif g then some (.agg cs) else match cs with|[x]=>some x|_=>none
theorem szOf_spec {P:Program} {t:TypeId} {g:Bool} {n:Nat} (h:szOf P t=some (g,n)) :
 ∃ d i,P.underlying t=some d∧P.info? t=some i∧i.size=n∧g=d.isRow∧(g=false→n=1):=by
 simp only [szOf] at h
 split at h
 ·rename_i d i hd hi
  split at h
  ·rename_i hc
   simp only [Option.some.injEq,Prod.mk.injEq] at h
   obtain ⟨h1,h2⟩:=h
   refine ⟨d,i,hd,hi,h2,?_,?_⟩
   ·rw [← h1]; cases d<;>rfl
   ·intro hg
    rw [h1,hg] at hc
    simp only [Bool.false_or] at hc
    rw [← h2]; exact Nat.eq_of_beq_eq_true hc
  ·cases h
 ·cases h
theorem run_loadVar_at {P:Program} {w:World} {t:TypeId} {g:Bool} {n b o:Nat} {vs:List Value} (hs:szOf P t=some (g,n)) (hl:vs.length=n) (hc:∀ i v,vs[i]? = some v→w.cell? ⟨b,o+i,none⟩=some v) :
 (loadVar t ⟨b,o,none⟩).run P w=.ok (bif g then .agg vs.toArray else vs.getD 0 undef) w:=by
 obtain ⟨d,i,h1,h2,h3,h4,h5⟩:=szOf_spec hs
 cases g with
 | true=>exact run_loadVar_mid w b o t vs d hc h1 h4.symm (by rw [h2]; simp [h3,hl])
 | false =>
   have hn:=h5 rfl
   obtain ⟨v,rfl⟩:∃ v,vs=[v]:=by
    match vs,(by omega:vs.length=1) with
    | [v],_=>exact ⟨v,rfl⟩
   have hagg:(isAgg t).run P w=.ok false w:=by
    unfold isAgg
    rw [Sem.run_bind,run_underlying h1 w]
    cases d<;>simp_all
   have hcell:=hc 0 v (by simp)
   rw [Nat.add_zero] at hcell
   simp [loadVar,Sem.run_bind,hagg,run_load,hcell]
theorem ofCells_rd {E:Env} {w:World} {g:Bool} {n:Nat} {cs:List AV} {vs:List Value} {av:AV} (h:ofCells g cs=some av) (h0:Ones vs) (hr:RdL E w cs vs):Rd E w av (bif g then .agg vs.toArray else vs.getD 0 undef):=by
 cases g with
 | true=>simp only [ofCells,cond_true,Option.some.injEq] at h; subst h; exact ⟨vs,rfl,h0,hr⟩
 | false =>
   simp only [ofCells,cond_false] at h
   split at h
   ·simp only [Option.some.injEq] at h
    subst h
    simp only [RdL] at hr
    obtain ⟨v,rest,rfl,h1,rfl⟩:=hr
    exact h1
   ·cases h
theorem RdL.length {E:Env} {w:World}:∀ {l:List AV} {vs:List Value},RdL E w l vs→vs.length=l.length
 | [],vs,h=>by simp only [RdL] at h; simp [h]
 | a::l,vs,h=>by
   simp only [RdL] at h
   obtain ⟨v,rest,rfl,_,h3⟩:=h
   simp [h3.length]
theorem RdL.get {E:Env} {w:World}:∀ {l:List AV} {vs:List Value} {i:Nat} {a:AV},RdL E w l vs→l[i]? = some a→∃ v,vs[i]? = some v∧Rd E w a v
 | [],vs,i,a,h,hi=>by simp at hi
 | b::l,vs,0,a,h,hi=>by
   simp only [RdL] at h
   obtain ⟨v,rest,rfl,h2,h3⟩:=h
   simp only [List.getElem?_cons_zero,Option.some.injEq] at hi
   subst hi; exact ⟨v,by simp,h2⟩
 | b::l,vs,i+1,a,h,hi=>by
   simp only [RdL] at h
   obtain ⟨v,rest,rfl,h2,h3⟩:=h
   obtain ⟨u,hu,hr⟩:=RdL.get h3 (by simpa using hi)
   exact ⟨u,by simpa using hu,hr⟩
theorem RdL.drop {E:Env} {w:World}:∀ (n:Nat) {l:List AV} {vs:List Value},RdL E w l vs→RdL E w (l.drop n) (vs.drop n)
 | 0,l,vs,h=>by simpa using h
 | n+1,[],vs,h=>by simp only [RdL] at h; subst h; simp [RdL]
 | n+1,a::l,vs,h=>by
   simp only [RdL] at h
   obtain ⟨v,rest,rfl,_,h3⟩:=h
   simpa using RdL.drop n h3
theorem RdL.take {E:Env} {w:World}:∀ (n:Nat) {l:List AV} {vs:List Value},RdL E w l vs→RdL E w (l.take n) (vs.take n)
 | 0,l,vs,h=>by simp [RdL]
 | n+1,[],vs,h=>by simp only [RdL] at h; subst h; simp [RdL]
 | n+1,a::l,vs,h=>by
   simp only [RdL] at h
   obtain ⟨v,rest,rfl,h2,h3⟩:=h
   simp only [List.take_succ_cons,RdL]
   exact ⟨v,rest.take n,rfl,h2,RdL.take n h3⟩
theorem RdL.append {E:Env} {w:World}:∀ {l:List AV} {vs:List Value} {l':List AV} {vs':List Value},RdL E w l vs→RdL E w l' vs'→RdL E w (l++l') (vs++vs')
 | [],vs,l',vs',h,h'=>by simp only [RdL] at h; subst h; simpa using h'
 | a::l,vs,l',vs',h,h'=>by
   simp only [RdL] at h
   obtain ⟨v,rest,rfl,h2,h3⟩:=h
   simp only [List.cons_append,RdL]
   exact ⟨v,rest++vs',rfl,h2,h3.append h'⟩
mutual
def mapAV (f:AV→Option AV):AV→Option AV
 | .own id=>f (.own id)
 | .optr id i off=>f (.optr id i off)
 | .agg cs=>match mapL f cs with|some l=>some (.agg l)|none=>none
 | .tup cs=>match mapL f cs with|some l=>some (.tup l)|none=>none
 | .fn g fi ca=>match mapL f fi,mapL f ca with|some l,some l'=>some (.fn g l l')|_,_=>none
 | .any=>some .any
 | .lit v=>some (.lit v)
 | .sl sz es=>some (.sl sz es)
 | .ep sz es i off=>some (.ep sz es i off)
 | .osl id off n=>f (.osl id off n)
 | .sem s=>some (.sem s)
def mapL (f:AV→Option AV):List AV→Option (List AV)
 | []=>some []
 | a::l=>match mapAV f a,mapL f l with|some b,some r=>some (b::r)|_,_=>none
end
def viewN (ro:Bool) (h:Hp):Nat→AV→Option AV
 | 0,_=>none
 | n+1,av=>mapAV (fun x=>match x with
   | .own id=>match hl h id with
     | some o=>bif o.row && (!ro || o.ro) then some (.sl o.sz o.es) else none
     | none=>none
   | .optr id i off=>match hl h id with
     | some o=>bif !ro || o.ro then (bif o.row then some (.ep o.sz o.es i off) else match o.es with
       | [cs]=>match mapL (viewN ro h n) cs with|some l=>some (.ep o.sz [l] i off)|none=>none
       | _=>none) else none
     | none=>none
   | .osl id off k=>match hl h id with
     | some o=>bif o.row && (!ro || o.ro) then some (.sl o.sz ((o.es.drop off).take k)) else none
     | none=>none
   | _=>none) av
mutual
theorem mapAV_rd {E:Env} {im:Nat→Prop} {w:World} {f:AV→Option AV} (him:∀ b,E.im b→im b) (hf:∀ x y v,Rd E w x v→f x=some y→RdI im w y v):∀ (av:AV) (v:Value) (av':AV),Rd E w av v→mapAV f av=some av'→RdI im w av' v
 | .own id,v,av',h,e=>hf _ _ _ h (by simpa [mapAV] using e)
 | .optr id i off,v,av',h,e=>hf _ _ _ h (by simpa [mapAV] using e)
 | .osl id off n,v,av',h,e=>hf _ _ _ h (by simpa [mapAV] using e)
 | .sem s,v,av',h,e=>by simp only [mapAV,Option.some.injEq] at e; subst e; exact RdI.mono him (fun b hb=>rfl) (.sem s) _ h
 | .any,v,av',h,e=>by simp only [mapAV,Option.some.injEq] at e; subst e; trivial
 | .lit u,v,av',h,e=>by simp only [mapAV,Option.some.injEq] at e; subst e; exact h
 | .sl sz es,v,av',h,e=>by simp only [mapAV,Option.some.injEq] at e; subst e; exact RdI.mono him (fun b hb=>rfl) _ _ h
 | .ep sz es i off,v,av',h,e=>by simp only [mapAV,Option.some.injEq] at e; subst e; exact RdI.mono him (fun b hb=>rfl) _ _ h
 | .agg cs,v,av',h,e=>by
   simp only [mapAV] at e
   cases hl:mapL f cs with
   | none=>simp [hl] at e
   | some l =>
     simp only [hl,Option.some.injEq] at e; subst e
     simp only [Rd] at h
     obtain ⟨vs,h1,h0,h2⟩:=h
     exact ⟨vs,h1,h0,mapL_rd him hf cs vs l h2 hl⟩
 | .tup cs,v,av',h,e=>by
   simp only [mapAV] at e
   cases hl:mapL f cs with
   | none=>simp [hl] at e
   | some l =>
     simp only [hl,Option.some.injEq] at e; subst e
     simp only [Rd] at h
     obtain ⟨vs,h1,h2⟩:=h
     exact ⟨vs,h1,mapL_rd him hf cs vs l h2 hl⟩
 | .fn g fi ca,v,av',h,e=>by
   simp only [mapAV] at e
   cases hl:mapL f fi with
   | none=>simp [hl] at e
   | some l =>
     cases hl':mapL f ca with
     | none=>simp [hl,hl'] at e
     | some l' =>
       simp only [hl,hl',Option.some.injEq] at e; subst e
       simp only [Rd] at h
       obtain ⟨vs,us,h1,h2,h3⟩:=h
       exact ⟨vs,us,h1,mapL_rd him hf fi vs l h2 hl,mapL_rd him hf ca us l' h3 hl'⟩
theorem mapL_rd {E:Env} {im:Nat→Prop} {w:World} {f:AV→Option AV} (him:∀ b,E.im b→im b) (hf:∀ x y v,Rd E w x v→f x=some y→RdI im w y v):∀ (l:List AV) (vs:List Value) (l':List AV),RdL E w l vs→mapL f l=some l'→RdIL im w l' vs
 | [],vs,l',h,e=>by simp only [mapL,Option.some.injEq] at e; subst e; exact h
 | a::l,vs,l',h,e=>by
   simp only [mapL] at e
   cases ha:mapAV f a with
   | none=>simp [ha] at e
   | some b =>
     cases hr:mapL f l with
     | none=>simp [ha,hr] at e
     | some r =>
       simp only [ha,hr,Option.some.injEq] at e; subst e
       simp only [RdL] at h
       obtain ⟨v,rest,h1,h2,h3⟩:=h
       exact ⟨v,rest,h1,mapAV_rd him hf a v b h2 ha,mapL_rd him hf l rest r h3 hr⟩
end
def imV (ro:Bool) (E:Env) (h:Hp):Nat→Prop:=fun b=>E.im b∨∃ id o,E.live id∧hl h id=some o∧blkOf (E.val id)=some b∧(ro=true→o.ro=true)
theorem RdIE.dropV {im:Nat→Prop} {w:World} {sz:Nat}:∀ (n:Nat) {es:List (List AV)} {vs:List Value},RdIE im w sz es vs→RdIE im w sz (es.drop n) (vs.drop (n * sz))
 | 0,es,vs,h=>by simpa using h
 | n+1,[],vs,h=>by simp only [RdIE] at h; subst h; simp [RdIE]
 | n+1,e::es,vs,h=>by
   simp only [RdIE] at h
   obtain ⟨x,rest,rfl,h1,h2,h3⟩:=h
   have:(x++rest).drop ((n+1) * sz)=rest.drop (n * sz):=by
    rw [Nat.add_mul,Nat.one_mul,Nat.add_comm,← List.drop_drop]
    congr 1
    rw [← h1]; simp
   rw [this]; exact RdIE.dropV n h3
theorem RdIE.takeV {im:Nat→Prop} {w:World} {sz:Nat}:∀ (n:Nat) {es:List (List AV)} {vs:List Value},RdIE im w sz es vs→RdIE im w sz (es.take n) (vs.take (n * sz))
 | 0,es,vs,h=>by simp [RdIE]
 | n+1,[],vs,h=>by simp only [RdIE] at h; subst h; simp [RdIE]
 | n+1,e::es,vs,h=>by
   simp only [RdIE] at h
   obtain ⟨x,rest,rfl,h1,h2,h3⟩:=h
   simp only [List.take_succ_cons,RdIE]
   refine ⟨x,rest.take (n * sz),?_,h1,h2,RdIE.takeV n h3⟩
   rw [Nat.add_mul,Nat.one_mul,Nat.add_comm,← h1,List.take_length_add_append]
theorem view_rd {ro:Bool} {E:Env} {w:World} {h:Hp} (H:HeapOK E w h):∀ (n:Nat) (av:AV) (v:Value) (av':AV),Rd E w av v→viewN ro h n av=some av'→RdI (imV ro E h) w av' v
 | 0,av,v,av',hr,e=>by simp [viewN] at e
 | n+1,av,v,av',hr,e=>by
   have him:∀ b,E.im b→imV ro E h b:=fun b hb=>.inl hb
   refine mapAV_rd him ?_ av v av' hr (by simpa only [viewN] using e)
   intro x y u hx hy
   split at hy
   ·rename_i id
    split at hy
    ·rename_i o ho
     cases hc:(o.row && (!ro || o.ro)) with
     | false=>simp [hc] at hy
     | true =>
       simp only [hc,cond_true,Option.some.injEq] at hy
       subst hy
       simp only [Bool.and_eq_true,Bool.or_eq_true,Bool.not_eq_true'] at hc
       simp only [Rd] at hx
       obtain ⟨hl1,_,rfl⟩:=hx
       obtain ⟨k1,k2⟩:=H.ob id o hl1 ho
       rw [hc.1] at k2
       obtain ⟨vs,a,cap,j1,j2,j3,j4,j5⟩:=k2
       refine ⟨a,cap,vs,j1,?_,?_,j5,?_,j4,RdIE.mono him (fun b hb=>rfl) _ _ _ j3⟩
       ·rcases j2.2 with ⟨hn,h0⟩|⟨g,c,cur,hv,_,_,hc',_⟩
        ·omega
        ·rw [j1] at hv; simp only [Value.slice.injEq] at hv; omega
       ·intro ha
        rcases j2.2 with ⟨hn,h0⟩|⟨g,c,cur,hv,_⟩
        ·rw [j1] at hn; simp only [Value.slice.injEq] at hn; exact hn.2.2
        ·rw [j1,ha] at hv; simp at hv
       ·intro i u hu
        rcases j2.2 with ⟨hn,h0⟩|⟨g,c,cur,hv,_⟩
        ·have:vs.length=0:=by rw [j2.1,h0,Nat.zero_mul]
         have:=(List.getElem?_eq_some_iff.1 hu).1
         omega
        ·have hb:blkOf (E.val id)=some g:=by rw [hv]; rfl
         rw [j1] at hv
         simp only [Value.slice.injEq] at hv
         refine ⟨g,0,hv.1,.inr ⟨id,o,hl1,ho,hb,fun hro=>hc.2.elim (fun h=>by rw [hro] at h; cases h) (fun h=>h)⟩,?_⟩
         have:=j2.cells (g:=g) (by rw [j1,hv.1]; rfl) i u hu
         rw [addr_add] at this
         exact this
    ·cases hy
   ·rename_i id i off
    split at hy
    ·rename_i o ho
     cases hc:(!ro || o.ro) with
     | false=>simp [hc] at hy
     | true =>
       simp only [hc,cond_true] at hy
       simp only [Bool.or_eq_true,Bool.not_eq_true'] at hc
       have hro:ro=true→o.ro=true:=fun hro=>by
        rcases hc with h|h
        ·rw [hro] at h; cases h
        ·exact h
       simp only [Rd] at hx
       obtain ⟨hl1,b,hbp,rfl⟩:=hx
       have hb:=ptr_blk hbp
       obtain ⟨k1,k2⟩:=H.ob id o hl1 ho
       cases hrow:o.row with
       | true =>
         simp only [hrow,cond_true,Option.some.injEq] at hy
         subst hy
         rw [hrow] at k2
         obtain ⟨vs,a,cap,j1,j2,j3,j4,j5⟩:=k2
         refine ⟨b,0,vs,by rw [k1,Nat.zero_add],?_,j4,RdIE.mono him (fun b hb=>rfl) _ _ _ j3⟩
         intro i u hu
         rcases j2.2 with ⟨hn,h0⟩|⟨g,c,cur,hv,_⟩
         ·have:vs.length=0:=by rw [j2.1,h0,Nat.zero_mul]
          have:=(List.getElem?_eq_some_iff.1 hu).1
          omega
         ·have hb':blkOf (E.val id)=some g:=by rw [hv]; rfl
          rw [hb] at hb'
          obtain rfl:=Option.some.inj hb'
          refine ⟨b,0,rfl,.inr ⟨id,o,hl1,ho,hb,hro⟩,?_⟩
          have:=j2.cells (g:=b) (by rw [hv]; rfl) i u hu
          rw [addr_add] at this
          exact this
       | false =>
         simp only [hrow,cond_false] at hy
         rw [hrow] at k2
         obtain ⟨g,vs,cs,j1,j2,j3,j4,j5,j6⟩:=obBox.box k2 hbp
         rw [j3] at hy
         simp only at hy
         cases hm:mapL (viewN ro h n) cs with
         | none=>simp [hm] at hy
         | some l =>
           simp only [hm,Option.some.injEq] at hy
           subst hy
           have hb':blkOf (E.val id)=some g:=by rw [j1]; rfl
           rw [hb] at hb'
           obtain rfl:=Option.some.inj hb'
           refine ⟨b,0,vs,by rw [k1,Nat.zero_add],?_,j6,⟨vs,[],by simp,j4,mapL_rd him (fun x y v hx hy=>view_rd H n x v y hx hy) cs vs l j5 hm,rfl⟩⟩
           intro i u hu
           refine ⟨b,0,rfl,.inr ⟨id,o,hl1,ho,hb,hro⟩,?_⟩
           simp only [World.cell?,j2]
           simpa using hu
    ·cases hy
   ·rename_i id off k
    split at hy
    ·rename_i o ho
     cases hc:(o.row && (!ro || o.ro)) with
     | false=>simp [hc] at hy
     | true =>
       simp only [hc,cond_true,Option.some.injEq] at hy
       subst hy
       simp only [Bool.and_eq_true,Bool.or_eq_true,Bool.not_eq_true'] at hc
       simp only [Rd] at hx
       obtain ⟨hl1,b,len,cap0,hval,hle,rfl⟩:=hx
       obtain ⟨k1,k2⟩:=H.ob id o hl1 ho
       rw [hc.1] at k2
       obtain ⟨vs,a,cap,j1,j2,j3,j4,j5⟩:=k2
       rw [hval] at j1
       simp only [Value.slice.injEq] at j1
       obtain ⟨ea,elen,ecap⟩:=j1
       rcases j2.2 with ⟨hn,h0⟩|⟨g,c,cur,hv,hlo,hg,hc',hrest⟩
       ·rw [hval] at hn; cases hn
       ·have hv':=hv
        rw [hval] at hv'
        simp only [Value.slice.injEq,Option.some.injEq,Addr.mk.injEq] at hv'
        obtain ⟨⟨rfl,_⟩,_,ecc⟩:=hv'
        have elk:((o.es.drop off).take k).length=k:=by rw [List.length_take,List.length_drop]; omega
        refine ⟨some ⟨b,off * E.sz id,none⟩,cap0 - off,(vs.drop (off * o.sz)).take (k * o.sz),by rw [elk],by rw [elk]; omega,(fun h=>by cases h),by rw [elk]; omega,?_,fun u hu=>j4 u (List.mem_of_mem_drop (List.mem_of_mem_take hu)),RdIE.mono him (fun b hb=>rfl) _ _ _ (RdIE.takeV k (RdIE.dropV off j3))⟩
        intro i u hu
        have hb:blkOf (E.val id)=some b:=by rw [hval]; rfl
        refine ⟨b,off * E.sz id,rfl,.inr ⟨id,o,hl1,ho,hb,fun hro=>hc.2.elim (fun h=>by rw [hro] at h; cases h) (fun h=>h)⟩,?_⟩
        have hu':vs[off * o.sz+i]? = some u:=by
         rw [List.getElem?_take] at hu
         split at hu
         ·rw [List.getElem?_drop] at hu; exact hu
         ·cases hu
        have:=j2.cells (g:=b) (by rw [hval]; rfl) (off * o.sz+i) u hu'
        rw [addr_add,Nat.zero_add] at this
        rw [k1]
        exact this
    ·cases hy
   ·cases hy
def Sub (a b:AV):Prop:=∀ im w v,RdI im w a v→RdI im w b v
theorem Sub.refl (a:AV):Sub a a:=fun _ _ _ h=>h
theorem Sub.any (a:AV):Sub a .any:=fun _ _ _ _=>trivial
theorem Sub.nil (sz:Nat):Sub (.lit (.slice none 0 0)) (.sl sz []):=fun im w v h=>⟨none,0,[],h,Nat.le_refl _,fun _=>rfl,Nat.zero_le _,(fun i v h=>by simp at h),(fun u hu=>by cases hu),rfl⟩
theorem Sub.trans {a b c:AV} (h:Sub a b) (k:Sub b c):Sub a c:=fun im w v hv=>k im w v (h im w v hv)
def SubL (a b:List AV):Prop:=∀ im w v,RdIL im w a v→RdIL im w b v
theorem SubL.refl (a:List AV):SubL a a:=fun _ _ _ h=>h
theorem SubL.nil:SubL [] []:=fun _ _ _ h=>h
theorem SubL.cons {a b:AV} {l r:List AV} (h:Sub a b) (k:SubL l r):SubL (a::l) (b::r):=fun im w v hv=>by
 simp only [RdIL] at hv ⊢
 obtain ⟨x,rest,h1,h2,h3⟩:=hv
 exact ⟨x,rest,h1,h im w x h2,k im w rest h3⟩
theorem Sub.agg {l r:List AV} (h:SubL l r):Sub (.agg l) (.agg r):=fun im w v hv=>by
 simp only [RdI] at hv ⊢
 obtain ⟨vs,h1,h0,h2⟩:=hv
 exact ⟨vs,h1,h0,h im w vs h2⟩
theorem Sub.tup {l r:List AV} (h:SubL l r):Sub (.tup l) (.tup r):=fun im w v hv=>by
 simp only [RdI] at hv ⊢
 obtain ⟨vs,h1,h2⟩:=hv
 exact ⟨vs,h1,h im w vs h2⟩
def Callable (P : Program) (f : FuncId) : Prop := ∃ fn, P.funcs[f]? = some fn ∧ (fn.name == "runtime.NumGoroutine") = false ∧ fn.body.isNone = false
structure ACalls (P:Program) (f:FuncId) (args:List AV) (r:AV):Prop where
 able:Callable P f
 calls:∀ (im:Nat→Prop) (w:World) (vs:List Value),(∀ b,im b→b<w.heap.size)→RdIL im w args vs →
  Calls P f vs.toArray w fun e w'=>∃ v im',e=.returned v∧RdI im' w' r v∧(∀ b,im b→im' b)∧(∀ b,im' b→im b∨w.heap.size≤b)∧(∀ b,im' b→b<w'.heap.size)∧Below w.heap.size w w'
theorem ACalls.sub {P:Program} {f:FuncId} {args args':List AV} {r r':AV} (h:ACalls P f args r) (ha:SubL args' args) (hr:Sub r r'):ACalls P f args' r' :=
 ⟨h.1,fun im w vs hlt hrd=>(h.2 im w vs hlt (ha im w vs hrd)).mono fun e w' ⟨v,im',h1,h2,h3⟩=>⟨v,im',h1,hr im' w' v h2,h3⟩⟩
def argT:Nat→List AV→List (Nat × AV)
 | _,[]=>[]
 | k,a::l=>(k,a)::argT (k+1) l
def resOne (s:St):ARes→Option AV
 | .t n=>some (s.get n)
 | .c n g sz=>match s.get n with
   | .optr id 0 0=>match hl s.h id with
     | some o=>bif o.row then none else match o.es with
       | [cs]=>bif Nat.beq o.sz sz then ofCells g cs else none
       | _=>none
     | none=>none
   | _=>none
def resAV (s:St) (rs:List ARes):Option AV :=
 match rs with
 | [r]=>resOne s r
 | rs=>match optAll (resOne s) rs with|some l=>some (.tup l)|none=>none
def Ret (res:List ARes) (r:AV) (s:St):Prop:=∃ r0 r1,resAV s res=some r0∧viewN false s.h 4 r0=some r1∧Sub r1 r
def retQ (res:List ARes) (r:AV):Exit→St→Prop
 | .normal,s=>Ret res r s
 | .ret,s=>Ret res r s
 | _,_=>False
def lowRes (P:Program) (r:ResultVar):Option ARes:=match r with|.tmp t=>some (ARes.t t)|.cell a t=>(szOf P t).map fun q=>.c a q.1 q.2
def resF (a:Act) (r:ResultVar):Sem Value:=match r with
 | .tmp t=>pure (a.tmps.getD t undef)
 | .cell p t=>do loadVar t (← asAddr (a.tmps.getD p undef))
theorem run_res {P:Program} {C:Ctx} {E:Env} {s:St} {a:Act} {w:World} (R:Rel C E s a w) {r:ResultVar} {ar:ARes} (hl':lowRes P r=some ar) {av:AV} (hr:resOne s ar=some av) :
 ∃ v,(resF a r).run P w=.ok v w∧Rd E w av v:=by
 cases r with
 | tmp t =>
   simp only [lowRes,Option.some.injEq] at hl'
   subst hl'
   simp only [resOne,Option.some.injEq] at hr
   subst hr
   exact ⟨_,rfl,R.tm t⟩
 | cell p t =>
   simp only [lowRes,Option.map_eq_some_iff] at hl'
   obtain ⟨⟨g,n⟩,hs,rfl⟩:=hl'
   simp only [resOne] at hr
   split at hr
   ·rename_i id hp
    split at hr
    ·rename_i o ho
     cases hrow:o.row with
     | true=>simp [hrow] at hr
     | false =>
       simp only [hrow,cond_false] at hr
       split at hr
       ·rename_i cs hes
        cases hb:Nat.beq o.sz n with
        | false=>simp [hb] at hr
        | true =>
          simp only [hb,cond_true] at hr
          have hsz:=Nat.eq_of_beq_eq_true hb
          have ht:=R.tm p
          rw [hp] at ht
          simp only [Rd] at ht
          obtain ⟨hl1,b,hbp,hv⟩:=ht
          have hb':=ptr_blk hbp
          obtain ⟨k1,k2⟩:=R.heap.ob id o hl1 ho
          rw [hrow] at k2
          obtain ⟨g',vs,cs',j1,j2,j3,j4,j5,j6⟩:=obBox.box k2 hbp
          rw [hes] at j3
          obtain rfl:cs=cs':=by simpa using j3
          have hbg:blkOf (E.val id)=some g':=by rw [j1]; rfl
          rw [hb'] at hbg
          obtain rfl:=Option.some.inj hbg
          simp only [Nat.zero_mul,Nat.add_zero] at hv
          have hload:=run_loadVar_at (P:=P) (w:=w) (b:=b) (o:=0) (vs:=vs) hs (by rw [j4,hsz]) (fun i v hi=>by simp only [World.cell?,j2,Nat.zero_add]; simpa using hi)
          refine ⟨_,?_,ofCells_rd (n:=n) hr j6 j5⟩
          simp only [resF,hv,asAddr,Sem.run_bind,Sem.run_pure,Result.andThen_ok]
          exact hload
       ·cases hr
    ·cases hr
   ·cases hr
theorem run_ress {P:Program} {C:Ctx} {E:Env} {s:St} {a:Act} {w:World} (R:Rel C E s a w):∀ {rs:List ResultVar} {ars:List ARes} {avs:List AV},optAll (lowRes P) rs=some ars→optAll (resOne s) ars=some avs →
 ∃ vs,(rs.mapM (resF a)).run P w=.ok vs w∧RdL E w avs vs
 | [],ars,avs,h1,h2=>by
   simp only [optAll,Option.some.injEq] at h1; subst h1
   simp only [optAll,Option.some.injEq] at h2; subst h2
   exact ⟨[],rfl,rfl⟩
 | r::rs,ars,avs,h1,h2=>by
   simp only [optAll] at h1
   cases hr:lowRes P r with
   | none=>simp [hr] at h1
   | some ar =>
     cases hrs:optAll (lowRes P) rs with
     | none=>simp [hr,hrs] at h1
     | some ars' =>
       simp only [hr,hrs,Option.some.injEq] at h1; subst h1
       simp only [optAll] at h2
       cases ha:resOne s ar with
       | none=>simp [ha] at h2
       | some av =>
         cases has:optAll (resOne s) ars' with
         | none=>simp [ha,has] at h2
         | some avs' =>
           simp only [ha,has,Option.some.injEq] at h2; subst h2
           obtain ⟨v,e1,e2⟩:=run_res R hr ha
           obtain ⟨vs,e3,e4⟩:=run_ress R hrs has
           refine ⟨v::vs,?_,v,vs,rfl,e2,e4⟩
           rw [List.mapM_cons,Sem.run_bind,e1]
           simp only [Result.andThen_ok,Sem.run_bind,e3,Sem.run_pure]
theorem run_results {P:Program} {C:Ctx} {E:Env} {s:St} {a:Act} {w:World} (R:Rel C E s a w) {fn:Func} {res:List ARes} (hres:optAll (lowRes P) fn.results.toList=some res) {r0:AV} (hr:resAV s res=some r0) :
 ∃ v,(results fn a.tmps).run P w=.ok v w∧Rd E w r0 v:=by
 have e0:results fn a.tmps=(do
  let vs ← fn.results.mapM (resF a)
  pure (if h:vs.size=1 then vs[0] else .tuple vs)):=rfl
 have hm:fn.results.mapM (resF a)=Functor.map List.toArray (fn.results.toList.mapM (resF a)):=Array.mapM_eq_mapM_toList ..
 have key:∀ avs,optAll (resOne s) res=some avs→∃ vs,(fn.results.toList.mapM (resF a)).run P w=.ok vs w∧RdL E w avs vs:=fun avs h=>run_ress R hres h
 have e1:∀ vs,(fn.results.toList.mapM (resF a)).run P w=.ok vs w→(results fn a.tmps).run P w=.ok (if h:vs.toArray.size=1 then vs.toArray[0] else .tuple vs.toArray) w:=fun vs h=>by
  rw [e0,hm,Sem.run_bind,map_eq_pure_bind,Sem.run_bind,h]
  simp only [Result.andThen_ok,Sem.run_pure]
 have many:∀ avs,optAll (resOne s) res=some avs→avs.length≠1→r0=.tup avs→∃ v,(results fn a.tmps).run P w=.ok v w∧Rd E w r0 v:=by
  rintro avs h hn rfl
  obtain ⟨vs,h1,h2⟩:=key avs h
  refine ⟨_,e1 vs h1,?_⟩
  have hlen:¬ vs.toArray.size=1:=by
   have:=h2.length
   simp; omega
  rw [dif_neg hlen]
  exact ⟨vs,rfl,h2⟩
 match res,hr with
 | [r],hr =>
   simp only [resAV] at hr
   obtain ⟨vs,h1,h2⟩:=key [r0] (by simp [optAll,hr])
   simp only [RdL] at h2
   obtain ⟨v,rest,rfl,h3,rfl⟩:=h2
   exact ⟨_,e1 [v] h1,by simpa using h3⟩
 | [],hr =>
   simp only [resAV,optAll,Option.some.injEq] at hr
   exact many [] rfl (by simp) hr.symm
 | r::r'::rs,hr =>
   simp only [resAV] at hr
   cases hall:optAll (resOne s) (r::r'::rs) with
   | none=>simp [hall] at hr
   | some avs =>
     simp only [hall,Option.some.injEq] at hr
     refine many avs hall ?_ hr.symm
     have:=(optAll_get hall).1
     simp at this; omega
theorem getT_args {E:Env} {w:World}:∀ (args:List AV) (vs:List Value) (k n:Nat),RdL E w args vs→Rd E w (getT (argT k args) n) (if k≤n then vs.getD (n - k) undef else undef)
 | [],vs,k,n,h=>by simp only [argT,getT,look]; trivial
 | a::l,vs,k,n,h=>by
   simp only [RdL] at h
   obtain ⟨v,rest,rfl,h1,h2⟩:=h
   by_cases hn:k=n
   ·subst hn; simpa [argT,getT,look] using h1
   ·have ih:=getT_args l rest (k+1) n h2
    simp only [argT,getT,look,beq_ne hn,cond_false]
    simp only [getT] at ih
    by_cases hk:k≤n
    ·rw [if_pos hk]
     rw [if_pos (by omega)] at ih
     rw [show n - k=n - (k+1)+1 from by omega]
     simpa using ih
    ·rw [if_neg hk]
     rw [if_neg (by omega)] at ih
     exact ih
theorem RdIL.length {im:Nat→Prop} {w:World}:∀ {l:List AV} {vs:List Value},RdIL im w l vs→vs.length=l.length
 | [],vs,h=>by simp only [RdIL] at h; simp [h]
 | a::l,vs,h=>by
   simp only [RdIL] at h
   obtain ⟨v,rest,rfl,_,h3⟩:=h
   simp [RdIL.length h3]
structure Pure (C:Ctx) (N:Nat):Prop where
 X:∀ b,¬ C.X b
 N:C.N=N
 m:C.m=0
 ds:C.ds=[]
theorem HeapOK.blk_lt {E:Env} {w:World} {h:Hp} (H:HeapOK E w h) {id:Nat} {o:OB} {b:Nat} (k1:E.live id) (k2:hl h id=some o) (k3:blkOf (E.val id)=some b):b<w.heap.size:=by
 obtain ⟨j1,j2⟩:=H.ob id o k1 k2
 cases hrow:o.row with
 | true =>
   rw [hrow] at j2
   obtain ⟨vs,a,cap,i1,i2,_⟩:=j2
   refine (i2.lt b ?_).2
   rw [i1] at k3 ⊢
   cases a<;>simp [blkOf,Value.ownBlock] at k3 ⊢; exact k3
 | false =>
   rw [hrow] at j2
   rcases j2 with ⟨_,g,vs,cs,i1,i2,_⟩|⟨_,g,es,clock,i1,i2,_⟩
   ·rw [i1] at k3
    simp only [blkOf,Option.some.injEq] at k3
    subst k3
    exact (Array.getElem?_eq_some_iff.1 i2).1
   ·rw [i1] at k3
    simp only [blkOf,Option.some.injEq] at k3
    subst k3
    exact (Array.getElem?_eq_some_iff.1 i2).1
theorem acalls_at {P:Program} {f:FuncId} {F:AFn} {args0:List AV} {r:AV} (hF:lowerF P f=some F) (hlen:args0.length≤F.N) (h:∀ im (w:World) vs,(∀ b,im b→b<w.heap.size)→RdIL im w args0 vs→∃ args,RdIL im w args vs∧∀ C:Ctx,Pure C F.N→C.w0=w→C.E0.im=im→AW P C F.body (retQ F.res r) ⟨argT 0 args,[],0⟩):ACalls P f args0 r:=by
 simp only [lowerF] at hF
 split at hF
 ·rename_i fn hfn
  split at hF
  ·rename_i b hb
   cases hnm : (fn.name == "runtime.NumGoroutine") with
   | true=>rw [hnm] at hF; cases hF
   | false =>
   rw [hnm,cond_false] at hF
   refine ⟨⟨fn,hfn,hnm,by rw [hb]; rfl⟩,?_⟩
   intro im w vs hlt hrd
   obtain ⟨args,hrd',h⟩:=h im w vs hlt hrd
   have hlen:args.length≤F.N:=by rw [← hrd'.length,hrd.length]; exact hlen
   replace hrd:=hrd'
   split at hF
   ·rename_i c res hc hres
    simp only [Option.some.injEq] at hF
    subst hF
    let E0:Env:=⟨im,fun _=>False,fun _=>undef,fun _=>0⟩
    let C:Ctx:=⟨fun _=>False,w,fn.ntmps,E0,0,[]⟩
    have hC:Pure C fn.ntmps:=⟨fun _ h=>h,rfl,rfl,rfl⟩
    have hvl:vs.length=args.length:=hrd.length
    simp only at hlen
    have hR:Rel C E0 ⟨argT 0 args,[],0⟩ { tmps:=vs.toArray++Array.replicate (fn.ntmps - vs.toArray.size) undef,defers:=[] } w:=by
     refine ⟨rfl,?_,fun n => ?_,⟨fun id o h=>h.elim,fun id id' o o' b h=>h.elim,fun id o b h=>h.elim,hlt⟩,fun id h=>h.elim,fun id o b h=>h.elim,fun id h=>absurd h (Nat.not_lt_zero _),fun b h=>h,fun b h=>.inl h,⟨rfl,rfl,rfl,Nat.le_refl _,fun _ _ _=>rfl⟩⟩
     ·show (vs.toArray++Array.replicate (fn.ntmps - vs.toArray.size) undef).size=fn.ntmps
      simp; omega
     ·have:=getT_args (E:=E0) (w:=w) args vs 0 n (RdIL.rd _ _ hrd)
      rw [if_pos (Nat.zero_le _),Nat.sub_zero] at this
      have e:(vs.toArray++Array.replicate (fn.ntmps - vs.toArray.size) undef).getD n undef=vs.getD n undef:=by
       simp only [Array.getD_eq_getD_getElem?,List.getD_eq_getElem?_getD,Array.getElem?_append]
       by_cases hn:n<vs.length
       ·simp [hn]
       ·rw [if_neg (by simpa using hn)]
        rw [List.getElem?_eq_none (by omega)]
        simp only [Array.getElem?_replicate]
        split<;>rfl
      show Rd E0 w (getT (argT 0 args) n) ((vs.toArray++Array.replicate (fn.ntmps - vs.toArray.size) undef).getD n undef)
      rw [e]; exact this
    refine calls_of_wp hfn hb (wp_mono (h C hC rfl rfl b hc E0 _ w hR) ?_)
    rintro e a' w' ⟨E',s,hq,hR'⟩
    have fin:Ret res r s→a'.defers=[]∧∃ v,(results fn a'.tmps).run P w'=.ok v w'∧∃ v_1 im',Ending.returned v=.returned v_1∧RdI im' w' r v_1∧(∀ b,im b→im' b)∧(∀ b,im' b→im b∨w.heap.size≤b)∧(∀ b,im' b→b<w'.heap.size)∧Below w.heap.size w w':=by
     rintro ⟨r0,r1,h1,h2,h3⟩
     obtain ⟨v,hv,hr⟩:=run_results hR' hres h1
     refine ⟨hR'.defers,v,hv,v,imV false E' s.h,rfl,h3 _ _ _ (view_rd hR'.heap 4 _ _ _ hr h2),fun b hb=>.inl (hR'.imx b hb),?_,?_,?_⟩
     ·rintro b (hb|⟨id,o,k1,k2,k3,_⟩)
      ·rcases hR'.imn b hb with h|h|h
       ·exact .inl h
       ·exact .inr h
       ·exact h.elim
      ·rcases hR'.own id o b k1 k2 k3 with h|h
       ·exact .inr h
       ·exact h.elim
     ·rintro b (hb|⟨id,o,k1,k2,k3,_⟩)
      ·exact hR'.heap.lt b hb
      ·exact hR'.heap.blk_lt k1 k2 k3
     ·exact ⟨hR'.frm.os,hR'.frm.tape,hR'.frm.output,hR'.frm.size,fun k hk=>hR'.frm.block k hk (fun h=>h)⟩
    cases e with
    | normal=>exact fin hq
    | ret=>exact fin hq
    | _=>exact hq.elim
   ·cases hF
  ·cases hF
 ·cases hF
theorem acalls_of {P:Program} {f:FuncId} {F:AFn} {args:List AV} {r:AV} (hF:lowerF P f=some F) (hlen:args.length≤F.N) (h:∀ C:Ctx,Pure C F.N→AW P C F.body (retQ F.res r) ⟨argT 0 args,[],0⟩):ACalls P f args r :=
 acalls_at hF hlen fun im w vs _ hrd=>⟨args,hrd,fun C hC _ _=>h C hC⟩
theorem wk_back {C:Ctx} {N n:Nat} {st:St} {v:Value} {av:AV} (hC:Pure C N) (hg:st.get n=.lit v) (h:RdI C.E0.im C.w0 av v) (hlt:∀ b,C.E0.im b→b<C.w0.heap.size):Weak C st ⟨(n,av)::st.t,st.h,st.nx⟩:=fun E a w R=>by
 refine ⟨E,R.defers,R.size,fun k => ?_,R.heap,R.nx,R.own,R.ext,R.imx,R.imn,R.frm⟩
 by_cases hk:k=n
 ·subst hk
  have h1:a.tmps.getD k undef=v:=by have:=R.tm k; rw [hg] at this; exact this
  rw [h1]
  have e:St.get ⟨(k,av)::st.t,st.h,st.nx⟩ k=av:=getT_same st.t k av
  rw [e]
  exact RdI.rd _ _ (RdI.mono R.imx (fun b hb=>R.frm.block b (hlt b hb) (fun x=>hC.X b x)) _ _ h)
 ·have e:St.get ⟨(n,av)::st.t,st.h,st.nx⟩ k=st.get k:=getT_ne st.t (some n) av k (by simpa using fun h=>hk h.symm)
  rw [e]; exact R.tm k
def LowSpec (P:Program) (o:Op):AOp→Prop
 | .mov x=>o=.move x∨o=.assign x
 | .pick c a b=>o=.pick c a b
 | .alloc e z=>o=.alloc e∧∃ sz by_,zeroOf P e=some (z,sz,by_)
 | .box e n x=>o=.box e x∧∃ g,szOf P e=some (g,n)∧0<n
 | .build z ps=>∃ t l sz by_,o=.build t l∧zeroOf P t=some (z,sz,by_)∧optAll (fun p:Nat × Operand=>(placesOf P t p.1).map fun q=>(q.1,q.2,p.2)) l.toList=some ps∧fieldsOK P t=true
 | .rowlit e sz len z ps=>∃ t l by_,o=.buildSlice t len l∧elemsOf P t=some e∧zeroOf P e=some (z,sz,by_)∧len * sz≤16777216∧ps=l.toList∧∀ p ∈ ps,p.1<len
 | .load g n x=>∃ t,o=.load t x∧szOf P t=some (g,n)
 | .store n p x=>∃ t g,o=.store t p x∧szOf P t=some (g,n)
 | .nilck x=>o=.nilCheck x
 | .bin op x y=>∃ t t2,o=.binOp op t x y t2
 | .binB op x y=>∃ t t2,o=.binOp op t x y t2∧P.underlying t=some .bool
 | .binS op x y=>∃ t t2,o=.binOp op t x y t2∧P.underlying t=some .string
 | .eqv t neg x y=>∃ t2,o=.binOp (bif neg then .neq else .eql) t x y t2
 | .un op x=>∃ t,o=.unOp op t x
 | .conv k x=>∃ s d ds,o=.convert s d x∧P.underlying s=some ds∧P.underlying d=some (.int k)
 | .make e sz by_ z l c=>∃ t,o=.makeSlice t l c∧elemsOf P t=some e∧zeroOf P e=some (z,sz,by_)
 | .slice sz x lo hi mx=>∃ t e g,o=.slice t x lo hi mx∧elemsOf P t=some e∧szOf P e=some (g,sz)
 | .faddr off x=>∃ t f fs fd g n,o=.fieldAddr t x f∧P.underlying t=some (.struct fs)∧fs[f]? = some fd∧szOf P fd.type=some (g,n)∧0<n∧off=fd.offset
 | .field g off n x=>∃ t f fs fd,o=.field t x f∧P.underlying t=some (.struct fs)∧fs[f]? = some fd∧szOf P fd.type=some (g,n)∧off=fd.offset
 | .iaddr sz x i=>∃ t e g,o=.indexAddr t x i∧P.underlying t=some (.slice e)∧szOf P e=some (g,sz)∧0<sz
 | .iaddrA len sz x i=>∃ t e g,o=.indexAddr t x i∧P.underlying t=some (.array len e)∧szOf P e=some (g,sz)
 | .idx g len sz x i=>∃ t e,o=.index t x i∧P.underlying t=some (.array len e)∧szOf P e=some (g,sz)
 | .sidx x i=>∃ t,o=.index t x i∧P.underlying t=some .string
 | .extract i x=>o=.extract x i
 | .mkmap=>∃ t e,o=.makeMap t none∧strMap P t=some e
 | .look z ok x k=>∃ t e q,o=.lookup t x k ok∧strMap P t=some e∧zeroOf P e=some q∧(P.info? e).bind (·.zero)=some z
 | .lookG t x k=>o=.lookup t x k false
 | .mupd m k v=>∃ t e,o=.mapUpdate t m k v∧strMap P t=some e
 | .mdel m k=>∃ ts ty e,o=.call { callee:=.builtin .delete,args := #[m,k],argTypes:=ts }∧ts[0]? = some ty∧strMap P ty=some e
 | .mlen x=>∃ t e,o=.call { callee:=.builtin .len,args := #[x],argTypes := #[t] }∧strMap P t=some e
 | .len x=>∃ t,o=.call { callee:=.builtin .len,args := #[x],argTypes := #[t] }∧∃ e,P.underlying t=some (.slice e)
 | .slen x=>∃ t,o=.call { callee:=.builtin .len,args := #[x],argTypes := #[t] }∧P.underlying t=some .string
 | .append e sz by_ z s x=>∃ t,o=.call { callee:=.builtin .append,args := #[s,x],argTypes := #[t,t] }∧elemsOf P t=some e∧zeroOf P e=some (z,sz,by_)
 | .appendZ e sz by_ z s n=>∃ t t' k,o=.call { callee:=.builtin .append,args := #[s,n],argTypes := #[t,t'] }∧elemsOf P t=some e∧zeroOf P e=some (z,sz,by_)∧P.underlying t'=some (.int k)
 | .copy sz d s=>∃ t t' e g,o=.call { callee:=.builtin .copy,args := #[d,s],argTypes := #[t,t'] }∧elemsOf P t=some e∧szOf P e=some (g,sz)
 | .mm mx x y=>∃ l,o=.call { callee:=.builtin (bif mx then .max else .min),args := #[x,y],argTypes:=l }
 | .mx3 x y z=>∃ l,o=.call { callee:=.builtin .max,args := #[x,y,z],argTypes:=l }
 | .cap x=>∃ t e,o=.call { callee:=.builtin .cap,args := #[x],argTypes := #[t] }∧P.underlying t=some (.slice e)
 | .mkfn f fi ca=>o=.makeFunc (.func f) fi.toArray ca.toArray
 | .call f args=>∃ l,o=.call { callee:=.value f,args:=args.toArray,argTypes:=l }
 | .other _=>False
theorem low_spec {P:Program} {o:Op} {a:AOp} (h:lowerO P o=some a):LowSpec P o a:=by
 cases o
 case call c =>
  obtain ⟨callee,args,tys⟩:=c
  cases callee with
  | value f =>
    simp only [lowerO,Option.some.injEq] at h
    subst h
    exact ⟨tys,by simp⟩
  | invoke r m=>simp [lowerO] at h
  | builtin b =>
    simp only [lowerO] at h
    have ha:args=args.toList.toArray:=by simp
    have ht:tys=tys.toList.toArray:=by simp
    rw [ha,ht]
    generalize args.toList=al at h
    generalize tys.toList=tl at h
    clear ha ht
    split at h
    ·rename_i x t
     split at h
     ·rename_i e hu; simp only [Option.some.injEq] at h; subst h; exact ⟨t,rfl,e,hu⟩
     ·rename_i hu; simp only [Option.some.injEq] at h; subst h; exact ⟨t,rfl,hu⟩
     ·split at h
      ·rename_i e he; simp only [Option.some.injEq] at h; subst h; exact ⟨t,e,rfl,he⟩
      ·cases h
     ·cases h
    ·rename_i m k t ts
     split at h
     ·rename_i e he; simp only [Option.some.injEq] at h; subst h; exact ⟨(t::ts).toArray,t,e,rfl,by simp,he⟩
     ·cases h
    ·rename_i s x t t'
     split at h
     ·rename_i hb
      have:=Nat.eq_of_beq_eq_true hb
      subst this
      split at h
      ·rename_i e he
       split at h
       ·rename_i z sz by_ hz; simp only [Option.some.injEq] at h; subst h; exact ⟨t,rfl,he,hz⟩
       ·cases h
      ·cases h
     ·split at h
      ·rename_i e k he hk
       split at h
       ·rename_i z sz by_ hz; simp only [Option.some.injEq] at h; subst h; exact ⟨t,t',k,rfl,he,hz,hk⟩
       ·cases h
      ·cases h
    ·rename_i d s t t'
     split at h
     ·rename_i e e' he he'
      split at h
      ·rename_i g sz hz; simp only [Option.some.injEq] at h; subst h; exact ⟨t,t',e,g,rfl,he,hz⟩
      ·cases h
     ·cases h
    ·simp only [Option.some.injEq] at h; subst h; exact ⟨_,rfl⟩
    ·simp only [Option.some.injEq] at h; subst h; exact ⟨_,rfl⟩
    ·split at h
     ·rename_i e hu; simp only [Option.some.injEq] at h; subst h; exact ⟨_,e,rfl,hu⟩
     ·cases h
    ·simp only [Option.some.injEq] at h; subst h; exact ⟨_,rfl⟩
    ·cases h
 case makeFunc f fi ca =>
  cases f<;>simp only [lowerO] at h
  case func f=>simp only [Option.some.injEq] at h; subst h; simp [LowSpec]
  all_goals cases h
 case move x=>simp only [lowerO,Option.some.injEq] at h; subst h; exact .inl rfl
 case assign x=>simp only [lowerO,Option.some.injEq] at h; subst h; exact .inr rfl
 case pick c a b=>simp only [lowerO,Option.some.injEq] at h; subst h; rfl
 case nilCheck x=>simp only [lowerO,Option.some.injEq] at h; subst h; rfl
 case unOp op t x=>simp only [lowerO,Option.some.injEq] at h; subst h; exact ⟨t,rfl⟩
 case extract x i=>simp only [lowerO,Option.some.injEq] at h; subst h; rfl
 case alloc t =>
  simp only [lowerO] at h
  split at h
  ·rename_i z sz b hz; simp only [Option.some.injEq] at h; subst h; exact ⟨rfl,sz,b,hz⟩
  ·cases h
 case box t x =>
  simp only [lowerO] at h
  split at h
  ·rename_i g n hz
   split at h
   ·rename_i hb; simp only [Option.some.injEq] at h; subst h; exact ⟨rfl,g,hz,by simpa [Nat.blt_eq] using hb⟩
   ·cases h
  ·cases h
 case makeMap t r =>
  cases r with
  | some r=>simp [lowerO] at h
  | none =>
    simp only [lowerO] at h
    split at h
    ·rename_i e he; simp only [Option.some.injEq] at h; subst h; exact ⟨t,e,rfl,he⟩
    ·cases h
 case lookup t x k ok =>
  simp only [lowerO] at h
  split at h
  ·rename_i e he
   split at h
   ·rename_i q z hs hz; simp only [Option.some.injEq] at h; subst h; exact ⟨t,e,q,rfl,he,hs,hz⟩
   ·cases h
  ·cases ok
   ·simp only [cond_false,Option.some.injEq] at h; subst h; exact rfl
   ·simp only [cond_true] at h; cases h
 case mapUpdate t m k v =>
  simp only [lowerO] at h
  split at h
  ·rename_i e he; simp only [Option.some.injEq] at h; subst h; exact ⟨t,e,rfl,he⟩
  ·cases h
 case build t ps =>
  simp only [lowerO] at h
  split at h
  ·rename_i z sz b l hz hl
   split at h
   ·rename_i hf; simp only [Option.some.injEq] at h; subst h; exact ⟨t,ps,sz,b,rfl,hz,hl,hf⟩
   ·cases h
  ·cases h
 case buildSlice t len ps =>
  simp only [lowerO] at h
  split at h
  ·rename_i e he
   split at h
   ·rename_i z sz b hz
    split at h
    ·rename_i hc
     simp only [Bool.and_eq_true,List.all_eq_true,Nat.blt_eq] at hc
     simp only [Option.some.injEq] at h; subst h
     exact ⟨t,ps,b,rfl,he,hz,Nat.le_of_ble_eq_true hc.1,rfl,hc.2⟩
    ·cases h
   ·cases h
  ·cases h
 case load t x =>
  simp only [lowerO] at h
  split at h
  ·rename_i g n hz; simp only [Option.some.injEq] at h; subst h; exact ⟨t,rfl,hz⟩
  ·cases h
 case store t p x =>
  simp only [lowerO] at h
  split at h
  ·rename_i g n hz; simp only [Option.some.injEq] at h; subst h; exact ⟨t,g,rfl,hz⟩
  ·cases h
 case binOp op t x y t2 =>
  simp only [lowerO] at h
  split at h
  ·rename_i k hu; simp only [Option.some.injEq] at h; subst h; exact ⟨t,t2,rfl⟩
  ·rename_i hu; simp only [Option.some.injEq] at h; subst h; exact ⟨t,t2,rfl,hu⟩
  ·rename_i hu; simp only [Option.some.injEq] at h; subst h; exact ⟨t,t2,rfl,hu⟩
  ·split at h
   ·simp only [Option.some.injEq] at h; subst h; exact ⟨t2,rfl⟩
   ·simp only [Option.some.injEq] at h; subst h; exact ⟨t2,rfl⟩
   ·cases h
  ·cases h
 case convert s d x =>
  simp only [lowerO] at h
  split at h
  ·rename_i ds k hs hd; simp only [Option.some.injEq] at h; subst h; exact ⟨s,d,ds,rfl,hs,hd⟩
  ·cases h
 case makeSlice t l c =>
  simp only [lowerO] at h
  split at h
  ·rename_i e he
   split at h
   ·rename_i z sz b hz; simp only [Option.some.injEq] at h; subst h; exact ⟨t,rfl,he,hz⟩
   ·cases h
  ·cases h
 case slice t x lo hi mx =>
  simp only [lowerO] at h
  split at h
  ·rename_i e he
   split at h
   ·rename_i g sz hz; simp only [Option.some.injEq] at h; subst h; exact ⟨t,e,g,rfl,he,hz⟩
   ·cases h
  ·cases h
 case fieldAddr t x f =>
  simp only [lowerO] at h
  split at h
  ·rename_i fs hu
   split at h
   ·rename_i fd hf
    split at h
    ·rename_i g n hz
     split at h
     ·rename_i hn; simp only [Option.some.injEq] at h; subst h; exact ⟨t,f,fs,fd,g,n,rfl,hu,hf,hz,by simpa [Nat.blt_eq] using hn,rfl⟩
     ·cases h
    ·cases h
   ·cases h
  ·cases h
 case field t x f =>
  simp only [lowerO] at h
  split at h
  ·rename_i fs hu
   split at h
   ·rename_i fd hf
    split at h
    ·rename_i g n hz; simp only [Option.some.injEq] at h; subst h; exact ⟨t,f,fs,fd,rfl,hu,hf,hz,rfl⟩
    ·cases h
   ·cases h
  ·cases h
 case indexAddr t x i =>
  simp only [lowerO] at h
  split at h
  ·rename_i e hu
   split at h
   ·rename_i g n hz
    split at h
    ·rename_i hn; simp only [Option.some.injEq] at h; subst h; exact ⟨t,e,g,rfl,hu,hz,by simpa [Nat.blt_eq] using hn⟩
    ·cases h
   ·cases h
  ·rename_i len e hu
   split at h
   ·rename_i g n hz; simp only [Option.some.injEq] at h; subst h; exact ⟨t,e,g,rfl,hu,hz⟩
   ·cases h
  ·cases h
 case index t x i =>
  simp only [lowerO] at h
  split at h
  ·rename_i len e hu
   split at h
   ·rename_i g n hz; simp only [Option.some.injEq] at h; subst h; exact ⟨t,e,rfl,hu,hz⟩
   ·cases h
  ·rename_i hu; simp only [Option.some.injEq] at h; subst h; exact ⟨t,rfl,hu⟩
  ·cases h
 all_goals (simp only [lowerO] at h; cases h)
def gOK (st:St):Option (Nat × Bool)→Prop
 | none=>True
 | some (t,b)=>st.get t=.lit (.bool b)
def gNo (st:St):Option (Nat × Bool)→Prop
 | none=>False
 | some (t,b)=>st.get t=.lit (.bool (!b))
theorem yielded_of {ops:Array Oper} {tmps:Array Value} {j t:Nat} {b:Bool} (h:(ops[j]?).bind (·.dst)=some t) (hb:tmps.getD t undef=.bool b):yielded ops tmps j=some b:=by
 unfold yielded
 rw [h]
 simp only [Option.bind_some]
 rw [Array.getD_eq_getD_getElem?] at hb
 cases ht:tmps[t]? with
 | none=>rw [ht] at hb; simp [undef] at hb
 | some v=>rw [ht] at hb; simp at hb; subst hb; rfl
theorem mem_reads_g {i:AInst} {t:Nat} {b:Bool} (h:i.g=some (t,b)):t ∈ i.reads:=by
 simp [AInst.reads,h]
section
variable {P:Program} {N:Nat} {ops:Array Oper} {o:Oper} {i:AInst} {C:Ctx} {E:Env} {a:Act} {w:World} {sx st:St}
theorem wanted_of (hlow:lowerOp P N ops o=some i) (R:Rel C E sx a w) (hag:∀ t ∈ i.reads,sx.get t=st.get t) (hg:gOK st i.g):Region.wanted o (yielded ops a.tmps)=true:=by
 obtain ⟨h1,h2,h3,h4⟩:=lower_parts hlow
 unfold Region.wanted
 cases ho:o.guard with
 | none=>rfl
 | some p =>
   obtain ⟨j,b⟩:=p
   rw [ho] at h4
   obtain ⟨t,ht,e⟩:=h4
   rw [e] at hg
   have:=R.tm t
   rw [hag t (mem_reads_g e),show st.get t=.lit (.bool b) from hg] at this
   simp only [yielded_of ht this,beq_self_eq_true]
theorem unwanted_of (hlow:lowerOp P N ops o=some i) (R:Rel C E sx a w) (hag:∀ t ∈ i.reads,sx.get t=st.get t) (hg:gNo st i.g):Region.wanted o (yielded ops a.tmps)=false:=by
 obtain ⟨h1,h2,h3,h4⟩:=lower_parts hlow
 unfold Region.wanted
 cases ho:o.guard with
 | none=>rw [ho] at h4; rw [show i.g=none from h4] at hg; exact hg.elim
 | some p =>
   obtain ⟨j,b⟩:=p
   rw [ho] at h4
   obtain ⟨t,ht,e⟩:=h4
   rw [e] at hg
   have:=R.tm t
   rw [hag t (mem_reads_g e),show st.get t=.lit (.bool !b) from hg] at this
   simp only [yielded_of ht this]
   cases b<;>rfl
theorem ev_agree (hag:∀ t ∈ i.reads,sx.get t=st.get t) {x:Operand} (hx:x ∈ i.op.opds):ev sx x=ev st x:=by
 cases x with
 | tmp t=>exact hag t (by simp only [AInst.reads,List.mem_append]; left; exact mem_tmpsOf.2 hx)
 | _=>rfl
theorem eval_of (R:Rel C E sx a w) (hag:∀ t ∈ i.reads,sx.get t=st.get t) {x:Operand} (hx:x ∈ i.op.opds):Rd E w (ev st x) (a.eval x):=by
 rw [← ev_agree hag hx]; exact R.ev x
end
theorem tmps_put {a:Act} {d:Option Nat} {u:Value} {N:Nat} (hs:a.tmps.size=N) (hd:∀ k,d=some k→k<N) (n:Nat):(a.put d u).tmps.getD n undef=(if d=some n then u else a.tmps.getD n undef):=by
 cases d with
 | none=>rfl
 | some k =>
   simp only [Act.put,Array.getD_eq_getD_getElem?,Array.getElem?_setIfInBounds]
   have:=hd k rfl
   by_cases hk:k=n
   ·subst hk; simp [hs,this]
   ·simp [hk]
theorem put_defers (a:Act) (d:Option Nat) (u:Value):(a.put d u).defers=a.defers:=by cases d<;>rfl
theorem put_size (a:Act) (d:Option Nat) (u:Value):(a.put d u).tmps.size=a.tmps.size:=by cases d<;>simp [Act.put]
theorem Rel.put {C:Ctx} {E:Env} {st:St} {a:Act} {w:World} (R:Rel C E st a w) {d:Option Nat} (hd:∀ k,d=some k→k<C.N) {v:AV} {u:Value} (h:Rd E w v u):Rel C E ⟨putT st.t d v,st.h,st.nx⟩ (a.put d u) w:=by
 refine ⟨(put_defers a d u).trans R.defers,(put_size a d u).trans R.size,fun n => ?_,R.heap,R.nx,R.own,R.ext,R.imx,R.imn,R.frm⟩
 rw [tmps_put R.size hd]
 show Rd E w (getT (putT st.t d v) n) _
 by_cases hn:d=some n
 ·rw [if_pos hn,hn,getT_same]; exact h
 ·rw [if_neg hn,getT_ne _ _ _ _ hn]; exact R.tm n
theorem step_no {P:Program} {st:St} {i:AInst} (hg:gNo st i.g):Step P st ⟨i,.any,[],[],0⟩:=by
 intro N ops o hlow C E a w sx hN R hag hh hnw K Q hK
 have:=unwanted_of hlow R hag hg
 rw [if_neg (by rw [this]; exact Bool.false_ne_true)]
 obtain ⟨h1,h2,h3,h4⟩:=lower_parts hlow
 refine hK undef w E ?_ (fun id h=>.inl h)
 have:=R.put (d:=o.dst) (fun k hk=>by rw [hN]; exact h2 k hk) (v:=.any) (u:=undef) trivial
 simp only [St.appx,List.nil_append]
 rw [h1]
 exact this
theorem step_val {P:Program} {st:St} {i:AInst} {v:AV} (rd:List Nat) (hg:gOK st i.g)
 (h:∀ (o:Oper) (C:Ctx) (E:Env) (a:Act) (w:World) (sx:St),lowerO P o.op=some i.op→Rel C E sx a w→(∀ x ∈ i.op.opds,Rd E w (ev st x) (a.eval x))→(∀ id ∈ rd,hl sx.h id=hl st.h id) →
  ∃ u,(execOp a.eval o).run P w=.ok (.value u) w∧Rd E w v u):Step P st ⟨i,v,rd,[],0⟩:=by
 intro N ops o hlow C E a w sx hN R hag hh hnw K Q hK
 rw [if_pos (wanted_of hlow R hag hg)]
 obtain ⟨h1,h2,h3,h4⟩:=lower_parts hlow
 obtain ⟨u,hu,hr⟩:=h o C E a w sx h3 R (fun x hx=>eval_of R hag hx) (fun id hid=>hh id (.inl hid))
 unfold Oper.wp
 rw [hu,Oper.upon_value]
 refine hK u w E ?_ (fun id h=>.inl h)
 have:=R.put (d:=o.dst) (fun k hk=>by rw [hN]; exact h2 k hk) hr
 simp only [St.appx,List.nil_append]
 rw [h1]
 exact this
theorem lit_eval {E:Env} {w:World} {av:AV} {v u:Value} (h:Rd E w av v) (e:av=.lit u):v=u:=by subst e; exact h
section
variable {P:Program} {st:St} {d:Option Nat} {g:Option (Nat × Bool)}
theorem q_mov {x:Operand} (hg:gOK st g):Step P st ⟨⟨d,g,.mov x⟩,ev st x,[],[],0⟩ :=
 step_val [] hg fun o C E a w sx hlow R hr hh=>by
  have hx:=hr x (by simp [AOp.opds])
  obtain ⟨dst,op,ty,pos,after,guard⟩:=o
  rcases low_spec hlow with h|h<;>(simp only at h; subst h; exact ⟨_,rfl,hx⟩)
theorem q_pick {c x y:Operand} {b:Bool} (hg:gOK st g) (hc:ev st c=.lit (.bool b)):Step P st ⟨⟨d,g,.pick c x y⟩,bif b then ev st x else ev st y,[],[],0⟩ :=
 step_val [] hg fun o C E a w sx hlow R hr hh=>by
  have h1:=lit_eval (hr c (by simp [AOp.opds])) hc
  have hx:=hr x (by simp [AOp.opds])
  have hy:=hr y (by simp [AOp.opds])
  obtain ⟨dst,op,ty,pos,after,guard⟩:=o
  have h:=low_spec hlow
  simp only [LowSpec] at h; subst h
  cases b with
  | true=>exact ⟨_,by simp [execOp,h1,asBool],hx⟩
  | false=>exact ⟨_,by simp [execOp,h1,asBool],hy⟩
end
def absInt (op:BinOp) (k:IntKind) (a b:Int):Option Value :=
 match op with
 | .add=>some (.int k (k.wrap (a+b)))
 | .sub=>some (.int k (k.wrap (a - b)))
 | .mul=>some (.int k (k.wrap (a * b)))
 | .and=>some (.int k (k.wrap (BitVec.ofInt k.bits a &&& BitVec.ofInt k.bits b).toNat))
 | .or=>some (.int k (k.wrap (BitVec.ofInt k.bits a ||| BitVec.ofInt k.bits b).toNat))
 | .xor=>some (.int k (k.wrap (BitVec.ofInt k.bits a ^^^ BitVec.ofInt k.bits b).toNat))
 | .andNot=>some (.int k (k.wrap (BitVec.ofInt k.bits a &&& ~~~ BitVec.ofInt k.bits b).toNat))
 | .eql=>some (.bool (a == b))
 | .neq=>some (.bool (a != b))
 | .lss=>some (.bool (decide (a<b)))
 | .leq=>some (.bool (decide (a≤b)))
 | .gtr=>some (.bool (decide (a > b)))
 | .geq=>some (.bool (decide (a ≥ b)))
 | _=>none
section
variable {P:Program} {st:St} {d:Option Nat} {g:Option (Nat × Bool)}
theorem eqGuard_run {w:World} (op:BinOp) (t:TypeId) (x y:Operand) (k k':IntKind) (a b:Int):(eqGuard op t x y (.int k a) (.int k' b)).run P w=.ok () w:=by
 cases op<;>rfl
theorem q_int {op:BinOp} {x y:Operand} {k:IntKind} {a b:Int} {v:Value} (hg:gOK st g) (hx:ev st x=.lit (.int k a)) (hy:ev st y=.lit (.int k b)) (hv:absInt op k a b=some v):Step P st ⟨⟨d,g,.bin op x y⟩,.lit v,[],[],0⟩ :=
 step_val [] hg fun o C E ac w sx hlow R hr hh=>by
  have h1:=lit_eval (hr x (by simp [AOp.opds])) hx
  have h2:=lit_eval (hr y (by simp [AOp.opds])) hy
  obtain ⟨dst,o,ty,pos,after,guard⟩:=o
  obtain ⟨t,t2,rfl⟩:=low_spec hlow
  refine ⟨v,?_,rfl⟩
  have hb:(binOp op t (.int k a) (.int k b)).run P w=.ok v w:=by
   cases op<;>simp only [absInt,Option.some.injEq] at hv<;>first
    | (cases hv; done)
    | (subst hv; simp [binOp,Op.intArith,Op.intBits,Op.intCmp])
  simp only [execOp,h1,h2,Sem.run_bind,eqGuard_run,Result.andThen_ok,hb,Sem.run_pure]
theorem q_div {x y:Operand} {k:IntKind} {a b:Int} (hg:gOK st g) (hx:ev st x=.lit (.int k a)) (hy:ev st y=.lit (.int k b)) (hb:b≠0):Step P st ⟨⟨d,g,.bin .quo x y⟩,.lit (.int k (k.wrap (a.tdiv b))),[],[],0⟩ :=
 step_val [] hg fun o C E ac w sx hlow R hr hh=>by
  have h1:=lit_eval (hr x (by simp [AOp.opds])) hx
  have h2:=lit_eval (hr y (by simp [AOp.opds])) hy
  obtain ⟨dst,o,ty,pos,after,guard⟩:=o
  obtain ⟨t,t2,rfl⟩:=low_spec hlow
  refine ⟨_,?_,rfl⟩
  have hb:(binOp .quo t (.int k a) (.int k b)).run P w=.ok (.int k (k.wrap (a.tdiv b))) w:=by
   simp [binOp,Op.intDiv,hb]
  simp only [execOp,h1,h2,Sem.run_bind,eqGuard_run,Result.andThen_ok,hb,Sem.run_pure]
theorem q_rem {x y:Operand} {k:IntKind} {a b:Int} (hg:gOK st g) (hx:ev st x=.lit (.int k a)) (hy:ev st y=.lit (.int k b)) (hb:b≠0):Step P st ⟨⟨d,g,.bin .rem x y⟩,.lit (.int k (a.tmod b)),[],[],0⟩ :=
 step_val [] hg fun o C E ac w sx hlow R hr hh=>by
  have h1:=lit_eval (hr x (by simp [AOp.opds])) hx
  have h2:=lit_eval (hr y (by simp [AOp.opds])) hy
  obtain ⟨dst,o,ty,pos,after,guard⟩:=o
  obtain ⟨t,t2,rfl⟩:=low_spec hlow
  refine ⟨_,?_,rfl⟩
  have hb:(binOp .rem t (.int k a) (.int k b)).run P w=.ok (.int k (a.tmod b)) w:=by
   simp [binOp,Op.intDiv,hb]
  simp only [execOp,h1,h2,Sem.run_bind,eqGuard_run,Result.andThen_ok,hb,Sem.run_pure]
def absBool (op:BinOp) (a b:Bool):Option Value :=
 match op with
 | .eql=>some (.bool (a == b))
 | .neq=>some (.bool (!(a == b)))
 | _=>none
theorem equalIn_bool {w:World} (n:Nat) {t:TypeId} (hu:P.underlying t=some .bool) (a b:Bool):(Op.equalIn (n+1) t (.bool a) (.bool b)).run P w=.ok (a == b) w:=by
 simp only [Op.equalIn,Sem.run_bind,run_underlying hu w,Result.andThen_ok,Sem.run_pure]
theorem q_bool {op:BinOp} {x y:Operand} {a b:Bool} {v:Value} (hg:gOK st g) (hx:ev st x=.lit (.bool a)) (hy:ev st y=.lit (.bool b)) (hv:absBool op a b=some v):Step P st ⟨⟨d,g,.binB op x y⟩,.lit v,[],[],0⟩ :=
 step_val [] hg fun o C E ac w sx hlow R hr hh=>by
  have h1:=lit_eval (hr x (by simp [AOp.opds])) hx
  have h2:=lit_eval (hr y (by simp [AOp.opds])) hy
  obtain ⟨dst,o,ty,pos,after,guard⟩:=o
  obtain ⟨t,t2,rfl,hu⟩:=low_spec hlow
  refine ⟨v,?_,rfl⟩
  have he:(Op.equal t (.bool a) (.bool b)).run P w=.ok (a == b) w:=equalIn_bool 9999 hu a b
  have hb:(binOp op t (.bool a) (.bool b)).run P w=.ok v w:=by
   cases op<;>simp only [absBool,Option.some.injEq] at hv<;>first
    | (cases hv; done)
    | (subst hv; simp [binOp,he])
  have hq:(eqGuard op t x y (.bool a) (.bool b)).run P w=.ok () w:=by cases op<;>rfl
  simp only [execOp,h1,h2,Sem.run_bind,hq,Result.andThen_ok,hb,Sem.run_pure]
theorem q_not {x:Operand} {b:Bool} (hg:gOK st g) (hx:ev st x=.lit (.bool b)):Step P st ⟨⟨d,g,.un .not x⟩,.lit (.bool !b),[],[],0⟩ :=
 step_val [] hg fun o C E ac w sx hlow R hr hh=>by
  have h1:=lit_eval (hr x (by simp [AOp.opds])) hx
  obtain ⟨dst,o,ty,pos,after,guard⟩:=o
  obtain ⟨t,rfl⟩:=low_spec hlow
  exact ⟨_,by simp [execOp,h1,Op.unary],rfl⟩
theorem q_neg {x:Operand} {k:IntKind} {n:Int} (hg:gOK st g) (hx:ev st x=.lit (.int k n)):Step P st ⟨⟨d,g,.un .neg x⟩,.lit (.int k (k.wrap (0 - n))),[],[],0⟩ :=
 step_val [] hg fun o C E ac w sx hlow R hr hh=>by
  have h1:=lit_eval (hr x (by simp [AOp.opds])) hx
  obtain ⟨dst,o,ty,pos,after,guard⟩:=o
  obtain ⟨t,rfl⟩:=low_spec hlow
  exact ⟨_,by simp [execOp,h1,Op.unary,Op.intArith],rfl⟩
theorem q_conv {x:Operand} {k k0:IntKind} {n:Int} (hg:gOK st g) (hx:ev st x=.lit (.int k0 n)):Step P st ⟨⟨d,g,.conv k x⟩,.lit (.int k (k.wrap n)),[],[],0⟩ :=
 step_val [] hg fun o C E ac w sx hlow R hr hh=>by
  have h1:=lit_eval (hr x (by simp [AOp.opds])) hx
  obtain ⟨dst,o,ty,pos,after,guard⟩:=o
  obtain ⟨s,dd,ds,rfl,hs,hd⟩:=low_spec hlow
  refine ⟨.int k (k.wrap n),?_,rfl⟩
  have hc:(convert s dd (.int k0 n)).run P w=.ok (.int k (k.wrap n)) w:=by
   unfold convert
   rw [Sem.run_bind,run_underlying hs w,Result.andThen_ok,Sem.run_bind,run_underlying hd w,Result.andThen_ok]
   cases ds<;>rfl
  simp only [execOp,h1,Sem.run_bind,hc,Result.andThen_ok,Sem.run_pure]
theorem fieldAt_run {w:World} {t:TypeId} {f:Nat} {fs:Array Field} {fd:Field} {gg:Bool} {n:Nat} (h1:P.underlying t=some (.struct fs)) (h2:fs[f]? = some fd) (h3:szOf P fd.type=some (gg,n)) (h4:0<n) (b off:Nat) :
 (Instr.fieldAt t (.pointer (some ⟨b,off,none⟩)) f).run P w=.ok (.pointer (some ⟨b,off+fd.offset,none⟩)) w:=by
 obtain ⟨dd,i,k1,k2,k3,_⟩:=szOf_spec h3
 have hsz:(sizeOf fd.type).run P w=.ok n w:=by simp [sizeOf,typeInfo,k2,k3]
 have hn:¬ n=0:=by omega
 simp only [Instr.fieldAt,Sem.run_bind,run_underlying h1 w,Result.andThen_ok,h2,Instr.sureAddr,Sem.run_pure,fieldPlace,hsz,if_neg hn,addr_add]
theorem q_faddr {x:Operand} {off id i off':Nat} (hg:gOK st g) (hx:ev st x=.optr id i off'):Step P st ⟨⟨d,g,.faddr off x⟩,.optr id i (off'+off),[],[],0⟩ :=
 step_val [] hg fun o C E ac w sx hlow R hr hh=>by
  have h1:=hr x (by simp [AOp.opds])
  rw [hx] at h1
  obtain ⟨hl1,b,hb,hv⟩:=h1
  obtain ⟨dst,o,ty,pos,after,guard⟩:=o
  obtain ⟨t,f,fs,fd,gg,n,rfl,k1,k2,k3,k4,rfl⟩:=low_spec hlow
  exact ⟨.pointer (some ⟨b,i * E.sz id+off'+fd.offset,none⟩),by simp only [execOp,hv,Sem.run_bind,fieldAt_run k1 k2 k3 k4,Result.andThen_ok,Sem.run_pure],hl1,b,hb,by rw [Nat.add_assoc]⟩
theorem q_faddrE {x:Operand} {off sz i off':Nat} {es:List (List AV)} (hg:gOK st g) (hx:ev st x=.ep sz es i off'):Step P st ⟨⟨d,g,.faddr off x⟩,.ep sz es i (off'+off),[],[],0⟩ :=
 step_val [] hg fun o C E ac w sx hlow R hr hh=>by
  have h1:=hr x (by simp [AOp.opds])
  rw [hx] at h1
  obtain ⟨b,oo,vs,hv,h2,h3,h4⟩:=h1
  obtain ⟨dst,o,ty,pos,after,guard⟩:=o
  obtain ⟨t,f,fs,fd,gg,n,rfl,k1,k2,k3,k4,rfl⟩:=low_spec hlow
  exact ⟨.pointer (some ⟨b,oo+(i * sz+off')+fd.offset,none⟩),by simp only [execOp,hv,Sem.run_bind,fieldAt_run k1 k2 k3 k4,Result.andThen_ok,Sem.run_pure],b,oo,vs,by simp only [Nat.add_assoc],h2,h3,h4⟩
theorem RdIE.get {im:Nat→Prop} {w:World} {sz:Nat}:∀ {es:List (List AV)} {vs:List Value} {i:Nat} {e:List AV},RdIE im w sz es vs→es[i]? = some e→RdIL im w e ((vs.drop (i * sz)).take sz)∧((vs.drop (i * sz)).take sz).length=sz
 | [],vs,i,e,h,hi=>by simp at hi
 | e0::es,vs,0,e,h,hi=>by
   simp only [RdIE] at h
   obtain ⟨x,rest,rfl,h1,h2,h3⟩:=h
   simp only [List.getElem?_cons_zero,Option.some.injEq] at hi
   subst hi
   have:(x++rest).take sz=x:=by rw [← h1]; simp
   rw [Nat.zero_mul,List.drop_zero,this]
   exact ⟨h2,h1⟩
 | e0::es,vs,i+1,e,h,hi=>by
   simp only [RdIE] at h
   obtain ⟨x,rest,rfl,h1,h2,h3⟩:=h
   have:=RdIE.get h3 (i:=i) (by simpa using hi)
   have hd:(x++rest).drop ((i+1) * sz)=rest.drop (i * sz):=by
    rw [Nat.add_mul,Nat.one_mul,Nat.add_comm,← List.drop_drop]
    congr 1
    rw [← h1]; simp
   rw [hd]; exact this
theorem ob_cells {E:Env} {w:World} {id:Nat} {o:OB} {b:Nat} (h:obOK E w id o) (hbp:ptrOf (E.val id)=some b) :
 ∃ vs,(∀ j v,vs[j]? = some v→w.cell? ⟨b,j,none⟩=some v)∧Ones vs∧∀ i e,o.es[i]? = some e→RdL E w e ((vs.drop (i * o.sz)).take o.sz)∧((vs.drop (i * o.sz)).take o.sz).length=o.sz:=by
 have hb:=ptr_blk hbp
 obtain ⟨k1,k2⟩:=h
 cases hrow:o.row with
 | true =>
   rw [hrow] at k2
   obtain ⟨vs,a,cap,j1,j2,j3,j4,j5⟩:=k2
   refine ⟨vs,fun j v hj => ?_,j4,fun i e hi => ?_⟩
   ·have hb':(E.val id).ownBlock=some b:=by rw [j1] at hb ⊢; cases a<;>simp [blkOf,Value.ownBlock] at hb ⊢; exact hb
    have:=j2.cells hb' j v hj
    rw [addr_add] at this; simpa using this
   ·obtain ⟨r1,r2⟩:=j3.get hi
    exact ⟨RdIL.rd _ _ r1,r2⟩
 | false =>
   rw [hrow] at k2
   obtain ⟨gg,vs,cs,j1,j2,j3,j4,j5,j6⟩:=obBox.box k2 hbp
   rw [j1] at hb
   simp only [blkOf,Option.some.injEq] at hb
   subst hb
   refine ⟨vs,fun j v hj=>by simp only [World.cell?,j2]; simpa using hj,j6,fun i e hi => ?_⟩
   rw [j3] at hi
   cases i with
   | zero =>
     simp only [List.getElem?_cons_zero,Option.some.injEq] at hi
     subst hi
     rw [Nat.zero_mul,List.drop_zero,List.take_of_length_le (by omega)]
     exact ⟨j5,j4⟩
   | succ i=>simp at hi
def cut (e:List AV) (off n:Nat):Option (List AV):=bif Nat.ble (off+n) e.length then some ((e.drop off).take n) else none
theorem cut_spec {e cs:List AV} {off n:Nat} (h:cut e off n=some cs):off+n≤e.length∧cs=(e.drop off).take n:=by
 unfold cut at h
 cases hb:Nat.ble (off+n) e.length with
 | false=>simp [hb] at h
 | true=>simp only [hb,cond_true,Option.some.injEq] at h; exact ⟨Nat.le_of_ble_eq_true hb,h.symm⟩
theorem load_run {E:Env} {w:World} {t:TypeId} {gg:Bool} {n:Nat} (hs:szOf P t=some (gg,n)) {b o sz i off:Nat} {vs:List Value} (hc:∀ j v,vs[j]? = some v→w.cell? ⟨b,o+j,none⟩=some v)
 (h1:Ones vs) {e cs:List AV} (hr:RdL E w e ((vs.drop (i * sz)).take sz)) (hlen:((vs.drop (i * sz)).take sz).length=sz) (hcut:cut e off n=some cs) {v:AV} (hv:ofCells gg cs=some v) :
 ∃ u,(Instr.loadAt t (.pointer (some ⟨b,o+(i * sz+off),none⟩))).run P w=.ok u w∧Rd E w v u:=by
 obtain ⟨c1,rfl⟩:=cut_spec hcut
 have hel:=hr.length
 rw [hlen] at hel
 have hcells:∀ j u,((((vs.drop (i * sz)).take sz).drop off).take n)[j]? = some u→w.cell? ⟨b,o+(i * sz+off)+j,none⟩=some u:=fun j u hj=>by
  rw [List.getElem?_take] at hj
  split at hj
  ·rw [List.getElem?_drop,List.getElem?_take] at hj
   split at hj
   ·rw [List.getElem?_drop] at hj
    have:=hc _ u hj
    rw [show o+(i * sz+off)+j=o+(i * sz+(off+j)) from by omega]; exact this
   ·cases hj
  ·cases hj
 have hload:=run_loadVar_at (P:=P) (w:=w) (b:=b) (o:=o+(i * sz+off)) hs (by rw [List.length_take,List.length_drop,hlen]; omega) hcells
 refine ⟨_,?_,ofCells_rd (n:=n) hv (fun u hu=>h1 u (List.mem_of_mem_drop (List.mem_of_mem_take (List.mem_of_mem_drop (List.mem_of_mem_take hu))))) ((hr.drop off).take n)⟩
 simp only [Instr.loadAt,Instr.sureAddr,Sem.run_bind,Sem.run_pure,Result.andThen_ok]
 exact hload
theorem q_load {gg:Bool} {n:Nat} {x:Operand} {id i off:Nat} {ob:OB} {e cs:List AV} {v:AV} (hg:gOK st g) (hx:ev st x=.optr id i off) (ho:hl st.h id=some ob) (he:ob.es[i]? = some e) (hcut:cut e off n=some cs) (hv:ofCells gg cs=some v) :
 Step P st ⟨⟨d,g,.load gg n x⟩,v,[id],[],0⟩ :=
  step_val [id] hg fun o C E ac w sx hlow R hr hh=>by
 have h1:=hr x (by simp [AOp.opds])
 rw [hx] at h1
 obtain ⟨hl1,b,hb,hpv⟩:=h1
 obtain ⟨dst,o,ty,pos,after,guard⟩:=o
 obtain ⟨t,rfl,hs⟩:=low_spec hlow
 have hok:=R.heap.ob id ob hl1 (by rw [hh id (by simp)]; exact ho)
 obtain ⟨vs,k1,k2,k3⟩:=ob_cells hok hb
 obtain ⟨r1,r2⟩:=k3 i e he
 obtain ⟨u,hu,hru⟩:=load_run (P:=P) (o:=0) hs (fun j v hj=>by rw [Nat.zero_add]; exact k1 j v hj) k2 r1 r2 hcut hv
 rw [Nat.zero_add,← hok.1] at hu
 exact ⟨u,by simp only [execOp,hpv,Sem.run_bind,hu,Result.andThen_ok,Sem.run_pure],hru⟩
theorem q_loadE {gg:Bool} {n:Nat} {x:Operand} {sz i off:Nat} {es:List (List AV)} {e cs:List AV} {v:AV} (hg:gOK st g) (hx:ev st x=.ep sz es i off) (he:es[i]? = some e) (hcut:cut e off n=some cs) (hv:ofCells gg cs=some v) :
 Step P st ⟨⟨d,g,.load gg n x⟩,v,[],[],0⟩ :=
  step_val [] hg fun o C E ac w sx hlow R hr hh=>by
 have h1:=hr x (by simp [AOp.opds])
 rw [hx] at h1
 obtain ⟨b,oo,vs,hpv,h2,h3,h4⟩:=h1
 obtain ⟨dst,o,ty,pos,after,guard⟩:=o
 obtain ⟨t,rfl,hs⟩:=low_spec hlow
 obtain ⟨r1,r2⟩:=h4.get he
 obtain ⟨u,hu,hru⟩:=load_run (P:=P) (o:=oo) hs (fun j v hj=>by
  obtain ⟨b',o',e1,_,hc⟩:=h2 j v hj
  simp only [Option.some.injEq,Addr.mk.injEq,and_true] at e1
  obtain ⟨rfl,rfl⟩:=e1
  exact hc) h3 (RdIL.rd (E:=E) _ _ r1) r2 hcut hv
 exact ⟨u,by simp only [execOp,hpv,Sem.run_bind,hu,Result.andThen_ok,Sem.run_pure],hru⟩
theorem q_extract {i:Nat} {x:Operand} {vs:List AV} {v:AV} (hg:gOK st g) (hx:ev st x=.tup vs) (hv:vs[i]? = some v):Step P st ⟨⟨d,g,.extract i x⟩,v,[],[],0⟩ :=
 step_val [] hg fun o C E ac w sx hlow R hr hh=>by
  have h1:=hr x (by simp [AOp.opds])
  rw [hx] at h1
  obtain ⟨us,hpv,hrl⟩:=h1
  obtain ⟨u,hu,hru⟩:=hrl.get hv
  obtain ⟨dst,o,ty,pos,after,guard⟩:=o
  have h:=low_spec hlow
  simp only [LowSpec] at h; subst h
  exact ⟨u,by simp [execOp,hpv,Instr.extract,hu],hru⟩
theorem q_field {gg:Bool} {off n:Nat} {x:Operand} {cs cs':List AV} {v:AV} (hg:gOK st g) (hx:ev st x=.agg cs) (hcut:cut cs off n=some cs') (hv:ofCells gg cs'=some v):Step P st ⟨⟨d,g,.field gg off n x⟩,v,[],[],0⟩ :=
 step_val [] hg fun o C E ac w sx hlow R hr hh=>by
  have h1:=hr x (by simp [AOp.opds])
  rw [hx] at h1
  obtain ⟨us,hpv,h0,hrl⟩:=h1
  obtain ⟨dst,o,ty,pos,after,guard⟩:=o
  obtain ⟨t,f,fs,fd,rfl,k1,k2,k3,rfl⟩:=low_spec hlow
  obtain ⟨c1,rfl⟩:=cut_spec hcut
  obtain ⟨dd,i,j1,j2,j3,j4,j5⟩:=szOf_spec k3
  have hl:=hrl.length
  refine ⟨bif gg then .agg (((us.drop fd.offset).take n).toArray) else ((us.drop fd.offset).take n).getD 0 undef,?_,ofCells_rd (n:=n) hv (fun u hu=>h0 u (List.mem_of_mem_drop (List.mem_of_mem_take hu))) ((hrl.drop _).take n)⟩
  have hpart:(part fd.type us.toArray fd.offset).run P w=.ok (bif gg then .agg (((us.drop fd.offset).take n).toArray) else ((us.drop fd.offset).take n).getD 0 undef) w:=by
   have hagg:(isAgg fd.type).run P w=.ok gg w:=by
    unfold isAgg
    rw [Sem.run_bind,run_underlying j1 w]
    rw [j4]; cases dd<;>rfl
   unfold part
   rw [Sem.run_bind,hagg,Result.andThen_ok]
   cases gg with
   | true =>
     simp only [if_true,Sem.run_bind,sizeOf,typeInfo,cond_true]
     simp [j2,j3]
   | false =>
     have hn:=j5 rfl
     subst hn
     have hlt:fd.offset<us.length:=by omega
     simp [hlt,List.getD]
  simp only [execOp,hpv,Instr.field,Sem.run_bind,run_underlying k1 w,Result.andThen_ok,k2,asAgg,Sem.run_pure,hpart]
end
theorem eqvS_run {P:Program} {w:World} {t e:TypeId} (hu:P.underlying t=some (.slice e)) (a:Option Addr) (n c:Nat):(binOp .eql t (.slice a n c) (.slice none 0 0)).run P w=.ok (.bool a.isNone) w:=Lib.run_eql_slice_nil w t e a n c 0 0 hu
theorem q_eqvS {P:Program} {st:St} {d:Option Nat} {g:Option (Nat × Bool)} {t e:TypeId} {x y:Operand} {a:Option Addr} {n c:Nat} (hu:P.underlying t=some (.slice e)) (hg:gOK st g) (hx:ev st x=.lit (.slice a n c)) (hy:ev st y=.lit (.slice none 0 0)):Step P st ⟨⟨d,g,.eqv t false x y⟩,.lit (.bool a.isNone),[],[],0⟩ :=
 step_val [] hg fun o C E ac w sx hlow R hr hh=>by
  have h1:=lit_eval (hr x (by simp [AOp.opds])) hx
  have h2:=lit_eval (hr y (by simp [AOp.opds])) hy
  obtain ⟨dst,o,ty,pos,after,guard⟩:=o
  obtain ⟨t2,rfl⟩:=low_spec hlow
  refine ⟨_,?_,rfl⟩
  have hq:(eqGuard .eql t x y (.slice a n c) (.slice none 0 0)).run P w=.ok () w:=rfl
  simp only [execOp,h1,h2,Sem.run_bind,cond_false,hq,Result.andThen_ok,eqvS_run hu,Sem.run_pure]
def scal:AV→Bool
 | .any=>true
 | .lit _=>true
 | .tup l=>l.all fun x=>match x with|.any=>true|.lit _=>true|_=>false
 | _=>false
theorem scal_rdL {im:Nat→Prop} {E:Env} {w w':World}:∀ {l:List AV} {vs:List Value},(l.all fun x=>match x with|.any=>true|.lit _=>true|_=>false)=true→RdIL im w l vs→RdL E w' l vs
 | [],vs,_,h=>h
 | a::l,vs,hs,h=>by
   simp only [List.all_cons,Bool.and_eq_true] at hs
   simp only [RdIL] at h
   obtain ⟨v,rest,h1,h2,h3⟩:=h
   refine ⟨v,rest,h1,?_,scal_rdL hs.2 h3⟩
   cases a<;>simp at hs<;>first|trivial|exact h2
theorem scal_rd {im:Nat→Prop} {E:Env} {w w':World} {r:AV} {v:Value} (hs:scal r=true) (h:RdI im w r v):Rd E w' r v:=by
 cases r<;>simp only [scal] at hs<;>first
  | (cases hs; done)
  | trivial
  | exact h
  | skip
 simp only [RdI] at h
 obtain ⟨vs,h1,h2⟩:=h
 exact ⟨vs,h1,scal_rdL hs h2⟩
def restr (rd:List Nat) (h:Hp):Hp:=rd.map fun id=>(id,hl h id)
theorem hl_restr {h:Hp} {id:Nat} {o:OB}:∀ {rd:List Nat},hl (restr rd h) id=some o→id ∈ rd∧hl h id=some o
 | [],e=>by simp [restr,hl,look] at e
 | k::rd,e=>by
   by_cases hk:k=id
   ·subst hk
    simp only [restr,List.map_cons,hl,look,Nat.beq_refl,cond_true] at e
    refine ⟨by simp,?_⟩
    split at e
    ·rename_i o' ho; simp only [Option.some.injEq] at e ho; rw [← e]; exact ho
    ·cases e
   ·have:hl (restr (k::rd) h) id=hl (restr rd h) id:=by simp only [restr,List.map_cons,hl,look,beq_ne hk,cond_false]
    rw [this] at e
    obtain ⟨h1,h2⟩:=hl_restr e
    exact ⟨List.mem_cons_of_mem _ h1,h2⟩
theorem HeapOK.restr {E:Env} {w:World} {h h':Hp} {rd:List Nat} (H:HeapOK E w h) (e:∀ id ∈ rd,hl h id=hl h' id):HeapOK E w (restr rd h'):=by
 have key:∀ id o,hl (Go.Proofs.YtnnipocjapblkaaGreat.restr rd h') id=some o→hl h id=some o:=fun id o ho=>by
  obtain ⟨h1,h2⟩:=hl_restr ho
  rw [e id h1]; exact h2
 exact ⟨fun id o h1 h2=>H.ob id o h1 (key id o h2),fun id id' o o' b h1 h2 h3 h4=>H.apart id id' o o' b h1 h2 (key _ _ h3) (key _ _ h4),fun id o b h1 h2=>H.im id o b h1 (key _ _ h2),H.lt⟩
mutual
def refAV (k:Nat→List Nat):AV→List Nat
 | .own id=>k id
 | .optr id _ _=>k id
 | .osl id _ _=>k id
 | .agg cs=>refL k cs
 | .tup cs=>refL k cs
 | .fn _ fi ca=>refL k fi++refL k ca
 | _=>[]
def refL (k:Nat→List Nat):List AV→List Nat
 | []=>[]
 | a::l=>refAV k a++refL k l
end
def refsN (h:Hp):Nat→AV→List Nat
 | 0,_=>[]
 | n+1,av=>refAV (fun id=>id::match hl h id with
   | some o=>bif o.row || Nat.beq o.sz 0 then [] else match o.es with|[cs]=>refL (fun id=>refsN h n (.own id)) cs|_=>[]
   | none=>[]) av
theorem obOK.mono {E E':Env} {w w':World} {id:Nat} {o:OB} (h:obOK E w id o) (hid:E'.val id=E.val id∧E'.sz id=E.sz id) (hl:∀ id,E.live id→E'.live id∧E'.val id=E.val id∧E'.sz id=E.sz id) (hi:∀ b,E.im b→E'.im b)
 (hw:∀ b,E.im b→w'.heap[b]? = w.heap[b]?) (hb:∀ b,blkOf (E.val id)=some b→w'.heap[b]? = w.heap[b]?):obOK E' w' id o:=by
 obtain ⟨k1,k2⟩:=h
 refine ⟨by rw [hid.2]; exact k1,?_⟩
 cases hrow:o.row with
 | true =>
   rw [hrow] at k2
   obtain ⟨vs,a,cap,j1,j2,j3,j4,j5⟩:=k2
   refine ⟨vs,a,cap,by rw [hid.1]; exact j1,?_,RdIE.mono hi hw _ _ _ j3,j4,j5⟩
   rw [hid.1]
   refine ⟨j2.1,?_⟩
   rcases j2.2 with h|⟨g,c,cur,hv,h0,hg,rest⟩
   ·exact .inl h
   ·exact .inr ⟨g,c,cur,hv,h0,by rw [hb g (by rw [hv]; rfl)]; exact hg,rest⟩
 | false =>
   rw [hrow] at k2
   rcases k2 with ⟨hz,g,vs,cs,j1,j2,j3,j4,j5,j6⟩|⟨hz,g,es,clock,j1,j2,j3,j4⟩
   ·exact .inl ⟨hz,g,vs,cs,by rw [hid.1]; exact j1,by rw [hb g (by rw [j1]; rfl)]; exact j2,j3,j4,RdL.mono hl hi hw _ _ j5,j6⟩
   ·exact .inr ⟨hz,g,es,clock,by rw [hid.1]; exact j1,by rw [hb g (by rw [j1]; rfl)]; exact j2,RdM.imp (fun cs vs=>RdIL.mono hi hw cs vs) _ _ j3,j4⟩
theorem Rel.grow {C:Ctx} {E E':Env} {st:St} {a:Act} {w w':World} (R:Rel C E st a w) (hx:Ext E E' w w') (hlv:∀ id,E'.live id→E.live id):Rel C E' st a w':=by
 have hw:∀ b,E.im b→w'.heap[b]? = w.heap[b]? := fun b hb=>hx.bel.block b (R.heap.lt b hb)
 have hval:∀ id,E'.live id→E'.val id=E.val id:=fun id h=>(hx.live id (hlv id h)).2.1
 refine ⟨R.defers,R.size,fun n=>Rd.mono hx.live hx.im hw _ _ (R.tm n),⟨?_,?_,?_,hx.lt⟩,fun id h=>R.nx id (hlv id h),?_,?_,fun b hb=>hx.im b (R.imx b hb),?_,?_⟩
 ·intro id o h1 h2
  have hl1:=hlv id h1
  exact (R.heap.ob id o hl1 h2).mono (hx.live id hl1).2 hx.live hx.im hw (fun b hb=>hx.bel.block b (R.heap.blk_lt hl1 h2 hb))
 ·intro id id' o o' b h1 h2 h3 h4 h5 h6
  rw [hval id h1] at h5; rw [hval id' h2] at h6
  exact R.heap.apart id id' o o' b (hlv _ h1) (hlv _ h2) h3 h4 h5 h6
 ·intro id o b h1 h2 h3
  rw [hval id h1] at h3
  have hl1:=hlv id h1
  rw [← R.heap.im id o b hl1 h2 h3]
  constructor
  ·intro h
   rcases hx.new b h with h|h
   ·exact h
   ·have:=R.heap.blk_lt hl1 h2 h3; omega
  ·exact hx.im b
 ·intro id o b h1 h2 h3
  rw [hval id h1] at h3
  exact R.own id o b (hlv _ h1) h2 h3
 ·intro id hid
  obtain ⟨k1,k2,k3⟩:=R.ext id hid
  obtain ⟨j1,j2,j3⟩:=hx.live id k1
  exact ⟨j1,by rw [j2]; exact k2,by rw [j3]; exact k3⟩
 ·intro b hb
  rcases hx.new b hb with h|h
  ·exact R.imn b h
  ·have:=R.frm.size; exact .inr (.inl (by omega))
 ·exact ⟨hx.bel.os.trans R.frm.os,hx.bel.tape.trans R.frm.tape,hx.bel.output.trans R.frm.output,Nat.le_trans R.frm.size hx.bel.size,fun k hk hX=>(hx.bel.block k (Nat.lt_of_lt_of_le hk R.frm.size)).trans (R.frm.block k hk hX)⟩
section
variable {P:Program} {st:St} {d:Option Nat} {g:Option (Nat × Bool)}
theorem len_run {w:World} {ρ:Operand→Value} {t:TypeId} {x:Operand} {dst:Option Tmp} {ty:TypeId} {pos:String} {after:Array Edge} {guard:Option (Nat × Bool)} {n:Nat} {a:Option Addr} {c:Nat} {e:TypeId}
 (he:P.underlying t=some (.slice e)) (hx:ρ x=.slice a n c) :
 (execOp ρ ⟨dst,.call { callee:=.builtin .len,args := #[x],argTypes := #[t] },ty,pos,after,guard⟩).run P w=.ok (.value (.int .i64 n)) w:=by
 have hlen:(Builtin.len_ #[t] ty #[ρ x]).run P w=.ok (.int .i64 n) w:=by
  rw [hx]
  simp [Builtin.len_,run_underlying he w,goInt]
 simp only [execOp,resolve,Sem.run_bind,Sem.run_pure,Result.andThen_ok,invoke,builtin,List.map_toArray,List.map_cons,List.map_nil,hlen]
theorem q_len {x:Operand} {sz:Nat} {es:List (List AV)} (hg:gOK st g) (hx:ev st x=.sl sz es):Step P st ⟨⟨d,g,.len x⟩,.lit (.int .i64 es.length),[],[],0⟩ :=
 step_val [] hg fun o C E ac w sx hlow R hr hh=>by
  have h1:=hr x (by simp [AOp.opds])
  rw [hx] at h1
  obtain ⟨a,cap,vs,hv,_⟩:=h1
  obtain ⟨dst,o,ty,pos,after,guard⟩:=o
  obtain ⟨t,rfl,e,he⟩:=low_spec hlow
  exact ⟨_,len_run he hv,rfl⟩
theorem q_lenO {x:Operand} {id:Nat} {ob:OB} (hg:gOK st g) (hx:ev st x=.own id) (ho:hl st.h id=some ob) (hrow:ob.row=true):Step P st ⟨⟨d,g,.len x⟩,.lit (.int .i64 ob.es.length),[id],[],0⟩ :=
 step_val [id] hg fun o C E ac w sx hlow R hr hh=>by
  have h1:=hr x (by simp [AOp.opds])
  rw [hx] at h1
  obtain ⟨hl1,_,hv⟩:=h1
  obtain ⟨dst,o,ty,pos,after,guard⟩:=o
  obtain ⟨t,rfl,e,he⟩:=low_spec hlow
  obtain ⟨k1,k2⟩:=R.heap.ob id ob hl1 (by rw [hh id (by simp)]; exact ho)
  rw [hrow] at k2
  obtain ⟨vs,a,cap,j1,_⟩:=k2
  exact ⟨_,len_run he (hv.trans j1),rfl⟩
theorem indexAt_run {w:World} {t e:TypeId} {gg:Bool} {sz:Nat} {k:IntKind} {z:Int} {a:Addr} {n c:Nat} (hu:P.underlying t=some (.slice e)) (hs:szOf P e=some (gg,sz)) (h0:0≤z) (h1:z<n) :
 (Instr.indexAt t (.slice (some a) n c) (.int k z)).run P w=.ok (.pointer (some (a.add (z.toNat * sz)))) w:=by
 obtain ⟨dd,i,k1,k2,k3,_⟩:=szOf_spec hs
 have hsz:(sizeOf e).run P w=.ok sz w:=by simp [sizeOf,typeInfo,k2,k3]
 simp only [Instr.indexAt,asIntOf,Sem.run_bind,Sem.run_pure,Result.andThen_ok,run_underlying hu w,if_pos (And.intro h0 h1),hsz]
theorem q_iaddr {x y:Operand} {sz:Nat} {es:List (List AV)} {k:IntKind} {z:Int} (hg:gOK st g) (hx:ev st x=.sl sz es) (hy:ev st y=.lit (.int k z)) (h0:0≤z) (h1:z<es.length):Step P st ⟨⟨d,g,.iaddr sz x y⟩,.ep sz es z.toNat 0,[],[],0⟩ :=
 step_val [] hg fun o C E ac w sx hlow R hr hh=>by
  have hv:=hr x (by simp [AOp.opds])
  have hz:=lit_eval (hr y (by simp [AOp.opds])) hy
  rw [hx] at hv
  obtain ⟨a,cap,vs,hv,hle,hnil,hmax,hat,h1s,hrd⟩:=hv
  obtain ⟨dst,o,ty,pos,after,guard⟩:=o
  obtain ⟨t,e,gg,rfl,hu,hs,hpos⟩:=low_spec hlow
  obtain ⟨b,off,rfl⟩:∃ b off,a=some ⟨b,off,none⟩:=by
   cases a with
   | none=>have:=hnil rfl; omega
   | some aa =>
     obtain ⟨e0,he0⟩:∃ e0,es[0]? = some e0:=⟨es[0]'(by omega),by simp⟩
     have hsz:=(hrd.get he0).2
     rw [Nat.zero_mul,List.drop_zero] at hsz
     obtain ⟨v0,hv0⟩:∃ v0,vs[0]? = some v0:=by
      have:0<vs.length:=by rw [List.length_take] at hsz; omega
      exact ⟨vs[0],by simp [this]⟩
     obtain ⟨b,off,e1,_⟩:=hat 0 v0 hv0
     exact ⟨b,off,e1⟩
  refine ⟨.pointer (some ⟨b,off+(z.toNat * sz+0),none⟩),?_,b,off,vs,rfl,hat,h1s,hrd⟩
  simp only [execOp,hv,hz,Sem.run_bind,indexAt_run hu hs h0 h1,addr_add,Result.andThen_ok,Sem.run_pure,Nat.add_zero]
theorem q_iaddrO {x y:Operand} {sz id:Nat} {ob:OB} {k:IntKind} {z:Int} (hg:gOK st g) (hx:ev st x=.own id) (ho:hl st.h id=some ob) (hrow:ob.row=true) (hsz:ob.sz=sz) (hy:ev st y=.lit (.int k z)) (h0:0≤z) (h1:z<ob.es.length):Step P st ⟨⟨d,g,.iaddr sz x y⟩,.optr id z.toNat 0,[id],[],0⟩ :=
 step_val [id] hg fun o C E ac w sx hlow R hr hh=>by
  have hv:=hr x (by simp [AOp.opds])
  have hz:=lit_eval (hr y (by simp [AOp.opds])) hy
  rw [hx] at hv
  obtain ⟨hl1,_,hv⟩:=hv
  obtain ⟨dst,o,ty,pos,after,guard⟩:=o
  obtain ⟨t,e,gg,rfl,hu,hs,hpos⟩:=low_spec hlow
  obtain ⟨k1,k2⟩:=R.heap.ob id ob hl1 (by rw [hh id (by simp)]; exact ho)
  rw [hrow] at k2
  obtain ⟨vs,a,cap,j1,j2,_⟩:=k2
  rcases j2.2 with ⟨_,h00⟩|⟨b,c,cur,hvv,_⟩
  ·omega
  ·refine ⟨.pointer (some ⟨b,z.toNat * E.sz id+0,none⟩),?_,hl1,b,by rw [hvv]; rfl,rfl⟩
   have hvv':ac.eval x=.slice (some ⟨b,0,none⟩) ob.es.length c:=hv.trans hvv
   simp only [execOp,hvv',hz,Sem.run_bind,indexAt_run hu hs h0 h1,addr_add,Result.andThen_ok,Sem.run_pure,Nat.add_zero,Nat.zero_add,k1,hsz]
theorem rdL_evs {E:Env} {ac:Act} {w:World}:∀ {l:List Operand},(∀ x ∈ l,Rd E w (ev st x) (ac.eval x))→RdL E w (l.map (ev st)) (l.map ac.eval)
 | [],_=>rfl
 | x::l,h=>⟨_,_,rfl,h x (by simp),rdL_evs (fun y hy=>h y (List.mem_cons_of_mem _ hy))⟩
theorem q_mkfn {f:FuncId} {fi ca:List Operand} (hg:gOK st g):Step P st ⟨⟨d,g,.mkfn f fi ca⟩,.fn f (fi.map (ev st)) (ca.map (ev st)),[],[],0⟩ :=
 step_val [] hg fun o C E ac w sx hlow R hr hh=>by
  obtain ⟨dst,o,ty,pos,after,guard⟩:=o
  have h:=low_spec hlow
  simp only [LowSpec] at h; subst h
  refine ⟨.func (.func f) (fi.map ac.eval).toArray (ca.map ac.eval).toArray,by simp [execOp,Instr.makeFunc],fi.map ac.eval,ca.map ac.eval,rfl,rdL_evs (fun x hx=>hr x (by simp [AOp.opds,hx])),rdL_evs (fun x hx=>hr x (by simp [AOp.opds,hx]))⟩
theorem callFunc_run {w : World} {f : FuncId} {fn : Func} {vs : Array Value} (h1 : P.funcs[f]? = some fn) (h2 : (fn.name == "runtime.NumGoroutine") = false) (h3 : fn.body.isNone = false) : (callFunc f vs).run P w = .ok (.enter f vs) w := by
 have hp:(program).run P w=.ok P w:=rfl
 simp only [callFunc,Sem.run_bind,hp,Result.andThen_ok,h1,h2,h3,Bool.false_eq_true,if_false,Sem.run_pure]
theorem q_call {fo:Operand} {args:List Operand} {f:FuncId} {fi ca avs avs':List AV} {r:AV} (ro:Bool) (rd:List Nat) (hg:gOK st g) (hf:ev st fo=.fn f fi ca)
 (hv:optAll (viewN ro (restr rd st.h) 4) (fi++(args.map (ev st)++ca))=some avs) (hs:SubL avs avs') (hc:ACalls P f avs' r) (hro:(ro || scal r)=true):Step P st ⟨⟨d,g,.call fo args⟩,r,rd,[],0⟩:=by
 intro N ops o hlow C E a w sx hN R hag hh hnw K Q hK
 rw [if_pos (wanted_of hlow R hag hg)]
 obtain ⟨h1,h2,h3,h4⟩:=lower_parts hlow
 have hr:∀ x ∈ fo::args,Rd E w (ev st x) (a.eval x):=fun x hx=>eval_of R hag (by simpa [AOp.opds] using hx)
 have hfv:=hr fo (by simp)
 rw [hf] at hfv
 obtain ⟨vs,us,hfv,hfi,hca⟩:=hfv
 have hargs:RdL E w (args.map (ev st)) (args.map a.eval):=rdL_evs (fun x hx=>hr x (List.mem_cons_of_mem _ hx))
 have hall:RdL E w (fi++(args.map (ev st)++ca)) (vs++(args.map a.eval++us)):=hfi.append (hargs.append hca)
 have H0:HeapOK E w (restr rd st.h):=R.heap.restr (fun id hid=>hh id (.inl hid))
 have hview:∀ {l:List AV} {vals:List Value} {l':List AV},RdL E w l vals→optAll (viewN ro (restr rd st.h) 4) l=some l'→RdIL (imV ro E (restr rd st.h)) w l' vals:=by
  intro l
  induction l with
  | nil=>intro vals l' hrl he; simp only [optAll,Option.some.injEq] at he; subst he; exact hrl
  | cons x l ih =>
    intro vals l' hrl he
    simp only [optAll] at he
    cases hx:viewN ro (restr rd st.h) 4 x with
    | none=>simp [hx] at he
    | some y =>
      cases hl':optAll (viewN ro (restr rd st.h) 4) l with
      | none=>simp [hx,hl'] at he
      | some l'' =>
        simp only [hx,hl',Option.some.injEq] at he
        subst he
        obtain ⟨v,rest,e1,e2,e3⟩:=hrl
        exact ⟨v,rest,e1,view_rd H0 4 x v y e2 hx,ih e3 hl'⟩
 have him:∀ b,imV ro E (restr rd st.h) b→b<w.heap.size:=by
  rintro b (hb|⟨id,ob,k1,k2,k3,_⟩)
  ·exact H0.lt b hb
  ·exact H0.blk_lt k1 k2 k3
 obtain ⟨⟨fn,hfn,hname,hbody⟩,hcall⟩:=hc
 have hcc:=hcall (imV ro E (restr rd st.h)) w _ him (hs _ _ _ (hview hall hv))
 have hrun:(execOp a.eval o).run P w=.ok (.enter f (vs++(args.map a.eval++us)).toArray) w:=by
  obtain ⟨dst,op,ty,pos,after,guard⟩:=o
  obtain ⟨l,rfl⟩:=low_spec h3
  have hcf:(callFunc f (vs++(args.map a.eval++us)).toArray).run P w=.ok (.enter f (vs++(args.map a.eval++us)).toArray) w:=callFunc_run hfn hname hbody
  simp only [execOp,resolve,Sem.run_bind,hfv,Deferred.ofValue,Sem.run_pure,Result.andThen_ok,invoke]
  simpa using hcf
 unfold Oper.wp
 rw [hrun,Oper.upon_enter]
 refine hcc.mono ?_
 rintro e w' ⟨v,im',rfl,hr',hsub,hnew,hlt,hbel⟩
 show K _ _
 cases hsc:scal r with
 | true =>
   have hx:Ext E E w w':=⟨fun id h=>⟨h,rfl,rfl⟩,fun b h=>h,fun b h=>.inl h,fun b h=>Nat.lt_of_lt_of_le (R.heap.lt b h) hbel.size,hbel⟩
   refine hK v w' E ?_ (fun id h=>.inl h)
   have:=(R.grow hx (fun id h=>h)).put (d:=o.dst) (fun k hk=>by rw [hN]; exact h2 k hk) (scal_rd (w:=w') (w':=w') hsc hr')
   simp only [St.appx,List.nil_append]
   rw [show d=o.dst from h1]
   exact this
 | false =>
   rw [hsc,Bool.or_false] at hro
   subst hro
   have hE:∀ b,imV true E (restr rd st.h) b→E.im b:=by
    rintro b (hb|⟨id,ob,k1,k2,k3,k4⟩)
    ·exact hb
    ·exact (H0.im id ob b k1 k2 k3).2 (k4 rfl)
   let E':Env:={ E with im:=fun b=>E.im b∨im' b }
   have hx:Ext E E' w w':=by
    refine ⟨fun id h=>⟨h,rfl,rfl⟩,fun b h=>.inl h,?_,?_,hbel⟩
    ·rintro b (h|h)
     ·exact .inl h
     ·rcases hnew b h with h|h
      ·exact .inl (hE b h)
      ·exact .inr h
    ·rintro b (h|h)
     ·exact Nat.lt_of_lt_of_le (R.heap.lt b h) hbel.size
     ·exact hlt b h
   refine hK v w' E' ?_ (fun id h=>.inl h)
   have hr'':Rd E' w' r v:=RdI.rd _ _ (RdI.mono (fun b h=>.inr h) (fun b h=>rfl) _ _ hr')
   have:=(R.grow hx (fun id h=>h)).put (d:=o.dst) (fun k hk=>by rw [hN]; exact h2 k hk) hr''
   simp only [St.appx,List.nil_append]
   rw [show d=o.dst from h1]
   exact this
end
end Go.Proofs.YtnnipocjapblkaaGreat
