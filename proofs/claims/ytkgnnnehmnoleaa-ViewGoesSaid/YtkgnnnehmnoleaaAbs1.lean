/- An abstract layer over the walk, part 1: operations lowered, states of a call, a region in whatever order. No program in sight. -/
import Derived.WalkKit
import Derived.ArgAppend
import Derived.Orders
namespace Go.Proofs.Ytkgnnnehmnoleaa
set_option linter.unusedVariables false
open Go.RowKit

inductive AOp where
  | mov (x : Operand)
  | pick (c a b : Operand)
  | alloc (e : TypeId) (z : List Value)
  | box (e : TypeId) (n : Nat) (x : Operand)
  | build (z : List Value) (ps : List (Nat × Nat × Operand))
  | rowlit (e : TypeId) (sz len : Nat) (z : List Value) (ps : List (Nat × Operand))
  | load (g : Bool) (n : Nat) (x : Operand)
  | store (n : Nat) (p x : Operand)
  | nilck (x : Operand)
  | bin (op : BinOp) (x y : Operand)
  | binB (op : BinOp) (x y : Operand)
  | binS (op : BinOp) (x y : Operand)
  | eqv (t : TypeId) (neg : Bool) (x y : Operand)
  | un (op : UnOp) (x : Operand)
  | conv (k : IntKind) (x : Operand)
  | make (e : TypeId) (sz bytes : Nat) (z : List Value) (l c : Operand)
  | slice (sz : Nat) (x : Operand) (lo hi mx : Option Operand)
  | faddr (off : Nat) (x : Operand)
  | field (g : Bool) (off n : Nat) (x : Operand)
  | iaddr (sz : Nat) (x i : Operand)
  | iaddrA (len sz : Nat) (x i : Operand)
  | idx (g : Bool) (len sz : Nat) (x i : Operand)
  | sidx (x i : Operand)
  | extract (i : Nat) (x : Operand)
  | len (x : Operand)
  | slen (x : Operand)
  | append (e : TypeId) (sz bytes : Nat) (z : List Value) (s x : Operand)
  | copy (sz : Nat) (d s : Operand)
  | mm (mx : Bool) (x y : Operand)
  | mkfn (f : FuncId) (fi ca : List Operand)
  | call (f : Operand) (args : List Operand)
  | other (why : String)
  deriving Inhabited

def oL : Option Operand → List Operand | some x => [x] | none => []

def AOp.opds : AOp → List Operand
  | .mov x | .box _ _ x | .load _ _ x | .nilck x | .un _ x | .conv _ x | .faddr _ x | .field _ _ _ x | .extract _ x | .len x | .slen x => [x]
  | .pick c a b => [c, a, b]
  | .alloc .. | .other _ => []
  | .build _ ps => ps.map (·.2.2)
  | .rowlit _ _ _ _ ps => ps.map (·.2)
  | .store _ p x => [p, x]
  | .bin _ x y | .binB _ x y | .binS _ x y | .eqv _ _ x y | .mm _ x y | .iaddr _ x y | .iaddrA _ _ x y | .idx _ _ _ x y | .sidx x y => [x, y]
  | .make _ _ _ _ l c => [l, c]
  | .slice _ x lo hi mx => [x] ++ oL lo ++ oL hi ++ oL mx
  | .append _ _ _ _ s x => [s, x]
  | .copy _ d s => [d, s]
  | .mkfn _ fi ca => fi ++ ca
  | .call f args => f :: args

structure AInst where
  dst : Option Nat
  g : Option (Nat × Bool)
  op : AOp
  deriving Inhabited

def aggD : TypeDesc → Bool
  | .struct _ | .array _ _ => true
  | _ => false

/-- a type's cells: is it an aggregate, and how many -/
def szOf (P : Program) (t : TypeId) : Option (Bool × Nat) :=
  match P.underlying t, P.info? t with
  | some d, some i => if aggD d || Nat.beq i.size 1 then some (aggD d, i.size) else none
  | _, _ => none

/-- a type's zero cells, cells, bytes -/
def zeroOf (P : Program) (t : TypeId) : Option (List Value × Nat × Nat) :=
  match P.info? t with
  | some i => match i.zero with
    | some z => if Nat.beq z.cells.size i.size && z.cells.all (fun u => u.oneCell') && Nat.blt 0 i.size && Nat.blt 0 i.bytes then some (z.cells.toList, i.size, i.bytes) else none
    | none => none
  | none => none

def elemsOf (P : Program) (t : TypeId) : Option TypeId :=
  match P.underlying t with
  | some (.slice e) => some e
  | _ => none

def placesOf (P : Program) (t : TypeId) (n : Nat) : Option (Nat × Nat) :=
  match P.underlying t with
  | some (.struct fs) => match fs[n]? with
    | some f => (P.info? f.type).map fun i => (f.offset, i.size)
    | none => none
  | some (.array _ e) => (P.info? e).map fun i => (n * i.size, i.size)
  | _ => none

def fieldsOK (P : Program) (t : TypeId) : Bool :=
  match P.underlying t with
  | some (.struct fs) => fs.toList.all fun f => (P.info? f.type).isSome
  | some (.array _ e) => (P.info? e).isSome
  | _ => false

def optAll {α β : Type} (f : α → Option β) : List α → Option (List β)
  | [] => some []
  | a :: l => match f a, optAll f l with
    | some b, some bs => some (b :: bs)
    | _, _ => none

def lowerO (P : Program) (o : Op) : Option AOp :=
  match o with
  | .move x | .assign x => some (.mov x)
  | .pick c a b => some (.pick c a b)
  | .alloc t => match zeroOf P t with | some (z, _, _) => some (.alloc t z) | none => none
  | .box t x => match szOf P t with | some (_, n) => some (.box t n x) | none => none
  | .build t ps => match zeroOf P t, optAll (fun p : Nat × Operand => (placesOf P t p.1).map fun q => (q.1, q.2, p.2)) ps.toList with
    | some (z, _, _), some l => if fieldsOK P t then some (.build z l) else none
    | _, _ => none
  | .buildSlice t len ps => match elemsOf P t with
    | some e => match zeroOf P e with
      | some (z, sz, _) => if Nat.ble (len * sz) 16777216 && ps.toList.all (fun p => Nat.blt p.1 len) then some (.rowlit e sz len z ps.toList) else none
      | none => none
    | none => none
  | .load t x => match szOf P t with | some (g, n) => some (.load g n x) | none => none
  | .store t a x => match szOf P t with | some (_, n) => some (.store n a x) | none => none
  | .nilCheck x => some (.nilck x)
  | .binOp op t x y _ => match P.underlying t with
    | some (.int _) => some (.bin op x y)
    | some .bool => some (.binB op x y)
    | some .string => some (.binS op x y)
    | some _ => match op with | .eql => some (.eqv t false x y) | .neq => some (.eqv t true x y) | _ => none
    | none => none
  | .unOp op _ x => some (.un op x)
  | .convert s d x => match P.underlying s, P.underlying d with | some _, some (.int k) => some (.conv k x) | _, _ => none
  | .makeFunc (.func f) fi ca => some (.mkfn f fi.toList ca.toList)
  | .makeSlice t l c => match elemsOf P t with
    | some e => match zeroOf P e with
      | some (z, sz, by_) => some (.make e sz by_ z l c)
      | none => none
    | none => none
  | .slice t x lo hi mx => match elemsOf P t with
    | some e => match szOf P e with
      | some (_, sz) => some (.slice sz x lo hi mx)
      | none => none
    | none => none
  | .fieldAddr t x f => match P.underlying t with
    | some (.struct fs) => match fs[f]? with
      | some fd => match szOf P fd.type with
        | some (_, n) => if Nat.blt 0 n then some (.faddr fd.offset x) else none
        | none => none
      | none => none
    | _ => none
  | .field t x f => match P.underlying t with
    | some (.struct fs) => match fs[f]? with
      | some fd => match szOf P fd.type with
        | some (g, n) => some (.field g fd.offset n x)
        | none => none
      | none => none
    | _ => none
  | .indexAddr t x i => match P.underlying t with
    | some (.slice e) => match szOf P e with | some (_, n) => if Nat.blt 0 n then some (.iaddr n x i) else none | none => none
    | some (.array len e) => match szOf P e with | some (_, n) => some (.iaddrA len n x i) | none => none
    | _ => none
  | .index t x i => match P.underlying t with
    | some (.array len e) => match szOf P e with | some (g, n) => some (.idx g len n x i) | none => none
    | some .string => some (.sidx x i)
    | _ => none
  | .extract x i => some (.extract i x)
  | .call c => match c.callee with
    | .value f => some (.call f c.args.toList)
    | .builtin b => match b, c.args.toList, c.argTypes.toList with
      | .len, [x], [t] => match P.underlying t with
        | some (.slice _) => some (.len x)
        | some .string => some (.slen x)
        | _ => none
      | .append, [s, x], [t, t'] => if Nat.beq t t' then (match elemsOf P t with
        | some e => match zeroOf P e with
          | some (z, sz, by_) => some (.append e sz by_ z s x)
          | none => none
        | none => none) else none
      | .copy, [d, s], [t, t'] => match elemsOf P t, elemsOf P t' with
        | some e, some _ => match szOf P e with | some (_, sz) => some (.copy sz d s) | none => none
        | _, _ => none
      | .max, [x, y], _ => some (.mm true x y)
      | .min, [x, y], _ => some (.mm false x y)
      | _, _, _ => none
    | _ => none
  | _ => none

def lowerOp (P : Program) (N : Nat) (ops : Array Oper) (o : Oper) : Option AInst :=
  match (match o.dst with | some d => Nat.blt d N | none => true) with
  | false => none
  | true =>
  match (match o.guard with
    | none => some none
    | some (j, b) => ((ops[j]?).bind (·.dst)).map fun t => some (t, b)), lowerO P o.op with
  | some g, some op => some ⟨o.dst, g, op⟩
  | _, _ => none

/-- does it touch memory? -/
def AOp.heapy : AOp → Bool
  | .alloc .. | .box .. | .rowlit .. | .load .. | .store .. | .make .. | .append .. | .copy .. | .call .. | .slice .. | .eqv .. | .iaddr .. | .len .. | .idx .. => true
  | _ => false

inductive ACode where
  | skip
  | ops (draw : Bool) (l : List AInst) (free : List (Nat × Nat))
  | seq (a b : ACode)
  | cond (c : Operand) (a b : ACode)
  | block (id : Nat) (a : ACode)
  | loop (a : ACode)
  | exit (id : Nat)
  | ret
  deriving Inhabited

/-- do j's edges lead back to i? -/
def anc (ops : Array Oper) : Nat → Nat → Nat → Bool
  | 0, _, _ => false
  | n + 1, i, j => match ops[j]? with
    | some o => o.after.toList.any fun e => Region.binds .any e && (Nat.beq e.on i || (Nat.blt e.on j && anc ops n i e.on))
    | none => false

def tmpsOf (l : List Operand) : List Nat := l.filterMap fun | .tmp t => some t | _ => none

def readsOf (ops : Array Oper) (o : Oper) : List Nat :=
  tmpsOf o.op.operands.toList ++ (match o.guard with | some (g, _) => ((ops[g]?).bind (·.dst)).toList | none => [])

/-- do two operations of a region touch one temporary, which one of them writes? -/
def clash (ops : Array Oper) (x y : Oper) : Bool :=
  (match x.dst with | some d => (readsOf ops y).any (Nat.beq d) || (match y.dst with | some d' => Nat.beq d d' | none => false) | none => false) ||
  (match y.dst with | some d => (readsOf ops x).any (Nat.beq d) | none => false)

/-- where two operations touch one temporary the edges tell the order -/
def drawOK (ops : Array Oper) : Bool :=
  (List.range ops.size).all fun j => (List.range j).all fun i =>
    match ops[i]?, ops[j]? with
    | some x, some y => !clash ops x y || anc ops (j + 1) i j
    | _, _ => false

/-- the pairs that may touch the same memory, and whose order the edges leave open -/
def freeOf (ops : Array Oper) (l : List AInst) : List (Nat × Nat) :=
  (List.range ops.size).flatMap fun j => ((List.range j).filter fun i => match l[i]?, l[j]? with
    | some x, some y => x.op.heapy && y.op.heapy && !anc ops (j + 1) i j
    | _, _ => false).map fun i => (i, j)

def edgesOK (ops : Array Oper) : Bool :=
  (List.range ops.size).all fun j => match ops[j]? with
    | some o => o.after.toList.all fun e => !Region.binds .any e || Nat.blt e.on j
    | none => false

def lowerC (P : Program) (N : Nat) : Code → Option ACode
  | .skip => some .skip
  | .region id ops draw => match optAll (lowerOp P N ops) ops.toList with
    | some l => match draw with
      | false => some (.ops false l [])
      | true => if P.follows .mixedOrders && drawOK ops && edgesOK ops then some (.ops true l (freeOf ops l)) else none
    | none => none
  | .seq a b => match lowerC P N a, lowerC P N b with | some x, some y => some (.seq x y) | _, _ => none
  | .cond c a b => match lowerC P N a, lowerC P N b with | some x, some y => some (.cond c x y) | _, _ => none
  | .block id a => match lowerC P N a with | some x => some (.block id x) | none => none
  | .loop a => match lowerC P N a with | some x => some (.loop x) | none => none
  | .exit id => some (.exit id)
  | .ret => some .ret
  | _ => none

inductive ARes where
  | t (n : Nat)
  | c (n : Nat) (g : Bool) (sz : Nat)
  deriving Inhabited

structure AFn where
  N : Nat
  res : List ARes
  body : ACode
  deriving Inhabited

def lowerF (P : Program) (f : FuncId) : Option AFn :=
  match P.funcs[f]? with
  | some fn => match fn.body with
    | some b => bif fn.name == "runtime.NumGoroutine" then none else match lowerC P fn.ntmps b, optAll (fun (r : ResultVar) => match r with | .tmp t => some (ARes.t t) | .cell a t => (szOf P t).map fun q => .c a q.1 q.2) fn.results.toList with
      | some c, some r => some ⟨fn.ntmps, r, c⟩
      | _, _ => none
    | none => none
  | none => none

/-- what is known of a value -/
inductive AV where
  | any
  | lit (v : Value)
  | sl (sz : Nat) (es : List (List AV))
  | agg (cs : List AV)
  | tup (vs : List AV)
  | ep (sz : Nat) (es : List (List AV)) (i off : Nat)
  | own (id : Nat)
  | optr (id i off : Nat)
  | fn (f : FuncId) (first cap : List AV)
  deriving Inhabited

def maxN : Nat := 281474976710656

/-- the cells behind an address -/
def AtA (im : Nat → Prop) (w : World) (a : Option Addr) (vs : List Value) : Prop :=
  ∀ i v, vs[i]? = some v → ∃ b off, a = some ⟨b, off, none⟩ ∧ im b ∧ w.cell? ⟨b, off + i, none⟩ = some v

def Ones (vs : List Value) : Prop := ∀ u ∈ vs, u.oneCell' = true

mutual
/-- a value reads as this, by memory that no one writes -/
def RdI (im : Nat → Prop) (w : World) : AV → Value → Prop
  | .any, _ => True
  | .lit u, v => v = u
  | .sl sz es, v => ∃ a cap vs, v = .slice a es.length cap ∧ es.length ≤ cap ∧ (a = none → cap = 0) ∧ es.length ≤ maxN ∧ AtA im w a vs ∧ Ones vs ∧ RdIE im w sz es vs
  | .agg cs, v => ∃ vs, v = .agg vs.toArray ∧ Ones vs ∧ RdIL im w cs vs
  | .tup cs, v => ∃ vs, v = .tuple vs.toArray ∧ RdIL im w cs vs
  | .ep sz es i off, v => ∃ b o vs, v = .pointer (some ⟨b, o + (i * sz + off), none⟩) ∧ AtA im w (some ⟨b, o, none⟩) vs ∧ Ones vs ∧ RdIE im w sz es vs
  | .own _, _ => False
  | .optr _ _ _, _ => False
  | .fn f fi ca, v => ∃ vs us, v = .func (.func f) vs.toArray us.toArray ∧ RdIL im w fi vs ∧ RdIL im w ca us
def RdIL (im : Nat → Prop) (w : World) : List AV → List Value → Prop
  | [], vs => vs = []
  | a :: as, vs => ∃ v rest, vs = v :: rest ∧ RdI im w a v ∧ RdIL im w as rest
def RdIE (im : Nat → Prop) (w : World) (sz : Nat) : List (List AV) → List Value → Prop
  | [], vs => vs = []
  | e :: es, vs => ∃ x rest, vs = x ++ rest ∧ x.length = sz ∧ RdIL im w e x ∧ RdIE im w sz es rest
end

theorem AtA.mono {im im' : Nat → Prop} {w w' : World} {a : Option Addr} {vs : List Value} (h : AtA im w a vs) (hi : ∀ b, im b → im' b) (hw : ∀ b, im b → w'.heap[b]? = w.heap[b]?) : AtA im' w' a vs := fun i v hv => by
  obtain ⟨b, off, e, hb, hc⟩ := h i v hv
  exact ⟨b, off, e, hi b hb, (World.cell?_of_block (a := ⟨b, off + i, none⟩) (hw b hb)).trans hc⟩

mutual
theorem RdI.mono {im im' : Nat → Prop} {w w' : World} (hi : ∀ b, im b → im' b) (hw : ∀ b, im b → w'.heap[b]? = w.heap[b]?) : ∀ (av : AV) (v : Value), RdI im w av v → RdI im' w' av v
  | .any, _, h => h
  | .lit _, _, h => h
  | .sl sz es, v, h => by
    simp only [RdI] at h ⊢
    obtain ⟨a, cap, vs, h1, h2, h3, h4, h5, h6, h7⟩ := h
    exact ⟨a, cap, vs, h1, h2, h3, h4, h5.mono hi hw, h6, RdIE.mono hi hw sz es vs h7⟩
  | .agg cs, v, h => by
    simp only [RdI] at h ⊢
    obtain ⟨vs, h1, h0, h2⟩ := h
    exact ⟨vs, h1, h0, RdIL.mono hi hw cs vs h2⟩
  | .tup cs, v, h => by
    simp only [RdI] at h ⊢
    obtain ⟨vs, h1, h2⟩ := h
    exact ⟨vs, h1, RdIL.mono hi hw cs vs h2⟩
  | .ep sz es i off, v, h => by
    simp only [RdI] at h ⊢
    obtain ⟨b, o, vs, h1, h2, h3, h4⟩ := h
    exact ⟨b, o, vs, h1, h2.mono hi hw, h3, RdIE.mono hi hw sz es vs h4⟩
  | .own _, _, h => by simp only [RdI] at h
  | .optr _ _ _, _, h => by simp only [RdI] at h
  | .fn f fi ca, v, h => by
    simp only [RdI] at h ⊢
    obtain ⟨vs, us, h1, h2, h3⟩ := h
    exact ⟨vs, us, h1, RdIL.mono hi hw fi vs h2, RdIL.mono hi hw ca us h3⟩
theorem RdIL.mono {im im' : Nat → Prop} {w w' : World} (hi : ∀ b, im b → im' b) (hw : ∀ b, im b → w'.heap[b]? = w.heap[b]?) : ∀ (l : List AV) (vs : List Value), RdIL im w l vs → RdIL im' w' l vs
  | [], _, h => h
  | a :: as, vs, h => by
    simp only [RdIL] at h ⊢
    obtain ⟨v, rest, h1, h2, h3⟩ := h
    exact ⟨v, rest, h1, RdI.mono hi hw a v h2, RdIL.mono hi hw as rest h3⟩
theorem RdIE.mono {im im' : Nat → Prop} {w w' : World} (hi : ∀ b, im b → im' b) (hw : ∀ b, im b → w'.heap[b]? = w.heap[b]?) (sz : Nat) : ∀ (l : List (List AV)) (vs : List Value), RdIE im w sz l vs → RdIE im' w' sz l vs
  | [], _, h => h
  | e :: es, vs, h => by
    simp only [RdIE] at h ⊢
    obtain ⟨x, rest, h1, h2, h3, h4⟩ := h
    exact ⟨x, rest, h1, h2, RdIL.mono hi hw e x h3, RdIE.mono hi hw sz es rest h4⟩
end

/-- what the call's own names stand for -/
structure Env where
  im : Nat → Prop
  live : Nat → Prop
  val : Nat → Value
  sz : Nat → Nat

def blkOf : Value → Option Nat
  | .slice (some a) _ _ => some a.block
  | .pointer (some a) => some a.block
  | _ => none

mutual
def Rd (E : Env) (w : World) : AV → Value → Prop
  | .any, _ => True
  | .lit u, v => v = u
  | .sl sz es, v => RdI E.im w (.sl sz es) v
  | .ep sz es i off, v => RdI E.im w (.ep sz es i off) v
  | .agg cs, v => ∃ vs, v = .agg vs.toArray ∧ Ones vs ∧ RdL E w cs vs
  | .tup cs, v => ∃ vs, v = .tuple vs.toArray ∧ RdL E w cs vs
  | .own id, v => E.live id ∧ v.oneCell' = true ∧ v = E.val id
  | .optr id i off, v => E.live id ∧ ∃ b, blkOf (E.val id) = some b ∧ v = .pointer (some ⟨b, i * E.sz id + off, none⟩)
  | .fn f fi ca, v => ∃ vs us, v = .func (.func f) vs.toArray us.toArray ∧ RdL E w fi vs ∧ RdL E w ca us
def RdL (E : Env) (w : World) : List AV → List Value → Prop
  | [], vs => vs = []
  | a :: as, vs => ∃ v rest, vs = v :: rest ∧ Rd E w a v ∧ RdL E w as rest
end

mutual
theorem RdI.rd {E : Env} {w : World} : ∀ (av : AV) (v : Value), RdI E.im w av v → Rd E w av v
  | .any, _, h => trivial
  | .lit _, _, h => h
  | .sl sz es, v, h => h
  | .ep sz es i off, v, h => h
  | .agg cs, v, h => by
    simp only [RdI] at h; simp only [Rd]
    obtain ⟨vs, h1, h0, h2⟩ := h
    exact ⟨vs, h1, h0, RdIL.rd cs vs h2⟩
  | .tup cs, v, h => by
    simp only [RdI] at h; simp only [Rd]
    obtain ⟨vs, h1, h2⟩ := h
    exact ⟨vs, h1, RdIL.rd cs vs h2⟩
  | .own _, _, h => by simp only [RdI] at h
  | .optr _ _ _, _, h => by simp only [RdI] at h
  | .fn f fi ca, v, h => by
    simp only [RdI] at h; simp only [Rd]
    obtain ⟨vs, us, h1, h2, h3⟩ := h
    exact ⟨vs, us, h1, RdIL.rd fi vs h2, RdIL.rd ca us h3⟩
theorem RdIL.rd {E : Env} {w : World} : ∀ (l : List AV) (vs : List Value), RdIL E.im w l vs → RdL E w l vs
  | [], _, h => h
  | a :: as, vs, h => by
    simp only [RdIL] at h; simp only [RdL]
    obtain ⟨v, rest, h1, h2, h3⟩ := h
    exact ⟨v, rest, h1, RdI.rd a v h2, RdIL.rd as rest h3⟩
end

/-- one world, and what stands for the names, grows to another -/
structure Ext (E E' : Env) (w w' : World) : Prop where
  live : ∀ id, E.live id → E'.live id ∧ E'.val id = E.val id ∧ E'.sz id = E.sz id
  im : ∀ b, E.im b → E'.im b
  new : ∀ b, E'.im b → E.im b ∨ w.heap.size ≤ b
  lt : ∀ b, E'.im b → b < w'.heap.size
  bel : Below w.heap.size w w'

mutual
/-- a value reads on where the names stay and the memory that it reads -/
theorem Rd.mono {E E' : Env} {w w' : World} (hl : ∀ id, E.live id → E'.live id ∧ E'.val id = E.val id ∧ E'.sz id = E.sz id) (hi : ∀ b, E.im b → E'.im b) (hw : ∀ b, E.im b → w'.heap[b]? = w.heap[b]?) : ∀ (av : AV) (v : Value), Rd E w av v → Rd E' w' av v
  | .any, _, h => trivial
  | .lit _, _, h => h
  | .sl sz es, v, h => RdI.mono hi hw _ v h
  | .ep sz es i off, v, h => RdI.mono hi hw _ v h
  | .agg cs, v, h => by
    simp only [Rd] at h ⊢
    obtain ⟨vs, h1, h0, h2⟩ := h
    exact ⟨vs, h1, h0, RdL.mono hl hi hw cs vs h2⟩
  | .tup cs, v, h => by
    simp only [Rd] at h ⊢
    obtain ⟨vs, h1, h2⟩ := h
    exact ⟨vs, h1, RdL.mono hl hi hw cs vs h2⟩
  | .own id, v, h => by
    simp only [Rd] at h ⊢
    obtain ⟨h1, h0, h2⟩ := h
    obtain ⟨k1, k2, k3⟩ := hl id h1
    exact ⟨k1, h0, by rw [k2]; exact h2⟩
  | .optr id i off, v, h => by
    simp only [Rd] at h ⊢
    obtain ⟨h1, b, h2, h3⟩ := h
    obtain ⟨k1, k2, k3⟩ := hl id h1
    exact ⟨k1, b, by rw [k2]; exact h2, by rw [k3]; exact h3⟩
  | .fn f fi ca, v, h => by
    simp only [Rd] at h ⊢
    obtain ⟨vs, us, h1, h2, h3⟩ := h
    exact ⟨vs, us, h1, RdL.mono hl hi hw fi vs h2, RdL.mono hl hi hw ca us h3⟩
theorem RdL.mono {E E' : Env} {w w' : World} (hl : ∀ id, E.live id → E'.live id ∧ E'.val id = E.val id ∧ E'.sz id = E.sz id) (hi : ∀ b, E.im b → E'.im b) (hw : ∀ b, E.im b → w'.heap[b]? = w.heap[b]?) : ∀ (l : List AV) (vs : List Value), RdL E w l vs → RdL E' w' l vs
  | [], _, h => h
  | a :: as, vs, h => by
    simp only [RdL] at h ⊢
    obtain ⟨v, rest, h1, h2, h3⟩ := h
    exact ⟨v, rest, h1, Rd.mono hl hi hw a v h2, RdL.mono hl hi hw as rest h3⟩
end

def look {α : Type} : List (Nat × α) → Nat → Option α
  | [], _ => none
  | (k, v) :: r, n => bif Nat.beq k n then some v else look r n

/-- a block of the call's own: a slice's row, or a box; ro: nobody writes it any more -/
structure OB where
  row : Bool
  ro : Bool
  e : TypeId
  sz : Nat
  es : List (List AV)

abbrev Hp := List (Nat × Option OB)

def hl (h : Hp) (id : Nat) : Option OB := match look h id with | some (some o) => some o | _ => none

def obRow (E : Env) (w : World) (id : Nat) (o : OB) : Prop :=
  ∃ vs a cap, E.val id = .slice a o.es.length cap ∧ w.ownsRow 0 o.e o.sz (E.val id) o.es.length vs ∧ RdIE E.im w o.sz o.es vs ∧ Ones vs ∧ o.es.length ≤ maxN

def obBox (E : Env) (w : World) (id : Nat) (o : OB) : Prop :=
  ∃ g vs cs, E.val id = .pointer (some ⟨g, 0, none⟩) ∧ w.heap[g]? = some (.cells vs.toArray o.e (0, 0)) ∧ o.es = [cs] ∧ vs.length = o.sz ∧ RdL E w cs vs ∧ Ones vs

def obOK (E : Env) (w : World) (id : Nat) (o : OB) : Prop :=
  E.sz id = o.sz ∧ (bif o.row then obRow E w id o else obBox E w id o)

structure HeapOK (E : Env) (w : World) (h : Hp) : Prop where
  ob : ∀ id o, E.live id → hl h id = some o → obOK E w id o
  apart : ∀ id id' o o' b, E.live id → E.live id' → hl h id = some o → hl h id' = some o' → blkOf (E.val id) = some b → blkOf (E.val id') = some b → id = id'
  im : ∀ id o b, E.live id → hl h id = some o → blkOf (E.val id) = some b → (E.im b ↔ o.ro = true)
  lt : ∀ b, E.im b → b < w.heap.size

structure St where
  t : List (Nat × AV)
  h : Hp
  nx : Nat

def getT (t : List (Nat × AV)) (n : Nat) : AV := match look t n with | some v => v | none => .any
def St.get (st : St) (n : Nat) : AV := getT st.t n

/-- what does not change in a call -/
structure Ctx where
  X : Nat → Prop
  w0 : World
  N : Nat
  E0 : Env
  m : Nat
  ds : List Deferred

/-- blocks that were there when the call began have not changed, but those of X -/
structure Frm (X : Nat → Prop) (w w' : World) : Prop where
  os : w'.os = w.os
  tape : w'.tape = w.tape
  output : w'.output = w.output
  size : w.heap.size ≤ w'.heap.size
  block : ∀ k, k < w.heap.size → ¬ X k → w'.heap[k]? = w.heap[k]?

structure Rel (C : Ctx) (E : Env) (st : St) (a : Act) (w : World) : Prop where
  defers : a.defers = C.ds
  size : a.tmps.size = C.N
  tm : ∀ n, Rd E w (st.get n) (a.tmps.getD n undef)
  heap : HeapOK E w st.h
  nx : ∀ id, E.live id → id < st.nx
  own : ∀ id o b, E.live id → hl st.h id = some o → blkOf (E.val id) = some b → C.w0.heap.size ≤ b ∨ C.X b
  ext : ∀ id, id < C.m → E.live id ∧ E.val id = C.E0.val id ∧ E.sz id = C.E0.sz id
  imx : ∀ b, C.E0.im b → E.im b
  imn : ∀ b, E.im b → C.E0.im b ∨ C.w0.heap.size ≤ b ∨ C.X b
  frm : Frm C.X C.w0 w

theorem HeapOK.congr {E : Env} {w : World} {h h' : Hp} (H : HeapOK E w h) (e : ∀ id, hl h' id = hl h id) : HeapOK E w h' :=
  ⟨fun id o hl' ho => H.ob id o hl' (by rw [← e]; exact ho), fun id id' o o' b h1 h2 h3 h4 => H.apart id id' o o' b h1 h2 (by rw [← e]; exact h3) (by rw [← e]; exact h4),
   fun id o b h1 h2 => H.im id o b h1 (by rw [← e]; exact h2), H.lt⟩

theorem Rel.congr {C : Ctx} {E : Env} {st st' : St} {a : Act} {w : World} (R : Rel C E st a w) (ht : ∀ n, st'.get n = st.get n) (hh : ∀ id, hl st'.h id = hl st.h id) (hn : st.nx ≤ st'.nx) : Rel C E st' a w :=
  ⟨R.defers, R.size, fun n => by rw [ht]; exact R.tm n, R.heap.congr hh, fun id h => Nat.lt_of_lt_of_le (R.nx id h) hn, fun id o b h1 h2 => R.own id o b h1 (by rw [← hh]; exact h2), R.ext, R.imx, R.imn, R.frm⟩

/-- one step of a region: the operation, what it hands back, the blocks that it reads, those that it changes or makes -/
structure SD where
  i : AInst
  v : AV
  rd : List Nat
  upd : Hp
  nw : Bool

def putT (t : List (Nat × AV)) (d : Option Nat) (v : AV) : List (Nat × AV) := match d with | some n => (n, v) :: t | none => t

def St.appx (st : St) (s : SD) : St := ⟨putT st.t s.i.dst s.v, s.upd ++ st.h, st.nx⟩
def St.app (st : St) (s : SD) : St := ⟨putT st.t s.i.dst s.v, s.upd ++ st.h, bif s.nw then st.nx + 1 else st.nx⟩

def AInst.reads (i : AInst) : List Nat := tmpsOf (i.op.opds) ++ (match i.g with | some (t, _) => [t] | none => [])

/-- one operation, run in whatever state agrees with this one on what it reads and writes -/
def Step (P : Program) (st : St) (s : SD) : Prop :=
  ∀ (N : Nat) (ops : Array Oper) (o : Oper), lowerOp P N ops o = some s.i → ∀ (C : Ctx) (E : Env) (a : Act) (w : World) (sx : St), C.N = N → Rel C E sx a w →
    (∀ t ∈ s.i.reads, sx.get t = st.get t) → (∀ id, id ∈ s.rd ∨ id ∈ s.upd.map (·.1) → hl sx.h id = hl st.h id) →
    (s.nw = true → ¬ E.live st.nx ∧ st.nx < sx.nx) →
    ∀ (K : Act → World → Prop) (Q : Exit → Act → World → Prop),
      (∀ (v' : Value) (w' : World) (E' : Env), Rel C E' (sx.appx s) (a.put o.dst v') w' → (∀ id, E'.live id → E.live id ∨ (s.nw = true ∧ id = st.nx)) → K (a.put o.dst v') w') →
      if Region.wanted o (yielded ops a.tmps) then o.wp P a w K Q else K (a.put o.dst undef) w

end Go.Proofs.Ytkgnnnehmnoleaa

namespace Go.Proofs.Ytkgnnnehmnoleaa
set_option linter.unusedVariables false
open Go.RowKit

theorem getT_same (t : List (Nat × AV)) (d : Nat) (v : AV) : getT (putT t (some d) v) d = v := by
  simp [getT, putT, look]

theorem getT_ne (t : List (Nat × AV)) (d : Option Nat) (v : AV) (n : Nat) (h : d ≠ some n) : getT (putT t d v) n = getT t n := by
  cases d with
  | none => rfl
  | some k =>
    have : Nat.beq k n = false := by
      cases hb : Nat.beq k n
      · rfl
      · exact absurd (congrArg some (Nat.eq_of_beq_eq_true hb)) h
    simp [getT, putT, look, this]

theorem look_append {α : Type} (u h : List (Nat × α)) (id : Nat) : look (u ++ h) id = match look u id with | some x => some x | none => look h id := by
  induction u with
  | nil => rfl
  | cons p u ih =>
    obtain ⟨k, v⟩ := p
    simp only [List.cons_append, look]
    cases Nat.beq k id <;> simp [ih]

theorem look_none {α : Type} {u : List (Nat × α)} {id : Nat} (h : id ∉ u.map (·.1)) : look u id = none := by
  induction u with
  | nil => rfl
  | cons p u ih =>
    obtain ⟨k, v⟩ := p
    simp only [List.map_cons, List.mem_cons, not_or] at h
    have : Nat.beq k id = false := by
      cases hb : Nat.beq k id
      · rfl
      · exact absurd (Nat.eq_of_beq_eq_true hb).symm h.1
    simp [look, this, ih h.2]

theorem look_some {α : Type} {u : List (Nat × α)} {id : Nat} (h : id ∈ u.map (·.1)) : ∃ x, look u id = some x := by
  induction u with
  | nil => simp at h
  | cons p u ih =>
    obtain ⟨k, v⟩ := p
    simp only [look]
    cases hb : Nat.beq k id
    · simp only [List.map_cons, List.mem_cons] at h
      rcases h with h | h
      · subst h; simp at hb
      · exact ih h
    · exact ⟨v, rfl⟩

theorem hl_in (u h h' : Hp) (id : Nat) (hm : id ∈ u.map (·.1)) : hl (u ++ h) id = hl (u ++ h') id := by
  obtain ⟨x, hx⟩ := look_some hm
  simp [hl, look_append, hx]

theorem hl_out (u h : Hp) (id : Nat) (hm : id ∉ u.map (·.1)) : hl (u ++ h) id = hl h id := by
  simp [hl, look_append, look_none hm]

/-- the state behind the listed steps, these in the order of the text -/
def partSt (L : Nat → Bool) : St → List SD → Nat → St
  | st, [], _ => st
  | st, s :: ss, k => partSt L (bif L k then st.appx s else st) ss (k + 1)

theorem part_get (L L' : Nat → Bool) (t : Nat) : ∀ (ss : List SD) (k : Nat) (st st' : St), st.get t = st'.get t → (∀ i s, ss[i]? = some s → s.i.dst = some t → L (k + i) = L' (k + i)) →
    (partSt L st ss k).get t = (partSt L' st' ss k).get t
  | [], k, st, st', h, _ => h
  | s :: ss, k, st, st', h, hw => by
    simp only [partSt]
    refine part_get L L' t ss (k + 1) _ _ ?_ (fun i s' hs hd => by have := hw (i + 1) s' (by simpa using hs) hd; rw [show k + (i + 1) = k + 1 + i from by omega] at this; exact this)
    by_cases hd : s.i.dst = some t
    · have := hw 0 s (by simp) hd
      simp only [Nat.add_zero] at this
      rw [← this]
      cases L k
      · exact h
      · simp only [cond_true, St.get, St.appx, hd, getT_same]
    · have e1 : (bif L k then st.appx s else st).get t = st.get t := by
        cases L k
        · rfl
        · exact getT_ne _ _ _ _ hd
      have e2 : (bif L' k then st'.appx s else st').get t = st'.get t := by
        cases L' k
        · rfl
        · exact getT_ne _ _ _ _ hd
      rw [e1, e2]; exact h

theorem part_hl (L L' : Nat → Bool) (id : Nat) : ∀ (ss : List SD) (k : Nat) (st st' : St), hl st.h id = hl st'.h id → (∀ i s, ss[i]? = some s → id ∈ s.upd.map (·.1) → L (k + i) = L' (k + i)) →
    hl (partSt L st ss k).h id = hl (partSt L' st' ss k).h id
  | [], k, st, st', h, _ => h
  | s :: ss, k, st, st', h, hw => by
    simp only [partSt]
    refine part_hl L L' id ss (k + 1) _ _ ?_ (fun i s' hs hd => by have := hw (i + 1) s' (by simpa using hs) hd; rw [show k + (i + 1) = k + 1 + i from by omega] at this; exact this)
    by_cases hd : id ∈ s.upd.map (·.1)
    · have := hw 0 s (by simp) hd
      simp only [Nat.add_zero] at this
      rw [← this]
      cases L k
      · exact h
      · exact hl_in _ _ _ _ hd
    · have e1 : hl (bif L k then st.appx s else st).h id = hl st.h id := by
        cases L k
        · rfl
        · exact hl_out _ _ _ hd
      have e2 : hl (bif L' k then st'.appx s else st').h id = hl st'.h id := by
        cases L' k
        · rfl
        · exact hl_out _ _ _ hd
      rw [e1, e2]; exact h

theorem part_nx (L : Nat → Bool) : ∀ (ss : List SD) (k : Nat) (st : St), (partSt L st ss k).nx = st.nx
  | [], _, _ => rfl
  | s :: ss, k, st => by simp only [partSt]; rw [part_nx L ss]; cases L k <;> rfl

theorem part_get_last (L : Nat → Bool) (t : Nat) : ∀ (ss : List SD) (k : Nat) (st : St) (j : Nat) (s : SD), ss[j]? = some s → L (k + j) = true → s.i.dst = some t →
    (∀ i s', j < i → ss[i]? = some s' → s'.i.dst = some t → L (k + i) = false) → (partSt L st ss k).get t = s.v
  | [], k, st, j, s, h, _, _, _ => by simp at h
  | s0 :: ss, k, st, 0, s, h, hL, hd, hw => by
    simp only [List.getElem?_cons_zero, Option.some.injEq] at h
    subst h
    simp only [Nat.add_zero] at hL
    simp only [partSt, hL, cond_true]
    rw [part_get L (fun _ => false) t ss (k + 1) _ (st.appx s0) rfl (fun i s' hs hd' => by
      have := hw (i + 1) s' (by omega) (by simpa using hs) hd'
      rw [show k + (i + 1) = k + 1 + i from by omega] at this; exact this)]
    have : ∀ (ss : List SD) (k : Nat) (st : St), partSt (fun _ => false) st ss k = st := by
      intro ss; induction ss with
      | nil => intro k st; rfl
      | cons s ss ih => intro k st; simp only [partSt, cond_false]; exact ih _ _
    rw [this]
    simp only [St.get, St.appx, hd, getT_same]
  | s0 :: ss, k, st, j + 1, s, h, hL, hd, hw => by
    simp only [partSt]
    exact part_get_last L t ss (k + 1) _ j s (by simpa using h) (by rw [show k + 1 + j = k + (j + 1) from by omega]; exact hL) hd (fun i s' hi hs hd' => by
      have := hw (i + 1) s' (by omega) (by simpa using hs) hd'
      rw [show k + (i + 1) = k + 1 + i from by omega] at this; exact this)

theorem part_hl_last (L : Nat → Bool) (id : Nat) (h0 : Hp) : ∀ (ss : List SD) (k : Nat) (st : St) (j : Nat) (s : SD), ss[j]? = some s → L (k + j) = true → id ∈ s.upd.map (·.1) →
    (∀ i s', j < i → ss[i]? = some s' → id ∈ s'.upd.map (·.1) → L (k + i) = false) → hl (partSt L st ss k).h id = hl (s.upd ++ h0) id
  | [], k, st, j, s, h, _, _, _ => by simp at h
  | s0 :: ss, k, st, 0, s, h, hL, hd, hw => by
    simp only [List.getElem?_cons_zero, Option.some.injEq] at h
    subst h
    simp only [Nat.add_zero] at hL
    simp only [partSt, hL, cond_true]
    rw [part_hl L (fun _ => false) id ss (k + 1) _ (st.appx s0) rfl (fun i s' hs hd' => by
      have := hw (i + 1) s' (by omega) (by simpa using hs) hd'
      rw [show k + (i + 1) = k + 1 + i from by omega] at this; exact this)]
    have : ∀ (ss : List SD) (k : Nat) (st : St), partSt (fun _ => false) st ss k = st := by
      intro ss; induction ss with
      | nil => intro k st; rfl
      | cons s ss ih => intro k st; simp only [partSt, cond_false]; exact ih _ _
    rw [this]
    exact hl_in _ _ _ _ hd
  | s0 :: ss, k, st, j + 1, s, h, hL, hd, hw => by
    simp only [partSt]
    exact part_hl_last L id h0 ss (k + 1) _ j s (by simpa using h) (by rw [show k + 1 + j = k + (j + 1) from by omega]; exact hL) hd (fun i s' hi hs hd' => by
      have := hw (i + 1) s' (by omega) (by simpa using hs) hd'
      rw [show k + (i + 1) = k + 1 + i from by omega] at this; exact this)

/-- the states of the text's order -/
def lexSt (st : St) (ss : List SD) (j : Nat) : St := (ss.take j).foldl St.app st

theorem lex_get (t : Nat) : ∀ (ss : List SD) (st st0 : St) (j k : Nat), st.get t = st0.get t → (lexSt st ss j).get t = (partSt (fun i => decide (i < k + j)) st0 ss k).get t
  | [], st, st0, j, k, h => by simpa [lexSt, partSt] using h
  | s :: ss, st, st0, 0, k, h => by
    have : ∀ (ss : List SD) (k k' : Nat) (st : St), k ≤ k' → partSt (fun i => decide (i < k)) st ss k' = st := by
      intro ss; induction ss with
      | nil => intro k k' st _; rfl
      | cons s ss ih =>
        intro k k' st hk
        have : decide (k' < k) = false := by simp; omega
        simp only [partSt, this, cond_false]; exact ih _ _ _ (by omega)
    simp only [Nat.add_zero]
    rw [this _ _ _ _ (Nat.le_refl k)]
    simpa [lexSt] using h
  | s :: ss, st, st0, j + 1, k, h => by
    have hk : decide (k < k + (j + 1)) = true := by simp
    simp only [lexSt, List.take_succ_cons, List.foldl_cons, partSt, hk, cond_true]
    have := lex_get t ss (st.app s) (st0.appx s) j (k + 1) (by
      show getT (putT _ _ _) t = getT (putT _ _ _) t
      by_cases hd : s.i.dst = some t
      · rw [hd, getT_same, getT_same]
      · rw [getT_ne _ _ _ _ hd, getT_ne _ _ _ _ hd]; exact h)
    rw [show k + (j + 1) = k + 1 + j from by omega]
    exact this

theorem lex_hl (id : Nat) : ∀ (ss : List SD) (st st0 : St) (j k : Nat), hl st.h id = hl st0.h id → hl (lexSt st ss j).h id = hl (partSt (fun i => decide (i < k + j)) st0 ss k).h id
  | [], st, st0, j, k, h => by simpa [lexSt, partSt] using h
  | s :: ss, st, st0, 0, k, h => by
    have : ∀ (ss : List SD) (k k' : Nat) (st : St), k ≤ k' → partSt (fun i => decide (i < k)) st ss k' = st := by
      intro ss; induction ss with
      | nil => intro k k' st _; rfl
      | cons s ss ih =>
        intro k k' st hk
        have : decide (k' < k) = false := by simp; omega
        simp only [partSt, this, cond_false]; exact ih _ _ _ (by omega)
    simp only [Nat.add_zero]
    rw [this _ _ _ _ (Nat.le_refl k)]
    simpa [lexSt] using h
  | s :: ss, st, st0, j + 1, k, h => by
    have hk : decide (k < k + (j + 1)) = true := by simp
    simp only [lexSt, List.take_succ_cons, List.foldl_cons, partSt, hk, cond_true]
    have := lex_hl id ss (st.app s) (st0.appx s) j (k + 1) (by
      show hl (s.upd ++ _) id = hl (s.upd ++ _) id
      by_cases hd : id ∈ s.upd.map (·.1)
      · exact hl_in _ _ _ _ hd
      · rw [hl_out _ _ _ hd, hl_out _ _ _ hd]; exact h)
    rw [show k + (j + 1) = k + 1 + j from by omega]
    exact this

theorem app_nx_le (st : St) (s : SD) : st.nx ≤ (st.app s).nx := by
  simp only [St.app]; cases s.nw <;> simp

theorem fold_nx_le : ∀ (ss : List SD) (st : St), st.nx ≤ (ss.foldl St.app st).nx
  | [], _ => Nat.le_refl _
  | s :: ss, st => Nat.le_trans (app_nx_le st s) (fold_nx_le ss (st.app s))

theorem lex_succ (st : St) (ss : List SD) (j : Nat) (s : SD) (h : ss[j]? = some s) : lexSt st ss (j + 1) = (lexSt st ss j).app s := by
  unfold lexSt
  rw [List.take_add_one, h]
  simp

theorem lex_nx_mono (st : St) (ss : List SD) : ∀ (i j : Nat), i ≤ j → (lexSt st ss i).nx ≤ (lexSt st ss j).nx := by
  intro i j h
  obtain ⟨d, rfl⟩ := Nat.le.dest h
  induction d with
  | zero => exact Nat.le_refl _
  | succ d ih =>
    refine Nat.le_trans (ih (by omega)) ?_
    cases hs : ss[i + d]? with
    | none =>
      have : lexSt st ss (i + (d + 1)) = lexSt st ss (i + d) := by
        unfold lexSt
        rw [List.take_of_length_le (by simp at hs; omega), List.take_of_length_le (by simp at hs; omega)]
      rw [this]; exact Nat.le_refl _
    | some s => rw [show i + (d + 1) = i + d + 1 from by omega, lex_succ st ss _ s hs]; exact app_nx_le _ _

theorem lex_all (st : St) (ss : List SD) : lexSt st ss ss.length = ss.foldl St.app st := by simp [lexSt]

inductive Steps (P : Program) : List AInst → St → List SD → St → Prop
  | nil (st : St) : Steps P [] st [] st
  | cons {s : SD} {l : List AInst} {st : St} {ss : List SD} {st' : St} : Step P st s → Steps P l (st.app s) ss st' → Steps P (s.i :: l) st (s :: ss) st'

theorem Steps.parts {P : Program} {l : List AInst} {st : St} {ss : List SD} {st' : St} (h : Steps P l st ss st') :
    l = ss.map (·.i) ∧ st' = ss.foldl St.app st ∧ ∀ j s, ss[j]? = some s → Step P (lexSt st ss j) s := by
  induction h with
  | nil st => exact ⟨rfl, rfl, fun j s h => by simp at h⟩
  | @cons s l st ss st' h hs ih =>
    obtain ⟨h1, h2, h3⟩ := ih
    refine ⟨by rw [h1]; rfl, by rw [h2]; rfl, fun j s' hj => ?_⟩
    cases j with
    | zero =>
      simp only [List.getElem?_cons_zero, Option.some.injEq] at hj
      subst hj
      simpa [lexSt] using h
    | succ j =>
      have := h3 j s' (by simpa using hj)
      simpa [lexSt] using this

theorem optAll_get {α β : Type} {f : α → Option β} : ∀ {l : List α} {r : List β}, optAll f l = some r → l.length = r.length ∧ ∀ (i : Nat) x, l[i]? = some x → ∃ y, r[i]? = some y ∧ f x = some y
  | [], r, h => by simp only [optAll, Option.some.injEq] at h; subst h; simp
  | a :: l, r, h => by
    simp only [optAll] at h
    cases h1 : f a with
    | none => simp [h1] at h
    | some b =>
      cases h2 : optAll f l with
      | none => simp [h1, h2] at h
      | some bs =>
        simp only [h1, h2, Option.some.injEq] at h
        subst h
        obtain ⟨k1, k2⟩ := optAll_get h2
        refine ⟨by simp [k1], fun i x hi => ?_⟩
        cases i with
        | zero => simp only [List.getElem?_cons_zero, Option.some.injEq] at hi; subst hi; exact ⟨b, by simp, h1⟩
        | succ i => simpa using k2 i x (by simpa using hi)

end Go.Proofs.Ytkgnnnehmnoleaa

namespace Go.Proofs.Ytkgnnnehmnoleaa
set_option linter.unusedVariables false
open Go.RowKit

theorem anc_listed {ops : Array Oper} {L : Nat → Bool} (hcl : ∀ (j : Nat) o (e : Edge), L j = true → ops[j]? = some o → e ∈ o.after → Region.binds .any e = true → L e.on = true) :
    ∀ (n i j : Nat), anc ops n i j = true → (∀ o (e : Edge), ops[j]? = some o → e ∈ o.after → Region.binds .any e = true → L e.on = true) → L i = true
  | 0, _, _, h, _ => by simp [anc] at h
  | n + 1, i, j, h, hd => by
    simp only [anc] at h
    cases ho : ops[j]? with
    | none => simp [ho] at h
    | some o =>
      simp only [ho, List.any_eq_true] at h
      obtain ⟨e, he, h⟩ := h
      simp only [Bool.and_eq_true, Bool.or_eq_true] at h
      obtain ⟨hb, h⟩ := h
      have hL := hd o e ho (by simpa using he) hb
      rcases h with h | ⟨_, h⟩
      · have := Nat.eq_of_beq_eq_true h; rw [← this]; exact hL
      · exact anc_listed hcl n i e.on h (fun o' e' ho' he' hb' => hcl e.on o' e' hL ho' he' hb')

/-- do two steps touch one block, which one of them writes? -/
def meets (x y : SD) : Bool :=
  (x.upd.any fun u => y.rd.any (Nat.beq u.1) || y.upd.any fun u' => Nat.beq u.1 u'.1) || (y.upd.any fun u => x.rd.any (Nat.beq u.1))

def indepOK (ss : List SD) (free : List (Nat × Nat)) : Bool :=
  (ss.all fun s => s.i.op.heapy || (s.rd.isEmpty && s.upd.isEmpty)) &&
  free.all fun p => match ss[p.1]?, ss[p.2]? with
    | some x, some y => !meets x y
    | _, _ => false

theorem meets_of {x y : SD} {id : Nat} (h : (id ∈ x.upd.map (·.1) ∧ (id ∈ y.rd ∨ id ∈ y.upd.map (·.1))) ∨ (id ∈ x.rd ∧ id ∈ y.upd.map (·.1))) : meets x y = true := by
  simp only [meets, Bool.or_eq_true, List.any_eq_true]
  rcases h with ⟨h1, h2⟩ | ⟨h1, h2⟩
  · left
    obtain ⟨u, hu, rfl⟩ := List.mem_map.1 h1
    refine ⟨u, hu, ?_⟩
    rcases h2 with h2 | h2
    · left; exact ⟨u.1, h2, by simp⟩
    · right
      obtain ⟨u', hu', e⟩ := List.mem_map.1 h2
      exact ⟨u', hu', by simp [e]⟩
  · right
    obtain ⟨u, hu, rfl⟩ := List.mem_map.1 h2
    exact ⟨u, hu, u.1, h1, by simp⟩

theorem anc_of_meets {P : Program} {N : Nat} {ops : Array Oper} {l : List AInst} {ss : List SD} (hl : optAll (lowerOp P N ops) ops.toList = some l) (hss : l = ss.map (·.i)) (hind : indepOK ss (freeOf ops l) = true)
    {i j : Nat} (hij : i < j) {x y : SD} (hx : ss[i]? = some x) (hy : ss[j]? = some y) (hm : meets x y = true) : anc ops (j + 1) i j = true := by
  simp only [indepOK, Bool.and_eq_true, List.all_eq_true] at hind
  obtain ⟨h1, h2⟩ := hind
  have hlen : l.length = ops.size := by have := (optAll_get hl).1; simpa using this.symm
  have hj : j < ops.size := by
    have := (List.getElem?_eq_some_iff.1 hy).1
    rw [← hlen, hss]; simpa using this
  have heap : ∀ s ∈ ss, s.i.op.heapy = true ∨ (s.rd = [] ∧ s.upd = []) := fun s hs => by
    have := h1 s hs
    simpa [Bool.or_eq_true, List.isEmpty_iff] using this
  have hxh : x.i.op.heapy = true := by
    rcases heap x (List.mem_of_getElem? hx) with h | ⟨h, h'⟩
    · exact h
    · simp [meets, h, h'] at hm
  have hyh : y.i.op.heapy = true := by
    rcases heap y (List.mem_of_getElem? hy) with h | ⟨h, h'⟩
    · exact h
    · simp [meets, h, h'] at hm
  cases ha : anc ops (j + 1) i j with
  | true => rfl
  | false =>
    have hmem : (i, j) ∈ freeOf ops l := by
      unfold freeOf
      rw [List.mem_flatMap]
      refine ⟨j, by simpa using hj, ?_⟩
      rw [List.mem_map]
      refine ⟨i, ?_, rfl⟩
      rw [List.mem_filter]
      refine ⟨by simpa using hij, ?_⟩
      have ei : l[i]? = some x.i := by rw [hss]; simp [hx]
      have ej : l[j]? = some y.i := by rw [hss]; simp [hy]
      simp [ei, ej, hxh, hyh, ha]
    have := h2 (i, j) hmem
    simp [hx, hy, hm] at this

theorem lower_parts {P : Program} {N : Nat} {ops : Array Oper} {o : Oper} {i : AInst} (h : lowerOp P N ops o = some i) :
    i.dst = o.dst ∧ (∀ d, o.dst = some d → d < N) ∧ lowerO P o.op = some i.op ∧
    (match o.guard with | none => i.g = none | some (j, b) => ∃ t, (ops[j]?).bind (·.dst) = some t ∧ i.g = some (t, b)) := by
  unfold lowerOp at h
  split at h
  · cases h
  · rename_i hd
    split at h
    · rename_i g op hg hop
      simp only [Option.some.injEq] at h
      subst h
      refine ⟨rfl, ?_, hop, ?_⟩
      · intro d hd'
        rw [hd'] at hd
        simpa [Nat.blt_eq] using hd
      · cases hgd : o.guard with
        | none => rw [hgd] at hg; simp at hg; exact hg.symm
        | some p =>
          obtain ⟨j, b⟩ := p
          rw [hgd] at hg
          simp only [Option.map_eq_some_iff] at hg
          obtain ⟨t, ht, e⟩ := hg
          exact ⟨t, ht, e.symm⟩
    · cases h

theorem mem_tmpsOf {l : List Operand} {t : Nat} : t ∈ tmpsOf l ↔ Operand.tmp t ∈ l := by
  unfold tmpsOf
  rw [List.mem_filterMap]
  constructor
  · rintro ⟨x, hx, h⟩
    cases x <;> simp at h
    subst h; exact hx
  · intro h; exact ⟨_, h, rfl⟩

theorem optAll_map {α β γ : Type} {f : α → Option β} {g : α → γ} {k : β → γ} (hk : ∀ a b, f a = some b → k b = g a) : ∀ {l : List α} {r : List β}, optAll f l = some r → r.map k = l.map g
  | [], r, h => by simp only [optAll, Option.some.injEq] at h; subst h; rfl
  | a :: l, r, h => by
    simp only [optAll] at h
    cases h1 : f a with
    | none => simp [h1] at h
    | some b =>
      cases h2 : optAll f l with
      | none => simp [h1, h2] at h
      | some bs =>
        simp only [h1, h2, Option.some.injEq] at h
        subst h
        simp [hk a b h1, optAll_map hk h2]

/-- the operands that the lowered operation names are among those of the operation -/
theorem lower_opds {P : Program} {o : Op} {a : AOp} (h : lowerO P o = some a) : ∀ x ∈ a.opds, x ∈ o.operands.toList := by
  cases o
  case build t ps =>
    simp only [lowerO] at h
    split at h
    · rename_i z _ _ l hz hl
      split at h
      case isFalse => cases h
      simp only [Option.some.injEq] at h
      subst h
      have := optAll_map (g := fun p : Nat × Operand => p.2) (k := fun q : Nat × Nat × Operand => q.2.2) (fun p q hq => by
        simp only [Option.map_eq_some_iff] at hq
        obtain ⟨r, _, rfl⟩ := hq; rfl) hl
      intro x hx
      simp only [AOp.opds] at hx
      rw [this] at hx
      simpa [Op.operands] using hx
    · cases h
  case call c =>
    obtain ⟨callee, args, tys⟩ := c
    cases callee with
    | value f =>
      simp only [lowerO, Option.some.injEq] at h
      subst h
      intro x hx
      simpa [AOp.opds, Op.operands, Call.operands] using hx
    | invoke r m => simp [lowerO] at h
    | builtin b =>
      have e : (Op.call { callee := .builtin b, args := args, argTypes := tys }).operands.toList = args.toList := by simp [Op.operands, Call.operands]
      rw [e]
      simp only [lowerO] at h
      generalize args.toList = al at h
      generalize tys.toList = tl at h
      intro x hx
      repeat' split at h
      all_goals first
        | (cases h; done)
        | (simp only [Option.some.injEq] at h; subst h; simpa [AOp.opds] using hx)
  case slice t x lo hi mx =>
    simp only [lowerO] at h
    repeat' split at h
    all_goals first
      | (cases h; done)
      | (simp only [Option.some.injEq] at h; subst h; intro y hy; cases lo <;> cases hi <;> cases mx <;> simpa [AOp.opds, Op.operands, oL] using hy)
  case makeFunc f fi ca =>
    cases f <;> simp only [lowerO] at h
    case func f => simp only [Option.some.injEq] at h; subst h; intro y hy; simpa [AOp.opds, Op.operands] using hy
    all_goals cases h
  all_goals
    simp only [lowerO] at h
    repeat' split at h
    all_goals first
      | (cases h; done)
      | (simp only [Option.some.injEq] at h; subst h; intro y hy; simp [AOp.opds] at hy; done)
      | (simp only [Option.some.injEq] at h; subst h; intro y hy; simp [AOp.opds] at hy; simp [Op.operands, hy]; done)
      | (simp only [Option.some.injEq] at h; subst h; intro y hy; simp [AOp.opds] at hy; simpa [Op.operands] using hy)

theorem lower_reads {P : Program} {N : Nat} {ops : Array Oper} {o : Oper} {i : AInst} (h : lowerOp P N ops o = some i) : ∀ t ∈ i.reads, t ∈ readsOf ops o := by
  obtain ⟨h1, h2, h3, h4⟩ := lower_parts h
  intro t ht
  simp only [AInst.reads, List.mem_append] at ht
  simp only [readsOf, List.mem_append]
  rcases ht with ht | ht
  · left
    rw [mem_tmpsOf] at ht ⊢
    exact lower_opds h3 _ ht
  · right
    cases hg : o.guard with
    | none => rw [hg] at h4; rw [show i.g = none from h4] at ht; simp at ht
    | some p =>
      obtain ⟨j, b⟩ := p
      rw [hg] at h4
      obtain ⟨t', ht', e⟩ := h4
      rw [e] at ht
      simp only [List.mem_singleton] at ht
      subst ht
      simp [ht']
end Go.Proofs.Ytkgnnnehmnoleaa

namespace Go.Proofs.Ytkgnnnehmnoleaa
set_option linter.unusedVariables false
open Go.RowKit

theorem clash_dst {ops : Array Oper} {x y : Oper} {d : Nat} (hx : x.dst = some d) (h : d ∈ readsOf ops y ∨ y.dst = some d) : clash ops x y = true := by
  simp only [clash, hx, Bool.or_eq_true]
  left
  rcases h with h | h
  · left; rw [List.any_eq_true]; exact ⟨d, h, by simp⟩
  · right; simp [h]

theorem clash_rev {ops : Array Oper} {x y : Oper} {d : Nat} (hy : y.dst = some d) (h : d ∈ readsOf ops x) : clash ops x y = true := by
  simp only [clash, hy, Bool.or_eq_true]
  right
  rw [List.any_eq_true]; exact ⟨d, h, by simp⟩

theorem draw_anc {ops : Array Oper} (h : drawOK ops = true) {i j : Nat} {x y : Oper} (hij : i < j) (hx : ops[i]? = some x) (hy : ops[j]? = some y) (hc : clash ops x y = true) : anc ops (j + 1) i j = true := by
  simp only [drawOK, List.all_eq_true, List.mem_range] at h
  have := h j (Array.getElem?_eq_some_iff.1 hy).1 i hij
  simpa [hx, hy, hc] using this

/-- the listed operations -/
def lis (listed : Array Bool) (i : Nat) : Bool := listed.getD i false

theorem countP_lt {l : List Nat} {p q : Nat → Bool} (hpq : ∀ i, q i = true → p i = true) {j : Nat} (hj : j ∈ l) (hp : p j = true) (hq : q j = false) : l.countP q < l.countP p := by
  induction l with
  | nil => cases hj
  | cons a l ih =>
    have hle : l.countP q ≤ l.countP p := List.countP_mono_left (fun i _ h => hpq i h)
    rw [List.countP_cons, List.countP_cons]
    rcases List.mem_cons.1 hj with rfl | h
    · simp only [hp, hq, if_true]; simp; omega
    · have := ih h
      have ha : (if q a = true then 1 else 0) ≤ (if p a = true then 1 else 0) := by
        by_cases hqa : q a = true
        · simp [hqa, hpq a hqa]
        · simp [hqa]
      omega

theorem beq_ne {i j : Nat} (h : i ≠ j) : Nat.beq i j = false := by
  cases hb : Nat.beq i j
  · rfl
  · exact absurd (Nat.eq_of_beq_eq_true hb) h

section
variable {P : Program} {N : Nat} {ops : Array Oper} {l : List AInst} {st : St} {ss : List SD} {st' : St}

theorem any_sound (hlow : optAll (lowerOp P N ops) ops.toList = some l) (hdraw : drawOK ops = true) (hedge : edgesOK ops = true) (hS : Steps P l st ss st') (hind : indepOK ss (freeOf ops l) = true)
    (C : Ctx) (hN : C.N = N) (Q : Exit → Act → World → Prop) (hQ : ∀ E a w, Rel C E st' a w → Q .normal a w) :
    ∀ (fuel : Nat) (listed : Array Bool) (a : Act) (w : World) (E : Env), listed.size = ops.size →
      (∀ (j : Nat) o (e : Edge), lis listed j = true → ops[j]? = some o → e ∈ o.after → Region.binds .any e = true → lis listed e.on = true) →
      (List.range ops.size).countP (fun i => !lis listed i) ≤ fuel →
      Rel C E (partSt (lis listed) { st with nx := st'.nx } ss 0) a w →
      (∀ id, E.live id → id < st.nx ∨ ∃ i s, lis listed i = true ∧ ss[i]? = some s ∧ s.nw = true ∧ id = (lexSt st ss i).nx) →
      wpAny P .any ops Q fuel listed a w := by
  obtain ⟨hss, hst', hstep⟩ := hS.parts
  have hlen : ss.length = ops.size := by
    have := (optAll_get hlow).1
    rw [hss] at this; simpa using this.symm
  have hget : ∀ (i : Nat) (o : Oper), ops[i]? = some o → ∃ s : SD, ss[i]? = some s ∧ lowerOp P N ops o = some s.i := fun i o ho => by
    obtain ⟨y, hy, hf⟩ := (optAll_get hlow).2 i o (by simpa using ho)
    rw [hss] at hy
    simp only [List.getElem?_map, Option.map_eq_some_iff] at hy
    obtain ⟨s, hs, rfl⟩ := hy
    exact ⟨s, hs, hf⟩
  have hops : ∀ (i : Nat) (s : SD), ss[i]? = some s → ∃ o, ops[i]? = some o ∧ lowerOp P N ops o = some s.i := fun i s hs => by
    have hi : i < ops.size := by have := (List.getElem?_eq_some_iff.1 hs).1; omega
    obtain ⟨s', hs', hf⟩ := hget i ops[i] (by simp [hi])
    rw [hs] at hs'
    obtain rfl : s = s' := by simpa using hs'
    exact ⟨ops[i], by simp [hi], hf⟩
  -- two steps that write one temporary, or of which one reads what the other writes
  have key : ∀ (i j : Nat) (x y : SD), i < j → ss[i]? = some x → ss[j]? = some y →
      ((∃ d, x.i.dst = some d ∧ (d ∈ y.i.reads ∨ y.i.dst = some d)) ∨ (∃ d, y.i.dst = some d ∧ d ∈ x.i.reads) ∨ meets x y = true) → anc ops (j + 1) i j = true := by
    intro i j x y hij hx hy h
    obtain ⟨ox, hox, hlx⟩ := hops i x hx
    obtain ⟨oy, hoy, hly⟩ := hops j y hy
    have ex := (lower_parts hlx).1
    have ey := (lower_parts hly).1
    rcases h with ⟨d, hd, h⟩ | ⟨d, hd, h⟩ | h
    · refine draw_anc hdraw hij hox hoy (clash_dst (d := d) (by rw [← ex]; exact hd) ?_)
      rcases h with h | h
      · exact .inl (lower_reads hly d h)
      · exact .inr (by rw [← ey]; exact h)
    · exact draw_anc hdraw hij hox hoy (clash_rev (d := d) (by rw [← ey]; exact hd) (lower_reads hlx d h))
    · exact anc_of_meets hlow hss hind hij hx hy h
  have hback : ∀ (j : Nat) o (e : Edge), ops[j]? = some o → e ∈ o.after → Region.binds .any e = true → e.on < j := fun j o e ho he hb => by
    simp only [edgesOK, List.all_eq_true, List.mem_range] at hedge
    have := hedge j (Array.getElem?_eq_some_iff.1 ho).1
    simp only [ho, List.all_eq_true] at this
    have := this e (by simpa using he)
    simpa [hb, Nat.blt_eq] using this
  intro fuel
  induction fuel with
  | zero =>
    intro listed a w E hsz hcl hcnt hR hlive
    have hall : ∀ i, i < ops.size → lis listed i = true := fun i hi => by
      have h0 : (List.range ops.size).countP (fun i => !lis listed i) = 0 := by omega
      rw [List.countP_eq_zero] at h0
      have := h0 i (by simpa using hi)
      simpa using this
    have hfin : Rel C E st' a w := by
      refine hR.congr (fun n => ?_) (fun id => ?_) (by rw [part_nx]; exact Nat.le_refl _)
      · rw [hst', ← lex_all]
        rw [lex_get n ss st { st with nx := st'.nx } ss.length 0 rfl]
        refine part_get _ _ n ss 0 _ _ rfl (fun i s hs _ => ?_)
        have hi := (List.getElem?_eq_some_iff.1 hs).1
        simp only [Nat.zero_add]
        rw [hall i (by omega)]
        simpa using hi
      · rw [hst', ← lex_all]
        rw [lex_hl id ss st { st with nx := st'.nx } ss.length 0 rfl]
        refine part_hl _ _ id ss 0 _ _ rfl (fun i s hs _ => ?_)
        have hi := (List.getElem?_eq_some_iff.1 hs).1
        simp only [Nat.zero_add]
        rw [hall i (by omega)]
        simpa using hi
    refine ⟨?_, hQ _ _ _ hfin⟩
    cases hr : Region.ready .any ops listed with
    | nil => rfl
    | cons j r =>
      have hj : j ∈ Region.ready .any ops listed := by rw [hr]; simp
      obtain ⟨h0, o, ho, _⟩ := mem_ready.1 hj
      have hlt := (Array.getElem?_eq_some_iff.1 ho).1
      have := hall j hlt
      simp [lis, hsz, hlt] at this h0
      rw [this] at h0; cases h0
  | succ fuel ih =>
    intro listed a w E hsz hcl hcnt hR hlive
    refine ⟨fun hr => ?_, fun j hj => ?_⟩
    · -- nothing is ready: all is listed
      have hall : ∀ i, i < ops.size → lis listed i = true := by
        intro i
        induction i using Nat.strongRecOn with
        | _ i ihi =>
          intro hi
          cases hli : lis listed i with
          | true => rfl
          | false =>
            have : i ∈ Region.ready .any ops listed := mem_ready.2 ⟨by simp [lis, hsz, hi] at hli ⊢; exact hli, ops[i], by simp [hi], fun e he hb => by
              have hlt := hback i ops[i] e (by simp [hi]) he hb
              have := ihi e.on hlt (by omega)
              exact this⟩
            rw [hr] at this; cases this
      refine hQ E _ _ (hR.congr (fun n => ?_) (fun id => ?_) (by rw [part_nx]; exact Nat.le_refl _))
      · rw [hst', ← lex_all]
        rw [lex_get n ss st { st with nx := st'.nx } ss.length 0 rfl]
        refine part_get _ _ n ss 0 _ _ rfl (fun i s hs _ => ?_)
        have hi := (List.getElem?_eq_some_iff.1 hs).1
        simp only [Nat.zero_add]
        rw [hall i (by omega)]
        simpa using hi
      · rw [hst', ← lex_all]
        rw [lex_hl id ss st { st with nx := st'.nx } ss.length 0 rfl]
        refine part_hl _ _ id ss 0 _ _ rfl (fun i s hs _ => ?_)
        have hi := (List.getElem?_eq_some_iff.1 hs).1
        simp only [Nat.zero_add]
        rw [hall i (by omega)]
        simpa using hi
    · obtain ⟨hun, o, ho, hdeps⟩ := mem_ready.1 hj
      have hjlt := (Array.getElem?_eq_some_iff.1 ho).1
      have hunl : lis listed j = false := by simp [lis, hsz, hjlt] at hun ⊢; exact hun
      obtain ⟨s, hs, hlo⟩ := hget j o ho
      have hdeps' : ∀ o' (e : Edge), ops[j]? = some o' → e ∈ o'.after → Region.binds .any e = true → lis listed e.on = true := fun o' e ho' he hb => by
        rw [ho] at ho'
        obtain rfl : o = o' := by simpa using ho'
        exact hdeps e he hb
      -- who is ahead of j is listed, who is behind j is not
      have hahead : ∀ i, anc ops (j + 1) i j = true → lis listed i = true := fun i h => anc_listed hcl (j + 1) i j h hdeps'
      have hbehind : ∀ i, anc ops (i + 1) j i = true → lis listed i = false := fun i h => by
        cases hli : lis listed i with
        | false => rfl
        | true =>
          have : lis listed j = true := anc_listed hcl (i + 1) j i h (fun o' e ho' he hb => hcl i o' e hli ho' he hb)
          rw [hunl] at this; cases this
      have hrel : ∀ (i : Nat) (x : SD), ss[i]? = some x → ((∃ d, x.i.dst = some d ∧ (d ∈ s.i.reads ∨ s.i.dst = some d)) ∨ (∃ d, s.i.dst = some d ∧ d ∈ x.i.reads) ∨ meets x s = true ∨ meets s x = true) → i ≠ j →
          lis listed i = decide (i < j) := fun i x hx h hne => by
        have hm : meets x s = meets s x := by
          apply Bool.eq_iff_iff.2
          simp only [meets, Bool.or_eq_true, List.any_eq_true]
          constructor
          · rintro (⟨u, hu, h | ⟨u', hu', h⟩⟩ | ⟨u, hu, h⟩)
            · exact .inr ⟨u, hu, h⟩
            · exact .inl ⟨u', hu', .inr ⟨u, hu, by simpa using (by simpa using h : u.1 = u'.1).symm⟩⟩
            · exact .inl ⟨u, hu, .inl h⟩
          · rintro (⟨u, hu, h | ⟨u', hu', h⟩⟩ | ⟨u, hu, h⟩)
            · exact .inr ⟨u, hu, h⟩
            · exact .inl ⟨u', hu', .inr ⟨u, hu, by simpa using (by simpa using h : u.1 = u'.1).symm⟩⟩
            · exact .inl ⟨u, hu, .inl h⟩
        rcases Nat.lt_or_ge i j with hlt | hge
        · rw [hahead i (key i j x s hlt hx hs (by
            rcases h with h | h | h | h
            · exact .inl h
            · exact .inr (.inl h)
            · exact .inr (.inr h)
            · exact .inr (.inr (by rw [hm]; exact h))))]
          simpa using hlt
        · have hgt : j < i := by omega
          rw [hbehind i (key j i s x hgt hs hx (by
            rcases h with ⟨d, h1, h2⟩ | ⟨d, h1, h2⟩ | h | h
            · rcases h2 with h2 | h2
              · exact .inr (.inl ⟨d, h1, h2⟩)
              · exact .inl ⟨d, h2, .inr h1⟩
            · exact .inl ⟨d, h1, .inl h2⟩
            · exact .inr (.inr (by rw [← hm]; exact h))
            · exact .inr (.inr h)))]
          simp; omega
      have hset : ∀ i, lis (listed.setIfInBounds j true) i = (lis listed i || Nat.beq i j) := fun i => by
        by_cases hij : j = i
        · subst hij
          simp [lis, hsz, hjlt]
        · have : Nat.beq i j = false := by
            cases hb : Nat.beq i j
            · rfl
            · exact absurd (Nat.eq_of_beq_eq_true hb).symm hij
          simp only [lis, getD_set_ne _ hij, this, Bool.or_false]
      have hnow := hstep j s hs N ops o hlo C E a w (partSt (lis listed) { st with nx := st'.nx } ss 0) hN hR
        (fun t ht => by
          rw [lex_get t ss st { st with nx := st'.nx } j 0 rfl]
          refine part_get _ _ t ss 0 _ _ rfl (fun i x hx hd => ?_)
          simp only [Nat.zero_add]
          by_cases hij : i = j
          · subst hij; rw [hunl]; simp
          · exact hrel i x hx (.inl ⟨t, hd, .inl ht⟩) hij)
        (fun id hid => by
          rw [lex_hl id ss st { st with nx := st'.nx } j 0 rfl]
          refine part_hl _ _ id ss 0 _ _ rfl (fun i x hx hd => ?_)
          simp only [Nat.zero_add]
          by_cases hij : i = j
          · subst hij; rw [hunl]; simp
          · exact hrel i x hx (.inr (.inr (.inl (meets_of (.inl ⟨hd, hid⟩))))) hij)
        (fun hnw => by
          constructor
          · intro hl
            rcases hlive _ hl with h | ⟨i, x, h1, h2, h3, h4⟩
            · have := lex_nx_mono st ss 0 j (Nat.zero_le _)
              have e0 : (lexSt st ss 0).nx = st.nx := by simp [lexSt]
              omega
            · rcases Nat.lt_trichotomy i j with h | h | h
              · have := lex_nx_mono st ss (i + 1) j h
                rw [lex_succ st ss i x h2] at this
                simp only [St.app, h3, cond_true] at this
                omega
              · subst h; rw [hunl] at h1; cases h1
              · have := lex_nx_mono st ss (j + 1) i h
                rw [lex_succ st ss j s hs] at this
                simp only [St.app, hnw, cond_true] at this
                omega
          · rw [part_nx]
            have := lex_nx_mono st ss (j + 1) ss.length (by omega)
            rw [lex_succ st ss j s hs, lex_all, ← hst'] at this
            simp only [St.app, hnw, cond_true] at this
            show _ < st'.nx
            omega)
      unfold wpOp
      simp only [ho]
      have hgo : ∀ (v' : Value) (w' : World) (E' : Env), Rel C E' ((partSt (lis listed) { st with nx := st'.nx } ss 0).appx s) (a.put o.dst v') w' → (∀ id, E'.live id → E.live id ∨ (s.nw = true ∧ id = (lexSt st ss j).nx)) →
          wpAny P .any ops Q fuel (listed.setIfInBounds j true) (a.put o.dst v') w' := fun v' w' E' hR' hl' => by
        refine ih (listed.setIfInBounds j true) (a.put o.dst v') w' E' (by simpa using hsz) ?_ ?_ ?_ ?_
        · intro i o' e hli ho' he hb
          rw [hset] at hli ⊢
          rw [Bool.or_eq_true] at hli ⊢
          rcases hli with hli | hli
          · exact .inl (hcl i o' e hli ho' he hb)
          · have := Nat.eq_of_beq_eq_true hli
            subst this
            exact .inl (hdeps' o' e ho' he hb)
        · have := countP_lt (l := List.range ops.size) (p := fun i => !lis listed i) (q := fun i => !lis (listed.setIfInBounds j true) i) (fun i hi => by
            simp only [hset, Bool.not_or, Bool.and_eq_true] at hi; exact hi.1) (j := j) (by simpa using hjlt) (by simp [hunl]) (by simp [hset])
          omega
        · refine hR'.congr (fun n => ?_) (fun id => ?_) (by simp only [part_nx, St.appx]; exact Nat.le_refl _)
          · by_cases hd : s.i.dst = some n
            · rw [part_get_last _ n ss 0 _ j s hs (by rw [hset]; simp) hd (fun i x hji hx hdx => by
                rw [hset]
                have := hrel i x hx (.inl ⟨n, hdx, .inr hd⟩) (by omega)
                have e1 : decide (i < j) = false := by simp; omega
                rw [Nat.zero_add, this, e1, beq_ne (by omega)]; rfl)]
              simp only [St.get, St.appx, hd, getT_same]
            · have e1 : ((partSt (lis listed) { st with nx := st'.nx } ss 0).appx s).get n = (partSt (lis listed) { st with nx := st'.nx } ss 0).get n := getT_ne _ _ _ _ hd
              rw [e1]
              refine part_get _ _ n ss 0 _ _ rfl (fun i x hx hdx => ?_)
              rw [hset]
              simp only [Nat.zero_add]
              by_cases hij : i = j
              · subst hij; rw [hs] at hx
                obtain rfl : s = x := by simpa using hx
                exact absurd hdx hd
              · have : Nat.beq i j = false := by
                  cases hb : Nat.beq i j
                  · rfl
                  · exact absurd (Nat.eq_of_beq_eq_true hb) hij
                simp [this]
          · by_cases hd : id ∈ s.upd.map (·.1)
            · rw [part_hl_last _ id (partSt (lis listed) { st with nx := st'.nx } ss 0).h ss 0 _ j s hs (by rw [hset]; simp) hd (fun i x hji hx hdx => by
                rw [hset]
                have := hrel i x hx (.inr (.inr (.inl (meets_of (.inl ⟨hdx, .inr hd⟩))))) (by omega)
                have e1 : decide (i < j) = false := by simp; omega
                rw [Nat.zero_add, this, e1, beq_ne (by omega)]; rfl)]
              rfl
            · have e1 : hl ((partSt (lis listed) { st with nx := st'.nx } ss 0).appx s).h id = hl (partSt (lis listed) { st with nx := st'.nx } ss 0).h id := hl_out _ _ _ hd
              rw [e1]
              refine part_hl _ _ id ss 0 _ _ rfl (fun i x hx hdx => ?_)
              rw [hset]
              simp only [Nat.zero_add]
              by_cases hij : i = j
              · subst hij; rw [hs] at hx
                obtain rfl : s = x := by simpa using hx
                exact absurd hdx hd
              · have : Nat.beq i j = false := by
                  cases hb : Nat.beq i j
                  · rfl
                  · exact absurd (Nat.eq_of_beq_eq_true hb) hij
                simp [this]
        · intro id hid
          rcases hl' id hid with h | ⟨h1, h2⟩
          · rcases hlive id h with h | ⟨i, x, k1, k2, k3, k4⟩
            · exact .inl h
            · exact .inr ⟨i, x, by rw [hset, k1]; rfl, k2, k3, k4⟩
          · exact .inr ⟨j, s, by rw [hset]; simp, hs, h1, h2⟩
      have := hnow (wpAny P .any ops Q fuel (listed.setIfInBounds j true)) Q hgo
      split
      · rename_i hw; rw [if_pos hw] at this; exact .inl this
      · rename_i hw; rw [if_neg hw] at this; exact this
end
end Go.Proofs.Ytkgnnnehmnoleaa
namespace Go.Proofs.Ytkgnnnehmnoleaa
open Go.RowKit

/-- what holds at the end of a piece of code, of the state -/
def liftQ (C : Ctx) (Q : Exit → St → Prop) : Exit → Act → World → Prop := fun e a w => ∃ E st, Q e st ∧ Rel C E st a w

theorem Rel.drew {C : Ctx} {E : Env} {st : St} {a : Act} {w : World} (R : Rel C E st a w) : Rel C E st a { w with drawn := w.drawn + 1 } := by
  refine ⟨R.defers, R.size, fun n => ?_, ⟨fun id o h1 h2 => ?_, R.heap.apart, R.heap.im, R.heap.lt⟩, R.nx, R.own, R.ext, R.imx, R.imn, ⟨R.frm.os, R.frm.tape, R.frm.output, R.frm.size, R.frm.block⟩⟩
  · exact Rd.mono (w := w) (w' := { w with drawn := w.drawn + 1 }) (fun id h => ⟨h, rfl, rfl⟩) (fun b h => h) (fun b h => rfl) _ _ (R.tm n)
  · obtain ⟨k1, k2⟩ := R.heap.ob id o h1 h2
    refine ⟨k1, ?_⟩
    cases hr : o.row
    · rw [hr] at k2
      obtain ⟨g, vs, cs, j1, j2, j3, j4, j5, j6⟩ := k2
      exact ⟨g, vs, cs, j1, j2, j3, j4, RdL.mono (w := w) (w' := { w with drawn := w.drawn + 1 }) (fun id h => ⟨h, rfl, rfl⟩) (fun b h => h) (fun b h => rfl) _ _ j5, j6⟩
    · rw [hr] at k2
      obtain ⟨vs, a, cap, j1, j2, j3, j4, j5⟩ := k2
      exact ⟨vs, a, cap, j1, j2, RdIE.mono (w := w) (w' := { w with drawn := w.drawn + 1 }) (fun b h => h) (fun b h => rfl) _ _ _ j3, j4, j5⟩

theorem region_draw {P : Program} {N : Nat} {ops : Array Oper} {l : List AInst} {st : St} {ss : List SD} {st' : St} {id : Nat} (hm : P.follows .mixedOrders = true)
    (hlow : optAll (lowerOp P N ops) ops.toList = some l) (hdraw : drawOK ops = true) (hedge : edgesOK ops = true) (hS : Steps P l st ss st') (hind : indepOK ss (freeOf ops l) = true)
    (C : Ctx) (hN : C.N = N) (Q : Exit → Act → World → Prop) (hQ : ∀ E a w, Rel C E st' a w → Q .normal a w) (E : Env) (a : Act) (w : World) (hR : Rel C E st a w) : (Code.region id ops true).wp P Q a w := by
  refine wp_region_any hm ?_
  have hn : ∀ i, lis (Array.replicate ops.size false) i = false := fun i => by
    simp only [lis, Array.getD_eq_getD_getElem?, Array.getElem?_replicate]
    split <;> rfl
  have hp : ∀ (ss : List SD) (k : Nat) (st : St), partSt (lis (Array.replicate ops.size false)) st ss k = st := by
    intro ss; induction ss with
    | nil => intro k st; rfl
    | cons s ss ih => intro k st; simp only [partSt, hn, cond_false]; exact ih _ _
  refine any_sound hlow hdraw hedge hS hind C hN Q hQ ops.size _ a _ E (by simp) (fun j o e h => by rw [hn] at h; cases h) ?_ ?_ (fun id h => .inl (hR.nx id h))
  · exact Nat.le_trans List.countP_le_length (by simp)
  · rw [hp]
    refine hR.drew.congr (fun n => rfl) (fun id => rfl) ?_
    obtain ⟨_, h2, _⟩ := hS.parts
    rw [h2]; exact fold_nx_le ss st

/-- in the text's order -/
theorem seq_sound {P : Program} {N : Nat} {ops : Array Oper} (C : Ctx) (hN : C.N = N) (Q : Exit → Act → World → Prop) :
    ∀ {l : List AInst} {st : St} {ss : List SD} {st' : St}, Steps P l st ss st' → (∀ E a w, Rel C E st' a w → Q .normal a w) → ∀ (os : List Oper), optAll (lowerOp P N ops) os = some l → ∀ (E : Env) (a : Act) (w : World), Rel C E st a w → wpList P ops Q os a w := by
  intro l st ss st' hS
  induction hS with
  | nil st =>
    intro hQ os hos E a w hR
    cases os with
    | nil => exact hQ E a w hR
    | cons o os => simp only [optAll] at hos; cases h1 : lowerOp P N ops o <;> cases h2 : optAll (lowerOp P N ops) os <;> simp [h1, h2] at hos
  | @cons s l st ss st' h hs ih =>
    intro hQ os hos E a w hR
    cases os with
    | nil => simp [optAll] at hos
    | cons o os =>
      simp only [optAll] at hos
      cases h1 : lowerOp P N ops o with
      | none => simp [h1] at hos
      | some i =>
        cases h2 : optAll (lowerOp P N ops) os with
        | none => simp [h1, h2] at hos
        | some is =>
          simp only [h1, h2, Option.some.injEq, List.cons.injEq] at hos
          obtain ⟨rfl, rfl⟩ := hos
          have hnx : st.nx ≤ (st.app s).nx := app_nx_le st s
          have := h N ops o h1 C E a w { st with nx := (st.app s).nx } hN (hR.congr (fun _ => rfl) (fun _ => rfl) hnx) (fun _ _ => rfl) (fun _ _ => rfl)
            (fun hnw => ⟨fun hl => by have := hR.nx _ hl; omega, by simp [St.app, hnw]⟩)
            (wpList P ops Q os) Q (fun v' w' E' hR' _ => ih hQ os h2 E' _ w' hR')
          refine wpList_step fun K hK => ?_
          split
          · rename_i hw; rw [if_pos hw] at this; exact Oper.wp_mono hK this
          · rename_i hw; rw [if_neg hw] at this; exact hK _ _ this

/-- a piece of code, run in this state, ends so -/
def AW (P : Program) (C : Ctx) (c : ACode) (Q : Exit → St → Prop) (st : St) : Prop :=
  ∀ code, lowerC P C.N code = some c → ∀ E a w, Rel C E st a w → code.wp P (liftQ C Q) a w

theorem aw_ops {P : Program} {C : Ctx} {Q : Exit → St → Prop} {st st' : St} {d : Bool} {l : List AInst} {free : List (Nat × Nat)} {ss : List SD} (hS : Steps P l st ss st') (hi : (bif d then indepOK ss free else true) = true) (hQ : Q .normal st') :
    AW P C (.ops d l free) Q st := by
  intro code hc E a w hR
  cases code with
  | region id ops draw =>
    simp only [lowerC] at hc
    cases hl : optAll (lowerOp P C.N ops) ops.toList with
    | none => simp [hl] at hc
    | some l' =>
      cases draw with
      | false =>
        simp only [hl, Option.some.injEq, ACode.ops.injEq] at hc
        obtain ⟨rfl, rfl, rfl⟩ := hc
        exact wp_region_list (seq_sound C rfl _ hS (fun E a w hR => ⟨E, st', hQ, hR⟩) ops.toList hl E a w hR)
      | true =>
        simp only [hl] at hc
        split at hc
        · rename_i hb
          simp only [Bool.and_eq_true] at hb
          simp only [Option.some.injEq, ACode.ops.injEq] at hc
          obtain ⟨rfl, rfl, rfl⟩ := hc
          exact region_draw hb.1.1 hl hb.1.2 hb.2 hS (by simpa using hi) C rfl _ (fun E a w hR => ⟨E, st', hQ, hR⟩) E a w hR
        · cases hc
  | seq a b => simp only [lowerC] at hc; split at hc <;> cases hc
  | cond c a b => simp only [lowerC] at hc; split at hc <;> cases hc
  | block id a => simp only [lowerC] at hc; split at hc <;> cases hc
  | loop a => simp only [lowerC] at hc; split at hc <;> cases hc
  | _ => simp [lowerC] at hc
end Go.Proofs.Ytkgnnnehmnoleaa
