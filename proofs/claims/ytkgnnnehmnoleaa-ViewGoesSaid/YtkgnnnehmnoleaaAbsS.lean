/- Arrays as data. -/
import Derived.Test.YtkgnnnehmnoleaaAbsR
namespace Go.Proofs.Ytkgnnnehmnoleaa
set_option linter.unusedVariables false
open Go.RowKit

/-- a number: its sign, and the limbs of both parts -/
structure Num where
  neg : Bool
  top : List Int
  bot : List Int

mutual
inductive Arr where
  | mk (s : Nat) (shape : List Int) (cells : List Cell)
inductive Cell where
  | mk (l : Nat) (kind : Int) (n : Num) (c : Int) (ins : List Arr)
end

def Arr.s : Arr → Nat | .mk s _ _ => s
def Arr.shape : Arr → List Int | .mk _ sh _ => sh
def Arr.cells : Arr → List Cell | .mk _ _ cs => cs
def Cell.l : Cell → Nat | .mk l _ _ _ _ => l
def Cell.kind : Cell → Int | .mk _ k _ _ _ => k
def Cell.n : Cell → Num | .mk _ _ n _ _ => n
def Cell.c : Cell → Int | .mk _ _ _ c _ => c
def Cell.ins : Cell → List Arr | .mk _ _ _ _ ins => ins

/-- whole numbers, one a cell -/
def intsA (k : IntKind) (zs : List Int) : List (List AV) := zs.map fun z => [.lit (.int k z)]

def numV (n : Num) : List AV := [.lit (.bool n.neg), .sl 1 (intsA .u32 n.top), .sl 1 (intsA .u32 n.bot)]

mutual
def arrR : Arr → List AV
  | .mk s sh cs => [.lit (.int .u64 s), .sl 1 (intsA .i64 sh), .sl 7 (cellsR cs)]
def cellR : Cell → List AV
  | .mk l k n c ins => [.lit (.int .u64 l), .lit (.int .i64 k), .lit (.bool n.neg), .sl 1 (intsA .u32 n.top), .sl 1 (intsA .u32 n.bot), .lit (.int .i64 c), .sl 3 (arrsR ins)]
def cellsR : List Cell → List (List AV)
  | [] => []
  | c :: cs => cellR c :: cellsR cs
def arrsR : List Arr → List (List AV)
  | [] => []
  | a :: l => arrR a :: arrsR l
end

theorem cellsR_map : ∀ (cs : List Cell), cellsR cs = cs.map cellR
  | [] => rfl
  | c :: cs => by simp only [cellsR, List.map_cons, cellsR_map cs]
theorem arrsR_map : ∀ (l : List Arr), arrsR l = l.map arrR
  | [] => rfl
  | a :: l => by simp only [arrsR, List.map_cons, arrsR_map l]

/-- an array's cells; a cell's -/
def arrV (a : Arr) : List AV := [.lit (.int .u64 a.s), .sl 1 (intsA .i64 a.shape), .sl 7 (a.cells.map cellR)]
def cellV (c : Cell) : List AV := [.lit (.int .u64 c.l), .lit (.int .i64 c.kind), .lit (.bool c.n.neg), .sl 1 (intsA .u32 c.n.top), .sl 1 (intsA .u32 c.n.bot), .lit (.int .i64 c.c), .sl 3 (c.ins.map arrR)]

theorem arrR_eq (a : Arr) : arrR a = arrV a := by cases a; simp only [arrR, arrV, cellsR_map, Arr.s, Arr.shape, Arr.cells]
theorem cellR_eq (c : Cell) : cellR c = cellV c := by cases c; simp only [cellR, cellV, arrsR_map, Cell.l, Cell.kind, Cell.n, Cell.c, Cell.ins]

theorem cell_at {cs : List Cell} {i : Nat} {c : Cell} (h : cs[i]? = some c) : (cs.map cellR)[i]? = some (cellV c) := by simp [h, cellR_eq]
theorem arr_at {l : List Arr} {i : Nat} {a : Arr} (h : l[i]? = some a) : (l.map arrR)[i]? = some (arrV a) := by simp [h, arrR_eq]
theorem int_at {k : IntKind} {zs : List Int} {i : Nat} {z : Int} (h : zs[i]? = some z) : (intsA k zs)[i]? = some [.lit (.int k z)] := by simp [intsA, h]

/-! all of it within range, and not too long -/
def numOK (n : Num) : Prop := (∀ z ∈ n.top, (Lit.int .u32 z).wf = true) ∧ (∀ z ∈ n.bot, (Lit.int .u32 z).wf = true) ∧ n.top.length ≤ reachBytes ∧ n.bot.length ≤ reachBytes

mutual
def arrOK : Arr → Prop
  | .mk s sh cs => s < 18446744073709551616 ∧ (∀ z ∈ sh, (Lit.int .i64 z).wf = true) ∧ sh.length ≤ reachBytes ∧ cs.length ≤ reachBytes ∧ cellsOK cs
def cellOK : Cell → Prop
  | .mk l k n c ins => l < 18446744073709551616 ∧ (Lit.int .i64 k).wf = true ∧ numOK n ∧ (Lit.int .i64 c).wf = true ∧ ins.length ≤ reachBytes ∧ arrsOK ins
def cellsOK : List Cell → Prop
  | [] => True
  | c :: cs => cellOK c ∧ cellsOK cs
def arrsOK : List Arr → Prop
  | [] => True
  | a :: l => arrOK a ∧ arrsOK l
end

theorem cellsOK_mem : ∀ {cs : List Cell}, cellsOK cs ↔ ∀ c ∈ cs, cellOK c
  | [] => by simp [cellsOK]
  | c :: cs => by simp only [cellsOK, List.mem_cons, forall_eq_or_imp, cellsOK_mem]
theorem arrsOK_mem : ∀ {l : List Arr}, arrsOK l ↔ ∀ a ∈ l, arrOK a
  | [] => by simp [arrsOK]
  | a :: l => by simp only [arrsOK, List.mem_cons, forall_eq_or_imp, arrsOK_mem]

/-- the types of arrays -/
structure ArrT (P : Program) (tA tC tN tI tCs tAs tU tU64 tI64 tB tU32 : TypeId) : Prop where
  arr : ∃ f0 f1 f2 : Field, P.underlying tA = some (.struct #[f0, f1, f2]) ∧ f0.type = tU64 ∧ f1.type = tI ∧ f2.type = tCs ∧ f0.offset = 0 ∧ f1.offset = 1 ∧ f2.offset = 2
  cell : ∃ f0 f1 f2 f3 f4 : Field, P.underlying tC = some (.struct #[f0, f1, f2, f3, f4]) ∧ f0.type = tU64 ∧ f1.type = tI64 ∧ f2.type = tN ∧ f3.type = tI64 ∧ f4.type = tAs ∧ f0.offset = 0 ∧ f1.offset = 1 ∧ f2.offset = 2 ∧ f3.offset = 5 ∧ f4.offset = 6
  num : ∃ f0 f1 f2 : Field, P.underlying tN = some (.struct #[f0, f1, f2]) ∧ f0.type = tB ∧ f1.type = tU ∧ f2.type = tU ∧ f0.offset = 0 ∧ f1.offset = 1 ∧ f2.offset = 2
  ints : P.underlying tI = some (.slice tI64)
  cells : P.underlying tCs = some (.slice tC)
  arrs : P.underlying tAs = some (.slice tA)
  limbs : P.underlying tU = some (.slice tU32)
  u64 : P.underlying tU64 = some (.int .u64)
  i64 : P.underlying tI64 = some (.int .i64)
  b : P.underlying tB = some .bool
  u32 : P.underlying tU32 = some (.int .u32)
  sz : P.cellsOf tA = 3 ∧ P.cellsOf tC = 7 ∧ P.cellsOf tN = 3 ∧ P.cellsOf tI = 1 ∧ P.cellsOf tCs = 1 ∧ P.cellsOf tAs = 1 ∧ P.cellsOf tU = 1 ∧ P.cellsOf tU64 = 1 ∧ P.cellsOf tI64 = 1 ∧ P.cellsOf tB = 1 ∧ P.cellsOf tU32 = 1
  by_ : 0 < P.bytesOf tA ∧ 0 < P.bytesOf tC ∧ 0 < P.bytesOf tI64 ∧ 0 < P.bytesOf tU32

section
variable {P : Program} {tA tC tN tI tCs tAs tU tU64 tI64 tB tU32 : TypeId}

theorem typ_ints {t e : TypeId} {k : IntKind} (h1 : P.underlying t = some (.slice e)) (h2 : P.underlying e = some (.int k)) (h3 : P.cellsOf e = 1) (h4 : 0 < P.bytesOf e) : ∀ {n : Nat} {avs : List AV}, Typ P n t avs → ∃ zs, avs = [.sl 1 (intsA k zs)] ∧ (∀ z ∈ zs, (Lit.int k z).wf = true) ∧ zs.length ≤ reachBytes
  | 0, _, h => h.elim
  | n + 1, avs, h => by
    simp only [Typ, h1] at h
    obtain ⟨es, rfl, hl, h⟩ := h
    have : ∀ (es : List (List AV)), (∀ x ∈ es, Typ P n e x) → ∃ zs : List Int, es = intsA k zs ∧ ∀ z ∈ zs, (Lit.int k z).wf = true := by
      intro es
      induction es with
      | nil => intro _; exact ⟨[], rfl, fun z hz => by cases hz⟩
      | cons x es ih =>
        intro hx
        obtain ⟨zs, h5, h6⟩ := ih (fun y hy => hx y (List.mem_cons_of_mem _ hy))
        have hx0 := hx x (by simp)
        cases n with
        | zero => exact hx0.elim
        | succ n =>
          simp only [Typ, h2] at hx0
          obtain ⟨z, rfl, hz⟩ := hx0
          refine ⟨z :: zs, by rw [h5]; rfl, fun y hy => ?_⟩
          rcases List.mem_cons.1 hy with rfl | hy
          · exact hz
          · exact h6 y hy
    obtain ⟨zs, rfl, hz⟩ := this es h
    refine ⟨zs, by rw [h3], hz, ?_⟩
    have : (intsA k zs).length = zs.length := by simp [intsA]
    rw [this] at hl
    exact Nat.le_trans (Nat.le_mul_of_pos_right _ h4) hl

theorem typ_int {t : TypeId} {k : IntKind} (h1 : P.underlying t = some (.int k)) : ∀ {n : Nat} {avs : List AV}, Typ P n t avs → ∃ z, avs = [.lit (.int k z)] ∧ (Lit.int k z).wf = true
  | 0, _, h => h.elim
  | n + 1, avs, h => by simpa only [Typ, h1] using h

theorem typ_bool {t : TypeId} (h1 : P.underlying t = some .bool) : ∀ {n : Nat} {avs : List AV}, Typ P n t avs → ∃ b, avs = [.lit (.bool b)]
  | 0, _, h => h.elim
  | n + 1, avs, h => by simpa only [Typ, h1] using h

theorem list3 {α : Type} {l : List α} (h : l.length = 3) : ∃ a b c, l = [a, b, c] := by
  match l, h with
  | [a, b, c], _ => exact ⟨a, b, c, rfl⟩
theorem list7 {α : Type} {l : List α} (h : l.length = 7) : ∃ a b c d e f g, l = [a, b, c, d, e, f, g] := by
  match l, h with
  | [a, b, c, d, e, f, g], _ => exact ⟨a, b, c, d, e, f, g, rfl⟩

theorem u64_wf {z : Int} (h : (Lit.int .u64 z).wf = true) : ∃ n : Nat, z = n ∧ n < 18446744073709551616 := by
  simp [Lit.wf, IntKind.min, IntKind.max, IntKind.signed, IntKind.bits] at h
  exact ⟨z.toNat, by omega, by omega⟩

/-- AN ARRAY, OPENED -/
theorem typ_arr (T : ArrT P tA tC tN tI tCs tAs tU tU64 tI64 tB tU32) : ∀ (n : Nat) (avs : List AV), Typ P n tA avs → ∃ A, avs = arrR A ∧ arrOK A := by
  intro n
  induction n using Nat.strongRecOn with
  | _ n ih =>
    intro avs h
    obtain ⟨s1, s2, s3, s4, s5, s6, s7, s8, s9, s10, s11⟩ := T.sz
    obtain ⟨b1, b2, b3, b4⟩ := T.by_
    cases n with
    | zero => exact h.elim
    | succ n =>
    obtain ⟨f0, f1, f2, hu, t0, t1, t2, o0, o1, o2⟩ := T.arr
    simp only [Typ, hu] at h
    obtain ⟨hl, hf⟩ := h
    rw [s1] at hl
    obtain ⟨x0, x1, x2, rfl⟩ := list3 hl
    have e0 := hf 0 f0 rfl
    have e1 := hf 1 f1 rfl
    have e2 := hf 2 f2 rfl
    simp only [t0, t1, t2, o0, o1, o2, s8, s4, s5, List.drop_zero, List.drop_succ_cons, List.take_succ_cons, List.take_zero] at e0 e1 e2
    obtain ⟨z0, hz0, w0⟩ := typ_int T.u64 e0
    obtain ⟨sh, hsh, wsh, lsh⟩ := typ_ints T.ints T.i64 s9 b3 e1
    simp only [List.cons.injEq, and_true] at hz0 hsh
    obtain ⟨s, rfl, hs⟩ := u64_wf w0
    cases n with
    | zero => exact e2.elim
    | succ n =>
    simp only [Typ, T.cells] at e2
    obtain ⟨es, he, hle, hes⟩ := e2
    simp only [List.cons.injEq, and_true] at he
    have hcells : ∀ (es : List (List AV)), (∀ x ∈ es, Typ P n tC x) → ∃ cs : List Cell, es = cellsR cs ∧ cellsOK cs := by
      intro es
      induction es with
      | nil => intro _; exact ⟨[], rfl, trivial⟩
      | cons x es ihe =>
        intro hx
        obtain ⟨cs, h5, h6⟩ := ihe (fun y hy => hx y (List.mem_cons_of_mem _ hy))
        have hx0 := hx x (by simp)
        cases n with
        | zero => exact hx0.elim
        | succ n =>
        obtain ⟨g0, g1, g2, g3, g4, hu, q0, q1, q2, q3, q4, p0, p1, p2, p3, p4⟩ := T.cell
        simp only [Typ, hu] at hx0
        obtain ⟨hl, hf⟩ := hx0
        rw [s2] at hl
        obtain ⟨y0, y1, y2, y3, y4, y5, y6, rfl⟩ := list7 hl
        have e0 := hf 0 g0 rfl
        have e1 := hf 1 g1 rfl
        have e2 := hf 2 g2 rfl
        have e3 := hf 3 g3 rfl
        have e4 := hf 4 g4 rfl
        simp only [q0, q1, q2, q3, q4, p0, p1, p2, p3, p4, s8, s9, s3, s6, List.drop_zero, List.drop_succ_cons, List.take_succ_cons, List.take_zero] at e0 e1 e2 e3 e4
        obtain ⟨z0, hz0, w0⟩ := typ_int T.u64 e0
        obtain ⟨z1, hz1, w1⟩ := typ_int T.i64 e1
        obtain ⟨z3, hz3, w3⟩ := typ_int T.i64 e3
        simp only [List.cons.injEq, and_true] at hz0 hz1 hz3
        obtain ⟨l, rfl, hl'⟩ := u64_wf w0
        cases n with
        | zero => exact e2.elim
        | succ n =>
        obtain ⟨k0, k1, k2, hun, r0, r1, r2, m0, m1, m2⟩ := T.num
        simp only [Typ, hun] at e2
        obtain ⟨_, hfn⟩ := e2
        have j0 := hfn 0 k0 rfl
        have j1 := hfn 1 k1 rfl
        have j2 := hfn 2 k2 rfl
        simp only [r0, r1, r2, m0, m1, m2, s10, s7, List.drop_zero, List.drop_succ_cons, List.take_succ_cons, List.take_zero] at j0 j1 j2
        obtain ⟨b, hb⟩ := typ_bool T.b j0
        obtain ⟨tp, htp, wtp, ltp⟩ := typ_ints T.limbs T.u32 s11 b4 j1
        obtain ⟨bt, hbt, wbt, lbt⟩ := typ_ints T.limbs T.u32 s11 b4 j2
        simp only [List.cons.injEq, and_true] at hb htp hbt
        simp only [Typ, T.arrs] at e4
        obtain ⟨is, his, hli, his'⟩ := e4
        simp only [List.cons.injEq, and_true] at his
        have hins : ∀ (is : List (List AV)), (∀ x ∈ is, Typ P n tA x) → ∃ l : List Arr, is = arrsR l ∧ arrsOK l := by
          intro is
          induction is with
          | nil => intro _; exact ⟨[], rfl, trivial⟩
          | cons x is ihi =>
            intro hx
            obtain ⟨l, h7, h8⟩ := ihi (fun y hy => hx y (List.mem_cons_of_mem _ hy))
            obtain ⟨A, hA, hOK⟩ := ih n (by omega) x (hx x (by simp))
            exact ⟨A :: l, by rw [h7, hA]; rfl, hOK, h8⟩
        obtain ⟨ins, rfl, hinsOK⟩ := hins is his'
        have hil : (arrsR ins).length = ins.length := by rw [arrsR_map]; simp
        refine ⟨.mk l z1 ⟨b, tp, bt⟩ z3 ins :: cs, ?_, ⟨hl', w1, ⟨wtp, wbt, ltp, lbt⟩, w3, ?_, hinsOK⟩, h6⟩
        · rw [h5]; simp only [cellsR, cellR, hz0, hz1, hz3, hb, htp, hbt, his, s1]
        · rw [hil] at hli; exact Nat.le_trans (Nat.le_mul_of_pos_right _ b1) hli
    obtain ⟨cs, rfl, hcs⟩ := hcells es hes
    have hcl : (cellsR cs).length = cs.length := by rw [cellsR_map]; simp
    refine ⟨.mk s sh cs, ?_, hs, wsh, lsh, ?_, hcs⟩
    · simp only [arrR, hz0, hsh, he, s2]
    · rw [hcl] at hle; exact Nat.le_trans (Nat.le_mul_of_pos_right _ b2) hle
end
end Go.Proofs.Ytkgnnnehmnoleaa
