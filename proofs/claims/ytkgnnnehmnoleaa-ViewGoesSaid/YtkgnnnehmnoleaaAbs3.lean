/- An abstract layer over the walk, part 3: single operations. -/
import Derived.Test.YtkgnnnehmnoleaaAbs2
import Derived.Lib.SliceRun
namespace Go.Proofs.Ytkgnnnehmnoleaa
set_option linter.unusedVariables false
open Go.RowKit

/-- what a lowered operation came from -/
def LowSpec (P : Program) (o : Op) : AOp → Prop
  | .mov x => o = .move x ∨ o = .assign x
  | .pick c a b => o = .pick c a b
  | .alloc e z => o = .alloc e ∧ ∃ sz by_, zeroOf P e = some (z, sz, by_)
  | .box e n x => o = .box e x ∧ ∃ g, szOf P e = some (g, n)
  | .build z ps => ∃ t l sz by_, o = .build t l ∧ zeroOf P t = some (z, sz, by_) ∧ optAll (fun p : Nat × Operand => (placesOf P t p.1).map fun q => (q.1, q.2, p.2)) l.toList = some ps ∧ fieldsOK P t = true
  | .rowlit e sz len z ps => ∃ t l by_, o = .buildSlice t len l ∧ elemsOf P t = some e ∧ zeroOf P e = some (z, sz, by_) ∧ len * sz ≤ 16777216 ∧ ps = l.toList ∧ ∀ p ∈ ps, p.1 < len
  | .load g n x => ∃ t, o = .load t x ∧ szOf P t = some (g, n)
  | .store n p x => ∃ t g, o = .store t p x ∧ szOf P t = some (g, n)
  | .nilck x => o = .nilCheck x
  | .bin op x y => ∃ t t2, o = .binOp op t x y t2
  | .binB op x y => ∃ t t2, o = .binOp op t x y t2 ∧ P.underlying t = some .bool
  | .binS op x y => ∃ t t2, o = .binOp op t x y t2
  | .eqv t neg x y => ∃ t2, o = .binOp (bif neg then .neq else .eql) t x y t2
  | .un op x => ∃ t, o = .unOp op t x
  | .conv k x => ∃ s d ds, o = .convert s d x ∧ P.underlying s = some ds ∧ P.underlying d = some (.int k)
  | .make e sz by_ z l c => ∃ t, o = .makeSlice t l c ∧ elemsOf P t = some e ∧ zeroOf P e = some (z, sz, by_)
  | .slice sz x lo hi mx => ∃ t e g, o = .slice t x lo hi mx ∧ elemsOf P t = some e ∧ szOf P e = some (g, sz)
  | .faddr off x => ∃ t f fs fd g n, o = .fieldAddr t x f ∧ P.underlying t = some (.struct fs) ∧ fs[f]? = some fd ∧ szOf P fd.type = some (g, n) ∧ 0 < n ∧ off = fd.offset
  | .field g off n x => ∃ t f fs fd, o = .field t x f ∧ P.underlying t = some (.struct fs) ∧ fs[f]? = some fd ∧ szOf P fd.type = some (g, n) ∧ off = fd.offset
  | .iaddr sz x i => ∃ t e g, o = .indexAddr t x i ∧ P.underlying t = some (.slice e) ∧ szOf P e = some (g, sz) ∧ 0 < sz
  | .iaddrA len sz x i => ∃ t e g, o = .indexAddr t x i ∧ P.underlying t = some (.array len e) ∧ szOf P e = some (g, sz)
  | .idx g len sz x i => ∃ t e, o = .index t x i ∧ P.underlying t = some (.array len e) ∧ szOf P e = some (g, sz)
  | .sidx x i => ∃ t, o = .index t x i ∧ P.underlying t = some .string
  | .extract i x => o = .extract x i
  | .len x => ∃ t, o = .call { callee := .builtin .len, args := #[x], argTypes := #[t] } ∧ ∃ e, P.underlying t = some (.slice e)
  | .slen x => ∃ t, o = .call { callee := .builtin .len, args := #[x], argTypes := #[t] } ∧ P.underlying t = some .string
  | .append e sz by_ z s x => ∃ t, o = .call { callee := .builtin .append, args := #[s, x], argTypes := #[t, t] } ∧ elemsOf P t = some e ∧ zeroOf P e = some (z, sz, by_)
  | .copy sz d s => ∃ t t' e g, o = .call { callee := .builtin .copy, args := #[d, s], argTypes := #[t, t'] } ∧ elemsOf P t = some e ∧ szOf P e = some (g, sz)
  | .mm mx x y => ∃ l, o = .call { callee := .builtin (bif mx then .max else .min), args := #[x, y], argTypes := l }
  | .mkfn f fi ca => o = .makeFunc (.func f) fi.toArray ca.toArray
  | .call f args => ∃ l, o = .call { callee := .value f, args := args.toArray, argTypes := l }
  | .other _ => False

theorem toList_eq {α : Type} {a : Array α} {l : List α} (h : a.toList = l) : a = l.toArray := by subst h; simp

theorem low_spec {P : Program} {o : Op} {a : AOp} (h : lowerO P o = some a) : LowSpec P o a := by
  cases o
  case call c =>
    obtain ⟨callee, args, tys⟩ := c
    cases callee with
    | value f =>
      simp only [lowerO, Option.some.injEq] at h
      subst h
      exact ⟨tys, by simp⟩
    | invoke r m => simp [lowerO] at h
    | builtin b =>
      simp only [lowerO] at h
      have ha : args = args.toList.toArray := by simp
      have ht : tys = tys.toList.toArray := by simp
      rw [ha, ht]
      generalize args.toList = al at h
      generalize tys.toList = tl at h
      clear ha ht
      split at h
      · rename_i x t
        split at h
        · rename_i e hu; simp only [Option.some.injEq] at h; subst h; exact ⟨t, rfl, e, hu⟩
        · rename_i hu; simp only [Option.some.injEq] at h; subst h; exact ⟨t, rfl, hu⟩
        · cases h
      · rename_i s x t t'
        split at h
        · rename_i hb
          have := Nat.eq_of_beq_eq_true hb
          subst this
          split at h
          · rename_i e he
            split at h
            · rename_i z sz by_ hz; simp only [Option.some.injEq] at h; subst h; exact ⟨t, rfl, he, hz⟩
            · cases h
          · cases h
        · cases h
      · rename_i d s t t'
        split at h
        · rename_i e e' he he'
          split at h
          · rename_i g sz hz; simp only [Option.some.injEq] at h; subst h; exact ⟨t, t', e, g, rfl, he, hz⟩
          · cases h
        · cases h
      · simp only [Option.some.injEq] at h; subst h; exact ⟨_, rfl⟩
      · simp only [Option.some.injEq] at h; subst h; exact ⟨_, rfl⟩
      · cases h
  case makeFunc f fi ca =>
    cases f <;> simp only [lowerO] at h
    case func f => simp only [Option.some.injEq] at h; subst h; simp [LowSpec]
    all_goals cases h
  case move x => simp only [lowerO, Option.some.injEq] at h; subst h; exact .inl rfl
  case assign x => simp only [lowerO, Option.some.injEq] at h; subst h; exact .inr rfl
  case pick c a b => simp only [lowerO, Option.some.injEq] at h; subst h; rfl
  case nilCheck x => simp only [lowerO, Option.some.injEq] at h; subst h; rfl
  case unOp op t x => simp only [lowerO, Option.some.injEq] at h; subst h; exact ⟨t, rfl⟩
  case extract x i => simp only [lowerO, Option.some.injEq] at h; subst h; rfl
  case alloc t =>
    simp only [lowerO] at h
    split at h
    · rename_i z sz b hz; simp only [Option.some.injEq] at h; subst h; exact ⟨rfl, sz, b, hz⟩
    · cases h
  case box t x =>
    simp only [lowerO] at h
    split at h
    · rename_i g n hz; simp only [Option.some.injEq] at h; subst h; exact ⟨rfl, g, hz⟩
    · cases h
  case build t ps =>
    simp only [lowerO] at h
    split at h
    · rename_i z sz b l hz hl
      split at h
      · rename_i hf; simp only [Option.some.injEq] at h; subst h; exact ⟨t, ps, sz, b, rfl, hz, hl, hf⟩
      · cases h
    · cases h
  case buildSlice t len ps =>
    simp only [lowerO] at h
    split at h
    · rename_i e he
      split at h
      · rename_i z sz b hz
        split at h
        · rename_i hc
          simp only [Bool.and_eq_true, List.all_eq_true, Nat.blt_eq] at hc
          simp only [Option.some.injEq] at h; subst h
          exact ⟨t, ps, b, rfl, he, hz, Nat.le_of_ble_eq_true hc.1, rfl, hc.2⟩
        · cases h
      · cases h
    · cases h
  case load t x =>
    simp only [lowerO] at h
    split at h
    · rename_i g n hz; simp only [Option.some.injEq] at h; subst h; exact ⟨t, rfl, hz⟩
    · cases h
  case store t p x =>
    simp only [lowerO] at h
    split at h
    · rename_i g n hz; simp only [Option.some.injEq] at h; subst h; exact ⟨t, g, rfl, hz⟩
    · cases h
  case binOp op t x y t2 =>
    simp only [lowerO] at h
    split at h
    · rename_i k hu; simp only [Option.some.injEq] at h; subst h; exact ⟨t, t2, rfl⟩
    · rename_i hu; simp only [Option.some.injEq] at h; subst h; exact ⟨t, t2, rfl, hu⟩
    · rename_i hu; simp only [Option.some.injEq] at h; subst h; exact ⟨t, t2, rfl⟩
    · split at h
      · simp only [Option.some.injEq] at h; subst h; exact ⟨t2, rfl⟩
      · simp only [Option.some.injEq] at h; subst h; exact ⟨t2, rfl⟩
      · cases h
    · cases h
  case convert s d x =>
    simp only [lowerO] at h
    split at h
    · rename_i ds k hs hd; simp only [Option.some.injEq] at h; subst h; exact ⟨s, d, ds, rfl, hs, hd⟩
    · cases h
  case makeSlice t l c =>
    simp only [lowerO] at h
    split at h
    · rename_i e he
      split at h
      · rename_i z sz b hz; simp only [Option.some.injEq] at h; subst h; exact ⟨t, rfl, he, hz⟩
      · cases h
    · cases h
  case slice t x lo hi mx =>
    simp only [lowerO] at h
    split at h
    · rename_i e he
      split at h
      · rename_i g sz hz; simp only [Option.some.injEq] at h; subst h; exact ⟨t, e, g, rfl, he, hz⟩
      · cases h
    · cases h
  case fieldAddr t x f =>
    simp only [lowerO] at h
    split at h
    · rename_i fs hu
      split at h
      · rename_i fd hf
        split at h
        · rename_i g n hz
          split at h
          · rename_i hn; simp only [Option.some.injEq] at h; subst h; exact ⟨t, f, fs, fd, g, n, rfl, hu, hf, hz, by simpa [Nat.blt_eq] using hn, rfl⟩
          · cases h
        · cases h
      · cases h
    · cases h
  case field t x f =>
    simp only [lowerO] at h
    split at h
    · rename_i fs hu
      split at h
      · rename_i fd hf
        split at h
        · rename_i g n hz; simp only [Option.some.injEq] at h; subst h; exact ⟨t, f, fs, fd, rfl, hu, hf, hz, rfl⟩
        · cases h
      · cases h
    · cases h
  case indexAddr t x i =>
    simp only [lowerO] at h
    split at h
    · rename_i e hu
      split at h
      · rename_i g n hz
        split at h
        · rename_i hn; simp only [Option.some.injEq] at h; subst h; exact ⟨t, e, g, rfl, hu, hz, by simpa [Nat.blt_eq] using hn⟩
        · cases h
      · cases h
    · rename_i len e hu
      split at h
      · rename_i g n hz; simp only [Option.some.injEq] at h; subst h; exact ⟨t, e, g, rfl, hu, hz⟩
      · cases h
    · cases h
  case index t x i =>
    simp only [lowerO] at h
    split at h
    · rename_i len e hu
      split at h
      · rename_i g n hz; simp only [Option.some.injEq] at h; subst h; exact ⟨t, e, rfl, hu, hz⟩
      · cases h
    · rename_i hu; simp only [Option.some.injEq] at h; subst h; exact ⟨t, rfl, hu⟩
    · cases h
  all_goals (simp only [lowerO] at h; cases h)

/-- the guard says yes; says no -/
def gOK (st : St) : Option (Nat × Bool) → Prop
  | none => True
  | some (t, b) => st.get t = .lit (.bool b)
def gNo (st : St) : Option (Nat × Bool) → Prop
  | none => False
  | some (t, b) => st.get t = .lit (.bool (!b))

theorem yielded_of {ops : Array Oper} {tmps : Array Value} {j t : Nat} {b : Bool} (h : (ops[j]?).bind (·.dst) = some t) (hb : tmps.getD t undef = .bool b) : yielded ops tmps j = some b := by
  unfold yielded
  rw [h]
  simp only [Option.bind_some]
  rw [Array.getD_eq_getD_getElem?] at hb
  cases ht : tmps[t]? with
  | none => rw [ht] at hb; simp [undef] at hb
  | some v => rw [ht] at hb; simp at hb; subst hb; rfl

theorem mem_reads_g {i : AInst} {t : Nat} {b : Bool} (h : i.g = some (t, b)) : t ∈ i.reads := by
  simp [AInst.reads, h]

section
variable {P : Program} {N : Nat} {ops : Array Oper} {o : Oper} {i : AInst} {C : Ctx} {E : Env} {a : Act} {w : World} {sx st : St}

theorem wanted_of (hlow : lowerOp P N ops o = some i) (R : Rel C E sx a w) (hag : ∀ t ∈ i.reads, sx.get t = st.get t) (hg : gOK st i.g) : Region.wanted o (yielded ops a.tmps) = true := by
  obtain ⟨h1, h2, h3, h4⟩ := lower_parts hlow
  unfold Region.wanted
  cases ho : o.guard with
  | none => rfl
  | some p =>
    obtain ⟨j, b⟩ := p
    rw [ho] at h4
    obtain ⟨t, ht, e⟩ := h4
    rw [e] at hg
    have := R.tm t
    rw [hag t (mem_reads_g e), show st.get t = .lit (.bool b) from hg] at this
    simp only [yielded_of ht this, beq_self_eq_true]

theorem unwanted_of (hlow : lowerOp P N ops o = some i) (R : Rel C E sx a w) (hag : ∀ t ∈ i.reads, sx.get t = st.get t) (hg : gNo st i.g) : Region.wanted o (yielded ops a.tmps) = false := by
  obtain ⟨h1, h2, h3, h4⟩ := lower_parts hlow
  unfold Region.wanted
  cases ho : o.guard with
  | none => rw [ho] at h4; rw [show i.g = none from h4] at hg; exact hg.elim
  | some p =>
    obtain ⟨j, b⟩ := p
    rw [ho] at h4
    obtain ⟨t, ht, e⟩ := h4
    rw [e] at hg
    have := R.tm t
    rw [hag t (mem_reads_g e), show st.get t = .lit (.bool !b) from hg] at this
    simp only [yielded_of ht this]
    cases b <;> rfl

theorem ev_agree (hag : ∀ t ∈ i.reads, sx.get t = st.get t) {x : Operand} (hx : x ∈ i.op.opds) : ev sx x = ev st x := by
  cases x with
  | tmp t => exact hag t (by simp only [AInst.reads, List.mem_append]; left; exact mem_tmpsOf.2 hx)
  | _ => rfl

theorem eval_of (R : Rel C E sx a w) (hag : ∀ t ∈ i.reads, sx.get t = st.get t) {x : Operand} (hx : x ∈ i.op.opds) : Rd E w (ev st x) (a.eval x) := by
  rw [← ev_agree hag hx]; exact R.ev x
end

theorem tmps_put {a : Act} {d : Option Nat} {u : Value} {N : Nat} (hs : a.tmps.size = N) (hd : ∀ k, d = some k → k < N) (n : Nat) : (a.put d u).tmps.getD n undef = (if d = some n then u else a.tmps.getD n undef) := by
  cases d with
  | none => rfl
  | some k =>
    simp only [Act.put, Array.getD_eq_getD_getElem?, Array.getElem?_setIfInBounds]
    have := hd k rfl
    by_cases hk : k = n
    · subst hk; simp [hs, this]
    · simp [hk]

theorem put_defers (a : Act) (d : Option Nat) (u : Value) : (a.put d u).defers = a.defers := by cases d <;> rfl
theorem put_size (a : Act) (d : Option Nat) (u : Value) : (a.put d u).tmps.size = a.tmps.size := by cases d <;> simp [Act.put]

/-- a slot is written -/
theorem Rel.put {C : Ctx} {E : Env} {st : St} {a : Act} {w : World} (R : Rel C E st a w) {d : Option Nat} (hd : ∀ k, d = some k → k < C.N) {v : AV} {u : Value} (h : Rd E w v u) : Rel C E ⟨putT st.t d v, st.h, st.nx⟩ (a.put d u) w := by
  refine ⟨(put_defers a d u).trans R.defers, (put_size a d u).trans R.size, fun n => ?_, R.heap, R.nx, R.own, R.ext, R.imx, R.imn, R.frm⟩
  rw [tmps_put R.size hd]
  show Rd E w (getT (putT st.t d v) n) _
  by_cases hn : d = some n
  · rw [if_pos hn, hn, getT_same]; exact h
  · rw [if_neg hn, getT_ne _ _ _ _ hn]; exact R.tm n

/-- a guard that says no -/
theorem step_no {P : Program} {st : St} {i : AInst} (hg : gNo st i.g) : Step P st ⟨i, .any, [], [], false⟩ := by
  intro N ops o hlow C E a w sx hN R hag hh hnw K Q hK
  have := unwanted_of hlow R hag hg
  rw [if_neg (by rw [this]; exact Bool.false_ne_true)]
  obtain ⟨h1, h2, h3, h4⟩ := lower_parts hlow
  refine hK undef w E ?_ (fun id h => .inl h)
  have := R.put (d := o.dst) (fun k hk => by rw [hN]; exact h2 k hk) (v := .any) (u := undef) trivial
  simp only [St.appx, List.nil_append]
  rw [h1]
  exact this

/-- an operation that hands back a value, and leaves the world as it is -/
theorem step_val {P : Program} {st : St} {i : AInst} {v : AV} (rd : List Nat) (hg : gOK st i.g)
    (h : ∀ (o : Oper) (C : Ctx) (E : Env) (a : Act) (w : World) (sx : St), lowerO P o.op = some i.op → Rel C E sx a w → (∀ x ∈ i.op.opds, Rd E w (ev st x) (a.eval x)) → (∀ id ∈ rd, hl sx.h id = hl st.h id) →
      ∃ u, (execOp a.eval o).run P w = .ok (.value u) w ∧ Rd E w v u) : Step P st ⟨i, v, rd, [], false⟩ := by
  intro N ops o hlow C E a w sx hN R hag hh hnw K Q hK
  rw [if_pos (wanted_of hlow R hag hg)]
  obtain ⟨h1, h2, h3, h4⟩ := lower_parts hlow
  obtain ⟨u, hu, hr⟩ := h o C E a w sx h3 R (fun x hx => eval_of R hag hx) (fun id hid => hh id (.inl hid))
  unfold Oper.wp
  rw [hu, Oper.upon_value]
  refine hK u w E ?_ (fun id h => .inl h)
  have := R.put (d := o.dst) (fun k hk => by rw [hN]; exact h2 k hk) hr
  simp only [St.appx, List.nil_append]
  rw [h1]
  exact this

theorem lit_eval {E : Env} {w : World} {av : AV} {v u : Value} (h : Rd E w av v) (e : av = .lit u) : v = u := by subst e; exact h

section
variable {P : Program} {st : St} {d : Option Nat} {g : Option (Nat × Bool)}

theorem q_mov {x : Operand} (hg : gOK st g) : Step P st ⟨⟨d, g, .mov x⟩, ev st x, [], [], false⟩ :=
  step_val [] hg fun o C E a w sx hlow R hr hh => by
    have hx := hr x (by simp [AOp.opds])
    obtain ⟨dst, op, ty, pos, after, guard⟩ := o
    rcases low_spec hlow with h | h <;> (simp only at h; subst h; exact ⟨_, rfl, hx⟩)

theorem q_pick {c x y : Operand} {b : Bool} (hg : gOK st g) (hc : ev st c = .lit (.bool b)) : Step P st ⟨⟨d, g, .pick c x y⟩, bif b then ev st x else ev st y, [], [], false⟩ :=
  step_val [] hg fun o C E a w sx hlow R hr hh => by
    have h1 := lit_eval (hr c (by simp [AOp.opds])) hc
    have hx := hr x (by simp [AOp.opds])
    have hy := hr y (by simp [AOp.opds])
    obtain ⟨dst, op, ty, pos, after, guard⟩ := o
    have h := low_spec hlow
    simp only [LowSpec] at h; subst h
    cases b with
    | true => exact ⟨_, by simp [execOp, h1, asBool], hx⟩
    | false => exact ⟨_, by simp [execOp, h1, asBool], hy⟩
end
end Go.Proofs.Ytkgnnnehmnoleaa

namespace Go.Proofs.Ytkgnnnehmnoleaa
set_option linter.unusedVariables false
open Go.RowKit

def absInt (op : BinOp) (k : IntKind) (a b : Int) : Option Value :=
  match op with
  | .add => some (.int k (k.wrap (a + b)))
  | .sub => some (.int k (k.wrap (a - b)))
  | .mul => some (.int k (k.wrap (a * b)))
  | .and => some (.int k (k.wrap (BitVec.ofInt k.bits a &&& BitVec.ofInt k.bits b).toNat))
  | .or => some (.int k (k.wrap (BitVec.ofInt k.bits a ||| BitVec.ofInt k.bits b).toNat))
  | .xor => some (.int k (k.wrap (BitVec.ofInt k.bits a ^^^ BitVec.ofInt k.bits b).toNat))
  | .andNot => some (.int k (k.wrap (BitVec.ofInt k.bits a &&& ~~~ BitVec.ofInt k.bits b).toNat))
  | .eql => some (.bool (a == b))
  | .neq => some (.bool (a != b))
  | .lss => some (.bool (decide (a < b)))
  | .leq => some (.bool (decide (a ≤ b)))
  | .gtr => some (.bool (decide (a > b)))
  | .geq => some (.bool (decide (a ≥ b)))
  | _ => none

section
variable {P : Program} {st : St} {d : Option Nat} {g : Option (Nat × Bool)}

theorem eqGuard_run {w : World} (op : BinOp) (t : TypeId) (x y : Operand) (k k' : IntKind) (a b : Int) : (eqGuard op t x y (.int k a) (.int k' b)).run P w = .ok () w := by
  cases op <;> rfl

theorem q_int {op : BinOp} {x y : Operand} {k : IntKind} {a b : Int} {v : Value} (hg : gOK st g) (hx : ev st x = .lit (.int k a)) (hy : ev st y = .lit (.int k b)) (hv : absInt op k a b = some v) : Step P st ⟨⟨d, g, .bin op x y⟩, .lit v, [], [], false⟩ :=
  step_val [] hg fun o C E ac w sx hlow R hr hh => by
    have h1 := lit_eval (hr x (by simp [AOp.opds])) hx
    have h2 := lit_eval (hr y (by simp [AOp.opds])) hy
    obtain ⟨dst, o, ty, pos, after, guard⟩ := o
    obtain ⟨t, t2, rfl⟩ := low_spec hlow
    refine ⟨v, ?_, rfl⟩
    have hb : (binOp op t (.int k a) (.int k b)).run P w = .ok v w := by
      cases op <;> simp only [absInt, Option.some.injEq] at hv <;> first
        | (cases hv; done)
        | (subst hv; simp [binOp, Op.intArith, Op.intBits, Op.intCmp])
    simp only [execOp, h1, h2, Sem.run_bind, eqGuard_run, Result.andThen_ok, hb, Sem.run_pure]

theorem q_div {x y : Operand} {k : IntKind} {a b : Int} (hg : gOK st g) (hx : ev st x = .lit (.int k a)) (hy : ev st y = .lit (.int k b)) (hb : b ≠ 0) : Step P st ⟨⟨d, g, .bin .quo x y⟩, .lit (.int k (k.wrap (a.tdiv b))), [], [], false⟩ :=
  step_val [] hg fun o C E ac w sx hlow R hr hh => by
    have h1 := lit_eval (hr x (by simp [AOp.opds])) hx
    have h2 := lit_eval (hr y (by simp [AOp.opds])) hy
    obtain ⟨dst, o, ty, pos, after, guard⟩ := o
    obtain ⟨t, t2, rfl⟩ := low_spec hlow
    refine ⟨_, ?_, rfl⟩
    have hb : (binOp .quo t (.int k a) (.int k b)).run P w = .ok (.int k (k.wrap (a.tdiv b))) w := by
      simp [binOp, Op.intDiv, hb]
    simp only [execOp, h1, h2, Sem.run_bind, eqGuard_run, Result.andThen_ok, hb, Sem.run_pure]

theorem q_rem {x y : Operand} {k : IntKind} {a b : Int} (hg : gOK st g) (hx : ev st x = .lit (.int k a)) (hy : ev st y = .lit (.int k b)) (hb : b ≠ 0) : Step P st ⟨⟨d, g, .bin .rem x y⟩, .lit (.int k (a.tmod b)), [], [], false⟩ :=
  step_val [] hg fun o C E ac w sx hlow R hr hh => by
    have h1 := lit_eval (hr x (by simp [AOp.opds])) hx
    have h2 := lit_eval (hr y (by simp [AOp.opds])) hy
    obtain ⟨dst, o, ty, pos, after, guard⟩ := o
    obtain ⟨t, t2, rfl⟩ := low_spec hlow
    refine ⟨_, ?_, rfl⟩
    have hb : (binOp .rem t (.int k a) (.int k b)).run P w = .ok (.int k (a.tmod b)) w := by
      simp [binOp, Op.intDiv, hb]
    simp only [execOp, h1, h2, Sem.run_bind, eqGuard_run, Result.andThen_ok, hb, Sem.run_pure]

def absBool (op : BinOp) (a b : Bool) : Option Value :=
  match op with
  | .eql => some (.bool (a == b))
  | .neq => some (.bool (!(a == b)))
  | _ => none

theorem equalIn_bool {w : World} (n : Nat) {t : TypeId} (hu : P.underlying t = some .bool) (a b : Bool) : (Op.equalIn (n + 1) t (.bool a) (.bool b)).run P w = .ok (a == b) w := by
  simp only [Op.equalIn, Sem.run_bind, run_underlying hu w, Result.andThen_ok, Sem.run_pure]

theorem q_bool {op : BinOp} {x y : Operand} {a b : Bool} {v : Value} (hg : gOK st g) (hx : ev st x = .lit (.bool a)) (hy : ev st y = .lit (.bool b)) (hv : absBool op a b = some v) : Step P st ⟨⟨d, g, .binB op x y⟩, .lit v, [], [], false⟩ :=
  step_val [] hg fun o C E ac w sx hlow R hr hh => by
    have h1 := lit_eval (hr x (by simp [AOp.opds])) hx
    have h2 := lit_eval (hr y (by simp [AOp.opds])) hy
    obtain ⟨dst, o, ty, pos, after, guard⟩ := o
    obtain ⟨t, t2, rfl, hu⟩ := low_spec hlow
    refine ⟨v, ?_, rfl⟩
    have he : (Op.equal t (.bool a) (.bool b)).run P w = .ok (a == b) w := equalIn_bool 9999 hu a b
    have hb : (binOp op t (.bool a) (.bool b)).run P w = .ok v w := by
      cases op <;> simp only [absBool, Option.some.injEq] at hv <;> first
        | (cases hv; done)
        | (subst hv; simp [binOp, he])
    have hq : (eqGuard op t x y (.bool a) (.bool b)).run P w = .ok () w := by cases op <;> rfl
    simp only [execOp, h1, h2, Sem.run_bind, hq, Result.andThen_ok, hb, Sem.run_pure]

theorem q_not {x : Operand} {b : Bool} (hg : gOK st g) (hx : ev st x = .lit (.bool b)) : Step P st ⟨⟨d, g, .un .not x⟩, .lit (.bool !b), [], [], false⟩ :=
  step_val [] hg fun o C E ac w sx hlow R hr hh => by
    have h1 := lit_eval (hr x (by simp [AOp.opds])) hx
    obtain ⟨dst, o, ty, pos, after, guard⟩ := o
    obtain ⟨t, rfl⟩ := low_spec hlow
    exact ⟨_, by simp [execOp, h1, Op.unary], rfl⟩

theorem q_neg {x : Operand} {k : IntKind} {n : Int} (hg : gOK st g) (hx : ev st x = .lit (.int k n)) : Step P st ⟨⟨d, g, .un .neg x⟩, .lit (.int k (k.wrap (0 - n))), [], [], false⟩ :=
  step_val [] hg fun o C E ac w sx hlow R hr hh => by
    have h1 := lit_eval (hr x (by simp [AOp.opds])) hx
    obtain ⟨dst, o, ty, pos, after, guard⟩ := o
    obtain ⟨t, rfl⟩ := low_spec hlow
    exact ⟨_, by simp [execOp, h1, Op.unary, Op.intArith], rfl⟩

theorem q_conv {x : Operand} {k k0 : IntKind} {n : Int} (hg : gOK st g) (hx : ev st x = .lit (.int k0 n)) : Step P st ⟨⟨d, g, .conv k x⟩, .lit (.int k (k.wrap n)), [], [], false⟩ :=
  step_val [] hg fun o C E ac w sx hlow R hr hh => by
    have h1 := lit_eval (hr x (by simp [AOp.opds])) hx
    obtain ⟨dst, o, ty, pos, after, guard⟩ := o
    obtain ⟨s, dd, ds, rfl, hs, hd⟩ := low_spec hlow
    refine ⟨.int k (k.wrap n), ?_, rfl⟩
    have hc : (convert s dd (.int k0 n)).run P w = .ok (.int k (k.wrap n)) w := by
      unfold convert
      rw [Sem.run_bind, run_underlying hs w, Result.andThen_ok, Sem.run_bind, run_underlying hd w, Result.andThen_ok]
      cases ds <;> rfl
    simp only [execOp, h1, Sem.run_bind, hc, Result.andThen_ok, Sem.run_pure]

theorem fieldAt_run {w : World} {t : TypeId} {f : Nat} {fs : Array Field} {fd : Field} {gg : Bool} {n : Nat} (h1 : P.underlying t = some (.struct fs)) (h2 : fs[f]? = some fd) (h3 : szOf P fd.type = some (gg, n)) (h4 : 0 < n) (b off : Nat) :
    (Instr.fieldAt t (.pointer (some ⟨b, off, none⟩)) f).run P w = .ok (.pointer (some ⟨b, off + fd.offset, none⟩)) w := by
  obtain ⟨dd, i, k1, k2, k3, _⟩ := szOf_spec h3
  have hsz : (sizeOf fd.type).run P w = .ok n w := by simp [sizeOf, typeInfo, k2, k3]
  have hn : ¬ n = 0 := by omega
  simp only [Instr.fieldAt, Sem.run_bind, run_underlying h1 w, Result.andThen_ok, h2, Instr.sureAddr, Sem.run_pure, fieldPlace, hsz, if_neg hn, addr_add]

theorem q_faddr {x : Operand} {off id i off' : Nat} (hg : gOK st g) (hx : ev st x = .optr id i off') : Step P st ⟨⟨d, g, .faddr off x⟩, .optr id i (off' + off), [], [], false⟩ :=
  step_val [] hg fun o C E ac w sx hlow R hr hh => by
    have h1 := hr x (by simp [AOp.opds])
    rw [hx] at h1
    obtain ⟨hl1, b, hb, hv⟩ := h1
    obtain ⟨dst, o, ty, pos, after, guard⟩ := o
    obtain ⟨t, f, fs, fd, gg, n, rfl, k1, k2, k3, k4, rfl⟩ := low_spec hlow
    exact ⟨.pointer (some ⟨b, i * E.sz id + off' + fd.offset, none⟩), by simp only [execOp, hv, Sem.run_bind, fieldAt_run k1 k2 k3 k4, Result.andThen_ok, Sem.run_pure], hl1, b, hb, by rw [Nat.add_assoc]⟩

theorem q_faddrE {x : Operand} {off sz i off' : Nat} {es : List (List AV)} (hg : gOK st g) (hx : ev st x = .ep sz es i off') : Step P st ⟨⟨d, g, .faddr off x⟩, .ep sz es i (off' + off), [], [], false⟩ :=
  step_val [] hg fun o C E ac w sx hlow R hr hh => by
    have h1 := hr x (by simp [AOp.opds])
    rw [hx] at h1
    obtain ⟨b, oo, vs, hv, h2, h3, h4⟩ := h1
    obtain ⟨dst, o, ty, pos, after, guard⟩ := o
    obtain ⟨t, f, fs, fd, gg, n, rfl, k1, k2, k3, k4, rfl⟩ := low_spec hlow
    exact ⟨.pointer (some ⟨b, oo + (i * sz + off') + fd.offset, none⟩), by simp only [execOp, hv, Sem.run_bind, fieldAt_run k1 k2 k3 k4, Result.andThen_ok, Sem.run_pure], b, oo, vs, by simp only [Nat.add_assoc], h2, h3, h4⟩

theorem RdIE.get {im : Nat → Prop} {w : World} {sz : Nat} : ∀ {es : List (List AV)} {vs : List Value} {i : Nat} {e : List AV}, RdIE im w sz es vs → es[i]? = some e → RdIL im w e ((vs.drop (i * sz)).take sz) ∧ ((vs.drop (i * sz)).take sz).length = sz
  | [], vs, i, e, h, hi => by simp at hi
  | e0 :: es, vs, 0, e, h, hi => by
    simp only [RdIE] at h
    obtain ⟨x, rest, rfl, h1, h2, h3⟩ := h
    simp only [List.getElem?_cons_zero, Option.some.injEq] at hi
    subst hi
    have : (x ++ rest).take sz = x := by rw [← h1]; simp
    rw [Nat.zero_mul, List.drop_zero, this]
    exact ⟨h2, h1⟩
  | e0 :: es, vs, i + 1, e, h, hi => by
    simp only [RdIE] at h
    obtain ⟨x, rest, rfl, h1, h2, h3⟩ := h
    have := RdIE.get h3 (i := i) (by simpa using hi)
    have hd : (x ++ rest).drop ((i + 1) * sz) = rest.drop (i * sz) := by
      rw [Nat.add_mul, Nat.one_mul, Nat.add_comm, ← List.drop_drop]
      congr 1
      rw [← h1]; simp
    rw [hd]; exact this

/-- the cells of a block of one's own -/
theorem ob_cells {E : Env} {w : World} {id : Nat} {o : OB} {b : Nat} (h : obOK E w id o) (hb : blkOf (E.val id) = some b) :
    ∃ vs, (∀ j v, vs[j]? = some v → w.cell? ⟨b, j, none⟩ = some v) ∧ Ones vs ∧ ∀ i e, o.es[i]? = some e → RdL E w e ((vs.drop (i * o.sz)).take o.sz) ∧ ((vs.drop (i * o.sz)).take o.sz).length = o.sz := by
  obtain ⟨k1, k2⟩ := h
  cases hrow : o.row with
  | true =>
    rw [hrow] at k2
    obtain ⟨vs, a, cap, j1, j2, j3, j4, j5⟩ := k2
    refine ⟨vs, fun j v hj => ?_, j4, fun i e hi => ?_⟩
    · have hb' : (E.val id).ownBlock = some b := by rw [j1] at hb ⊢; cases a <;> simp [blkOf, Value.ownBlock] at hb ⊢; exact hb
      have := j2.cells hb' j v hj
      rw [addr_add] at this; simpa using this
    · obtain ⟨r1, r2⟩ := j3.get hi
      exact ⟨RdIL.rd _ _ r1, r2⟩
  | false =>
    rw [hrow] at k2
    obtain ⟨gg, vs, cs, j1, j2, j3, j4, j5, j6⟩ := k2
    rw [j1] at hb
    simp only [blkOf, Option.some.injEq] at hb
    subst hb
    refine ⟨vs, fun j v hj => by simp only [World.cell?, j2]; simpa using hj, j6, fun i e hi => ?_⟩
    rw [j3] at hi
    cases i with
    | zero =>
      simp only [List.getElem?_cons_zero, Option.some.injEq] at hi
      subst hi
      rw [Nat.zero_mul, List.drop_zero, List.take_of_length_le (by omega)]
      exact ⟨j5, j4⟩
    | succ i => simp at hi

/-- cells off .. off + n of an element -/
def cut (e : List AV) (off n : Nat) : Option (List AV) := bif Nat.ble (off + n) e.length then some ((e.drop off).take n) else none

theorem cut_spec {e cs : List AV} {off n : Nat} (h : cut e off n = some cs) : off + n ≤ e.length ∧ cs = (e.drop off).take n := by
  unfold cut at h
  cases hb : Nat.ble (off + n) e.length with
  | false => simp [hb] at h
  | true => simp only [hb, cond_true, Option.some.injEq] at h; exact ⟨Nat.le_of_ble_eq_true hb, h.symm⟩

theorem load_run {E : Env} {w : World} {t : TypeId} {gg : Bool} {n : Nat} (hs : szOf P t = some (gg, n)) {b o sz i off : Nat} {vs : List Value} (hc : ∀ j v, vs[j]? = some v → w.cell? ⟨b, o + j, none⟩ = some v)
    (h1 : Ones vs) {e cs : List AV} (hr : RdL E w e ((vs.drop (i * sz)).take sz)) (hlen : ((vs.drop (i * sz)).take sz).length = sz) (hcut : cut e off n = some cs) {v : AV} (hv : ofCells gg cs = some v) :
    ∃ u, (Instr.loadAt t (.pointer (some ⟨b, o + (i * sz + off), none⟩))).run P w = .ok u w ∧ Rd E w v u := by
  obtain ⟨c1, rfl⟩ := cut_spec hcut
  have hel := hr.length
  rw [hlen] at hel
  have hcells : ∀ j u, ((((vs.drop (i * sz)).take sz).drop off).take n)[j]? = some u → w.cell? ⟨b, o + (i * sz + off) + j, none⟩ = some u := fun j u hj => by
    rw [List.getElem?_take] at hj
    split at hj
    · rw [List.getElem?_drop, List.getElem?_take] at hj
      split at hj
      · rw [List.getElem?_drop] at hj
        have := hc _ u hj
        rw [show o + (i * sz + off) + j = o + (i * sz + (off + j)) from by omega]; exact this
      · cases hj
    · cases hj
  have hload := run_loadVar_at (P := P) (w := w) (b := b) (o := o + (i * sz + off)) hs (by rw [List.length_take, List.length_drop, hlen]; omega) hcells
  refine ⟨_, ?_, ofCells_rd (n := n) hv (fun u hu => h1 u (List.mem_of_mem_drop (List.mem_of_mem_take (List.mem_of_mem_drop (List.mem_of_mem_take hu))))) ((hr.drop off).take n)⟩
  simp only [Instr.loadAt, Instr.sureAddr, Sem.run_bind, Sem.run_pure, Result.andThen_ok]
  exact hload

theorem q_load {gg : Bool} {n : Nat} {x : Operand} {id i off : Nat} {ob : OB} {e cs : List AV} {v : AV} (hg : gOK st g) (hx : ev st x = .optr id i off) (ho : hl st.h id = some ob) (he : ob.es[i]? = some e) (hcut : cut e off n = some cs) (hv : ofCells gg cs = some v) :
    Step P st ⟨⟨d, g, .load gg n x⟩, v, [id], [], false⟩ :=
  step_val [id] hg fun o C E ac w sx hlow R hr hh => by
    have h1 := hr x (by simp [AOp.opds])
    rw [hx] at h1
    obtain ⟨hl1, b, hb, hpv⟩ := h1
    obtain ⟨dst, o, ty, pos, after, guard⟩ := o
    obtain ⟨t, rfl, hs⟩ := low_spec hlow
    have hok := R.heap.ob id ob hl1 (by rw [hh id (by simp)]; exact ho)
    obtain ⟨vs, k1, k2, k3⟩ := ob_cells hok hb
    obtain ⟨r1, r2⟩ := k3 i e he
    obtain ⟨u, hu, hru⟩ := load_run (P := P) (o := 0) hs (fun j v hj => by rw [Nat.zero_add]; exact k1 j v hj) k2 r1 r2 hcut hv
    rw [Nat.zero_add, ← hok.1] at hu
    exact ⟨u, by simp only [execOp, hpv, Sem.run_bind, hu, Result.andThen_ok, Sem.run_pure], hru⟩

theorem q_loadE {gg : Bool} {n : Nat} {x : Operand} {sz i off : Nat} {es : List (List AV)} {e cs : List AV} {v : AV} (hg : gOK st g) (hx : ev st x = .ep sz es i off) (he : es[i]? = some e) (hcut : cut e off n = some cs) (hv : ofCells gg cs = some v) :
    Step P st ⟨⟨d, g, .load gg n x⟩, v, [], [], false⟩ :=
  step_val [] hg fun o C E ac w sx hlow R hr hh => by
    have h1 := hr x (by simp [AOp.opds])
    rw [hx] at h1
    obtain ⟨b, oo, vs, hpv, h2, h3, h4⟩ := h1
    obtain ⟨dst, o, ty, pos, after, guard⟩ := o
    obtain ⟨t, rfl, hs⟩ := low_spec hlow
    obtain ⟨r1, r2⟩ := h4.get he
    obtain ⟨u, hu, hru⟩ := load_run (P := P) (o := oo) hs (fun j v hj => by
      obtain ⟨b', o', e1, _, hc⟩ := h2 j v hj
      simp only [Option.some.injEq, Addr.mk.injEq, and_true] at e1
      obtain ⟨rfl, rfl⟩ := e1
      exact hc) h3 (RdIL.rd (E := E) _ _ r1) r2 hcut hv
    exact ⟨u, by simp only [execOp, hpv, Sem.run_bind, hu, Result.andThen_ok, Sem.run_pure], hru⟩

theorem q_extract {i : Nat} {x : Operand} {vs : List AV} {v : AV} (hg : gOK st g) (hx : ev st x = .tup vs) (hv : vs[i]? = some v) : Step P st ⟨⟨d, g, .extract i x⟩, v, [], [], false⟩ :=
  step_val [] hg fun o C E ac w sx hlow R hr hh => by
    have h1 := hr x (by simp [AOp.opds])
    rw [hx] at h1
    obtain ⟨us, hpv, hrl⟩ := h1
    obtain ⟨u, hu, hru⟩ := hrl.get hv
    obtain ⟨dst, o, ty, pos, after, guard⟩ := o
    have h := low_spec hlow
    simp only [LowSpec] at h; subst h
    exact ⟨u, by simp [execOp, hpv, Instr.extract, hu], hru⟩

theorem q_field {gg : Bool} {off n : Nat} {x : Operand} {cs cs' : List AV} {v : AV} (hg : gOK st g) (hx : ev st x = .agg cs) (hcut : cut cs off n = some cs') (hv : ofCells gg cs' = some v) : Step P st ⟨⟨d, g, .field gg off n x⟩, v, [], [], false⟩ :=
  step_val [] hg fun o C E ac w sx hlow R hr hh => by
    have h1 := hr x (by simp [AOp.opds])
    rw [hx] at h1
    obtain ⟨us, hpv, h0, hrl⟩ := h1
    obtain ⟨dst, o, ty, pos, after, guard⟩ := o
    obtain ⟨t, f, fs, fd, rfl, k1, k2, k3, rfl⟩ := low_spec hlow
    obtain ⟨c1, rfl⟩ := cut_spec hcut
    obtain ⟨dd, i, j1, j2, j3, j4, j5⟩ := szOf_spec k3
    have hl := hrl.length
    refine ⟨bif gg then .agg (((us.drop fd.offset).take n).toArray) else ((us.drop fd.offset).take n).getD 0 undef, ?_, ofCells_rd (n := n) hv (fun u hu => h0 u (List.mem_of_mem_drop (List.mem_of_mem_take hu))) ((hrl.drop _).take n)⟩
    have hpart : (part fd.type us.toArray fd.offset).run P w = .ok (bif gg then .agg (((us.drop fd.offset).take n).toArray) else ((us.drop fd.offset).take n).getD 0 undef) w := by
      have hagg : (isAgg fd.type).run P w = .ok gg w := by
        unfold isAgg
        rw [Sem.run_bind, run_underlying j1 w]
        rw [j4]; cases dd <;> rfl
      unfold part
      rw [Sem.run_bind, hagg, Result.andThen_ok]
      cases gg with
      | true =>
        simp only [if_true, Sem.run_bind, sizeOf, typeInfo, cond_true]
        simp [j2, j3]
      | false =>
        have hn := j5 rfl
        subst hn
        have hlt : fd.offset < us.length := by omega
        simp [hlt, List.getD]
    simp only [execOp, hpv, Instr.field, Sem.run_bind, run_underlying k1 w, Result.andThen_ok, k2, asAgg, Sem.run_pure, hpart]
end
theorem eqvS_run {P : Program} {w : World} {t e : TypeId} (hu : P.underlying t = some (.slice e)) (a : Option Addr) (n c : Nat) : (binOp .eql t (.slice a n c) (.slice none 0 0)).run P w = .ok (.bool a.isNone) w := Lib.run_eql_slice_nil w t e a n c 0 0 hu

/-- a slice, asked whether it is nil -/
theorem q_eqvS {P : Program} {st : St} {d : Option Nat} {g : Option (Nat × Bool)} {t e : TypeId} {x y : Operand} {a : Option Addr} {n c : Nat} (hu : P.underlying t = some (.slice e)) (hg : gOK st g) (hx : ev st x = .lit (.slice a n c)) (hy : ev st y = .lit (.slice none 0 0)) : Step P st ⟨⟨d, g, .eqv t false x y⟩, .lit (.bool a.isNone), [], [], false⟩ :=
  step_val [] hg fun o C E ac w sx hlow R hr hh => by
    have h1 := lit_eval (hr x (by simp [AOp.opds])) hx
    have h2 := lit_eval (hr y (by simp [AOp.opds])) hy
    obtain ⟨dst, o, ty, pos, after, guard⟩ := o
    obtain ⟨t2, rfl⟩ := low_spec hlow
    refine ⟨_, ?_, rfl⟩
    have hq : (eqGuard .eql t x y (.slice a n c) (.slice none 0 0)).run P w = .ok () w := rfl
    simp only [execOp, h1, h2, Sem.run_bind, cond_false, hq, Result.andThen_ok, eqvS_run hu, Sem.run_pure]
end Go.Proofs.Ytkgnnnehmnoleaa

namespace Go.Proofs.Ytkgnnnehmnoleaa
set_option linter.unusedVariables false
open Go.RowKit

/-- only numbers, truths and the like -/
def scal : AV → Bool
  | .any => true
  | .lit _ => true
  | .tup l => l.all fun x => match x with | .any => true | .lit _ => true | _ => false
  | _ => false

theorem scal_rdL {im : Nat → Prop} {E : Env} {w w' : World} : ∀ {l : List AV} {vs : List Value}, (l.all fun x => match x with | .any => true | .lit _ => true | _ => false) = true → RdIL im w l vs → RdL E w' l vs
  | [], vs, _, h => h
  | a :: l, vs, hs, h => by
    simp only [List.all_cons, Bool.and_eq_true] at hs
    simp only [RdIL] at h
    obtain ⟨v, rest, h1, h2, h3⟩ := h
    refine ⟨v, rest, h1, ?_, scal_rdL hs.2 h3⟩
    cases a <;> simp at hs <;> first | trivial | exact h2

theorem scal_rd {im : Nat → Prop} {E : Env} {w w' : World} {r : AV} {v : Value} (hs : scal r = true) (h : RdI im w r v) : Rd E w' r v := by
  cases r <;> simp only [scal] at hs <;> first
    | (cases hs; done)
    | trivial
    | exact h
    | skip
  simp only [RdI] at h
  obtain ⟨vs, h1, h2⟩ := h
  exact ⟨vs, h1, scal_rdL hs h2⟩

/-- some blocks alone -/
def restr (rd : List Nat) (h : Hp) : Hp := rd.map fun id => (id, hl h id)

theorem hl_restr {h : Hp} {id : Nat} {o : OB} : ∀ {rd : List Nat}, hl (restr rd h) id = some o → id ∈ rd ∧ hl h id = some o
  | [], e => by simp [restr, hl, look] at e
  | k :: rd, e => by
    by_cases hk : k = id
    · subst hk
      simp only [restr, List.map_cons, hl, look, Nat.beq_refl, cond_true] at e
      refine ⟨by simp, ?_⟩
      split at e
      · rename_i o' ho; simp only [Option.some.injEq] at e ho; rw [← e]; exact ho
      · cases e
    · have : hl (restr (k :: rd) h) id = hl (restr rd h) id := by simp only [restr, List.map_cons, hl, look, beq_ne hk, cond_false]
      rw [this] at e
      obtain ⟨h1, h2⟩ := hl_restr e
      exact ⟨List.mem_cons_of_mem _ h1, h2⟩

theorem HeapOK.restr {E : Env} {w : World} {h h' : Hp} {rd : List Nat} (H : HeapOK E w h) (e : ∀ id ∈ rd, hl h id = hl h' id) : HeapOK E w (restr rd h') := by
  have key : ∀ id o, hl (Go.Proofs.Ytkgnnnehmnoleaa.restr rd h') id = some o → hl h id = some o := fun id o ho => by
    obtain ⟨h1, h2⟩ := hl_restr ho
    rw [e id h1]; exact h2
  exact ⟨fun id o h1 h2 => H.ob id o h1 (key id o h2), fun id id' o o' b h1 h2 h3 h4 => H.apart id id' o o' b h1 h2 (key _ _ h3) (key _ _ h4), fun id o b h1 h2 => H.im id o b h1 (key _ _ h2), H.lt⟩

mutual
/-- the blocks that a value leads to -/
def refAV (k : Nat → List Nat) : AV → List Nat
  | .own id => k id
  | .optr id _ _ => k id
  | .agg cs => refL k cs
  | .tup cs => refL k cs
  | .fn _ fi ca => refL k fi ++ refL k ca
  | _ => []
def refL (k : Nat → List Nat) : List AV → List Nat
  | [] => []
  | a :: l => refAV k a ++ refL k l
end
def refsN (h : Hp) : Nat → AV → List Nat
  | 0, _ => []
  | n + 1, av => refAV (fun id => id :: match hl h id with
    | some o => bif o.row then [] else match o.es with | [cs] => refL (fun id => refsN h n (.own id)) cs | _ => []
    | none => []) av

theorem obOK.mono {E E' : Env} {w w' : World} {id : Nat} {o : OB} (h : obOK E w id o) (hid : E'.val id = E.val id ∧ E'.sz id = E.sz id) (hl : ∀ id, E.live id → E'.live id ∧ E'.val id = E.val id ∧ E'.sz id = E.sz id) (hi : ∀ b, E.im b → E'.im b)
    (hw : ∀ b, E.im b → w'.heap[b]? = w.heap[b]?) (hb : ∀ b, blkOf (E.val id) = some b → w'.heap[b]? = w.heap[b]?) : obOK E' w' id o := by
  obtain ⟨k1, k2⟩ := h
  refine ⟨by rw [hid.2]; exact k1, ?_⟩
  cases hrow : o.row with
  | true =>
    rw [hrow] at k2
    obtain ⟨vs, a, cap, j1, j2, j3, j4, j5⟩ := k2
    refine ⟨vs, a, cap, by rw [hid.1]; exact j1, ?_, RdIE.mono hi hw _ _ _ j3, j4, j5⟩
    rw [hid.1]
    refine ⟨j2.1, ?_⟩
    rcases j2.2 with h | ⟨g, c, cur, hv, h0, hg, rest⟩
    · exact .inl h
    · exact .inr ⟨g, c, cur, hv, h0, by rw [hb g (by rw [hv]; rfl)]; exact hg, rest⟩
  | false =>
    rw [hrow] at k2
    obtain ⟨g, vs, cs, j1, j2, j3, j4, j5, j6⟩ := k2
    exact ⟨g, vs, cs, by rw [hid.1]; exact j1, by rw [hb g (by rw [j1]; rfl)]; exact j2, j3, j4, RdL.mono hl hi hw _ _ j5, j6⟩

/-- the world grows, what is one's own stays -/
theorem Rel.grow {C : Ctx} {E E' : Env} {st : St} {a : Act} {w w' : World} (R : Rel C E st a w) (hx : Ext E E' w w') (hlv : ∀ id, E'.live id → E.live id) : Rel C E' st a w' := by
  have hw : ∀ b, E.im b → w'.heap[b]? = w.heap[b]? := fun b hb => hx.bel.block b (R.heap.lt b hb)
  have hval : ∀ id, E'.live id → E'.val id = E.val id := fun id h => (hx.live id (hlv id h)).2.1
  refine ⟨R.defers, R.size, fun n => Rd.mono hx.live hx.im hw _ _ (R.tm n), ⟨?_, ?_, ?_, hx.lt⟩, fun id h => R.nx id (hlv id h), ?_, ?_, fun b hb => hx.im b (R.imx b hb), ?_, ?_⟩
  · intro id o h1 h2
    have hl1 := hlv id h1
    exact (R.heap.ob id o hl1 h2).mono (hx.live id hl1).2 hx.live hx.im hw (fun b hb => hx.bel.block b (R.heap.blk_lt hl1 h2 hb))
  · intro id id' o o' b h1 h2 h3 h4 h5 h6
    rw [hval id h1] at h5; rw [hval id' h2] at h6
    exact R.heap.apart id id' o o' b (hlv _ h1) (hlv _ h2) h3 h4 h5 h6
  · intro id o b h1 h2 h3
    rw [hval id h1] at h3
    have hl1 := hlv id h1
    rw [← R.heap.im id o b hl1 h2 h3]
    constructor
    · intro h
      rcases hx.new b h with h | h
      · exact h
      · have := R.heap.blk_lt hl1 h2 h3; omega
    · exact hx.im b
  · intro id o b h1 h2 h3
    rw [hval id h1] at h3
    exact R.own id o b (hlv _ h1) h2 h3
  · intro id hid
    obtain ⟨k1, k2, k3⟩ := R.ext id hid
    obtain ⟨j1, j2, j3⟩ := hx.live id k1
    exact ⟨j1, by rw [j2]; exact k2, by rw [j3]; exact k3⟩
  · intro b hb
    rcases hx.new b hb with h | h
    · exact R.imn b h
    · have := R.frm.size; exact .inr (.inl (by omega))
  · exact ⟨hx.bel.os.trans R.frm.os, hx.bel.tape.trans R.frm.tape, hx.bel.output.trans R.frm.output, Nat.le_trans R.frm.size hx.bel.size, fun k hk hX => (hx.bel.block k (Nat.lt_of_lt_of_le hk R.frm.size)).trans (R.frm.block k hk hX)⟩

section
variable {P : Program} {st : St} {d : Option Nat} {g : Option (Nat × Bool)}

theorem len_run {w : World} {ρ : Operand → Value} {t : TypeId} {x : Operand} {dst : Option Tmp} {ty : TypeId} {pos : String} {after : Array Edge} {guard : Option (Nat × Bool)} {n : Nat} {a : Option Addr} {c : Nat} {e : TypeId}
    (he : P.underlying t = some (.slice e)) (hx : ρ x = .slice a n c) :
    (execOp ρ ⟨dst, .call { callee := .builtin .len, args := #[x], argTypes := #[t] }, ty, pos, after, guard⟩).run P w = .ok (.value (.int .i64 n)) w := by
  have hlen : (Builtin.len_ #[t] ty #[ρ x]).run P w = .ok (.int .i64 n) w := by
    rw [hx]
    simp [Builtin.len_, run_underlying he w, goInt]
  simp only [execOp, resolve, Sem.run_bind, Sem.run_pure, Result.andThen_ok, invoke, builtin, List.map_toArray, List.map_cons, List.map_nil, hlen]

theorem q_len {x : Operand} {sz : Nat} {es : List (List AV)} (hg : gOK st g) (hx : ev st x = .sl sz es) : Step P st ⟨⟨d, g, .len x⟩, .lit (.int .i64 es.length), [], [], false⟩ :=
  step_val [] hg fun o C E ac w sx hlow R hr hh => by
    have h1 := hr x (by simp [AOp.opds])
    rw [hx] at h1
    obtain ⟨a, cap, vs, hv, _⟩ := h1
    obtain ⟨dst, o, ty, pos, after, guard⟩ := o
    obtain ⟨t, rfl, e, he⟩ := low_spec hlow
    exact ⟨_, len_run he hv, rfl⟩

theorem q_lenN {x : Operand} (hg : gOK st g) (hx : ev st x = .lit (.slice none 0 0)) : Step P st ⟨⟨d, g, .len x⟩, .lit (.int .i64 0), [], [], false⟩ :=
  step_val [] hg fun o C E ac w sx hlow R hr hh => by
    have h1 := lit_eval (hr x (by simp [AOp.opds])) hx
    obtain ⟨dst, o, ty, pos, after, guard⟩ := o
    obtain ⟨t, rfl, e, he⟩ := low_spec hlow
    exact ⟨_, len_run he h1, rfl⟩

theorem q_lenO {x : Operand} {id : Nat} {ob : OB} (hg : gOK st g) (hx : ev st x = .own id) (ho : hl st.h id = some ob) (hrow : ob.row = true) : Step P st ⟨⟨d, g, .len x⟩, .lit (.int .i64 ob.es.length), [id], [], false⟩ :=
  step_val [id] hg fun o C E ac w sx hlow R hr hh => by
    have h1 := hr x (by simp [AOp.opds])
    rw [hx] at h1
    obtain ⟨hl1, _, hv⟩ := h1
    obtain ⟨dst, o, ty, pos, after, guard⟩ := o
    obtain ⟨t, rfl, e, he⟩ := low_spec hlow
    obtain ⟨k1, k2⟩ := R.heap.ob id ob hl1 (by rw [hh id (by simp)]; exact ho)
    rw [hrow] at k2
    obtain ⟨vs, a, cap, j1, _⟩ := k2
    exact ⟨_, len_run he (hv.trans j1), rfl⟩

theorem q_slen {x : Operand} {s : ByteArray} (hg : gOK st g) (hx : ev st x = .lit (.string s)) : Step P st ⟨⟨d, g, .slen x⟩, .lit (.int .i64 s.size), [], [], false⟩ :=
  step_val [] hg fun o C E ac w sx hlow R hr hh => by
    have h1 := lit_eval (hr x (by simp [AOp.opds])) hx
    obtain ⟨dst, o, ty, pos, after, guard⟩ := o
    obtain ⟨t, rfl, he⟩ := low_spec hlow
    refine ⟨.int .i64 s.size, ?_, rfl⟩
    have hlen : (Builtin.len_ #[t] ty #[ac.eval x]).run P w = .ok (.int .i64 s.size) w := by
      rw [h1]; simp [Builtin.len_, run_underlying he w, goInt]
    simp only [execOp, resolve, Sem.run_bind, Sem.run_pure, Result.andThen_ok, invoke, builtin, List.map_toArray, List.map_cons, List.map_nil, hlen]

theorem indexAt_run {w : World} {t e : TypeId} {gg : Bool} {sz : Nat} {k : IntKind} {z : Int} {a : Addr} {n c : Nat} (hu : P.underlying t = some (.slice e)) (hs : szOf P e = some (gg, sz)) (h0 : 0 ≤ z) (h1 : z < n) :
    (Instr.indexAt t (.slice (some a) n c) (.int k z)).run P w = .ok (.pointer (some (a.add (z.toNat * sz)))) w := by
  obtain ⟨dd, i, k1, k2, k3, _⟩ := szOf_spec hs
  have hsz : (sizeOf e).run P w = .ok sz w := by simp [sizeOf, typeInfo, k2, k3]
  simp only [Instr.indexAt, asIntOf, Sem.run_bind, Sem.run_pure, Result.andThen_ok, run_underlying hu w, if_pos (And.intro h0 h1), hsz]

theorem q_iaddr {x y : Operand} {sz : Nat} {es : List (List AV)} {k : IntKind} {z : Int} (hg : gOK st g) (hx : ev st x = .sl sz es) (hy : ev st y = .lit (.int k z)) (h0 : 0 ≤ z) (h1 : z < es.length) : Step P st ⟨⟨d, g, .iaddr sz x y⟩, .ep sz es z.toNat 0, [], [], false⟩ :=
  step_val [] hg fun o C E ac w sx hlow R hr hh => by
    have hv := hr x (by simp [AOp.opds])
    have hz := lit_eval (hr y (by simp [AOp.opds])) hy
    rw [hx] at hv
    obtain ⟨a, cap, vs, hv, hle, hnil, hmax, hat, h1s, hrd⟩ := hv
    obtain ⟨dst, o, ty, pos, after, guard⟩ := o
    obtain ⟨t, e, gg, rfl, hu, hs, hpos⟩ := low_spec hlow
    obtain ⟨b, off, rfl⟩ : ∃ b off, a = some ⟨b, off, none⟩ := by
      cases a with
      | none => have := hnil rfl; omega
      | some aa =>
        obtain ⟨e0, he0⟩ : ∃ e0, es[0]? = some e0 := ⟨es[0]'(by omega), by simp⟩
        have hsz := (hrd.get he0).2
        rw [Nat.zero_mul, List.drop_zero] at hsz
        obtain ⟨v0, hv0⟩ : ∃ v0, vs[0]? = some v0 := by
          have : 0 < vs.length := by rw [List.length_take] at hsz; omega
          exact ⟨vs[0], by simp [this]⟩
        obtain ⟨b, off, e1, _⟩ := hat 0 v0 hv0
        exact ⟨b, off, e1⟩
    refine ⟨.pointer (some ⟨b, off + (z.toNat * sz + 0), none⟩), ?_, b, off, vs, rfl, hat, h1s, hrd⟩
    simp only [execOp, hv, hz, Sem.run_bind, indexAt_run hu hs h0 h1, addr_add, Result.andThen_ok, Sem.run_pure, Nat.add_zero]

theorem q_iaddrO {x y : Operand} {sz id : Nat} {ob : OB} {k : IntKind} {z : Int} (hg : gOK st g) (hx : ev st x = .own id) (ho : hl st.h id = some ob) (hrow : ob.row = true) (hsz : ob.sz = sz) (hy : ev st y = .lit (.int k z)) (h0 : 0 ≤ z) (h1 : z < ob.es.length) : Step P st ⟨⟨d, g, .iaddr sz x y⟩, .optr id z.toNat 0, [id], [], false⟩ :=
  step_val [id] hg fun o C E ac w sx hlow R hr hh => by
    have hv := hr x (by simp [AOp.opds])
    have hz := lit_eval (hr y (by simp [AOp.opds])) hy
    rw [hx] at hv
    obtain ⟨hl1, _, hv⟩ := hv
    obtain ⟨dst, o, ty, pos, after, guard⟩ := o
    obtain ⟨t, e, gg, rfl, hu, hs, hpos⟩ := low_spec hlow
    obtain ⟨k1, k2⟩ := R.heap.ob id ob hl1 (by rw [hh id (by simp)]; exact ho)
    rw [hrow] at k2
    obtain ⟨vs, a, cap, j1, j2, _⟩ := k2
    rcases j2.2 with ⟨_, h00⟩ | ⟨b, c, cur, hvv, _⟩
    · omega
    · refine ⟨.pointer (some ⟨b, z.toNat * E.sz id + 0, none⟩), ?_, hl1, b, by rw [hvv]; rfl, rfl⟩
      have hvv' : ac.eval x = .slice (some ⟨b, 0, none⟩) ob.es.length c := hv.trans hvv
      simp only [execOp, hvv', hz, Sem.run_bind, indexAt_run hu hs h0 h1, addr_add, Result.andThen_ok, Sem.run_pure, Nat.add_zero, Nat.zero_add, k1, hsz]

theorem q_nilck {x : Operand} {v : AV} (hg : gOK st g) (hx : ev st x = v) (hv : (match v with | .optr _ _ _ => true | .ep _ _ _ _ => true | .fn _ _ _ => true | _ => false) = true) : Step P st ⟨⟨d, g, .nilck x⟩, v, [], [], false⟩ :=
  step_val [] hg fun o C E ac w sx hlow R hr hh => by
    have h1 := hr x (by simp [AOp.opds])
    rw [hx] at h1
    obtain ⟨dst, o, ty, pos, after, guard⟩ := o
    have h := low_spec hlow
    simp only [LowSpec] at h; subst h
    refine ⟨ac.eval x, ?_, h1⟩
    cases v <;> simp at hv
    case optr id i off => obtain ⟨_, b, _, e⟩ := h1; simp only [execOp, e]; rfl
    case ep sz es i off => obtain ⟨b, oo, vs, e, _⟩ := h1; simp only [execOp, e]; rfl
    case fn f fi ca => obtain ⟨vs, us, e, _⟩ := h1; simp only [execOp, e]; rfl

theorem rdL_evs {E : Env} {ac : Act} {w : World} : ∀ {l : List Operand}, (∀ x ∈ l, Rd E w (ev st x) (ac.eval x)) → RdL E w (l.map (ev st)) (l.map ac.eval)
  | [], _ => rfl
  | x :: l, h => ⟨_, _, rfl, h x (by simp), rdL_evs (fun y hy => h y (List.mem_cons_of_mem _ hy))⟩

theorem q_mkfn {f : FuncId} {fi ca : List Operand} (hg : gOK st g) : Step P st ⟨⟨d, g, .mkfn f fi ca⟩, .fn f (fi.map (ev st)) (ca.map (ev st)), [], [], false⟩ :=
  step_val [] hg fun o C E ac w sx hlow R hr hh => by
    obtain ⟨dst, o, ty, pos, after, guard⟩ := o
    have h := low_spec hlow
    simp only [LowSpec] at h; subst h
    refine ⟨.func (.func f) (fi.map ac.eval).toArray (ca.map ac.eval).toArray, by simp [execOp, Instr.makeFunc], fi.map ac.eval, ca.map ac.eval, rfl, rdL_evs (fun x hx => hr x (by simp [AOp.opds, hx])), rdL_evs (fun x hx => hr x (by simp [AOp.opds, hx]))⟩

theorem callFunc_run {w : World} {f : FuncId} {fn : Func} {vs : Array Value} (h1 : P.funcs[f]? = some fn) (h2 : (fn.name == "runtime.NumGoroutine") = false) (h3 : fn.body.isNone = false) : (callFunc f vs).run P w = .ok (.enter f vs) w := by
  have hp : (program).run P w = .ok P w := rfl
  simp only [callFunc, Sem.run_bind, hp, Result.andThen_ok, h1, h2, h3, Bool.false_eq_true, if_false, Sem.run_pure]

/-- a call, by the callee's contract -/
theorem q_call {fo : Operand} {args : List Operand} {f : FuncId} {fi ca avs avs' : List AV} {r : AV} (ro : Bool) (rd : List Nat) (hg : gOK st g) (hf : ev st fo = .fn f fi ca)
    (hv : optAll (viewN ro (restr rd st.h) 4) (fi ++ (args.map (ev st) ++ ca)) = some avs) (hs : SubL avs avs') (hc : ACalls P f avs' r) (hro : (ro || scal r) = true) : Step P st ⟨⟨d, g, .call fo args⟩, r, rd, [], false⟩ := by
  intro N ops o hlow C E a w sx hN R hag hh hnw K Q hK
  rw [if_pos (wanted_of hlow R hag hg)]
  obtain ⟨h1, h2, h3, h4⟩ := lower_parts hlow
  have hr : ∀ x ∈ fo :: args, Rd E w (ev st x) (a.eval x) := fun x hx => eval_of R hag (by simpa [AOp.opds] using hx)
  have hfv := hr fo (by simp)
  rw [hf] at hfv
  obtain ⟨vs, us, hfv, hfi, hca⟩ := hfv
  have hargs : RdL E w (args.map (ev st)) (args.map a.eval) := rdL_evs (fun x hx => hr x (List.mem_cons_of_mem _ hx))
  have hall : RdL E w (fi ++ (args.map (ev st) ++ ca)) (vs ++ (args.map a.eval ++ us)) := hfi.append (hargs.append hca)
  have H0 : HeapOK E w (restr rd st.h) := R.heap.restr (fun id hid => hh id (.inl hid))
  have hview : ∀ {l : List AV} {vals : List Value} {l' : List AV}, RdL E w l vals → optAll (viewN ro (restr rd st.h) 4) l = some l' → RdIL (imV ro E (restr rd st.h)) w l' vals := by
    intro l
    induction l with
    | nil => intro vals l' hrl he; simp only [optAll, Option.some.injEq] at he; subst he; exact hrl
    | cons x l ih =>
      intro vals l' hrl he
      simp only [optAll] at he
      cases hx : viewN ro (restr rd st.h) 4 x with
      | none => simp [hx] at he
      | some y =>
        cases hl' : optAll (viewN ro (restr rd st.h) 4) l with
        | none => simp [hx, hl'] at he
        | some l'' =>
          simp only [hx, hl', Option.some.injEq] at he
          subst he
          obtain ⟨v, rest, e1, e2, e3⟩ := hrl
          exact ⟨v, rest, e1, view_rd H0 4 x v y e2 hx, ih e3 hl'⟩
  have him : ∀ b, imV ro E (restr rd st.h) b → b < w.heap.size := by
    rintro b (hb | ⟨id, ob, k1, k2, k3, _⟩)
    · exact H0.lt b hb
    · exact H0.blk_lt k1 k2 k3
  obtain ⟨⟨fn, hfn, hname, hbody⟩, hcall⟩ := hc
  have hcc := hcall (imV ro E (restr rd st.h)) w _ him (hs _ _ _ (hview hall hv))
  have hrun : (execOp a.eval o).run P w = .ok (.enter f (vs ++ (args.map a.eval ++ us)).toArray) w := by
    obtain ⟨dst, op, ty, pos, after, guard⟩ := o
    obtain ⟨l, rfl⟩ := low_spec h3
    have hcf : (callFunc f (vs ++ (args.map a.eval ++ us)).toArray).run P w = .ok (.enter f (vs ++ (args.map a.eval ++ us)).toArray) w := callFunc_run hfn hname hbody
    simp only [execOp, resolve, Sem.run_bind, hfv, Deferred.ofValue, Sem.run_pure, Result.andThen_ok, invoke]
    simpa using hcf
  unfold Oper.wp
  rw [hrun, Oper.upon_enter]
  refine hcc.mono ?_
  rintro e w' ⟨v, im', rfl, hr', hsub, hnew, hlt, hbel⟩
  show K _ _
  cases hsc : scal r with
  | true =>
    have hx : Ext E E w w' := ⟨fun id h => ⟨h, rfl, rfl⟩, fun b h => h, fun b h => .inl h, fun b h => Nat.lt_of_lt_of_le (R.heap.lt b h) hbel.size, hbel⟩
    refine hK v w' E ?_ (fun id h => .inl h)
    have := (R.grow hx (fun id h => h)).put (d := o.dst) (fun k hk => by rw [hN]; exact h2 k hk) (scal_rd (w := w') (w' := w') hsc hr')
    simp only [St.appx, List.nil_append]
    rw [show d = o.dst from h1]
    exact this
  | false =>
    rw [hsc, Bool.or_false] at hro
    subst hro
    have hE : ∀ b, imV true E (restr rd st.h) b → E.im b := by
      rintro b (hb | ⟨id, ob, k1, k2, k3, k4⟩)
      · exact hb
      · exact (H0.im id ob b k1 k2 k3).2 (k4 rfl)
    let E' : Env := { E with im := fun b => E.im b ∨ im' b }
    have hx : Ext E E' w w' := by
      refine ⟨fun id h => ⟨h, rfl, rfl⟩, fun b h => .inl h, ?_, ?_, hbel⟩
      · rintro b (h | h)
        · exact .inl h
        · rcases hnew b h with h | h
          · exact .inl (hE b h)
          · exact .inr h
      · rintro b (h | h)
        · exact Nat.lt_of_lt_of_le (R.heap.lt b h) hbel.size
        · exact hlt b h
    refine hK v w' E' ?_ (fun id h => .inl h)
    have hr'' : Rd E' w' r v := RdI.rd _ _ (RdI.mono (fun b h => .inr h) (fun b h => rfl) _ _ hr')
    have := (R.grow hx (fun id h => h)).put (d := o.dst) (fun k hk => by rw [hN]; exact h2 k hk) hr''
    simp only [St.appx, List.nil_append]
    rw [show d = o.dst from h1]
    exact this
end
end Go.Proofs.Ytkgnnnehmnoleaa
