/- An abstract layer over the walk, part 2: pieces of code, loops, contracts. -/
import Derived.Test.YtfnbhkeilcbmjaaAbs1
import Derived.Deep.LoopGhost
import Derived.Deep.MidRow
namespace Go.Proofs.Ytfnbhkeilcbmjaa
set_option linter.unusedVariables false
open Go.RowKit

theorem lower_region {P : Program} {N id : Nat} {ops : Array Oper} {draw : Bool} {c : ACode} (h : lowerC P N (.region id ops draw) = some c) : ∃ d l f, c = .ops d l f := by
  simp only [lowerC] at h
  split at h
  · split at h
    · simp only [Option.some.injEq] at h; exact ⟨_, _, _, h.symm⟩
    · split at h
      · simp only [Option.some.injEq] at h; exact ⟨_, _, _, h.symm⟩
      · cases h
  · cases h

section
variable {P : Program} {C : Ctx} {Q : Exit → St → Prop} {st : St}

theorem AW.mono {c : ACode} {Q' : Exit → St → Prop} (h : AW P C c Q st) (hq : ∀ e s, Q e s → Q' e s) : AW P C c Q' st :=
  fun code hc E a w hR => wp_mono (h code hc E a w hR) fun e a' w' ⟨E', s, h1, h2⟩ => ⟨E', s, hq e s h1, h2⟩

theorem aw_skip (h : Q .normal st) : AW P C .skip Q st := by
  intro code hc E a w hR
  cases code with
  | skip => exact wp_skip ⟨E, st, h, hR⟩
  | region id ops draw => obtain ⟨_, _, _, e⟩ := lower_region hc; cases e
  | seq a b => simp only [lowerC] at hc; split at hc <;> cases hc
  | cond c a b => simp only [lowerC] at hc; split at hc <;> cases hc
  | block id a => simp only [lowerC] at hc; split at hc <;> cases hc
  | loop a => simp only [lowerC] at hc; split at hc <;> cases hc
  | _ => simp [lowerC] at hc

theorem aw_ret (h : Q .ret st) : AW P C .ret Q st := by
  intro code hc E a w hR
  cases code with
  | ret => exact wp_ret ⟨E, st, h, hR⟩
  | region id ops draw => obtain ⟨_, _, _, e⟩ := lower_region hc; cases e
  | seq a b => simp only [lowerC] at hc; split at hc <;> cases hc
  | cond c a b => simp only [lowerC] at hc; split at hc <;> cases hc
  | block id a => simp only [lowerC] at hc; split at hc <;> cases hc
  | loop a => simp only [lowerC] at hc; split at hc <;> cases hc
  | _ => simp [lowerC] at hc

theorem aw_exit {id : Nat} (h : Q (.exit id) st) : AW P C (.exit id) Q st := by
  intro code hc E a w hR
  cases code with
  | exit i => simp only [lowerC, Option.some.injEq, ACode.exit.injEq] at hc; subst hc; exact wp_exit ⟨E, st, h, hR⟩
  | region id ops draw => obtain ⟨_, _, _, e⟩ := lower_region hc; cases e
  | seq a b => simp only [lowerC] at hc; split at hc <;> cases hc
  | cond c a b => simp only [lowerC] at hc; split at hc <;> cases hc
  | block id a => simp only [lowerC] at hc; split at hc <;> cases hc
  | loop a => simp only [lowerC] at hc; split at hc <;> cases hc
  | _ => simp [lowerC] at hc

/-- R if it goes on, else Q -/
def thenQ (R : St → Prop) (Q : Exit → St → Prop) : Exit → St → Prop
  | .normal, s => R s
  | e, s => Q e s

theorem aw_seq {a b : ACode} (h : AW P C a (thenQ (fun s => AW P C b Q s) Q) st) : AW P C (.seq a b) Q st := by
  intro code hc E a' w hR
  cases code with
  | seq x y =>
    simp only [lowerC] at hc
    split at hc
    · rename_i x' y' hx hy
      simp only [Option.some.injEq, ACode.seq.injEq] at hc
      obtain ⟨rfl, rfl⟩ := hc
      refine wp_seq (wp_mono (h x hx E a' w hR) ?_)
      rintro e a'' w' ⟨E', s, h1, h2⟩
      cases e with
      | normal => exact h1 y hy E' a'' w' h2
      | _ => exact ⟨E', s, h1, h2⟩
    · cases hc
  | region id ops draw => obtain ⟨_, _, _, e⟩ := lower_region hc; cases e
  | cond c a b => simp only [lowerC] at hc; split at hc <;> cases hc
  | block id a => simp only [lowerC] at hc; split at hc <;> cases hc
  | loop a => simp only [lowerC] at hc; split at hc <;> cases hc
  | _ => simp [lowerC] at hc

def constAV : Value → AV
  | .agg cs => bif cs.toList.all (fun u => u.oneCell') then .agg (cs.toList.map .lit) else .any
  | v => .lit v

def ev (st : St) : Operand → AV
  | .tmp t => st.get t
  | .const v => constAV v
  | .global _ => .any
  | .func f => .fn f [] []

theorem rdL_lits {E : Env} {w : World} : ∀ (l : List Value), RdL E w (l.map .lit) l
  | [] => rfl
  | v :: l => ⟨v, l, rfl, rfl, rdL_lits l⟩

theorem Rel.ev {C : Ctx} {E : Env} {st : St} {a : Act} {w : World} (R : Rel C E st a w) (x : Operand) : Rd E w (ev st x) (a.eval x) := by
  cases x with
  | tmp t => exact R.tm t
  | const v =>
    simp only [Go.Proofs.Ytfnbhkeilcbmjaa.ev, Act.eval]
    cases v <;> simp only [constAV, Rd]
    case agg cs =>
      cases hc : cs.toList.all (fun u => u.oneCell') with
      | false => trivial
      | true => exact ⟨cs.toList, by simp, fun u hu => List.all_eq_true.1 hc u hu, rdL_lits _⟩
  | global g => trivial
  | func f => exact ⟨[], [], rfl, rfl, rfl⟩

theorem aw_cond {c : Operand} {x y : ACode} {b : Bool} (hb : ev st c = .lit (.bool b)) (h1 : b = true → AW P C x Q st) (h2 : b = false → AW P C y Q st) : AW P C (.cond c x y) Q st := by
  intro code hc E a w hR
  cases code with
  | cond c' x' y' =>
    simp only [lowerC] at hc
    split at hc
    · rename_i x'' y'' hx hy
      simp only [Option.some.injEq, ACode.cond.injEq] at hc
      obtain ⟨rfl, rfl, rfl⟩ := hc
      have := hR.ev c'
      rw [hb] at this
      have : a.eval c' = .bool b := this
      refine wp_cond_split this (fun e => h1 e x' hx E a w hR) (fun e => h2 e y' hy E a w hR)
    all_goals cases hc
  | region id ops draw => obtain ⟨_, _, _, e⟩ := lower_region hc; cases e
  | seq a b => simp only [lowerC] at hc; split at hc <;> cases hc
  | block id a => simp only [lowerC] at hc; split at hc <;> cases hc
  | loop a => simp only [lowerC] at hc; split at hc <;> cases hc
  | _ => simp [lowerC] at hc

/-- a test of which one branch does not lower: it is not taken -/
theorem aw_condF {c : Operand} {y : ACode} (hb : ev st c = .lit (.bool false)) (h2 : AW P C y Q st) : AW P C (.condF c y) Q st := by
  intro code hc E a w hR
  cases code with
  | cond c' x' y' =>
    simp only [lowerC] at hc
    split at hc
    · cases hc
    · cases hc
    · rename_i y'' hx hy
      simp only [Option.some.injEq, ACode.condF.injEq] at hc
      obtain ⟨rfl, rfl⟩ := hc
      have := hR.ev c'
      rw [hb] at this
      have : a.eval c' = .bool false := this
      refine wp_cond_split this (fun e => by cases e) (fun e => h2 y' hy E a w hR)
    · cases hc
  | region id ops draw => obtain ⟨_, _, _, e⟩ := lower_region hc; cases e
  | seq a b => simp only [lowerC] at hc; split at hc <;> cases hc
  | block id a => simp only [lowerC] at hc; split at hc <;> cases hc
  | loop a => simp only [lowerC] at hc; split at hc <;> cases hc
  | _ => simp [lowerC] at hc
theorem aw_condT {c : Operand} {x : ACode} (hb : ev st c = .lit (.bool true)) (h1 : AW P C x Q st) : AW P C (.condT c x) Q st := by
  intro code hc E a w hR
  cases code with
  | cond c' x' y' =>
    simp only [lowerC] at hc
    split at hc
    · cases hc
    · rename_i x'' hx hy
      simp only [Option.some.injEq, ACode.condT.injEq] at hc
      obtain ⟨rfl, rfl⟩ := hc
      have := hR.ev c'
      rw [hb] at this
      have : a.eval c' = .bool true := this
      refine wp_cond_split this (fun e => h1 x' hx E a w hR) (fun e => by cases e)
    · cases hc
    · cases hc
  | region id ops draw => obtain ⟨_, _, _, e⟩ := lower_region hc; cases e
  | seq a b => simp only [lowerC] at hc; split at hc <;> cases hc
  | block id a => simp only [lowerC] at hc; split at hc <;> cases hc
  | loop a => simp only [lowerC] at hc; split at hc <;> cases hc
  | _ => simp [lowerC] at hc

theorem aw_cond_t {c : Operand} {x y : ACode} (hb : ev st c = .lit (.bool true)) (h1 : AW P C x Q st) : AW P C (.cond c x y) Q st := aw_cond hb (fun _ => h1) (fun h => by cases h)
theorem aw_cond_f {c : Operand} {x y : ACode} (hb : ev st c = .lit (.bool false)) (h1 : AW P C y Q st) : AW P C (.cond c x y) Q st := aw_cond hb (fun h => by cases h) (fun _ => h1)

def blockQ (id : Nat) (Q : Exit → St → Prop) : Exit → St → Prop
  | .exit i, s => bif Nat.beq i id then Q .normal s else Q (.exit i) s
  | e, s => Q e s

theorem aw_block {id : Nat} {c : ACode} (h : AW P C c (blockQ id Q) st) : AW P C (.block id c) Q st := by
  intro code hc E a' w hR
  cases code with
  | block i x =>
    simp only [lowerC] at hc
    split at hc
    · rename_i x' hx
      simp only [Option.some.injEq, ACode.block.injEq] at hc
      obtain ⟨rfl, rfl⟩ := hc
      refine wp_block (wp_mono (h x hx E a' w hR) ?_)
      rintro e a'' w' ⟨E', s, h1, h2⟩
      cases e with
      | exit k =>
        simp only [blockQ] at h1
        simp only [Exit.inBlock]
        by_cases hk : k = i
        · subst hk
          rw [Nat.beq_refl, cond_true] at h1
          rw [if_pos rfl]; exact ⟨E', s, h1, h2⟩
        · rw [beq_ne hk, cond_false] at h1
          rw [if_neg hk]; exact ⟨E', s, h1, h2⟩
      | _ => exact ⟨E', s, h1, h2⟩
    · cases hc
  | region id ops draw => obtain ⟨_, _, _, e⟩ := lower_region hc; cases e
  | seq a b => simp only [lowerC] at hc; split at hc <;> cases hc
  | cond c a b => simp only [lowerC] at hc; split at hc <;> cases hc
  | loop a => simp only [lowerC] at hc; split at hc <;> cases hc
  | _ => simp [lowerC] at hc

/-- what holds at a state holds at one of which less is said -/
def Weak (C : Ctx) (s s' : St) : Prop := ∀ E a w, Rel C E s a w → ∃ E', Rel C E' s' a w

theorem aw_weak {c : ACode} {s' : St} (hw : Weak C st s') (h : AW P C c Q s') : AW P C c Q st :=
  fun code hc E a w hR => let ⟨E', hR'⟩ := hw E a w hR; h code hc E' a w hR'

theorem aw_learn {c : ACode} (F : Prop) (hF : ∀ E a w, Rel C E st a w → F) (h : F → AW P C c Q st) : AW P C c Q st :=
  fun code hc E a w hR => h (hF E a w hR) code hc E a w hR

/-- a loop: the states at its head are S x, for an x that gets smaller -/
theorem aw_loop {X : Type} {c : ACode} (S : X → St) (I : X → Prop) (μ : X → Nat) (x0 : X) (h0 : Weak C st (S x0)) (hI : I x0)
    (round : ∀ x, I x → AW P C c (thenQ (fun s' => ∃ x', μ x' < μ x ∧ I x' ∧ Weak C s' (S x')) Q) (S x)) : AW P C (.loop c) Q st := by
  intro code hc E a w hR
  cases code with
  | loop b =>
    simp only [lowerC] at hc
    split at hc
    · rename_i b' hb
      simp only [Option.some.injEq, ACode.loop.injEq] at hc
      subst hc
      refine wp_loop_ghost (fun n a w => ∃ x, μ x = n ∧ I x ∧ ∃ E, Rel C E (S x) a w) (μ x0) ⟨x0, rfl, hI, h0 E a w hR⟩ ?_
      rintro n a w ⟨x, rfl, hx, E, hR⟩
      refine wp_mono (round x hx b hb E a w hR) ?_
      rintro e a' w' ⟨E', s, h1, h2⟩
      cases e with
      | normal =>
        obtain ⟨x', hlt, hx', hw⟩ := h1
        exact ⟨μ x', hlt, x', rfl, hx', hw E' a' w' h2⟩
      | _ => exact ⟨E', s, h1, h2⟩
    · cases hc
  | region id ops draw => obtain ⟨_, _, _, e⟩ := lower_region hc; cases e
  | seq a b => simp only [lowerC] at hc; split at hc <;> cases hc
  | cond c a b => simp only [lowerC] at hc; split at hc <;> cases hc
  | block id a => simp only [lowerC] at hc; split at hc <;> cases hc
  | _ => simp [lowerC] at hc
end

/-! weakening: some slots kept, names of blocks changed -/

mutual
def renAV (σ : List (Nat × Nat)) : AV → AV
  | .own id => match look σ id with | some k => .own k | none => .any
  | .optr id i off => match look σ id with | some k => .optr k i off | none => .any
  | .agg cs => .agg (renL σ cs)
  | .tup cs => .tup (renL σ cs)
  | .fn f fi ca => .fn f (renL σ fi) (renL σ ca)
  | .any => .any
  | .lit v => .lit v
  | .sl sz es => .sl sz es
  | .ep sz es i off => .ep sz es i off
def renL (σ : List (Nat × Nat)) : List AV → List AV
  | [] => []
  | a :: l => renAV σ a :: renL σ l
end

def renOB (σ : List (Nat × Nat)) (o : OB) : OB := bif o.row then o else { o with es := o.es.map (renL σ) }

def canonWith (σ : List (Nat × Nat)) (L : List Nat) (n : Nat) (st : St) : St :=
  ⟨L.map fun k => (k, renAV σ (st.get k)), σ.map fun p => (p.2, (hl st.h p.1).map (renOB σ)), n⟩

/-- each name once, on both sides, and below n -/
def okR (n : Nat) : List (Nat × Nat) → Bool
  | [] => true
  | p :: r => Nat.blt p.2 n && (r.all fun q => !Nat.beq q.1 p.1 && !Nat.beq q.2 p.2) && okR n r

theorem okR_lt {n : Nat} : ∀ {σ : List (Nat × Nat)}, okR n σ = true → ∀ p ∈ σ, p.2 < n
  | [], _, p, h => by cases h
  | q :: r, h, p, hp => by
    simp only [okR, Bool.and_eq_true] at h
    rcases List.mem_cons.1 hp with rfl | hp
    · simpa [Nat.blt_eq] using h.1.1
    · exact okR_lt h.2 p hp

theorem okR_left {n : Nat} : ∀ {σ : List (Nat × Nat)}, okR n σ = true → ∀ p ∈ σ, look σ p.1 = some p.2
  | [], _, p, h => by cases h
  | q :: r, h, p, hp => by
    simp only [okR, Bool.and_eq_true, List.all_eq_true] at h
    obtain ⟨q1, q2⟩ := q
    rcases List.mem_cons.1 hp with rfl | hp
    · simp [look]
    · have := h.1.2 p hp
      simp only [Bool.not_eq_true'] at this
      have hb : Nat.beq q1 p.1 = false := by
        have := this.1
        cases hb : Nat.beq q1 p.1
        · rfl
        · rw [Nat.eq_of_beq_eq_true hb] at this; simp at this
      simp only [look, hb, cond_false]
      exact okR_left h.2 p hp

theorem okR_inj {n : Nat} : ∀ {σ : List (Nat × Nat)}, okR n σ = true → ∀ p q, p ∈ σ → q ∈ σ → p.2 = q.2 → p = q
  | [], _, p, q, h, _, _ => by cases h
  | r0 :: r, h, p, q, hp, hq, e => by
    simp only [okR, Bool.and_eq_true, List.all_eq_true] at h
    rcases List.mem_cons.1 hp with h1 | h1 <;> rcases List.mem_cons.1 hq with h2 | h2
    · rw [h1, h2]
    · have := h.1.2 q h2
      simp only [Bool.not_eq_true'] at this
      rw [← e, h1] at this; simp at this
    · have := h.1.2 p h1
      simp only [Bool.not_eq_true'] at this
      rw [e, h2] at this; simp at this
    · exact okR_inj h.2 p q h1 h2 e

theorem look_mem {α : Type} : ∀ {u : List (Nat × α)} {id : Nat} {x : α}, look u id = some x → (id, x) ∈ u
  | [], _, _, h => by cases h
  | (k, v) :: u, id, x, h => by
    simp only [look] at h
    cases hb : Nat.beq k id with
    | true =>
      rw [hb, cond_true] at h
      rw [Nat.eq_of_beq_eq_true hb]
      simp only [Option.some.injEq] at h
      rw [h]; exact List.mem_cons_self
    | false =>
      rw [hb, cond_false] at h
      exact List.mem_cons_of_mem _ (look_mem h)

/-- what was called so -/
def back (σ : List (Nat × Nat)) (k : Nat) : Nat := match look (σ.map fun p => (p.2, p.1)) k with | some o => o | none => 0

theorem back_of {n : Nat} {σ : List (Nat × Nat)} (h : okR n σ = true) {p : Nat × Nat} (hp : p ∈ σ) : back σ p.2 = p.1 := by
  have hm : p.2 ∈ (σ.map fun p => (p.2, p.1)).map (·.1) := by
    rw [List.map_map]; exact List.mem_map.2 ⟨p, hp, rfl⟩
  obtain ⟨x, hx⟩ := look_some hm
  have := look_mem hx
  obtain ⟨q, hq, e⟩ := List.mem_map.1 this
  simp only [Prod.mk.injEq] at e
  have hqp := okR_inj h q p hq hp e.1
  subst hqp
  simp only [back, hx]; exact e.2.symm

def renE (σ : List (Nat × Nat)) (E : Env) : Env := ⟨E.im, fun k => ∃ p ∈ σ, p.2 = k ∧ E.live p.1, fun k => E.val (back σ k), fun k => E.sz (back σ k)⟩

mutual
theorem Rd.ren {n : Nat} {σ : List (Nat × Nat)} (h : okR n σ = true) {E : Env} {w : World} : ∀ (av : AV) (v : Value), Rd E w av v → Rd (renE σ E) w (renAV σ av) v
  | .any, _, _ => trivial
  | .lit _, _, h => h
  | .sl sz es, v, h => h
  | .ep sz es i off, v, h => h
  | .agg cs, v, hr => by
    simp only [renAV, Rd] at hr ⊢
    obtain ⟨vs, h1, h0, h2⟩ := hr
    exact ⟨vs, h1, h0, RdL.ren h cs vs h2⟩
  | .tup cs, v, hr => by
    simp only [renAV, Rd] at hr ⊢
    obtain ⟨vs, h1, h2⟩ := hr
    exact ⟨vs, h1, RdL.ren h cs vs h2⟩
  | .fn f fi ca, v, hr => by
    simp only [renAV, Rd] at hr ⊢
    obtain ⟨vs, us, h1, h2, h3⟩ := hr
    exact ⟨vs, us, h1, RdL.ren h fi vs h2, RdL.ren h ca us h3⟩
  | .own id, v, hr => by
    simp only [renAV]
    cases hk : look σ id with
    | none => trivial
    | some k =>
      have hm := look_mem hk
      have hb := back_of h hm
      simp only [Rd] at hr ⊢
      exact ⟨⟨(id, k), hm, rfl, hr.1⟩, hr.2.1, by rw [hr.2.2]; simp only [renE]; rw [hb]⟩
  | .optr id i off, v, hr => by
    simp only [renAV]
    cases hk : look σ id with
    | none => trivial
    | some k =>
      have hm := look_mem hk
      have hb := back_of h hm
      simp only [Rd] at hr ⊢
      obtain ⟨h1, b, h2, h3⟩ := hr
      exact ⟨⟨(id, k), hm, rfl, h1⟩, b, by simp only [renE]; rw [hb]; exact h2, by simp only [renE]; rw [hb]; exact h3⟩
theorem RdL.ren {n : Nat} {σ : List (Nat × Nat)} (h : okR n σ = true) {E : Env} {w : World} : ∀ (l : List AV) (vs : List Value), RdL E w l vs → RdL (renE σ E) w (renL σ l) vs
  | [], _, hr => hr
  | a :: l, vs, hr => by
    simp only [renL, RdL] at hr ⊢
    obtain ⟨v, rest, h1, h2, h3⟩ := hr
    exact ⟨v, rest, h1, Rd.ren h a v h2, RdL.ren h l rest h3⟩
end

theorem getT_map (f : Nat → AV) : ∀ (L : List Nat) (n : Nat), getT (L.map fun k => (k, f k)) n = (if n ∈ L then f n else .any)
  | [], n => by simp [getT, look]
  | k :: L, n => by
    have ih := getT_map f L n
    simp only [getT] at ih
    simp only [getT, List.map_cons, look]
    by_cases hk : k = n
    · subst hk; simp
    · rw [beq_ne hk, cond_false, ih]
      have : n ∈ k :: L ↔ n ∈ L := by simp [Ne.symm hk]
      simp only [this]

theorem hl_canon {σ : List (Nat × Nat)} {n : Nat} (h : okR n σ = true) {st : St} {k : Nat} {o : OB} (ho : hl (σ.map fun p => (p.2, (hl st.h p.1).map (renOB σ))) k = some o) :
    ∃ p o0, p ∈ σ ∧ p.2 = k ∧ hl st.h p.1 = some o0 ∧ o = renOB σ o0 := by
  simp only [hl] at ho
  split at ho
  · rename_i o' hl'
    simp only [Option.some.injEq] at ho
    subst ho
    obtain ⟨p, hp, e⟩ := List.mem_map.1 (look_mem hl')
    simp only [Prod.mk.injEq] at e
    obtain ⟨e1, e2⟩ := e
    simp only [Option.map_eq_some_iff] at e2
    obtain ⟨o0, h1, h2⟩ := e2
    exact ⟨p, o0, hp, e1, h1, h2.symm⟩
  · cases ho

theorem canon_rel {C : Ctx} {s : St} (σ : List (Nat × Nat)) (L : List Nat) (n : Nat) (h : okR n σ = true) (hm : ∀ i, i < C.m → (i, i) ∈ σ) {s' : St} (e : canonWith σ L n s = s') {E : Env} {a : Act} {w : World} (R : Rel C E s a w) : Rel C (renE σ E) s' a w := by
  subst e
  refine ⟨R.defers, R.size, fun k => ?_, ⟨?_, ?_, ?_, R.heap.lt⟩, ?_, ?_, ?_, R.imx, R.imn, R.frm⟩
  · have := getT_map (fun k => renAV σ (s.get k)) L k
    show Rd _ w (getT (L.map fun k => (k, renAV σ (s.get k))) k) _
    rw [this]
    split
    · exact Rd.ren h _ _ (R.tm k)
    · trivial
  · rintro id o ⟨p, hp, rfl, hlive⟩ ho
    obtain ⟨q, o0, hq, e1, h1, rfl⟩ := hl_canon h ho
    obtain rfl := okR_inj h q p hq hp e1
    obtain ⟨k1, k2⟩ := R.heap.ob _ _ hlive h1
    have hb := back_of h hp
    cases hr : o0.row
    · have ee : renOB σ o0 = { o0 with es := o0.es.map (renL σ) } := by simp [renOB, hr]
      rw [ee]
      refine ⟨by simp only [renE]; rw [hb]; exact k1, ?_⟩
      rw [hr] at k2 ⊢
      obtain ⟨g, vs, cs, j1, j2, j3, j4, j5, j6⟩ := k2
      exact ⟨g, vs, renL σ cs, by simp only [renE]; rw [hb]; exact j1, j2, by simp [j3], j4, RdL.ren h _ _ j5, j6⟩
    · have ee : renOB σ o0 = o0 := by simp [renOB, hr]
      rw [ee]
      refine ⟨by simp only [renE]; rw [hb]; exact k1, ?_⟩
      rw [hr] at k2 ⊢
      obtain ⟨vs, a', cap, j1, j2, j3, j4, j5⟩ := k2
      exact ⟨vs, a', cap, by simp only [renE]; rw [hb]; exact j1, by simp only [renE]; rw [hb]; exact j2, j3, j4, j5⟩
  · rintro id id' o o' b ⟨p, hp, rfl, hl1⟩ ⟨p', hp', rfl, hl2⟩ ho ho' hb hb'
    obtain ⟨q, o0, hq, e1, h1, rfl⟩ := hl_canon h ho
    obtain ⟨q', o0', hq', e1', h1', rfl⟩ := hl_canon h ho'
    obtain rfl := okR_inj h q p hq hp e1
    obtain rfl := okR_inj h q' p' hq' hp' e1'
    simp only [renE, back_of h hp, back_of h hp'] at hb hb'
    have := R.heap.apart _ _ _ _ b hl1 hl2 h1 h1' hb hb'
    have k1 := okR_left h _ hp
    have k2 := okR_left h _ hp'
    rw [this] at k1
    rw [k1] at k2
    exact Option.some.inj k2
  · rintro id o b ⟨p, hp, rfl, hl1⟩ ho hb
    obtain ⟨q, o0, hq, e1, h1, rfl⟩ := hl_canon h ho
    obtain rfl := okR_inj h q p hq hp e1
    simp only [renE, back_of h hp] at hb
    have := R.heap.im _ _ b hl1 h1 hb
    have er : (renOB σ o0).ro = o0.ro := by unfold renOB; cases o0.row <;> rfl
    rw [er]; exact this
  · rintro id ⟨p, hp, rfl, hl1⟩
    exact okR_lt h p hp
  · rintro id o b ⟨p, hp, rfl, hl1⟩ ho hb
    obtain ⟨q, o0, hq, e1, h1, rfl⟩ := hl_canon h ho
    obtain rfl := okR_inj h q p hq hp e1
    simp only [renE, back_of h hp] at hb
    exact R.own _ _ b hl1 h1 hb
  · intro id hid
    have hmem := hm id hid
    obtain ⟨k1, k2, k3⟩ := R.ext id hid
    have hb := back_of h hmem
    simp only at hb
    exact ⟨⟨(id, id), hmem, rfl, k1⟩, by simp only [renE]; rw [hb]; exact k2, by simp only [renE]; rw [hb]; exact k3⟩

theorem weak_canon {C : Ctx} {s : St} (σ : List (Nat × Nat)) (L : List Nat) (n : Nat) (h : okR n σ = true) (hm : ∀ i, i < C.m → (i, i) ∈ σ) {s' : St} (e : canonWith σ L n s = s') : Weak C s s' := fun E a w R => ⟨renE σ E, canon_rel σ L n h hm e R⟩

end Go.Proofs.Ytfnbhkeilcbmjaa

namespace Go.Proofs.Ytfnbhkeilcbmjaa
set_option linter.unusedVariables false
open Go.RowKit

theorem addr_add (b off i : Nat) : (⟨b, off, none⟩ : Addr).add i = ⟨b, off + i, none⟩ := by unfold Addr.add; split <;> simp_all

/-- a variable's value, off its cells -/
def ofCells (g : Bool) (cs : List AV) : Option AV := bif g then some (.agg cs) else match cs with | [x] => some x | _ => none

theorem szOf_spec {P : Program} {t : TypeId} {g : Bool} {n : Nat} (h : szOf P t = some (g, n)) :
    ∃ d i, P.underlying t = some d ∧ P.info? t = some i ∧ i.size = n ∧ g = d.isRow ∧ (g = false → n = 1) := by
  simp only [szOf] at h
  split at h
  · rename_i d i hd hi
    split at h
    · rename_i hc
      simp only [Option.some.injEq, Prod.mk.injEq] at h
      obtain ⟨h1, h2⟩ := h
      refine ⟨d, i, hd, hi, h2, ?_, ?_⟩
      · rw [← h1]; cases d <;> rfl
      · intro hg
        rw [h1, hg] at hc
        simp only [Bool.false_or] at hc
        rw [← h2]; exact Nat.eq_of_beq_eq_true hc
    · cases h
  · cases h

/-- a variable is read: its cells -/
theorem run_loadVar_at {P : Program} {w : World} {t : TypeId} {g : Bool} {n b o : Nat} {vs : List Value} (hs : szOf P t = some (g, n)) (hl : vs.length = n) (hc : ∀ i v, vs[i]? = some v → w.cell? ⟨b, o + i, none⟩ = some v) :
    (loadVar t ⟨b, o, none⟩).run P w = .ok (bif g then .agg vs.toArray else vs.getD 0 undef) w := by
  obtain ⟨d, i, h1, h2, h3, h4, h5⟩ := szOf_spec hs
  cases g with
  | true => exact run_loadVar_mid w b o t vs d hc h1 h4.symm (by rw [h2]; simp [h3, hl])
  | false =>
    have hn := h5 rfl
    obtain ⟨v, rfl⟩ : ∃ v, vs = [v] := by
      match vs, (by omega : vs.length = 1) with
      | [v], _ => exact ⟨v, rfl⟩
    have hagg : (isAgg t).run P w = .ok false w := by
      unfold isAgg
      rw [Sem.run_bind, run_underlying h1 w]
      cases d <;> simp_all
    have hcell := hc 0 v (by simp)
    rw [Nat.add_zero] at hcell
    simp [loadVar, Sem.run_bind, hagg, run_load, hcell]

theorem ofCells_rd {E : Env} {w : World} {g : Bool} {n : Nat} {cs : List AV} {vs : List Value} {av : AV} (h : ofCells g cs = some av) (h0 : Ones vs) (hr : RdL E w cs vs) : Rd E w av (bif g then .agg vs.toArray else vs.getD 0 undef) := by
  cases g with
  | true => simp only [ofCells, cond_true, Option.some.injEq] at h; subst h; exact ⟨vs, rfl, h0, hr⟩
  | false =>
    simp only [ofCells, cond_false] at h
    split at h
    · simp only [Option.some.injEq] at h
      subst h
      simp only [RdL] at hr
      obtain ⟨v, rest, rfl, h1, rfl⟩ := hr
      exact h1
    · cases h

theorem RdL.length {E : Env} {w : World} : ∀ {l : List AV} {vs : List Value}, RdL E w l vs → vs.length = l.length
  | [], vs, h => by simp only [RdL] at h; simp [h]
  | a :: l, vs, h => by
    simp only [RdL] at h
    obtain ⟨v, rest, rfl, _, h3⟩ := h
    simp [h3.length]

theorem RdL.get {E : Env} {w : World} : ∀ {l : List AV} {vs : List Value} {i : Nat} {a : AV}, RdL E w l vs → l[i]? = some a → ∃ v, vs[i]? = some v ∧ Rd E w a v
  | [], vs, i, a, h, hi => by simp at hi
  | b :: l, vs, 0, a, h, hi => by
    simp only [RdL] at h
    obtain ⟨v, rest, rfl, h2, h3⟩ := h
    simp only [List.getElem?_cons_zero, Option.some.injEq] at hi
    subst hi; exact ⟨v, by simp, h2⟩
  | b :: l, vs, i + 1, a, h, hi => by
    simp only [RdL] at h
    obtain ⟨v, rest, rfl, h2, h3⟩ := h
    obtain ⟨u, hu, hr⟩ := RdL.get h3 (by simpa using hi)
    exact ⟨u, by simpa using hu, hr⟩

theorem RdL.drop {E : Env} {w : World} : ∀ (n : Nat) {l : List AV} {vs : List Value}, RdL E w l vs → RdL E w (l.drop n) (vs.drop n)
  | 0, l, vs, h => by simpa using h
  | n + 1, [], vs, h => by simp only [RdL] at h; subst h; simp [RdL]
  | n + 1, a :: l, vs, h => by
    simp only [RdL] at h
    obtain ⟨v, rest, rfl, _, h3⟩ := h
    simpa using RdL.drop n h3

theorem RdL.take {E : Env} {w : World} : ∀ (n : Nat) {l : List AV} {vs : List Value}, RdL E w l vs → RdL E w (l.take n) (vs.take n)
  | 0, l, vs, h => by simp [RdL]
  | n + 1, [], vs, h => by simp only [RdL] at h; subst h; simp [RdL]
  | n + 1, a :: l, vs, h => by
    simp only [RdL] at h
    obtain ⟨v, rest, rfl, h2, h3⟩ := h
    simp only [List.take_succ_cons, RdL]
    exact ⟨v, rest.take n, rfl, h2, RdL.take n h3⟩

theorem RdL.append {E : Env} {w : World} : ∀ {l : List AV} {vs : List Value} {l' : List AV} {vs' : List Value}, RdL E w l vs → RdL E w l' vs' → RdL E w (l ++ l') (vs ++ vs')
  | [], vs, l', vs', h, h' => by simp only [RdL] at h; subst h; simpa using h'
  | a :: l, vs, l', vs', h, h' => by
    simp only [RdL] at h
    obtain ⟨v, rest, rfl, h2, h3⟩ := h
    simp only [List.cons_append, RdL]
    exact ⟨v, rest ++ vs', rfl, h2, h3.append h'⟩

/-! views: what others may read -/
mutual
def mapAV (f : AV → Option AV) : AV → Option AV
  | .own id => f (.own id)
  | .optr id i off => f (.optr id i off)
  | .agg cs => match mapL f cs with | some l => some (.agg l) | none => none
  | .tup cs => match mapL f cs with | some l => some (.tup l) | none => none
  | .fn g fi ca => match mapL f fi, mapL f ca with | some l, some l' => some (.fn g l l') | _, _ => none
  | .any => some .any
  | .lit v => some (.lit v)
  | .sl sz es => some (.sl sz es)
  | .ep sz es i off => some (.ep sz es i off)
def mapL (f : AV → Option AV) : List AV → Option (List AV)
  | [] => some []
  | a :: l => match mapAV f a, mapL f l with | some b, some r => some (b :: r) | _, _ => none
end

/-- one's own blocks as others may read them; ro: only those that no one writes any more -/
def viewN (ro : Bool) (h : Hp) : Nat → AV → Option AV
  | 0, _ => none
  | n + 1, av => mapAV (fun x => match x with
    | .own id => match hl h id with
      | some o => bif o.row && (!ro || o.ro) then some (.sl o.sz o.es) else none
      | none => none
    | .optr id i off => match hl h id with
      | some o => bif !ro || o.ro then (bif o.row then some (.ep o.sz o.es i off) else match o.es with
        | [cs] => match mapL (viewN ro h n) cs with | some l => some (.ep o.sz [l] i off) | none => none
        | _ => none) else none
      | none => none
    | _ => none) av

mutual
theorem mapAV_rd {E : Env} {im : Nat → Prop} {w : World} {f : AV → Option AV} (him : ∀ b, E.im b → im b) (hf : ∀ x y v, Rd E w x v → f x = some y → RdI im w y v) : ∀ (av : AV) (v : Value) (av' : AV), Rd E w av v → mapAV f av = some av' → RdI im w av' v
  | .own id, v, av', h, e => hf _ _ _ h (by simpa [mapAV] using e)
  | .optr id i off, v, av', h, e => hf _ _ _ h (by simpa [mapAV] using e)
  | .any, v, av', h, e => by simp only [mapAV, Option.some.injEq] at e; subst e; trivial
  | .lit u, v, av', h, e => by simp only [mapAV, Option.some.injEq] at e; subst e; exact h
  | .sl sz es, v, av', h, e => by simp only [mapAV, Option.some.injEq] at e; subst e; exact RdI.mono him (fun b hb => rfl) _ _ h
  | .ep sz es i off, v, av', h, e => by simp only [mapAV, Option.some.injEq] at e; subst e; exact RdI.mono him (fun b hb => rfl) _ _ h
  | .agg cs, v, av', h, e => by
    simp only [mapAV] at e
    cases hl : mapL f cs with
    | none => simp [hl] at e
    | some l =>
      simp only [hl, Option.some.injEq] at e; subst e
      simp only [Rd] at h
      obtain ⟨vs, h1, h0, h2⟩ := h
      exact ⟨vs, h1, h0, mapL_rd him hf cs vs l h2 hl⟩
  | .tup cs, v, av', h, e => by
    simp only [mapAV] at e
    cases hl : mapL f cs with
    | none => simp [hl] at e
    | some l =>
      simp only [hl, Option.some.injEq] at e; subst e
      simp only [Rd] at h
      obtain ⟨vs, h1, h2⟩ := h
      exact ⟨vs, h1, mapL_rd him hf cs vs l h2 hl⟩
  | .fn g fi ca, v, av', h, e => by
    simp only [mapAV] at e
    cases hl : mapL f fi with
    | none => simp [hl] at e
    | some l =>
      cases hl' : mapL f ca with
      | none => simp [hl, hl'] at e
      | some l' =>
        simp only [hl, hl', Option.some.injEq] at e; subst e
        simp only [Rd] at h
        obtain ⟨vs, us, h1, h2, h3⟩ := h
        exact ⟨vs, us, h1, mapL_rd him hf fi vs l h2 hl, mapL_rd him hf ca us l' h3 hl'⟩
theorem mapL_rd {E : Env} {im : Nat → Prop} {w : World} {f : AV → Option AV} (him : ∀ b, E.im b → im b) (hf : ∀ x y v, Rd E w x v → f x = some y → RdI im w y v) : ∀ (l : List AV) (vs : List Value) (l' : List AV), RdL E w l vs → mapL f l = some l' → RdIL im w l' vs
  | [], vs, l', h, e => by simp only [mapL, Option.some.injEq] at e; subst e; exact h
  | a :: l, vs, l', h, e => by
    simp only [mapL] at e
    cases ha : mapAV f a with
    | none => simp [ha] at e
    | some b =>
      cases hr : mapL f l with
      | none => simp [ha, hr] at e
      | some r =>
        simp only [ha, hr, Option.some.injEq] at e; subst e
        simp only [RdL] at h
        obtain ⟨v, rest, h1, h2, h3⟩ := h
        exact ⟨v, rest, h1, mapAV_rd him hf a v b h2 ha, mapL_rd him hf l rest r h3 hr⟩
end

/-- the memory that others may read in the meantime -/
def imV (ro : Bool) (E : Env) (h : Hp) : Nat → Prop := fun b => E.im b ∨ ∃ id o, E.live id ∧ hl h id = some o ∧ blkOf (E.val id) = some b ∧ (ro = true → o.ro = true)

theorem view_rd {ro : Bool} {E : Env} {w : World} {h : Hp} (H : HeapOK E w h) : ∀ (n : Nat) (av : AV) (v : Value) (av' : AV), Rd E w av v → viewN ro h n av = some av' → RdI (imV ro E h) w av' v
  | 0, av, v, av', hr, e => by simp [viewN] at e
  | n + 1, av, v, av', hr, e => by
    have him : ∀ b, E.im b → imV ro E h b := fun b hb => .inl hb
    refine mapAV_rd him ?_ av v av' hr (by simpa only [viewN] using e)
    intro x y u hx hy
    split at hy
    · rename_i id
      split at hy
      · rename_i o ho
        cases hc : (o.row && (!ro || o.ro)) with
        | false => simp [hc] at hy
        | true =>
          simp only [hc, cond_true, Option.some.injEq] at hy
          subst hy
          simp only [Bool.and_eq_true, Bool.or_eq_true, Bool.not_eq_true'] at hc
          simp only [Rd] at hx
          obtain ⟨hl1, _, rfl⟩ := hx
          obtain ⟨k1, k2⟩ := H.ob id o hl1 ho
          rw [hc.1] at k2
          obtain ⟨vs, a, cap, j1, j2, j3, j4, j5⟩ := k2
          refine ⟨a, cap, vs, j1, ?_, ?_, j5, ?_, j4, RdIE.mono him (fun b hb => rfl) _ _ _ j3⟩
          · rcases j2.2 with ⟨hn, h0⟩ | ⟨g, c, cur, hv, _, _, hc', _⟩
            · omega
            · rw [j1] at hv; simp only [Value.slice.injEq] at hv; omega
          · intro ha
            rcases j2.2 with ⟨hn, h0⟩ | ⟨g, c, cur, hv, _⟩
            · rw [j1] at hn; simp only [Value.slice.injEq] at hn; exact hn.2.2
            · rw [j1, ha] at hv; simp at hv
          · intro i u hu
            rcases j2.2 with ⟨hn, h0⟩ | ⟨g, c, cur, hv, _⟩
            · have : vs.length = 0 := by rw [j2.1, h0, Nat.zero_mul]
              have := (List.getElem?_eq_some_iff.1 hu).1
              omega
            · have hb : blkOf (E.val id) = some g := by rw [hv]; rfl
              rw [j1] at hv
              simp only [Value.slice.injEq] at hv
              refine ⟨g, 0, hv.1, .inr ⟨id, o, hl1, ho, hb, fun hro => by rcases hc.2 with h | h; · rw [hro] at h; cases h
                                                                          · exact h⟩, ?_⟩
              have := j2.cells (g := g) (by rw [j1, hv.1]; rfl) i u hu
              rw [addr_add] at this
              exact this
      · cases hy
    · rename_i id i off
      split at hy
      · rename_i o ho
        cases hc : (!ro || o.ro) with
        | false => simp [hc] at hy
        | true =>
          simp only [hc, cond_true] at hy
          simp only [Bool.or_eq_true, Bool.not_eq_true'] at hc
          have hro : ro = true → o.ro = true := fun hro => by
            rcases hc with h | h
            · rw [hro] at h; cases h
            · exact h
          simp only [Rd] at hx
          obtain ⟨hl1, b, hb, rfl⟩ := hx
          obtain ⟨k1, k2⟩ := H.ob id o hl1 ho
          cases hrow : o.row with
          | true =>
            simp only [hrow, cond_true, Option.some.injEq] at hy
            subst hy
            rw [hrow] at k2
            obtain ⟨vs, a, cap, j1, j2, j3, j4, j5⟩ := k2
            refine ⟨b, 0, vs, by rw [k1, Nat.zero_add], ?_, j4, RdIE.mono him (fun b hb => rfl) _ _ _ j3⟩
            intro i u hu
            rcases j2.2 with ⟨hn, h0⟩ | ⟨g, c, cur, hv, _⟩
            · have : vs.length = 0 := by rw [j2.1, h0, Nat.zero_mul]
              have := (List.getElem?_eq_some_iff.1 hu).1
              omega
            · have hb' : blkOf (E.val id) = some g := by rw [hv]; rfl
              rw [hb] at hb'
              obtain rfl := Option.some.inj hb'
              refine ⟨b, 0, rfl, .inr ⟨id, o, hl1, ho, hb, hro⟩, ?_⟩
              have := j2.cells (g := b) (by rw [hv]; rfl) i u hu
              rw [addr_add] at this
              exact this
          | false =>
            simp only [hrow, cond_false] at hy
            rw [hrow] at k2
            obtain ⟨g, vs, cs, j1, j2, j3, j4, j5, j6⟩ := k2
            rw [j3] at hy
            simp only at hy
            cases hm : mapL (viewN ro h n) cs with
            | none => simp [hm] at hy
            | some l =>
              simp only [hm, Option.some.injEq] at hy
              subst hy
              have hb' : blkOf (E.val id) = some g := by rw [j1]; rfl
              rw [hb] at hb'
              obtain rfl := Option.some.inj hb'
              refine ⟨b, 0, vs, by rw [k1, Nat.zero_add], ?_, j6, ⟨vs, [], by simp, j4, mapL_rd him (fun x y v hx hy => view_rd H n x v y hx hy) cs vs l j5 hm, rfl⟩⟩
              intro i u hu
              refine ⟨b, 0, rfl, .inr ⟨id, o, hl1, ho, hb, hro⟩, ?_⟩
              simp only [World.cell?, j2]
              simpa using hu
      · cases hy
    · cases hy

/-- what reads as the one reads as the other -/
def Sub (a b : AV) : Prop := ∀ im w v, RdI im w a v → RdI im w b v
theorem Sub.refl (a : AV) : Sub a a := fun _ _ _ h => h
theorem Sub.any (a : AV) : Sub a .any := fun _ _ _ _ => trivial
theorem Sub.nil (sz : Nat) : Sub (.lit (.slice none 0 0)) (.sl sz []) := fun im w v h => ⟨none, 0, [], h, Nat.le_refl _, fun _ => rfl, Nat.zero_le _, (fun i v h => by simp at h), (fun u hu => by cases hu), rfl⟩
theorem Sub.trans {a b c : AV} (h : Sub a b) (k : Sub b c) : Sub a c := fun im w v hv => k im w v (h im w v hv)

def SubL (a b : List AV) : Prop := ∀ im w v, RdIL im w a v → RdIL im w b v
theorem SubL.refl (a : List AV) : SubL a a := fun _ _ _ h => h
theorem SubL.nil : SubL [] [] := fun _ _ _ h => h
theorem SubL.cons {a b : AV} {l r : List AV} (h : Sub a b) (k : SubL l r) : SubL (a :: l) (b :: r) := fun im w v hv => by
  simp only [RdIL] at hv ⊢
  obtain ⟨x, rest, h1, h2, h3⟩ := hv
  exact ⟨x, rest, h1, h im w x h2, k im w rest h3⟩
theorem Sub.agg {l r : List AV} (h : SubL l r) : Sub (.agg l) (.agg r) := fun im w v hv => by
  simp only [RdI] at hv ⊢
  obtain ⟨vs, h1, h0, h2⟩ := hv
  exact ⟨vs, h1, h0, h im w vs h2⟩
theorem Sub.tup {l r : List AV} (h : SubL l r) : Sub (.tup l) (.tup r) := fun im w v hv => by
  simp only [RdI] at hv ⊢
  obtain ⟨vs, h1, h2⟩ := hv
  exact ⟨vs, h1, h im w vs h2⟩

/-- a function, called with what reads so, hands back what reads so; it changes nothing that was there -/
def Callable (P : Program) (f : FuncId) : Prop := ∃ fn, P.funcs[f]? = some fn ∧ (fn.name == "runtime.NumGoroutine") = false ∧ fn.body.isNone = false

structure ACalls (P : Program) (f : FuncId) (args : List AV) (r : AV) : Prop where
  able : Callable P f
  calls : ∀ (im : Nat → Prop) (w : World) (vs : List Value), (∀ b, im b → b < w.heap.size) → RdIL im w args vs →
    Calls P f vs.toArray w fun e w' => ∃ v im', e = .returned v ∧ RdI im' w' r v ∧ (∀ b, im b → im' b) ∧ (∀ b, im' b → im b ∨ w.heap.size ≤ b) ∧ (∀ b, im' b → b < w'.heap.size) ∧ Below w.heap.size w w'

theorem ACalls.sub {P : Program} {f : FuncId} {args args' : List AV} {r r' : AV} (h : ACalls P f args r) (ha : SubL args' args) (hr : Sub r r') : ACalls P f args' r' :=
  ⟨h.1, fun im w vs hlt hrd => (h.2 im w vs hlt (ha im w vs hrd)).mono fun e w' ⟨v, im', h1, h2, h3⟩ => ⟨v, im', h1, hr im' w' v h2, h3⟩⟩

def argT : Nat → List AV → List (Nat × AV)
  | _, [] => []
  | k, a :: l => (k, a) :: argT (k + 1) l

def resOne (s : St) : ARes → Option AV
  | .t n => some (s.get n)
  | .c n g sz => match s.get n with
    | .optr id 0 0 => match hl s.h id with
      | some o => bif o.row then none else match o.es with
        | [cs] => bif Nat.beq o.sz sz then ofCells g cs else none
        | _ => none
      | none => none
    | _ => none

def resAV (s : St) (rs : List ARes) : Option AV :=
  match rs with
  | [r] => resOne s r
  | rs => match optAll (resOne s) rs with | some l => some (.tup l) | none => none

/-- what a function hands back -/
def Ret (res : List ARes) (r : AV) (s : St) : Prop := ∃ r0 r1, resAV s res = some r0 ∧ viewN false s.h 4 r0 = some r1 ∧ Sub r1 r

def retQ (res : List ARes) (r : AV) : Exit → St → Prop
  | .normal, s => Ret res r s
  | .ret, s => Ret res r s
  | _, _ => False

def lowRes (P : Program) (r : ResultVar) : Option ARes := match r with | .tmp t => some (ARes.t t) | .cell a t => (szOf P t).map fun q => .c a q.1 q.2

def resF (a : Act) (r : ResultVar) : Sem Value := match r with
  | .tmp t => pure (a.tmps.getD t undef)
  | .cell p t => do loadVar t (← asAddr (a.tmps.getD p undef))

theorem run_res {P : Program} {C : Ctx} {E : Env} {s : St} {a : Act} {w : World} (R : Rel C E s a w) {r : ResultVar} {ar : ARes} (hl' : lowRes P r = some ar) {av : AV} (hr : resOne s ar = some av) :
    ∃ v, (resF a r).run P w = .ok v w ∧ Rd E w av v := by
  cases r with
  | tmp t =>
    simp only [lowRes, Option.some.injEq] at hl'
    subst hl'
    simp only [resOne, Option.some.injEq] at hr
    subst hr
    exact ⟨_, rfl, R.tm t⟩
  | cell p t =>
    simp only [lowRes, Option.map_eq_some_iff] at hl'
    obtain ⟨⟨g, n⟩, hs, rfl⟩ := hl'
    simp only [resOne] at hr
    split at hr
    · rename_i id hp
      split at hr
      · rename_i o ho
        cases hrow : o.row with
        | true => simp [hrow] at hr
        | false =>
          simp only [hrow, cond_false] at hr
          split at hr
          · rename_i cs hes
            cases hb : Nat.beq o.sz n with
            | false => simp [hb] at hr
            | true =>
              simp only [hb, cond_true] at hr
              have hsz := Nat.eq_of_beq_eq_true hb
              have ht := R.tm p
              rw [hp] at ht
              simp only [Rd] at ht
              obtain ⟨hl1, b, hb', hv⟩ := ht
              obtain ⟨k1, k2⟩ := R.heap.ob id o hl1 ho
              rw [hrow] at k2
              obtain ⟨g', vs, cs', j1, j2, j3, j4, j5, j6⟩ := k2
              rw [hes] at j3
              obtain rfl : cs = cs' := by simpa using j3
              have hbg : blkOf (E.val id) = some g' := by rw [j1]; rfl
              rw [hb'] at hbg
              obtain rfl := Option.some.inj hbg
              simp only [Nat.zero_mul, Nat.add_zero] at hv
              have hload := run_loadVar_at (P := P) (w := w) (b := b) (o := 0) (vs := vs) hs (by rw [j4, hsz]) (fun i v hi => by simp only [World.cell?, j2, Nat.zero_add]; simpa using hi)
              refine ⟨_, ?_, ofCells_rd (n := n) hr j6 j5⟩
              simp only [resF, hv, asAddr, Sem.run_bind, Sem.run_pure, Result.andThen_ok]
              exact hload
          · cases hr
      · cases hr
    · cases hr

theorem run_ress {P : Program} {C : Ctx} {E : Env} {s : St} {a : Act} {w : World} (R : Rel C E s a w) : ∀ {rs : List ResultVar} {ars : List ARes} {avs : List AV}, optAll (lowRes P) rs = some ars → optAll (resOne s) ars = some avs →
    ∃ vs, (rs.mapM (resF a)).run P w = .ok vs w ∧ RdL E w avs vs
  | [], ars, avs, h1, h2 => by
    simp only [optAll, Option.some.injEq] at h1; subst h1
    simp only [optAll, Option.some.injEq] at h2; subst h2
    exact ⟨[], rfl, rfl⟩
  | r :: rs, ars, avs, h1, h2 => by
    simp only [optAll] at h1
    cases hr : lowRes P r with
    | none => simp [hr] at h1
    | some ar =>
      cases hrs : optAll (lowRes P) rs with
      | none => simp [hr, hrs] at h1
      | some ars' =>
        simp only [hr, hrs, Option.some.injEq] at h1; subst h1
        simp only [optAll] at h2
        cases ha : resOne s ar with
        | none => simp [ha] at h2
        | some av =>
          cases has : optAll (resOne s) ars' with
          | none => simp [ha, has] at h2
          | some avs' =>
            simp only [ha, has, Option.some.injEq] at h2; subst h2
            obtain ⟨v, e1, e2⟩ := run_res R hr ha
            obtain ⟨vs, e3, e4⟩ := run_ress R hrs has
            refine ⟨v :: vs, ?_, v, vs, rfl, e2, e4⟩
            rw [List.mapM_cons, Sem.run_bind, e1]
            simp only [Result.andThen_ok, Sem.run_bind, e3, Sem.run_pure]

theorem run_results {P : Program} {C : Ctx} {E : Env} {s : St} {a : Act} {w : World} (R : Rel C E s a w) {fn : Func} {res : List ARes} (hres : optAll (lowRes P) fn.results.toList = some res) {r0 : AV} (hr : resAV s res = some r0) :
    ∃ v, (results fn a.tmps).run P w = .ok v w ∧ Rd E w r0 v := by
  have e0 : results fn a.tmps = (do
      let vs ← fn.results.mapM (resF a)
      pure (if h : vs.size = 1 then vs[0] else .tuple vs)) := rfl
  have hm : fn.results.mapM (resF a) = Functor.map List.toArray (fn.results.toList.mapM (resF a)) := Array.mapM_eq_mapM_toList ..
  have key : ∀ avs, optAll (resOne s) res = some avs → ∃ vs, (fn.results.toList.mapM (resF a)).run P w = .ok vs w ∧ RdL E w avs vs := fun avs h => run_ress R hres h
  have e1 : ∀ vs, (fn.results.toList.mapM (resF a)).run P w = .ok vs w → (results fn a.tmps).run P w = .ok (if h : vs.toArray.size = 1 then vs.toArray[0] else .tuple vs.toArray) w := fun vs h => by
    rw [e0, hm, Sem.run_bind, map_eq_pure_bind, Sem.run_bind, h]
    simp only [Result.andThen_ok, Sem.run_pure]
  have many : ∀ avs, optAll (resOne s) res = some avs → avs.length ≠ 1 → r0 = .tup avs → ∃ v, (results fn a.tmps).run P w = .ok v w ∧ Rd E w r0 v := by
    rintro avs h hn rfl
    obtain ⟨vs, h1, h2⟩ := key avs h
    refine ⟨_, e1 vs h1, ?_⟩
    have hlen : ¬ vs.toArray.size = 1 := by
      have := h2.length
      simp; omega
    rw [dif_neg hlen]
    exact ⟨vs, rfl, h2⟩
  match res, hr with
  | [r], hr =>
    simp only [resAV] at hr
    obtain ⟨vs, h1, h2⟩ := key [r0] (by simp [optAll, hr])
    simp only [RdL] at h2
    obtain ⟨v, rest, rfl, h3, rfl⟩ := h2
    exact ⟨_, e1 [v] h1, by simpa using h3⟩
  | [], hr =>
    simp only [resAV, optAll, Option.some.injEq] at hr
    exact many [] rfl (by simp) hr.symm
  | r :: r' :: rs, hr =>
    simp only [resAV] at hr
    cases hall : optAll (resOne s) (r :: r' :: rs) with
    | none => simp [hall] at hr
    | some avs =>
      simp only [hall, Option.some.injEq] at hr
      refine many avs hall ?_ hr.symm
      have := (optAll_get hall).1
      simp at this; omega

theorem getT_args {E : Env} {w : World} : ∀ (args : List AV) (vs : List Value) (k n : Nat), RdL E w args vs → Rd E w (getT (argT k args) n) (if k ≤ n then vs.getD (n - k) undef else undef)
  | [], vs, k, n, h => by simp only [argT, getT, look]; trivial
  | a :: l, vs, k, n, h => by
    simp only [RdL] at h
    obtain ⟨v, rest, rfl, h1, h2⟩ := h
    by_cases hn : k = n
    · subst hn; simpa [argT, getT, look] using h1
    · have ih := getT_args l rest (k + 1) n h2
      simp only [argT, getT, look, beq_ne hn, cond_false]
      simp only [getT] at ih
      by_cases hk : k ≤ n
      · rw [if_pos hk]
        rw [if_pos (by omega)] at ih
        rw [show n - k = n - (k + 1) + 1 from by omega]
        simpa using ih
      · rw [if_neg hk]
        rw [if_neg (by omega)] at ih
        exact ih

theorem RdIL.length {im : Nat → Prop} {w : World} : ∀ {l : List AV} {vs : List Value}, RdIL im w l vs → vs.length = l.length
  | [], vs, h => by simp only [RdIL] at h; simp [h]
  | a :: l, vs, h => by
    simp only [RdIL] at h
    obtain ⟨v, rest, rfl, _, h3⟩ := h
    simp [RdIL.length h3]

/-- the contexts of calls that change nothing of what was there -/
structure Pure (C : Ctx) (N : Nat) : Prop where
  X : ∀ b, ¬ C.X b
  N : C.N = N
  m : C.m = 0
  ds : C.ds = []

theorem HeapOK.blk_lt {E : Env} {w : World} {h : Hp} (H : HeapOK E w h) {id : Nat} {o : OB} {b : Nat} (k1 : E.live id) (k2 : hl h id = some o) (k3 : blkOf (E.val id) = some b) : b < w.heap.size := by
  obtain ⟨j1, j2⟩ := H.ob id o k1 k2
  cases hrow : o.row with
  | true =>
    rw [hrow] at j2
    obtain ⟨vs, a, cap, i1, i2, _⟩ := j2
    refine (i2.lt b ?_).2
    rw [i1] at k3 ⊢
    cases a <;> simp [blkOf, Value.ownBlock] at k3 ⊢; exact k3
  | false =>
    rw [hrow] at j2
    obtain ⟨g, vs, cs, i1, i2, _⟩ := j2
    rw [i1] at k3
    simp only [blkOf, Option.some.injEq] at k3
    subst k3
    exact (Array.getElem?_eq_some_iff.1 i2).1

/-- the arguments may be read in other words, from case to case -/
theorem acalls_at {P : Program} {f : FuncId} {F : AFn} {args0 : List AV} {r : AV} (hF : lowerF P f = some F) (hlen : args0.length ≤ F.N) (h : ∀ im (w : World) vs, (∀ b, im b → b < w.heap.size) → RdIL im w args0 vs → ∃ args, RdIL im w args vs ∧ ∀ C : Ctx, Pure C F.N → C.w0 = w → C.E0.im = im → AW P C F.body (retQ F.res r) ⟨argT 0 args, [], 0⟩) : ACalls P f args0 r := by
  simp only [lowerF] at hF
  split at hF
  · rename_i fn hfn
    split at hF
    · rename_i b hb
      cases hnm : (fn.name == "runtime.NumGoroutine") with
      | true => rw [hnm] at hF; cases hF
      | false =>
      rw [hnm, cond_false] at hF
      refine ⟨⟨fn, hfn, hnm, by rw [hb]; rfl⟩, ?_⟩
      intro im w vs hlt hrd
      obtain ⟨args, hrd', h⟩ := h im w vs hlt hrd
      have hlen : args.length ≤ F.N := by rw [← hrd'.length, hrd.length]; exact hlen
      replace hrd := hrd'
      split at hF
      · rename_i c res hc hres
        simp only [Option.some.injEq] at hF
        subst hF
        let E0 : Env := ⟨im, fun _ => False, fun _ => undef, fun _ => 0⟩
        let C : Ctx := ⟨fun _ => False, w, fn.ntmps, E0, 0, []⟩
        have hC : Pure C fn.ntmps := ⟨fun _ h => h, rfl, rfl, rfl⟩
        have hvl : vs.length = args.length := hrd.length
        simp only at hlen
        have hR : Rel C E0 ⟨argT 0 args, [], 0⟩ { tmps := vs.toArray ++ Array.replicate (fn.ntmps - vs.toArray.size) undef, defers := [] } w := by
          refine ⟨rfl, ?_, fun n => ?_, ⟨fun id o h => h.elim, fun id id' o o' b h => h.elim, fun id o b h => h.elim, hlt⟩, fun id h => h.elim, fun id o b h => h.elim, fun id h => absurd h (Nat.not_lt_zero _), fun b h => h, fun b h => .inl h, ⟨rfl, rfl, rfl, Nat.le_refl _, fun _ _ _ => rfl⟩⟩
          · show (vs.toArray ++ Array.replicate (fn.ntmps - vs.toArray.size) undef).size = fn.ntmps
            simp; omega
          · have := getT_args (E := E0) (w := w) args vs 0 n (RdIL.rd _ _ hrd)
            rw [if_pos (Nat.zero_le _), Nat.sub_zero] at this
            have e : (vs.toArray ++ Array.replicate (fn.ntmps - vs.toArray.size) undef).getD n undef = vs.getD n undef := by
              simp only [Array.getD_eq_getD_getElem?, List.getD_eq_getElem?_getD, Array.getElem?_append]
              by_cases hn : n < vs.length
              · simp [hn]
              · rw [if_neg (by simpa using hn)]
                rw [List.getElem?_eq_none (by omega)]
                simp only [Array.getElem?_replicate]
                split <;> rfl
            show Rd E0 w (getT (argT 0 args) n) ((vs.toArray ++ Array.replicate (fn.ntmps - vs.toArray.size) undef).getD n undef)
            rw [e]; exact this
        refine calls_of_wp hfn hb (wp_mono (h C hC rfl rfl b hc E0 _ w hR) ?_)
        rintro e a' w' ⟨E', s, hq, hR'⟩
        have fin : Ret res r s → a'.defers = [] ∧ ∃ v, (results fn a'.tmps).run P w' = .ok v w' ∧ ∃ v_1 im', Ending.returned v = .returned v_1 ∧ RdI im' w' r v_1 ∧ (∀ b, im b → im' b) ∧ (∀ b, im' b → im b ∨ w.heap.size ≤ b) ∧ (∀ b, im' b → b < w'.heap.size) ∧ Below w.heap.size w w' := by
          rintro ⟨r0, r1, h1, h2, h3⟩
          obtain ⟨v, hv, hr⟩ := run_results hR' hres h1
          refine ⟨hR'.defers, v, hv, v, imV false E' s.h, rfl, h3 _ _ _ (view_rd hR'.heap 4 _ _ _ hr h2), fun b hb => .inl (hR'.imx b hb), ?_, ?_, ?_⟩
          · rintro b (hb | ⟨id, o, k1, k2, k3, _⟩)
            · rcases hR'.imn b hb with h | h | h
              · exact .inl h
              · exact .inr h
              · exact h.elim
            · rcases hR'.own id o b k1 k2 k3 with h | h
              · exact .inr h
              · exact h.elim
          · rintro b (hb | ⟨id, o, k1, k2, k3, _⟩)
            · exact hR'.heap.lt b hb
            · exact hR'.heap.blk_lt k1 k2 k3
          · exact ⟨hR'.frm.os, hR'.frm.tape, hR'.frm.output, hR'.frm.size, fun k hk => hR'.frm.block k hk (fun h => h)⟩
        cases e with
        | normal => exact fin hq
        | ret => exact fin hq
        | _ => exact hq.elim
      · cases hF
    · cases hF
  · cases hF

theorem acalls_of {P : Program} {f : FuncId} {F : AFn} {args : List AV} {r : AV} (hF : lowerF P f = some F) (hlen : args.length ≤ F.N) (h : ∀ C : Ctx, Pure C F.N → AW P C F.body (retQ F.res r) ⟨argT 0 args, [], 0⟩) : ACalls P f args r :=
  acalls_at hF hlen fun im w vs _ hrd => ⟨args, hrd, fun C hC _ _ => h C hC⟩

/-- an argument, read again as it was read when the call began -/
theorem wk_back {C : Ctx} {N n : Nat} {st : St} {v : Value} {av : AV} (hC : Pure C N) (hg : st.get n = .lit v) (h : RdI C.E0.im C.w0 av v) (hlt : ∀ b, C.E0.im b → b < C.w0.heap.size) : Weak C st ⟨(n, av) :: st.t, st.h, st.nx⟩ := fun E a w R => by
  refine ⟨E, R.defers, R.size, fun k => ?_, R.heap, R.nx, R.own, R.ext, R.imx, R.imn, R.frm⟩
  by_cases hk : k = n
  · subst hk
    have h1 : a.tmps.getD k undef = v := by have := R.tm k; rw [hg] at this; exact this
    rw [h1]
    have e : St.get ⟨(k, av) :: st.t, st.h, st.nx⟩ k = av := getT_same st.t k av
    rw [e]
    exact RdI.rd _ _ (RdI.mono R.imx (fun b hb => R.frm.block b (hlt b hb) (fun x => hC.X b x)) _ _ h)
  · have e : St.get ⟨(n, av) :: st.t, st.h, st.nx⟩ k = st.get k := getT_ne st.t (some n) av k (by simpa using fun h => hk h.symm)
    rw [e]; exact R.tm k
end Go.Proofs.Ytfnbhkeilcbmjaa
