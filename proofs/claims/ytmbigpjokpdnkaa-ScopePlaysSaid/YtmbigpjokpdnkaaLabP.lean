/- Labels: plain laws; a short way to weaken a state. No program in sight. -/
import Derived.Test.YtmbigpjokpdnkaaAbsS
namespace Go.Proofs.Ytmbigpjokpdnkaa
set_option linter.unusedVariables false
open Go.RowKit

def flowsN (a b : Nat) : Bool := a ||| b == b

theorem andNot_zero (a b : Nat) (ha : a < 18446744073709551616) (hb : b < 18446744073709551616) : (bits .andNot .u64 (a : Int) (b : Int) == 0) = flowsN a b := by
  rw [u64_andNot_nat a b ha hb]
  have e : 18446744073709551615 - b = 2 ^ 64 - (b + 1) := by omega
  rw [Bool.eq_iff_iff, flowsN]
  simp only [beq_iff_eq]
  constructor
  · intro h
    have h0 : a &&& (18446744073709551615 - b) = 0 := by omega
    apply Nat.eq_of_testBit_eq
    intro i
    rw [Nat.testBit_or]
    have := congrArg (Nat.testBit · i) h0
    simp only [Nat.testBit_and, Nat.zero_testBit] at this
    rw [e, Nat.testBit_two_pow_sub_succ (by omega)] at this
    by_cases hi : i < 64
    · cases ha' : a.testBit i <;> cases hb' : b.testBit i <;> simp_all
    · have h1 : a.testBit i = false := Nat.testBit_lt_two_pow (Nat.lt_of_lt_of_le ha (by
        have : (2 : Nat) ^ 64 ≤ 2 ^ i := Nat.pow_le_pow_right (by omega) (by omega)
        omega))
      simp [h1]
  · intro h
    have h0 : a &&& (18446744073709551615 - b) = 0 := by
      apply Nat.eq_of_testBit_eq
      intro i
      have := congrArg (Nat.testBit · i) h
      simp only [Nat.testBit_or] at this
      rw [Nat.testBit_and, e, Nat.testBit_two_pow_sub_succ (by omega), Nat.zero_testBit]
      cases ha' : a.testBit i <;> cases hb' : b.testBit i <;> simp_all
    rw [h0]; rfl

theorem or_lt (a b : Nat) (ha : a < 18446744073709551616) (hb : b < 18446744073709551616) : a ||| b < 18446744073709551616 := Nat.or_lt_two_pow (n := 64) ha hb
theorem and_lt (a b : Nat) (ha : a < 18446744073709551616) : a &&& b < 18446744073709551616 := Nat.lt_of_le_of_lt Nat.and_le_left ha



theorem div_pow_succ (l k : Nat) : l / 2 ^ k / 2 = l / 2 ^ (k + 1) := by rw [Nat.div_div_eq_div_mul, Nat.pow_succ]

theorem testBit_ge {a i : Nat} (ha : a < 18446744073709551616) (hi : 64 ≤ i) : a.testBit i = false := Nat.testBit_lt_two_pow (Nat.lt_of_lt_of_le ha (by
  have : (2 : Nat) ^ 64 ≤ 2 ^ i := Nat.pow_le_pow_right (by omega) (by omega)
  omega))

theorem flowsN_iff {a b : Nat} (ha : a < 18446744073709551616) : flowsN a b = true ↔ ∀ i, i < 64 → a.testBit i = true → b.testBit i = true := by
  rw [flowsN, beq_iff_eq]
  constructor
  · intro h i _ hi
    rw [← h, Nat.testBit_or, hi]; rfl
  · intro h
    apply Nat.eq_of_testBit_eq
    intro i
    rw [Nat.testBit_or]
    by_cases hi : i < 64
    · have := h i hi
      cases ha' : a.testBit i <;> cases hb' : b.testBit i <;> simp_all
    · rw [testBit_ge ha (by omega)]; simp

theorem mod_step (x k : Nat) : x % 2 ^ (k + 1) = x % 2 ^ k + (if x.testBit k then 2 ^ k else 0) := by
  rw [Nat.pow_succ, Nat.mod_mul, Nat.testBit_eq_decide_div_mod_eq]
  rcases Nat.mod_two_eq_zero_or_one (x / 2 ^ k) with h | h <;> simp [h]

theorem mod_step_lt (x k : Nat) (hk : k < 64) : x % 2 ^ k + 2 ^ k < 18446744073709551616 := by
  have h1 := Nat.mod_lt x (Nat.two_pow_pos k)
  have h2 : (2 : Nat) ^ (k + 1) ≤ 2 ^ 64 := Nat.pow_le_pow_right (by omega) (by omega)
  rw [Nat.pow_succ] at h2
  have : (2 : Nat) ^ 64 = 18446744073709551616 := by decide
  omega

theorem mod_64 {x : Nat} (hx : x < 18446744073709551616) : x % 2 ^ 64 = x := Nat.mod_eq_of_lt hx

/-- less is said: some slots, blocks under new names -/
theorem wk {C : Ctx} {N : Nat} {s s' : St} (hC : Pure C N) (σ : List (Nat × Nat)) (L : List Nat) (n : Nat) (e : canonWith σ L n s = s' := by rfl) (h : okR n σ = true := by rfl) : Weak C s s' := weak_canon σ L n h (fun i hi => absurd hi (by rw [hC.m]; omega)) e

/-- a contract of a function that only computes -/
theorem acalls_lits {P : Program} {f : FuncId} {vs : List Value} {v : Value} (h0 : Callable P f) (h : ∀ w, Calls P f vs.toArray w fun e w' => e = .returned v ∧ w = w') : ACalls P f (vs.map .lit) (.lit v) := by
  refine ⟨h0, fun im w us hlt hr => ?_⟩
  have key : ∀ (vs us : List Value), RdIL im w (vs.map .lit) us → us = vs := by
    intro vs
    induction vs with
    | nil => intro us h; exact h
    | cons v vs ih =>
      intro us h
      simp only [List.map_cons, RdIL] at h
      obtain ⟨u, rest, rfl, h1, h2⟩ := h
      rw [ih rest h2, show u = v from h1]
  rw [key vs us hr]
  exact (h w).mono fun e w' ⟨h1, h2⟩ => ⟨v, im, h1, rfl, fun b hb => hb, fun b hb => .inl hb, fun b hb => by subst h2; exact hlt b hb, by subst h2; exact Below.refl _ _⟩

end Go.Proofs.Ytmbigpjokpdnkaa
namespace Go.Proofs.Ytmbigpjokpdnkaa
set_option linter.unusedVariables false
open Go.RowKit

def intsP (xs ys : List Int) : Bool := xs == ys
def numP (a b : Num) : Bool := (a.neg == b.neg) && (intsP a.top b.top && intsP a.bot b.bot)

theorem numP_iff (a b : Num) : numP a b = true ↔ a = b := by
  obtain ⟨n, t, b⟩ := a
  rename_i b2
  obtain ⟨n', t', b'⟩ := b2
  simp [numP, intsP]

mutual
def sameA : Arr → Arr → Bool
  | .mk s sh cs, .mk s2 sh2 cs2 => (s == s2) && (intsP sh sh2 && sameCs cs cs2)
def sameCs : List Cell → List Cell → Bool
  | [], [] => true
  | c :: cs, d :: ds => sameC c d && sameCs cs ds
  | _, _ => false
def sameC : Cell → Cell → Bool
  | .mk l k n c ins, .mk l2 k2 n2 c2 ins2 => (l == l2) && ((k == k2) && ((c == c2) && (numP n n2 && sameAs ins ins2)))
def sameAs : List Arr → List Arr → Bool
  | [], [] => true
  | c :: cs, d :: ds => sameA c d && sameAs cs ds
  | _, _ => false
end

mutual
theorem sameA_iff : ∀ (A B : Arr), sameA A B = true ↔ A = B
  | .mk s sh cs, .mk s2 sh2 cs2 => by
    have := sameCs_iff cs cs2
    simp only [sameA, Bool.and_eq_true, this, beq_iff_eq, intsP, Arr.mk.injEq]
theorem sameCs_iff : ∀ (cs ds : List Cell), sameCs cs ds = true ↔ cs = ds
  | [], [] => by simp [sameCs]
  | [], _ :: _ => by simp [sameCs]
  | _ :: _, [] => by simp [sameCs]
  | c :: cs, d :: ds => by
    have h1 := sameC_iff c d
    have h2 := sameCs_iff cs ds
    simp only [sameCs, Bool.and_eq_true, h1, h2, List.cons.injEq]
theorem sameC_iff : ∀ (c d : Cell), sameC c d = true ↔ c = d
  | .mk l k n c ins, .mk l2 k2 n2 c2 ins2 => by
    have h1 := sameAs_iff ins ins2
    simp only [sameC, Bool.and_eq_true, h1, numP_iff, beq_iff_eq, Cell.mk.injEq]
    constructor
    · rintro ⟨h1, h2, h3, h4, h5⟩; exact ⟨h1, h2, h4, h3, h5⟩
    · rintro ⟨h1, h2, h3, h4, h5⟩; exact ⟨h1, h2, h4, h3, h5⟩
theorem sameAs_iff : ∀ (cs ds : List Arr), sameAs cs ds = true ↔ cs = ds
  | [], [] => by simp [sameAs]
  | [], _ :: _ => by simp [sameAs]
  | _ :: _, [] => by simp [sameAs]
  | c :: cs, d :: ds => by
    have h1 := sameA_iff c d
    have h2 := sameAs_iff cs ds
    simp only [sameAs, Bool.and_eq_true, h1, h2, List.cons.injEq]
end

theorem sameA_refl (A : Arr) : sameA A A = true := (sameA_iff A A).2 rfl
theorem sameC_refl (A : Cell) : sameC A A = true := (sameC_iff A A).2 rfl

theorem sameCs_len (cs ds : List Cell) (h : cs.length ≠ ds.length) : sameCs cs ds = false := by
  cases e : sameCs cs ds
  · rfl
  · exact absurd (congrArg List.length ((sameCs_iff cs ds).1 e)) h

theorem sameAs_len (cs ds : List Arr) (h : cs.length ≠ ds.length) : sameAs cs ds = false := by
  cases e : sameAs cs ds
  · rfl
  · exact absurd (congrArg List.length ((sameAs_iff cs ds).1 e)) h

def secretN : Nat := 18446744073709551615

mutual
def hideA (o : Nat) : Arr → Arr
  | .mk s sh cs => if flowsN s o = true then .mk s sh (hideCs o cs) else .mk secretN [] []
def hideCs (o : Nat) : List Cell → List Cell
  | [] => []
  | c :: cs => hideC o c :: hideCs o cs
def hideC (o : Nat) : Cell → Cell
  | .mk l k n ch ins => if flowsN l o = true then .mk l k n ch (hideAs o ins) else .mk secretN 0 ⟨false, [], []⟩ 0 []
def hideAs (o : Nat) : List Arr → List Arr
  | [] => []
  | a :: xs => hideA o a :: hideAs o xs
end

theorem hideCs_map (o : Nat) : ∀ cs : List Cell, hideCs o cs = cs.map (hideC o)
  | [] => rfl
  | c :: cs => by rw [hideCs, hideCs_map o cs]; rfl
theorem hideAs_map (o : Nat) : ∀ cs : List Arr, hideAs o cs = cs.map (hideA o)
  | [] => rfl
  | c :: cs => by rw [hideAs, hideAs_map o cs]; rfl

mutual
def alikeA (o : Nat) : Arr → Arr → Bool
  | .mk s sh cs, .mk s2 sh2 cs2 => if flowsN s o = true ∧ flowsN s2 o = true then (s == s2) && (intsP sh sh2 && alikeCs o cs cs2) else flowsN s o == flowsN s2 o
def alikeCs (o : Nat) : List Cell → List Cell → Bool
  | [], [] => true
  | c :: cs, d :: ds => alikeC o c d && alikeCs o cs ds
  | _, _ => false
def alikeC (o : Nat) : Cell → Cell → Bool
  | .mk l k n c ins, .mk l2 k2 n2 c2 ins2 => if flowsN l o = true ∧ flowsN l2 o = true then (l == l2) && ((k == k2) && ((c == c2) && (numP n n2 && alikeAs o ins ins2))) else flowsN l o == flowsN l2 o
def alikeAs (o : Nat) : List Arr → List Arr → Bool
  | [], [] => true
  | c :: cs, d :: ds => alikeA o c d && alikeAs o cs ds
  | _, _ => false
end

theorem alikeCs_len (o : Nat) : ∀ (cs ds : List Cell), cs.length ≠ ds.length → alikeCs o cs ds = false
  | [], [], h => absurd rfl h
  | [], _ :: _, _ => by simp [alikeCs]
  | _ :: _, [], _ => by simp [alikeCs]
  | c :: cs, d :: ds, h => by rw [alikeCs, alikeCs_len o cs ds (by simpa using h), Bool.and_false]
theorem alikeAs_len (o : Nat) : ∀ (cs ds : List Arr), cs.length ≠ ds.length → alikeAs o cs ds = false
  | [], [], h => absurd rfl h
  | [], _ :: _, _ => by simp [alikeAs]
  | _ :: _, [], _ => by simp [alikeAs]
  | c :: cs, d :: ds, h => by rw [alikeAs, alikeAs_len o cs ds (by simpa using h), Bool.and_false]

/-- who sees Secret sees all -/
theorem flowsN_secret {s o : Nat} (ho : o < 18446744073709551616) (hs : s < 18446744073709551616) (h : flowsN secretN o = true) : flowsN s o = true := by
  have h1 := (flowsN_iff (by decide : secretN < 18446744073709551616)).1 h
  refine (flowsN_iff hs).2 fun i hi _ => h1 i hi ?_
  have : secretN = 2 ^ 64 - 1 := by decide
  rw [this, Nat.testBit_two_pow_sub_one]
  simpa using hi

mutual
/-- its labels are labels -/
def wfA : Arr → Prop
  | .mk s _ cs => s < 18446744073709551616 ∧ wfCs cs
def wfCs : List Cell → Prop
  | [] => True
  | c :: cs => wfC c ∧ wfCs cs
def wfC : Cell → Prop
  | .mk l _ _ _ ins => l < 18446744073709551616 ∧ wfAs ins
def wfAs : List Arr → Prop
  | [] => True
  | a :: xs => wfA a ∧ wfAs xs
end

theorem secret_ne {o s : Nat} (ho : o < 18446744073709551616) {t : Nat} (ht : t < 18446744073709551616) (hs : flowsN s o = true) (h : flowsN t o = false) : s ≠ secretN := by
  intro e
  subst e
  rw [flowsN_secret ho ht hs] at h
  cases h

mutual
theorem alikeA_hide (o : Nat) (ho : o < 18446744073709551616) : ∀ (A B : Arr), wfA A → wfA B → alikeA o A B = sameA (hideA o A) (hideA o B)
  | .mk s sh cs, .mk s2 sh2 cs2, hA, hB => by
    have ih := alikeCs_hide o ho cs cs2 hA.2 hB.2
    cases h1 : flowsN s o <;> cases h2 : flowsN s2 o
    · simp [alikeA, hideA, h1, h2, sameA, intsP, sameCs]
    · have := secret_ne ho hA.1 h2 h1
      simp [alikeA, hideA, h1, h2, sameA]
      intro e; exact absurd e.symm this
    · have := secret_ne ho hB.1 h1 h2
      simp [alikeA, hideA, h1, h2, sameA]
      intro e; exact absurd e this
    · simp [alikeA, hideA, h1, h2, sameA, ih]
theorem alikeCs_hide (o : Nat) (ho : o < 18446744073709551616) : ∀ (cs ds : List Cell), wfCs cs → wfCs ds → alikeCs o cs ds = sameCs (hideCs o cs) (hideCs o ds)
  | [], [], _, _ => by simp [alikeCs, hideCs, sameCs]
  | [], _ :: _, _, _ => by simp [alikeCs, hideCs, sameCs]
  | _ :: _, [], _, _ => by simp [alikeCs, hideCs, sameCs]
  | c :: cs, d :: ds, hA, hB => by
    have h1 := alikeC_hide o ho c d hA.1 hB.1
    have h2 := alikeCs_hide o ho cs ds hA.2 hB.2
    simp only [alikeCs, hideCs, sameCs, h1, h2]
theorem alikeC_hide (o : Nat) (ho : o < 18446744073709551616) : ∀ (c d : Cell), wfC c → wfC d → alikeC o c d = sameC (hideC o c) (hideC o d)
  | .mk s k n ch ins, .mk s2 k2 n2 ch2 ins2, hA, hB => by
    have ih := alikeAs_hide o ho ins ins2 hA.2 hB.2
    cases h1 : flowsN s o <;> cases h2 : flowsN s2 o
    · simp [alikeC, hideC, h1, h2, sameC, numP, intsP, sameAs]
    · have := secret_ne ho hA.1 h2 h1
      simp [alikeC, hideC, h1, h2, sameC]
      intro e; exact absurd e.symm this
    · have := secret_ne ho hB.1 h1 h2
      simp [alikeC, hideC, h1, h2, sameC]
      intro e; exact absurd e this
    · simp [alikeC, hideC, h1, h2, sameC, ih]
theorem alikeAs_hide (o : Nat) (ho : o < 18446744073709551616) : ∀ (cs ds : List Arr), wfAs cs → wfAs ds → alikeAs o cs ds = sameAs (hideAs o cs) (hideAs o ds)
  | [], [], _, _ => by simp [alikeAs, hideAs, sameAs]
  | [], _ :: _, _, _ => by simp [alikeAs, hideAs, sameAs]
  | _ :: _, [], _, _ => by simp [alikeAs, hideAs, sameAs]
  | c :: cs, d :: ds, hA, hB => by
    have h1 := alikeA_hide o ho c d hA.1 hB.1
    have h2 := alikeAs_hide o ho cs ds hA.2 hB.2
    simp only [alikeAs, hideAs, sameAs, h1, h2]
end


mutual
theorem arrOK.wf : ∀ {A : Arr}, arrOK A → wfA A
  | .mk s sh cs, h => by
    simp only [arrOK] at h
    exact ⟨h.1, cellsOK.wf h.2.2.2.2⟩
theorem cellsOK.wf : ∀ {cs : List Cell}, cellsOK cs → wfCs cs
  | [], h => by simp [wfCs]
  | c :: cs, h => by
    simp only [cellsOK] at h
    exact ⟨cellOK.wf h.1, cellsOK.wf h.2⟩
theorem cellOK.wf : ∀ {c : Cell}, cellOK c → wfC c
  | .mk l k n c ins, h => by
    simp only [cellOK] at h
    exact ⟨h.1, arrsOK.wf h.2.2.2.2.2⟩
theorem arrsOK.wf : ∀ {xs : List Arr}, arrsOK xs → wfAs xs
  | [], h => by simp [wfAs]
  | a :: xs, h => by
    simp only [arrsOK] at h
    exact ⟨arrOK.wf h.1, arrsOK.wf h.2⟩
end

end Go.Proofs.Ytmbigpjokpdnkaa
