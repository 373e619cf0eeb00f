/- What an observer sees of arrays, and when arrays are the same, as data; no program in sight. -/
import Derived.Test.YtkgnnnehmnoleaaLabP
namespace Go.Proofs.Ytkgnnnehmnoleaa
set_option linter.unusedVariables false
open Go.RowKit

def intsP (xs ys : List Int) : Bool := xs == ys
def numP (a b : Num) : Bool := (a.neg == b.neg) && (intsP a.top b.top && intsP a.bot b.bot)

theorem numP_iff (a b : Num) : numP a b = true ↔ a = b := by
  obtain ⟨n, t, b⟩ := a
  rename_i b2
  obtain ⟨n', t', b'⟩ := b2
  simp [numP, intsP]

mutual
def sameA : Arr → Arr → Bool
  | .mk s sh cs, .mk s2 sh2 cs2 => (s == s2) && (intsP sh sh2 && sameCs cs cs2)
def sameCs : List Cell → List Cell → Bool
  | [], [] => true
  | c :: cs, d :: ds => sameC c d && sameCs cs ds
  | _, _ => false
def sameC : Cell → Cell → Bool
  | .mk l k n c ins, .mk l2 k2 n2 c2 ins2 => (l == l2) && ((k == k2) && ((c == c2) && (numP n n2 && sameAs ins ins2)))
def sameAs : List Arr → List Arr → Bool
  | [], [] => true
  | c :: cs, d :: ds => sameA c d && sameAs cs ds
  | _, _ => false
end

mutual
theorem sameA_iff : ∀ (A B : Arr), sameA A B = true ↔ A = B
  | .mk s sh cs, .mk s2 sh2 cs2 => by
    have := sameCs_iff cs cs2
    simp only [sameA, Bool.and_eq_true, this, beq_iff_eq, intsP, Arr.mk.injEq]
theorem sameCs_iff : ∀ (cs ds : List Cell), sameCs cs ds = true ↔ cs = ds
  | [], [] => by simp [sameCs]
  | [], _ :: _ => by simp [sameCs]
  | _ :: _, [] => by simp [sameCs]
  | c :: cs, d :: ds => by
    have h1 := sameC_iff c d
    have h2 := sameCs_iff cs ds
    simp only [sameCs, Bool.and_eq_true, h1, h2, List.cons.injEq]
theorem sameC_iff : ∀ (c d : Cell), sameC c d = true ↔ c = d
  | .mk l k n c ins, .mk l2 k2 n2 c2 ins2 => by
    have h1 := sameAs_iff ins ins2
    simp only [sameC, Bool.and_eq_true, h1, numP_iff, beq_iff_eq, Cell.mk.injEq]
    constructor
    · rintro ⟨h1, h2, h3, h4, h5⟩; exact ⟨h1, h2, h4, h3, h5⟩
    · rintro ⟨h1, h2, h3, h4, h5⟩; exact ⟨h1, h2, h4, h3, h5⟩
theorem sameAs_iff : ∀ (cs ds : List Arr), sameAs cs ds = true ↔ cs = ds
  | [], [] => by simp [sameAs]
  | [], _ :: _ => by simp [sameAs]
  | _ :: _, [] => by simp [sameAs]
  | c :: cs, d :: ds => by
    have h1 := sameA_iff c d
    have h2 := sameAs_iff cs ds
    simp only [sameAs, Bool.and_eq_true, h1, h2, List.cons.injEq]
end

theorem sameA_refl (A : Arr) : sameA A A = true := (sameA_iff A A).2 rfl
theorem sameC_refl (A : Cell) : sameC A A = true := (sameC_iff A A).2 rfl

theorem sameCs_len (cs ds : List Cell) (h : cs.length ≠ ds.length) : sameCs cs ds = false := by
  cases e : sameCs cs ds
  · rfl
  · exact absurd (congrArg List.length ((sameCs_iff cs ds).1 e)) h

theorem sameAs_len (cs ds : List Arr) (h : cs.length ≠ ds.length) : sameAs cs ds = false := by
  cases e : sameAs cs ds
  · rfl
  · exact absurd (congrArg List.length ((sameAs_iff cs ds).1 e)) h

def secretN : Nat := 18446744073709551615

mutual
def hideA (o : Nat) : Arr → Arr
  | .mk s sh cs => if flowsN s o = true then .mk s sh (hideCs o cs) else .mk secretN [] []
def hideCs (o : Nat) : List Cell → List Cell
  | [] => []
  | c :: cs => hideC o c :: hideCs o cs
def hideC (o : Nat) : Cell → Cell
  | .mk l k n ch ins => if flowsN l o = true then .mk l k n ch (hideAs o ins) else .mk secretN 0 ⟨false, [], []⟩ 0 []
def hideAs (o : Nat) : List Arr → List Arr
  | [] => []
  | a :: xs => hideA o a :: hideAs o xs
end

theorem hideCs_map (o : Nat) : ∀ cs : List Cell, hideCs o cs = cs.map (hideC o)
  | [] => rfl
  | c :: cs => by rw [hideCs, hideCs_map o cs]; rfl
theorem hideAs_map (o : Nat) : ∀ cs : List Arr, hideAs o cs = cs.map (hideA o)
  | [] => rfl
  | c :: cs => by rw [hideAs, hideAs_map o cs]; rfl

mutual
def alikeA (o : Nat) : Arr → Arr → Bool
  | .mk s sh cs, .mk s2 sh2 cs2 => if flowsN s o = true ∧ flowsN s2 o = true then (s == s2) && (intsP sh sh2 && alikeCs o cs cs2) else flowsN s o == flowsN s2 o
def alikeCs (o : Nat) : List Cell → List Cell → Bool
  | [], [] => true
  | c :: cs, d :: ds => alikeC o c d && alikeCs o cs ds
  | _, _ => false
def alikeC (o : Nat) : Cell → Cell → Bool
  | .mk l k n c ins, .mk l2 k2 n2 c2 ins2 => if flowsN l o = true ∧ flowsN l2 o = true then (l == l2) && ((k == k2) && ((c == c2) && (numP n n2 && alikeAs o ins ins2))) else flowsN l o == flowsN l2 o
def alikeAs (o : Nat) : List Arr → List Arr → Bool
  | [], [] => true
  | c :: cs, d :: ds => alikeA o c d && alikeAs o cs ds
  | _, _ => false
end

theorem alikeCs_len (o : Nat) : ∀ (cs ds : List Cell), cs.length ≠ ds.length → alikeCs o cs ds = false
  | [], [], h => absurd rfl h
  | [], _ :: _, _ => by simp [alikeCs]
  | _ :: _, [], _ => by simp [alikeCs]
  | c :: cs, d :: ds, h => by rw [alikeCs, alikeCs_len o cs ds (by simpa using h), Bool.and_false]
theorem alikeAs_len (o : Nat) : ∀ (cs ds : List Arr), cs.length ≠ ds.length → alikeAs o cs ds = false
  | [], [], h => absurd rfl h
  | [], _ :: _, _ => by simp [alikeAs]
  | _ :: _, [], _ => by simp [alikeAs]
  | c :: cs, d :: ds, h => by rw [alikeAs, alikeAs_len o cs ds (by simpa using h), Bool.and_false]

/-- who sees Secret sees all -/
theorem flowsN_secret {s o : Nat} (ho : o < 18446744073709551616) (hs : s < 18446744073709551616) (h : flowsN secretN o = true) : flowsN s o = true := by
  have h1 := (flowsN_iff (by decide : secretN < 18446744073709551616)).1 h
  refine (flowsN_iff hs).2 fun i hi _ => h1 i hi ?_
  have : secretN = 2 ^ 64 - 1 := by decide
  rw [this, Nat.testBit_two_pow_sub_one]
  simpa using hi

mutual
/-- its labels are labels -/
def wfA : Arr → Prop
  | .mk s _ cs => s < 18446744073709551616 ∧ wfCs cs
def wfCs : List Cell → Prop
  | [] => True
  | c :: cs => wfC c ∧ wfCs cs
def wfC : Cell → Prop
  | .mk l _ _ _ ins => l < 18446744073709551616 ∧ wfAs ins
def wfAs : List Arr → Prop
  | [] => True
  | a :: xs => wfA a ∧ wfAs xs
end

theorem secret_ne {o s : Nat} (ho : o < 18446744073709551616) {t : Nat} (ht : t < 18446744073709551616) (hs : flowsN s o = true) (h : flowsN t o = false) : s ≠ secretN := by
  intro e
  subst e
  rw [flowsN_secret ho ht hs] at h
  cases h

mutual
theorem alikeA_hide (o : Nat) (ho : o < 18446744073709551616) : ∀ (A B : Arr), wfA A → wfA B → alikeA o A B = sameA (hideA o A) (hideA o B)
  | .mk s sh cs, .mk s2 sh2 cs2, hA, hB => by
    have ih := alikeCs_hide o ho cs cs2 hA.2 hB.2
    cases h1 : flowsN s o <;> cases h2 : flowsN s2 o
    · simp [alikeA, hideA, h1, h2, sameA, intsP, sameCs]
    · have := secret_ne ho hA.1 h2 h1
      simp [alikeA, hideA, h1, h2, sameA]
      intro e; exact absurd e.symm this
    · have := secret_ne ho hB.1 h1 h2
      simp [alikeA, hideA, h1, h2, sameA]
      intro e; exact absurd e this
    · simp [alikeA, hideA, h1, h2, sameA, ih]
theorem alikeCs_hide (o : Nat) (ho : o < 18446744073709551616) : ∀ (cs ds : List Cell), wfCs cs → wfCs ds → alikeCs o cs ds = sameCs (hideCs o cs) (hideCs o ds)
  | [], [], _, _ => by simp [alikeCs, hideCs, sameCs]
  | [], _ :: _, _, _ => by simp [alikeCs, hideCs, sameCs]
  | _ :: _, [], _, _ => by simp [alikeCs, hideCs, sameCs]
  | c :: cs, d :: ds, hA, hB => by
    have h1 := alikeC_hide o ho c d hA.1 hB.1
    have h2 := alikeCs_hide o ho cs ds hA.2 hB.2
    simp only [alikeCs, hideCs, sameCs, h1, h2]
theorem alikeC_hide (o : Nat) (ho : o < 18446744073709551616) : ∀ (c d : Cell), wfC c → wfC d → alikeC o c d = sameC (hideC o c) (hideC o d)
  | .mk s k n ch ins, .mk s2 k2 n2 ch2 ins2, hA, hB => by
    have ih := alikeAs_hide o ho ins ins2 hA.2 hB.2
    cases h1 : flowsN s o <;> cases h2 : flowsN s2 o
    · simp [alikeC, hideC, h1, h2, sameC, numP, intsP, sameAs]
    · have := secret_ne ho hA.1 h2 h1
      simp [alikeC, hideC, h1, h2, sameC]
      intro e; exact absurd e.symm this
    · have := secret_ne ho hB.1 h1 h2
      simp [alikeC, hideC, h1, h2, sameC]
      intro e; exact absurd e this
    · simp [alikeC, hideC, h1, h2, sameC, ih]
theorem alikeAs_hide (o : Nat) (ho : o < 18446744073709551616) : ∀ (cs ds : List Arr), wfAs cs → wfAs ds → alikeAs o cs ds = sameAs (hideAs o cs) (hideAs o ds)
  | [], [], _, _ => by simp [alikeAs, hideAs, sameAs]
  | [], _ :: _, _, _ => by simp [alikeAs, hideAs, sameAs]
  | _ :: _, [], _, _ => by simp [alikeAs, hideAs, sameAs]
  | c :: cs, d :: ds, hA, hB => by
    have h1 := alikeA_hide o ho c d hA.1 hB.1
    have h2 := alikeAs_hide o ho cs ds hA.2 hB.2
    simp only [alikeAs, hideAs, sameAs, h1, h2]
end


mutual
theorem arrOK.wf : ∀ {A : Arr}, arrOK A → wfA A
  | .mk s sh cs, h => by
    simp only [arrOK] at h
    exact ⟨h.1, cellsOK.wf h.2.2.2.2⟩
theorem cellsOK.wf : ∀ {cs : List Cell}, cellsOK cs → wfCs cs
  | [], h => by simp [wfCs]
  | c :: cs, h => by
    simp only [cellsOK] at h
    exact ⟨cellOK.wf h.1, cellsOK.wf h.2⟩
theorem cellOK.wf : ∀ {c : Cell}, cellOK c → wfC c
  | .mk l k n c ins, h => by
    simp only [cellOK] at h
    exact ⟨h.1, arrsOK.wf h.2.2.2.2.2⟩
theorem arrsOK.wf : ∀ {xs : List Arr}, arrsOK xs → wfAs xs
  | [], h => by simp [wfAs]
  | a :: xs, h => by
    simp only [arrsOK] at h
    exact ⟨arrOK.wf h.1, arrsOK.wf h.2⟩
end

end Go.Proofs.Ytkgnnnehmnoleaa
