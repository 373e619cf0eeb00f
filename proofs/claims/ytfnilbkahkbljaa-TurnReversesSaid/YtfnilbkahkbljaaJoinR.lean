/- Arrays put together: the program's Catenate. -/
import Derived.Test.YtfnilbkahkbljaaJoinP
import Derived.Test.YtfnilbkahkbljaaArrG
import Derived.Test.YtfnilbkahkbljaaAbsN
import Derived.Test.YtfnilbkahkbljaaNumB
import Derived.Test.YtfnilbkahkbljaaSameP
namespace Go.Proofs.Ytfnilbkahkbljaa
set_option linter.unusedVariables false
open Go.RowKit

def wholeP (s t : List Int) (x : Nat) (z : Int) : List Int × Int := if wout s x = wout t x then (if (cnt (s.set x z)).2 = 0 then (s.set x z, 0) else ([], (cnt (s.set x z)).2)) else ([], 4)

set_option maxHeartbeats 1000000 in
theorem pwhole_a (s t : List Int) (cs ds : List Cell) (al bl : Bool) (x n1 n2 : Nat) (hs : s[x]? = some (n1 : Int)) (ht : t[x]? = some (n2 : Int)) (hl : s.length = t.length) (h6 : s.length ≤ 6) (b1 : n1 ≤ 2048) (b2 : n2 ≤ 2048) :
    ACalls Try.prog 68 [.agg (pairV s cs al t ds bl x)] (.tup [.sl 1 (intsA .i64 (wholeP s t x ((n1 : Int) + n2)).1), .lit (.int .i64 (wholeP s t x ((n1 : Int) + n2)).2)]) := by
  have hB : maxB = 1000000000 := rfl
  have ls := intsA_len .i64 s
  have lt := intsA_len .i64 t
  have lsx := (List.getElem?_eq_some_iff.1 hs).1
  have hsx : (intsA .i64 s)[((x : Nat) : Int).toNat]? = some [.lit (.int .i64 (n1 : Int))] := int_at hs
  have htx : (intsA .i64 t)[((x : Nat) : Int).toNat]? = some [.lit (.int .i64 (n2 : Int))] := int_at ht
  have c1 := shWith_a s x ((n1 : Int) + n2) lsx (by omega)
  have c2 := count_a (s.set x ((n1 : Int) + n2))
  have hw := wout_eq hl lsx
  unfold wholeP
  generalize s.set x ((n1 : Int) + n2) = u at c1 c2 ⊢
  refine acalls_of code_join_pair_whole (by simp [fn_join_pair_whole]) fun C hC => ?_
  unfold pairV
  refine walk2 ?_
  refine aw_loopB [1, 12, 13, 2, 3] [0] (fun k : Nat => [(14, .lit (.int .i64 k))]) (fun k => []) 1 (fun k => k ≤ s.length ∧ ∀ j, j < k → j ≠ x → s[j]? = t[j]?) (fun k => s.length - k) 0 ⟨Nat.zero_le _, fun j hj => absurd hj (Nat.not_lt_zero _)⟩ ?_
  rintro k ⟨hk, hE⟩
  dsimp only [List.cons_append, List.nil_append]
  by_cases hkl : k < s.length
  · obtain ⟨a, ha⟩ : ∃ a, s[k]? = some a := ⟨_, List.getElem?_eq_getElem hkl⟩
    obtain ⟨b, hb⟩ : ∃ b, t[k]? = some b := ⟨_, List.getElem?_eq_getElem (by omega)⟩
    have hak : (intsA .i64 s)[((k : Nat) : Int).toNat]? = some [.lit (.int .i64 a)] := int_at ha
    have hbk : (intsA .i64 t)[((k : Nat) : Int).toNat]? = some [.lit (.int .i64 b)] := int_at hb
    by_cases hkx : k = x
    · have hkx' : (k : Int) = x := by omega
      clear c1 c2
      refine walk2 ?_
      refine ⟨k + 1, by omega, ⟨by omega, fun j hj hjx => hE j (by omega) hjx⟩, wkR hC.m [] ?_⟩
      rfl
    · have hkx' : ¬ (k : Int) = x := by omega
      by_cases hab : a = b
      · clear c1 c2
        refine walk2 ?_
        refine ⟨k + 1, by omega, ⟨by omega, fun j hj hjx => ?_⟩, wkR hC.m [] ?_⟩
        · by_cases hjk : j = k
          · subst hjk; rw [ha, hb, hab]
          · exact hE j (by omega) hjx
        · rfl
      · have hne : ¬ wout s x = wout t x := fun h => by
          have := hw.1 h k hkx
          rw [ha, hb] at this
          exact hab (Option.some.inj this)
        rw [if_neg hne]
        clear c1 c2
        refine walk2 ?_
        exact fin
  · have he : wout s x = wout t x := hw.2 fun j hj => by
      by_cases hjl : j < s.length
      · exact hE j (by omega) hj
      · rw [List.getElem?_eq_none (by omega), List.getElem?_eq_none (by omega)]
    rw [if_pos he]
    by_cases h0 : (cnt u).2 = 0
    · rw [if_pos h0]
      rw [h0] at c2
      refine walk2 ?_
      exact fin
    · rw [if_neg h0]
      generalize (cnt u).2 = e at c2 h0 ⊢
      generalize (cnt u).1 = v at c2
      refine walk2 ?_
      exact fin
end Go.Proofs.Ytfnilbkahkbljaa
namespace Go.Proofs.Ytfnilbkahkbljaa
set_option linter.unusedVariables false
open Go.RowKit

/-- an array that is as large as its shape says -/
structure okJ (A : Arr) : Prop where
  ok : okA A
  e : (cnt A.shape).2 = 0
  c : (cnt A.shape).1 = A.cells.length

theorem okJ.small {A : Arr} (h : okJ A) : Small A.shape := cnt_small h.e
theorem okJ.len {A : Arr} (h : okJ A) : A.shape.length ≤ 6 := cnt_len h.e
theorem okJ.prod {A : Arr} (h : okJ A) : prodL A.shape = A.cells.length := by rw [← cnt_prod h.e]; exact h.c
theorem okJ.cells {A : Arr} (h : okJ A) : A.cells.length ≤ 2048 := by have := (cnt_le A.shape).2; rw [h.c] at this; omega

theorem prodC_le : ∀ (l : List Int) (o : Int), 0 < o → (∀ z ∈ l, 0 < z) → o * prodL l ≤ 2048 → prodC l o = o * prodL l
  | [], o, _, _, _ => by simp [prodC, prodL]
  | z :: l, o, ho, hp, h => by
    have hz := hp z (by simp)
    have hl := prodL_pos l (fun y hy => hp y (by simp [hy]))
    simp only [prodL] at h ⊢
    rw [← Int.mul_assoc] at h ⊢
    have h1 : o * z ≤ o * z * prodL l := by
      have := Int.mul_le_mul_of_nonneg_left (show (1 : Int) ≤ prodL l by omega) (Int.le_of_lt (Int.mul_pos ho hz))
      rwa [Int.mul_one] at this
    simp only [prodC]
    rw [if_neg (by omega)]
    exact prodC_le l (o * z) (Int.mul_pos ho hz) (fun y hy => hp y (by simp [hy])) h

theorem split_at {s : List Int} {x : Nat} {z : Int} (h : s[x]? = some z) : s = s.take x ++ z :: s.drop (x + 1) := by
  have := (List.getElem?_eq_some_iff.1 h)
  obtain ⟨hx, e⟩ := this
  rw [← e, ← List.drop_eq_getElem_cons hx, List.take_append_drop]

theorem set_split {s : List Int} {x : Nat} (hx : x < s.length) (z : Int) : s.set x z = s.take x ++ z :: s.drop (x + 1) := (set_cut s x hx z).symm

/-- how many blocks ahead, how many cells behind an axis -/
def aheadN (u : List Int) (x : Nat) : Nat := (prodC (u.take x) 1).toNat
def behindN (u : List Int) (x : Nat) : Nat := (prodC (u.drop (x + 1)) 1).toNat

theorem Small.mem {s t : List Int} (h : Small s) (ht : ∀ z ∈ t, z ∈ s) : Small t := fun z hz => h z (ht z hz)

theorem ahead_eq {u : List Int} (x : Nat) (hu : Small u) : prodC (u.take x) 1 = (aheadN u x : Nat) ∧ aheadN u x ≤ 2048 ∧ prodC (u.drop (x + 1)) 1 = (behindN u x : Nat) ∧ behindN u x ≤ 2048 := by
  have h1 := prodC_range (u.take x) 1 (by omega) (by omega) (hu.mem fun z hz => List.mem_of_mem_take hz)
  have h2 := prodC_range (u.drop (x + 1)) 1 (by omega) (by omega) (hu.mem fun z hz => List.mem_of_mem_drop hz)
  unfold aheadN behindN
  omega

/-- the cells of a shape: blocks ahead, along the axis, behind -/
theorem geo {u : List Int} {x n : Nat} (h : (cnt u).2 = 0) (hz : u[x]? = some (n : Int)) :
    ((∀ z ∈ u, 0 < z) ∧ prodL (u.take x) = (aheadN u x : Nat) ∧ prodL (u.drop (x + 1)) = (behindN u x : Nat) ∧ (cnt u).1 = ((aheadN u x * (n * behindN u x) : Nat) : Int)) ∨
    ((0 : Int) ∈ u ∧ (cnt u).1 = 0 ∧ (aheadN u x = 0 ∨ n = 0 ∨ behindN u x = 0)) := by
  have hs := cnt_small h
  have hsp := split_at hz
  have hp := cnt_prod h
  have hle := cnt_le u
  by_cases h0 : (0 : Int) ∈ u
  · refine .inr ⟨h0, by rw [hp, prodL_zero h0], ?_⟩
    rw [hsp, List.mem_append, List.mem_cons] at h0
    rcases h0 with h0 | h0 | h0
    · left; unfold aheadN; rw [prodC_zero _ _ (hs.mem fun z hz => List.mem_of_mem_take hz) h0]; rfl
    · right; left; omega
    · right; right; unfold behindN; rw [prodC_zero _ _ (hs.mem fun z hz => List.mem_of_mem_drop hz) h0]; rfl
  · have hpos : ∀ z ∈ u, 0 < z := fun z hz => by
      have := (hs z hz).1
      rcases Int.lt_or_eq_of_le this with h1 | h1
      · exact h1
      · subst h1; exact absurd hz h0
    have p1 := prodL_pos (u.take x) (fun z hz => hpos z (List.mem_of_mem_take hz))
    have p2 := prodL_pos (u.drop (x + 1)) (fun z hz => hpos z (List.mem_of_mem_drop hz))
    have pn : 0 < (n : Int) := hpos _ (List.mem_of_getElem? hz)
    have e : prodL u = prodL (u.take x) * (n * prodL (u.drop (x + 1))) := by
      conv => lhs; rw [hsp]
      rw [prodL_append, prodL_cons]
    have l1 : prodL (u.take x) ≤ 2048 := by
      have h1 : 1 ≤ (n : Int) * prodL (u.drop (x + 1)) := Int.mul_pos pn p2
      have := Int.mul_le_mul_of_nonneg_left h1 (Int.le_of_lt p1)
      rw [Int.mul_one] at this; omega
    have l2 : prodL (u.drop (x + 1)) ≤ 2048 := by
      have h1 : 1 * prodL (u.drop (x + 1)) ≤ (n : Int) * prodL (u.drop (x + 1)) := Int.mul_le_mul_of_nonneg_right (by omega) (Int.le_of_lt p2)
      have h2 := Int.mul_pos pn p2
      have h3 : 1 * ((n : Int) * prodL (u.drop (x + 1))) ≤ prodL (u.take x) * (n * prodL (u.drop (x + 1))) := Int.mul_le_mul_of_nonneg_right (by omega) (Int.le_of_lt h2)
      omega
    have c1 := prodC_le (u.take x) 1 (by omega) (fun z hz => hpos z (List.mem_of_mem_take hz)) (by omega)
    have c2 := prodC_le (u.drop (x + 1)) 1 (by omega) (fun z hz => hpos z (List.mem_of_mem_drop hz)) (by omega)
    have a := ahead_eq x hs
    refine .inl ⟨hpos, by omega, by omega, ?_⟩
    rw [hp, e, Int.natCast_mul, Int.natCast_mul]
    rw [show prodL (u.take x) = (aheadN u x : Nat) from by omega, show prodL (u.drop (x + 1)) = (behindN u x : Nat) from by omega]

theorem wid_facts {A B : Arr} (hA : okJ A) (hB : okJ B) {n x : Nat} (hn : n = axN A B) (hx : x < n) {s : List Int} {al : Bool} (h : widP A.shape B.shape n x = some (s, al)) :
    s.length = n ∧ Small s ∧ (al = true → A.shape = [] ∧ A.cells.length = 1) ∧ (al = false → A.shape ≠ [] ∧ prodL s = A.cells.length) := by
  have hn1 : 1 ≤ n := by rw [hn]; unfold axN; omega
  have hone : Small [1] := fun z hz => by simp at hz; omega
  unfold widP at h
  split at h
  · rename_i h1
    simp only [Option.some.injEq, Prod.mk.injEq] at h
    obtain ⟨rfl, rfl⟩ := h
    refine ⟨h1, hA.small, fun h => (by cases h), fun _ => ⟨fun h => ?_, hA.prod⟩⟩
    rw [h] at h1; simp at h1; omega
  · split at h
    · rename_i h1 h2
      have hc1 : A.cells.length = 1 := by
        have := hA.prod
        rw [h2] at this
        simp only [prodL] at this; omega
      split at h
      · rename_i h3
        simp only [Option.some.injEq, Prod.mk.injEq] at h
        obtain ⟨rfl, rfl⟩ := h
        refine ⟨?_, hone, fun _ => ⟨h2, hc1⟩, fun h => by cases h⟩
        rw [hn]; unfold axN; rw [h2, h3]; rfl
      · simp only [Option.some.injEq, Prod.mk.injEq] at h
        obtain ⟨rfl, rfl⟩ := h
        refine ⟨?_, fun z hz => ?_, fun _ => ⟨h2, hc1⟩, fun h => by cases h⟩
        · rename_i h3
          have : B.shape.length ≠ 0 := fun e => h3 (List.eq_nil_of_length_eq_zero e)
          rw [List.length_set, hn]; unfold axN; rw [h2]; simp; omega
        · rcases List.mem_or_eq_of_mem_set hz with h | h
          · exact hB.small z h
          · subst h; omega
    · split at h
      · rename_i h1 h2 h3
        simp only [Option.some.injEq, Prod.mk.injEq] at h
        obtain ⟨rfl, rfl⟩ := h
        refine ⟨by simp; omega, fun z hz => ?_, fun h => (by cases h), fun _ => ⟨h2, ?_⟩⟩
        · rw [List.mem_append, List.mem_cons] at hz
          rcases hz with hz | hz | hz
          · exact hA.small z (List.mem_of_mem_take hz)
          · subst hz; omega
          · exact hA.small z (List.mem_of_mem_drop hz)
        · rw [prodL_append, prodL_cons, Int.one_mul, ← prodL_append, List.take_append_drop, hA.prod]
      · cases h

/-- two arrays together; an error -/
def catP (A B : Arr) (first : Bool) : Arr × Int :=
  match widP A.shape B.shape (axN A B) (atN A B first), widP B.shape A.shape (axN A B) (atN A B first) with
  | some (s, al), some (t, bl) =>
    if (wholeP s t (atN A B first) (s.getD (atN A B first) 0 + t.getD (atN A B first) 0)).2 ≠ 0 then (.mk 0 [] [], (wholeP s t (atN A B first) (s.getD (atN A B first) 0 + t.getD (atN A B first) 0)).2)
    else (.mk (A.s ||| B.s) (s.set (atN A B first) (s.getD (atN A B first) 0 + t.getD (atN A B first) 0))
      (catL ((s.getD (atN A B first) 0).toNat * behindN s (atN A B first)) ((t.getD (atN A B first) 0).toNat * behindN s (atN A B first)) al A.cells bl B.cells
        (aheadN s (atN A B first) * ((s.getD (atN A B first) 0).toNat * behindN s (atN A B first) + (t.getD (atN A B first) 0).toNat * behindN s (atN A B first)))), 0)
  | _, _ => (.mk 0 [] [], 5)

/-- what is known where nothing fails -/
structure Cat (A B : Arr) (first : Bool) (s t : List Int) (al bl : Bool) (x n1 n2 : Nat) (u : List Int) : Prop where
  hx : x = atN A B first
  w1 : widP A.shape B.shape (axN A B) x = some (s, al)
  w2 : widP B.shape A.shape (axN A B) x = some (t, bl)
  sx : s[x]? = some (n1 : Int)
  tx : t[x]? = some (n2 : Int)
  ls : s.length = axN A B
  lt : t.length = axN A B
  l6 : axN A B ≤ 6
  ss : Small s
  st : Small t
  hu : u = s.set x ((n1 : Int) + n2)
  al1 : al = true → A.shape = [] ∧ A.cells.length = 1
  al0 : al = false → A.shape ≠ [] ∧ prodL s = A.cells.length
  bl1 : bl = true → B.shape = [] ∧ B.cells.length = 1
  bl0 : bl = false → B.shape ≠ [] ∧ prodL t = B.cells.length

theorem cat_cases {A B : Arr} (hA : okJ A) (hB : okJ B) (first : Bool) :
    (catP A B first = (.mk 0 [] [], 5) ∧ (widP A.shape B.shape (axN A B) (atN A B first) = none ∨ widP B.shape A.shape (axN A B) (atN A B first) = none)) ∨
    ∃ s t al bl n1 n2 u, Cat A B first s t al bl (atN A B first) n1 n2 u ∧ n1 ≤ 2048 ∧ n2 ≤ 2048 ∧ (
      (wout s (atN A B first) ≠ wout t (atN A B first) ∧ catP A B first = (.mk 0 [] [], 4)) ∨
      (wout s (atN A B first) = wout t (atN A B first) ∧ (cnt u).2 ≠ 0 ∧ catP A B first = (.mk 0 [] [], (cnt u).2)) ∨
      (wout s (atN A B first) = wout t (atN A B first) ∧ (cnt u).2 = 0 ∧ catP A B first = (.mk (A.s ||| B.s) u (catL (n1 * behindN u (atN A B first)) (n2 * behindN u (atN A B first)) al A.cells bl B.cells (aheadN u (atN A B first) * (n1 * behindN u (atN A B first) + n2 * behindN u (atN A B first)))), 0))) := by
  have hl1 := hA.len
  have hl2 := hB.len
  have hx : atN A B first < axN A B := by unfold atN axN; split <;> omega
  have h6 : axN A B ≤ 6 := by unfold axN; omega
  unfold catP
  cases h1 : widP A.shape B.shape (axN A B) (atN A B first) with
  | none => exact .inl ⟨rfl, .inl rfl⟩
  | some p =>
    cases h2 : widP B.shape A.shape (axN A B) (atN A B first) with
    | none => obtain ⟨s, al⟩ := p; exact .inl ⟨rfl, .inr rfl⟩
    | some q =>
      obtain ⟨s, al⟩ := p
      obtain ⟨t, bl⟩ := q
      right
      obtain ⟨f1, f2, f3, f4⟩ := wid_facts hA hB rfl hx h1
      obtain ⟨g1, g2, g3, g4⟩ := wid_facts hB hA (axN_comm A B) hx h2
      generalize hxe : atN A B first = x at *
      obtain ⟨a, ha⟩ : ∃ a, s[x]? = some a := ⟨_, List.getElem?_eq_getElem (by omega)⟩
      obtain ⟨b, hb⟩ : ∃ b, t[x]? = some b := ⟨_, List.getElem?_eq_getElem (by omega)⟩
      have a1 := f2 a (List.mem_of_getElem? ha)
      have b1 := g2 b (List.mem_of_getElem? hb)
      have da : s.getD x 0 = ((a.toNat : Nat) : Int) := by rw [List.getD_eq_getElem?_getD, ha]; simp; omega
      have db : t.getD x 0 = ((b.toNat : Nat) : Int) := by rw [List.getD_eq_getElem?_getD, hb]; simp; omega
      simp only [da, db, Int.toNat_natCast]
      have ha' : s[x]? = some ((a.toNat : Nat) : Int) := by rw [ha]; congr 1; omega
      have hb' : t[x]? = some ((b.toNat : Nat) : Int) := by rw [hb]; congr 1; omega
      generalize hn1 : a.toNat = n1 at *
      generalize hn2 : b.toNat = n2 at *
      have hb1 : behindN (s.set x ((n1 : Int) + n2)) x = behindN s x := by unfold behindN; rw [List.drop_set_of_lt (Nat.lt_succ_self x)]
      have ha1 : aheadN (s.set x ((n1 : Int) + n2)) x = aheadN s x := by unfold aheadN; rw [List.take_set_of_le (Nat.le_refl x)]
      refine ⟨s, t, al, bl, n1, n2, s.set x ((n1 : Int) + n2), ⟨hxe.symm, h1, h2, ha', hb', f1, g1, h6, f2, g2, rfl, f3, f4, g3, g4⟩, by omega, by omega, ?_⟩
      rw [hb1, ha1]
      unfold wholeP
      by_cases hw : wout s x = wout t x
      · right
        by_cases h0 : (cnt (s.set x ((n1 : Int) + n2))).2 = 0
        · right
          exact ⟨hw, h0, by simp [hw, h0]⟩
        · left
          exact ⟨hw, h0, by simp [hw, h0]⟩
      · left
        exact ⟨hw, by simp [hw]⟩
end Go.Proofs.Ytfnilbkahkbljaa
namespace Go.Proofs.Ytfnilbkahkbljaa
set_option linter.unusedVariables false
open Go.RowKit

theorem Cat.sizes {A B : Arr} {first : Bool} {s t : List Int} {al bl : Bool} {x n1 n2 : Nat} {u : List Int} (K : Cat A B first s t al bl x n1 n2 u) (hw : wout s x = wout t x) (hu : (cnt u).2 = 0) :
    u[x]? = some ((n1 + n2 : Nat) : Int) ∧ (cnt u).1 = ((aheadN u x * (n1 * behindN u x + n2 * behindN u x) : Nat) : Int) ∧ (al = false → aheadN u x * (n1 * behindN u x) ≤ A.cells.length) ∧ (bl = false → aheadN u x * (n2 * behindN u x) ≤ B.cells.length) ∧
    u.take x = s.take x ∧ u.drop (x + 1) = s.drop (x + 1) ∧ t.take x = s.take x ∧ t.drop (x + 1) = s.drop (x + 1) := by
  have hxs := (List.getElem?_eq_some_iff.1 K.sx).1
  have hxt := (List.getElem?_eq_some_iff.1 K.tx).1
  have hux : u[x]? = some ((n1 + n2 : Nat) : Int) := by rw [K.hu, List.getElem?_set_self hxs]; simp
  have hut : u.take x = s.take x := by rw [K.hu, List.take_set_of_le (Nat.le_refl x)]
  have hud : u.drop (x + 1) = s.drop (x + 1) := by rw [K.hu, List.drop_set_of_lt (Nat.lt_succ_self x)]
  have hwl : t.take x = s.take x ∧ t.drop (x + 1) = s.drop (x + 1) := by
    unfold wout at hw
    have := List.append_inj hw (by simp; omega)
    exact ⟨this.1.symm, this.2.symm⟩
  have hs := split_at K.sx
  have ht := split_at K.tx
  have es : prodL s = prodL (u.take x) * (n1 * prodL (u.drop (x + 1))) := by
    conv => lhs; rw [hs]
    rw [prodL_append, prodL_cons, hut, hud]
  have et : prodL t = prodL (u.take x) * (n2 * prodL (u.drop (x + 1))) := by
    conv => lhs; rw [ht]
    rw [prodL_append, prodL_cons, hut, hud, hwl.1, hwl.2]
  refine ⟨hux, ?_, fun h => ?_, fun h => ?_, hut, hud, hwl.1, hwl.2⟩
  · rcases geo hu hux with ⟨_, _, _, h⟩ | ⟨_, h, hz⟩
    · rw [h, Nat.add_mul]
    · rw [h]
      rcases hz with hz | hz | hz
      · rw [hz, Nat.zero_mul]; rfl
      · have h1 : n1 = 0 := by omega
        have h2 : n2 = 0 := by omega
        rw [h1, h2]; simp
      · rw [hz]; simp
  · have hp := (K.al0 h).2
    rcases geo hu hux with ⟨_, g1, g2, _⟩ | ⟨_, _, hz⟩
    · rw [es, g1, g2, ← Int.natCast_mul, ← Int.natCast_mul] at hp
      omega
    · rcases hz with hz | hz | hz
      · rw [hz, Nat.zero_mul]; exact Nat.zero_le _
      · have h1 : n1 = 0 := by omega
        rw [h1]; simp
      · rw [hz]; simp
  · have hp := (K.bl0 h).2
    rcases geo hu hux with ⟨_, g1, g2, _⟩ | ⟨_, _, hz⟩
    · rw [et, g1, g2, ← Int.natCast_mul, ← Int.natCast_mul] at hp
      omega
    · rcases hz with hz | hz | hz
      · rw [hz, Nat.zero_mul]; exact Nat.zero_le _
      · have h1 : n2 = 0 := by omega
        rw [h1]; simp
      · rw [hz]; simp

set_option maxHeartbeats 1000000 in
theorem cat_a (A B : Arr) (first : Bool) (hA : okJ A) (hB : okJ B) : ACalls Try.prog 25 [.agg (arrV A), .agg (arrV B), .lit (.bool first)] (.tup [.agg (arrV (catP A B first).1), .lit (.int .i64 (catP A B first).2)]) := by
  have c1 := fit_a A B first hA.len hB.len
  rcases cat_cases hA hB first with ⟨he, hn⟩ | ⟨s, t, al, bl, n1, n2, u, K, b1, b2, hr⟩
  · have c1' : ACalls Try.prog 67 [.agg (arrV A), .agg (arrV B), .lit (.bool first)] (.tup [zPair, .lit (.int .i64 5)]) := by
      rcases hn with h | h
      · rw [h] at c1; exact c1
      · rw [h] at c1
        split at c1
        · rename_i h1 h2; cases h2
        · exact c1
    rw [he]
    unfold zPair at c1'
    clear c1
    refine acalls_defer code_join_Catenate (by simp [fn_join_Catenate]) idle_join_Catenate fun C hC => ?_
    refine walk2 ?_
    intro ds
    refine walk2 ?_
    exact fin
  · rw [K.w1, K.w2] at c1
    simp only at c1
    generalize hxe : atN A B first = x at *
    have c2 := pwhole_a s t A.cells B.cells al bl x n1 n2 K.sx K.tx (by rw [K.ls, K.lt]) (by rw [K.ls]; exact K.l6) b1 b2
    unfold wholeP at c2
    rw [← K.hu] at c2
    rcases hr with ⟨hw, he⟩ | ⟨hw, h0, he⟩ | ⟨hw, h0, he⟩
    · rw [he]
      rw [if_neg hw] at c2
      unfold pairV at c1 c2
      refine acalls_defer code_join_Catenate (by simp [fn_join_Catenate]) idle_join_Catenate fun C hC => ?_
      refine walk2 ?_
      intro ds
      refine walk2 ?_
      exact fin
    · rw [he]
      rw [if_pos hw, if_neg h0] at c2
      unfold pairV at c1 c2
      generalize (cnt u).2 = e at c2 h0 ⊢
      refine acalls_defer code_join_Catenate (by simp [fn_join_Catenate]) idle_join_Catenate fun C hC => ?_
      refine walk2 ?_
      intro ds
      refine walk2 ?_
      exact fin
    · rw [he]
      rw [if_pos hw, if_pos h0] at c2
      obtain ⟨z1, z2, z3, z4, z5, z6, z7, z8⟩ := K.sizes hw h0
      obtain ⟨a1, a2, a3, a4⟩ := ahead_eq x (cnt_small h0)
      have k1 := hA.cells
      have k2 := hB.cells
      have c3 := merge_a s t u A.cells B.cells al bl x n1 n2 (aheadN u x) (behindN u x) K.sx K.tx h0 z1 a1 a3 a2 a4 b1 b2 (fun h => by have := (K.al1 h).2; omega) (fun h => by have := (K.bl1 h).2; omega) z3 z4 (by omega) (by omega)
      have c4 := join_a A.s B.s hA.ok.parts.1 hB.ok.parts.1
      unfold pairV at c1 c2 c3
      generalize catL (n1 * behindN u x) (n2 * behindN u x) al A.cells bl B.cells (aheadN u x * (n1 * behindN u x + n2 * behindN u x)) = R at c3 ⊢
      refine acalls_defer code_join_Catenate (by simp [fn_join_Catenate]) idle_join_Catenate fun C hC => ?_
      refine walk2 ?_
      intro ds
      refine walk2 ?_
      exact fin
end Go.Proofs.Ytfnilbkahkbljaa
namespace Go.Proofs.Ytfnilbkahkbljaa
set_option linter.unusedVariables false
open Go.RowKit

theorem longer_a (a b v : Int) (h : (a > b ∧ v = a) ∨ (a ≤ b ∧ v = b)) : ACalls Try.prog 71 [.lit (.int .i64 a), .lit (.int .i64 b)] (.lit (.int .i64 v)) := by
  rcases h with ⟨h, rfl⟩ | ⟨h, rfl⟩
  · refine acalls_of code_scrimref12_longer (by simp [fn_scrimref12_longer]) fun C hC => ?_
    refine walk2 ?_
    exact fin
  · refine acalls_of code_scrimref12_longer (by simp [fn_scrimref12_longer]) fun C hC => ?_
    refine walk2 ?_
    exact fin

theorem counted_same (s other : List Int) (n x : Nat) (h6 : s.length ≤ 6) (h : s.length = n) : ACalls Try.prog 72 [.sl 1 (intsA .i64 s), .sl 1 (intsA .i64 other), .lit (.int .i64 x), .lit (.int .i64 n)] (.tup [.sl 1 (intsA .i64 s), .lit (.int .i64 0)]) := by
  have ls := intsA_len .i64 s
  refine acalls_of code_scrimref12_counted (by simp [fn_scrimref12_counted]) fun C hC => ?_
  refine walk2 ?_
  exact fin

theorem counted_none (s other : List Int) (n x : Nat) (h6 : s.length ≤ 6) (hn : n ≤ 6) (h : s.length ≠ n) (h0 : s.length ≠ 0) (h1 : s.length + 1 ≠ n) : ACalls Try.prog 72 [.sl 1 (intsA .i64 s), .sl 1 (intsA .i64 other), .lit (.int .i64 x), .lit (.int .i64 n)] (.tup [.sl 1 [], .lit (.int .i64 5)]) := by
  have ls := intsA_len .i64 s
  refine acalls_of code_scrimref12_counted (by simp [fn_scrimref12_counted]) fun C hC => ?_
  refine walk2 ?_
  exact fin

theorem counted_less (s other : List Int) (n x : Nat) (h6 : s.length ≤ 6) (hn : n ≤ 6) (h0 : s.length ≠ 0) (h1 : s.length + 1 = n) (hx : x < n) : ACalls Try.prog 72 [.sl 1 (intsA .i64 s), .sl 1 (intsA .i64 other), .lit (.int .i64 x), .lit (.int .i64 n)] (.tup [.sl 1 (intsA .i64 (s.take x ++ 1 :: s.drop x)), .lit (.int .i64 0)]) := by
  have ls := intsA_len .i64 s
  have k1 := Cut.upto (k := .i64) (s := s) (b := x) (by omega)
  have k2 := Cut.from (k := .i64) (s := s) (a := x) (by omega)
  have l1 := intsA_len .i64 (s.take x)
  have l2 := intsA_len .i64 (s.drop x)
  rw [List.length_take] at l1
  rw [List.length_drop] at l2
  have hb1 : (intsA .i64 (s.take x)).length * 8 ≤ 140737488355328 := by omega
  have hb2 : ((intsA .i64 (s.take x)).length + 1) * 8 ≤ 140737488355328 := by omega
  have hb3 : ((intsA .i64 (s.take x)).length + 1 + (intsA .i64 (s.drop x)).length) * 8 ≤ 140737488355328 := by omega
  refine acalls_of code_scrimref12_counted (by simp [fn_scrimref12_counted]) fun C hC => ?_
  refine walk2 ?_
  rw [show intsA .i64 (s.take x ++ 1 :: s.drop x) = (intsA .i64 (s.take x) ++ [[.lit (.int .i64 1)]]) ++ intsA .i64 (s.drop x) from by simp [intsA]]
  exact fin

theorem counted_zero1 (x : Nat) : ACalls Try.prog 72 [.sl 1 (intsA .i64 []), .sl 1 (intsA .i64 []), .lit (.int .i64 x), .lit (.int .i64 1)] (.tup [.sl 1 (intsA .i64 [1]), .lit (.int .i64 0)]) := by
  refine acalls_of code_scrimref12_counted (by simp [fn_scrimref12_counted]) fun C hC => ?_
  refine walk2 ?_
  exact fin

theorem counted_zero (other : List Int) (n x : Nat) (hn : n ≤ 6) (h : other.length = n) (hx : x < n) : ACalls Try.prog 72 [.sl 1 (intsA .i64 []), .sl 1 (intsA .i64 other), .lit (.int .i64 x), .lit (.int .i64 n)] (.tup [.sl 1 (intsA .i64 (other.set x 1)), .lit (.int .i64 0)]) := by
  have hB : maxB = 1000000000 := rfl
  have ls : (((intsA .i64 []).length : Nat) : Int) = 0 := rfl
  have lo := intsA_len .i64 other
  have c1 := refWith_a other x 1 (by omega) (by omega)
  refine acalls_of code_scrimref12_counted (by simp [fn_scrimref12_counted]) fun C hC => ?_
  refine walk2 ?_
  exact fin

theorem counted_a (A B : Arr) (hl : A.shape.length ≤ 6) (hm : B.shape.length ≤ 6) (n x : Nat) (hn : n = axN A B) (hx : x < n) :
    (∀ s al, widP A.shape B.shape n x = some (s, al) → ACalls Try.prog 72 [.sl 1 (intsA .i64 A.shape), .sl 1 (intsA .i64 B.shape), .lit (.int .i64 x), .lit (.int .i64 n)] (.tup [.sl 1 (intsA .i64 s), .lit (.int .i64 0)])) ∧
    (widP A.shape B.shape n x = none → ACalls Try.prog 72 [.sl 1 (intsA .i64 A.shape), .sl 1 (intsA .i64 B.shape), .lit (.int .i64 x), .lit (.int .i64 n)] (.tup [.sl 1 [], .lit (.int .i64 5)])) := by
  have hn1 : A.shape.length ≤ n ∧ B.shape.length ≤ n ∧ 1 ≤ n ∧ n ≤ 6 ∧ (A.shape.length = 0 → B.shape.length = 0 → n = 1) ∧ (A.shape.length = 0 → B.shape.length ≠ 0 → n = B.shape.length) := by unfold axN at hn; omega
  unfold widP
  by_cases h1 : A.shape.length = n
  · rw [if_pos h1]
    refine ⟨fun s al h => ?_, fun h => by cases h⟩
    simp only [Option.some.injEq, Prod.mk.injEq] at h
    obtain ⟨rfl, rfl⟩ := h
    exact counted_same A.shape B.shape n x hl h1
  · rw [if_neg h1]
    by_cases h2 : A.shape = []
    · rw [if_pos h2]
      have hA0 : A.shape.length = 0 := by rw [h2]; rfl
      by_cases h3 : B.shape = []
      · rw [if_pos h3]
        refine ⟨fun s al h => ?_, fun h => by cases h⟩
        simp only [Option.some.injEq, Prod.mk.injEq] at h
        obtain ⟨rfl, rfl⟩ := h
        have e : n = 1 := hn1.2.2.2.2.1 hA0 (by rw [h3]; rfl)
        rw [h2, h3, e]
        exact counted_zero1 x
      · rw [if_neg h3]
        refine ⟨fun s al h => ?_, fun h => by cases h⟩
        simp only [Option.some.injEq, Prod.mk.injEq] at h
        obtain ⟨rfl, rfl⟩ := h
        have e : n = B.shape.length := hn1.2.2.2.2.2 hA0 (fun h => h3 (List.eq_nil_of_length_eq_zero h))
        rw [h2]
        exact counted_zero B.shape n x (by omega) e.symm hx
    · rw [if_neg h2]
      have h2' : A.shape.length ≠ 0 := fun h => h2 (List.eq_nil_of_length_eq_zero h)
      by_cases h3 : A.shape.length + 1 = n
      · rw [if_pos h3]
        refine ⟨fun s al h => ?_, fun h => by cases h⟩
        simp only [Option.some.injEq, Prod.mk.injEq] at h
        obtain ⟨rfl, rfl⟩ := h
        exact counted_less A.shape B.shape n x hl (by omega) h2' h3 hx
      · rw [if_neg h3]
        exact ⟨fun s al h => (by cases h), fun _ => counted_none A.shape B.shape n x hl (by omega) h1 h2' h3⟩

theorem at_alone (A : Arr) (s d : List Int) (c : Cell) (h : A.shape = []) (hc : A.cells[0]? = some c) : ACalls Try.prog 76 [.agg (arrV A), .sl 1 (intsA .i64 s), .sl 1 (intsA .i64 d)] (.agg (cellV c)) := by
  have hcv : (A.cells.map cellR)[(0 : Int).toNat]? = some (cellV c) := cell_at hc
  have hcl : 0 < ((A.cells.map cellR).length : Int) := by
    have := (List.getElem?_eq_some_iff.1 hc).1
    simp; omega
  refine acalls_of code_scrimref12_at (by simp [fn_scrimref12_at]) fun C hC => ?_
  unfold arrV
  rw [h]
  refine walk2 ?_
  exact fin

theorem at_plain (A : Arr) (s d : List Int) (c : Cell) (k : Nat) (h : A.shape.length ≠ 0) (hk : findL (placesL s) d 0 = k) (h0 : (cnt s).2 = 0) (hc : A.cells[k]? = some c) : ACalls Try.prog 76 [.agg (arrV A), .sl 1 (intsA .i64 s), .sl 1 (intsA .i64 d)] (.agg (cellV c)) := by
  have ls := intsA_len .i64 A.shape
  have c1 := refIndex_a s d h0
  rw [hk] at c1
  have hcv : (A.cells.map cellR)[((k : Nat) : Int).toNat]? = some (cellV c) := cell_at hc
  have hcl : (k : Int) < ((A.cells.map cellR).length : Int) := by
    have := (List.getElem?_eq_some_iff.1 hc).1
    simp; omega
  refine acalls_of code_scrimref12_at (by simp [fn_scrimref12_at]) fun C hC => ?_
  refine walk2 ?_
  exact fin

theorem cnt_ok {s : List Int} (h6 : s.length ≤ 6) (hs : Small s) (hp : prodL s ≤ 2048) : (cnt s).2 = 0 := by
  unfold cnt
  rw [if_neg (by omega), if_neg (by simp only [List.any_eq_true, decide_eq_true_eq, not_exists, not_and]; exact fun z hz => by have := (hs z hz).1; omega), if_neg (by simp only [List.any_eq_true, decide_eq_true_eq, not_exists, not_and]; exact fun z hz => by have := (hs z hz).2; omega)]
  split
  · rfl
  · rename_i h
    have hpos : ∀ z ∈ s, 0 < z := fun z hz => by
      have h1 := (hs z hz).1
      rcases Int.lt_or_eq_of_le h1 with h2 | h2
      · exact h2
      · subst h2
        exact absurd (List.any_eq_true.2 ⟨0, hz, by simp⟩) h
    have e := prodC_le s 1 (by omega) hpos (by omega)
    have := prodL_pos s hpos
    rw [if_neg (by omega)]

theorem dig3 {s1 s2 : List Int} {L : Int} (hp : ∀ z ∈ s2, 0 < z) (q j r B l : Nat) (hB : prodL s2 = B) (hr : r < B) (hL : L = l) (hj : j < l) :
    (digR (s1 ++ L :: s2) (((q * l + j) * B + r : Nat) : Int)).2 = (digR s1 q).2 ++ (j : Int) :: (digR s2 r).2 := by
  have e1 : (digR s2 (((q * l + j) * B + r : Nat) : Int)).1 = ((q * l + j : Nat) : Int) := by
    rw [digR_fst s2 _ hp, hB, ← Int.natCast_ediv]
    rw [Nat.add_comm, Nat.add_mul_div_right _ _ (by omega), Nat.div_eq_of_lt hr, Nat.zero_add]
  have e2 : (digR s2 (((q * l + j) * B + r : Nat) : Int)).2 = (digR s2 r).2 := digR_mod s2 _ _ hp (by
    rw [hB, ← Int.natCast_emod, ← Int.natCast_emod, Nat.add_comm, Nat.add_mul_mod_self_right])
  rw [digR_append]
  have e3 : digR (L :: s2) (((q * l + j) * B + r : Nat) : Int) = ((q : Int), (j : Int) :: (digR s2 r).2) := by
    show (_, _) = _
    rw [e1, e2, hL]
    have h1 : ((q * l + j : Nat) : Int) / (l : Int) = q := by
      rw [← Int.natCast_ediv, Nat.add_comm, Nat.add_mul_div_right _ _ (by omega), Nat.div_eq_of_lt hj, Nat.zero_add]
    have h2 : ((q * l + j : Nat) : Int) % (l : Int) = j := by
      rw [← Int.natCast_emod, Nat.add_comm, Nat.add_mul_mod_self_right, Nat.mod_eq_of_lt hj]
    rw [h1, h2]
  rw [e3]
end Go.Proofs.Ytfnilbkahkbljaa
namespace Go.Proofs.Ytfnilbkahkbljaa
set_option linter.unusedVariables false
open Go.RowKit

theorem cat_cell {A B : Arr} (hA : okJ A) (hB : okJ B) {first : Bool} {s t : List Int} {al bl : Bool} {x n1 n2 : Nat} {u : List Int} (K : Cat A B first s t al bl x n1 n2 u) (hw : wout s x = wout t x) (hu : (cnt u).2 = 0) (i : Nat) (hi : (i : Int) < (cnt u).1) :
    ∃ j : Nat, (digR u (i : Int)).2[x]? = some (j : Int) ∧ j < n1 + n2 ∧
      ((j < n1 ∧ ACalls Try.prog 76 [.agg (arrV A), .sl 1 (intsA .i64 s), .sl 1 (intsA .i64 (digR u (i : Int)).2)] (.agg (cellV (catC (n1 * behindN u x) (n2 * behindN u x) al A.cells bl B.cells i)))) ∨
       (n1 ≤ j ∧ ACalls Try.prog 76 [.agg (arrV B), .sl 1 (intsA .i64 t), .sl 1 (intsA .i64 ((digR u (i : Int)).2.set x ((j : Int) - n1)))] (.agg (cellV (catC (n1 * behindN u x) (n2 * behindN u x) al A.cells bl B.cells i))))) := by
  obtain ⟨hux, hcnt, _, _, hut, hud, htt, htd⟩ := K.sizes hw hu
  have hss := split_at K.sx
  have hts := split_at K.tx
  have hus := split_at hux
  rw [hut, hud] at hus
  rw [htt, htd] at hts
  have hxs := (List.getElem?_eq_some_iff.1 K.sx).1
  have hls1 : (s.take x).length = x := by simp; omega
  rcases geo hu hux with ⟨hpos, g1, g2, _⟩ | ⟨_, h0, _⟩
  case inr => omega
  rw [hut] at g1
  rw [hud] at g2
  generalize hs1 : s.take x = s1 at *
  generalize hs2 : s.drop (x + 1) = s2 at *
  generalize behindN u x = Bd at *
  generalize aheadN u x = Ad at *
  have hp1 : ∀ z ∈ s1, 0 < z := fun z hz => hpos z (by rw [hus]; simp [hz])
  have hp2 : ∀ z ∈ s2, 0 < z := fun z hz => hpos z (by rw [hus]; simp [hz])
  have hBd : 0 < Bd := by have := prodL_pos s2 hp2; omega
  have hL : 0 < n1 + n2 := by have := hpos ((n1 + n2 : Nat) : Int) (by rw [hus]; simp); omega
  rw [hcnt] at hi
  have hi' : i < Ad * (n1 * Bd + n2 * Bd) := by omega
  have eW : n1 * Bd + n2 * Bd = (n1 + n2) * Bd := (Nat.add_mul ..).symm
  have hW : 0 < n1 * Bd + n2 * Bd := by rw [eW]; exact Nat.mul_pos hL hBd
  have hdm := Nat.div_add_mod i (n1 * Bd + n2 * Bd)
  have hmlt := Nat.mod_lt i hW
  have hqlt : i / (n1 * Bd + n2 * Bd) < Ad := Nat.div_lt_of_lt_mul (by rw [Nat.mul_comm]; exact hi')
  unfold catC
  generalize hq : i / (n1 * Bd + n2 * Bd) = q at *
  generalize hm : i % (n1 * Bd + n2 * Bd) = m at *
  have hmd := Nat.div_add_mod m Bd
  have hr := Nat.mod_lt m hBd
  have hjlt : m / Bd < n1 + n2 := Nat.div_lt_of_lt_mul (by rw [Nat.mul_comm, ← eW]; exact hmlt)
  generalize hj : m / Bd = j at *
  generalize hre : m % Bd = r at *
  have ei : i = (q * (n1 + n2) + j) * Bd + r := by
    rw [Nat.add_mul, Nat.mul_assoc, ← eW, Nat.mul_comm q, Nat.mul_comm j]; omega
  have hd : (digR u (i : Int)).2 = (digR s1 q).2 ++ (j : Int) :: (digR s2 r).2 := by
    rw [hus, ei]
    exact dig3 hp2 q j r Bd (n1 + n2) g2 hr rfl hjlt
  have hdl := digR_len s1 (q : Int)
  rw [hls1] at hdl
  have hlim : m < n1 * Bd ↔ j < n1 := by
    constructor
    · intro h
      rw [← hj]
      exact Nat.div_lt_of_lt_mul (by rw [Nat.mul_comm]; exact h)
    · intro h
      have : (j + 1) * Bd ≤ n1 * Bd := Nat.mul_le_mul_right _ h
      rw [Nat.add_mul, Nat.one_mul, Nat.mul_comm j] at this
      omega
  refine ⟨j, by rw [hd, List.getElem?_append_right (by omega), hdl, Nat.sub_self]; rfl, hjlt, ?_⟩
  by_cases hjn : j < n1
  · left
    refine ⟨hjn, ?_⟩
    rw [if_pos (hlim.2 hjn)]
    cases al with
    | true =>
      obtain ⟨ha, hc⟩ := K.al1 rfl
      have : A.cells[0]? = some (cellP true A.cells (q * (n1 * Bd) + m)) := by
        unfold cellP
        rw [if_pos rfl, List.getD_eq_getElem?_getD, List.getElem?_eq_getElem (by omega)]; rfl
      exact at_alone A s _ _ ha this
    | false =>
      obtain ⟨ha, hc⟩ := K.al0 rfl
      have ep : prodL s = ((Ad * (n1 * Bd) : Nat) : Int) := by
        rw [hss, prodL_append, prodL_cons, g1, g2, Int.natCast_mul, Int.natCast_mul]
      have hk : q * (n1 * Bd) + m < Ad * (n1 * Bd) := by
        have : (q + 1) * (n1 * Bd) ≤ Ad * (n1 * Bd) := Nat.mul_le_mul_right _ hqlt
        rw [Nat.add_mul, Nat.one_mul] at this
        have := hlim.2 hjn
        omega
      have ek : q * (n1 * Bd) + m = (q * n1 + j) * Bd + r := by
        rw [Nat.add_mul, Nat.mul_assoc, Nat.mul_comm j]; omega
      have hps : ∀ z ∈ s, 0 < z := fun z hz => by
        rw [hss, List.mem_append, List.mem_cons] at hz
        rcases hz with hz | hz | hz
        · exact hp1 z hz
        · omega
        · exact hp2 z hz
      have hf := find_digR hps (N := ((q * (n1 * Bd) + m : Nat) : Int)) (by omega) (by rw [ep]; omega)
      have hds : (digR s ((q * (n1 * Bd) + m : Nat) : Int)).2 = (digR u (i : Int)).2 := by
        rw [hd, hss, ek]
        exact dig3 hp2 q j r Bd n1 g2 hr rfl hjn
      rw [hds] at hf
      have hcell : A.cells[q * (n1 * Bd) + m]? = some (cellP false A.cells (q * (n1 * Bd) + m)) := by
        unfold cellP
        rw [if_neg (by simp), List.getD_eq_getElem?_getD, List.getElem?_eq_getElem (by omega)]; rfl
      exact at_plain A s _ _ _ (fun h => ha (List.eq_nil_of_length_eq_zero h)) hf (cnt_ok (by rw [K.ls]; exact K.l6) K.ss (by have := hA.cells; omega)) hcell
  · right
    refine ⟨by omega, ?_⟩
    rw [if_neg (fun h => hjn (hlim.1 h))]
    have hset : (digR u (i : Int)).2.set x ((j : Int) - n1) = (digR s1 q).2 ++ ((j - n1 : Nat) : Int) :: (digR s2 r).2 := by
      rw [hd, List.set_append, if_neg (by omega), hdl, Nat.sub_self, List.set_cons_zero]
      congr 2
      omega
    have hm1 : n1 * Bd ≤ m := by
      rcases Nat.lt_or_ge m (n1 * Bd) with h | h
      · exact absurd (hlim.1 h) hjn
      · exact h
    cases bl with
    | true =>
      obtain ⟨ha, hc⟩ := K.bl1 rfl
      have : B.cells[0]? = some (cellP true B.cells (q * (n2 * Bd) + (m - n1 * Bd))) := by
        unfold cellP
        rw [if_pos rfl, List.getD_eq_getElem?_getD, List.getElem?_eq_getElem (by omega)]; rfl
      exact at_alone B t _ _ ha this
    | false =>
      obtain ⟨ha, hc⟩ := K.bl0 rfl
      have ep : prodL t = ((Ad * (n2 * Bd) : Nat) : Int) := by
        rw [hts, prodL_append, prodL_cons, g1, g2, Int.natCast_mul, Int.natCast_mul]
      have hk : q * (n2 * Bd) + (m - n1 * Bd) < Ad * (n2 * Bd) := by
        have : (q + 1) * (n2 * Bd) ≤ Ad * (n2 * Bd) := Nat.mul_le_mul_right _ hqlt
        rw [Nat.add_mul, Nat.one_mul] at this
        omega
      have ek : q * (n2 * Bd) + (m - n1 * Bd) = (q * n2 + (j - n1)) * Bd + r := by
        have h2 : (j - n1) * Bd = Bd * j - n1 * Bd := by rw [Nat.sub_mul, Nat.mul_comm j]
        rw [Nat.add_mul, Nat.mul_assoc, h2]
        have : n1 * Bd ≤ Bd * j := by rw [Nat.mul_comm Bd]; exact Nat.mul_le_mul_right _ (by omega)
        omega
      have hps : ∀ z ∈ t, 0 < z := fun z hz => by
        rw [hts, List.mem_append, List.mem_cons] at hz
        rcases hz with hz | hz | hz
        · exact hp1 z hz
        · omega
        · exact hp2 z hz
      have hf := find_digR hps (N := ((q * (n2 * Bd) + (m - n1 * Bd) : Nat) : Int)) (by omega) (by rw [ep]; omega)
      have hds : (digR t ((q * (n2 * Bd) + (m - n1 * Bd) : Nat) : Int)).2 = (digR u (i : Int)).2.set x ((j : Int) - n1) := by
        rw [hset, hts, ek]
        exact dig3 hp2 q (j - n1) r Bd n2 g2 hr rfl (by omega)
      rw [hds] at hf
      have hcell : B.cells[q * (n2 * Bd) + (m - n1 * Bd)]? = some (cellP false B.cells (q * (n2 * Bd) + (m - n1 * Bd))) := by
        unfold cellP
        rw [if_neg (by simp), List.getD_eq_getElem?_getD, List.getElem?_eq_getElem (by omega)]; rfl
      exact at_plain B t _ _ _ (fun h => ha (List.eq_nil_of_length_eq_zero h)) hf (cnt_ok (by rw [K.lt]; exact K.l6) K.st (by have := hB.cells; omega)) hcell

theorem intsP_eq (s t : List Int) : intsP s t = decide (s = t) := by unfold intsP; rw [Bool.eq_iff_iff]; simp

set_option maxHeartbeats 2000000 in
theorem refCat_ok {A B : Arr} (hA : okJ A) (hB : okJ B) {first : Bool} {s t : List Int} {al bl : Bool} {n1 n2 : Nat} {u : List Int} (K : Cat A B first s t al bl (atN A B first) n1 n2 u) (b1 : n1 ≤ 2048) (b2 : n2 ≤ 2048) (hw : wout s (atN A B first) = wout t (atN A B first)) (h0 : (cnt u).2 = 0)
    (X : List Cell) (hX : X = catL (n1 * behindN u (atN A B first)) (n2 * behindN u (atN A B first)) al A.cells bl B.cells (aheadN u (atN A B first) * (n1 * behindN u (atN A B first) + n2 * behindN u (atN A B first)))) :
    ACalls Try.prog 26 [.agg (arrV A), .agg (arrV B), .lit (.bool first)] (.tup [.agg (arrV (.mk (A.s ||| B.s) u X)), .lit (.int .i64 0)]) := by
  have hB0 : maxB = 1000000000 := rfl
  have hl1 := hA.len
  have hl2 := hB.len
  have lA := intsA_len .i64 A.shape
  have lB := intsA_len .i64 B.shape
  have hx : atN A B first < axN A B := by unfold atN axN; split <;> omega
  have w1 := (counted_a A B hl1 hl2 (axN A B) (atN A B first) rfl hx).1 s al K.w1
  have w2 := (counted_a B A hl2 hl1 (axN A B) (atN A B first) (axN_comm A B) hx).1 t bl K.w2
  have hxs := (List.getElem?_eq_some_iff.1 K.sx).1
  have hxt := (List.getElem?_eq_some_iff.1 K.tx).1
  have h6 := K.l6
  have hls := K.ls
  have hlt := K.lt
  have w3 := refWithout_a s (atN A B first) hxs (by omega)
  have w4 := refWithout_a t (atN A B first) hxt (by omega)
  have w5 := ints_a (wout s (atN A B first)) (wout t (atN A B first))
  rw [intsP_eq, hw, decide_eq_true rfl] at w5
  unfold wout at w5
  rw [show s.take (atN A B first) ++ s.drop (atN A B first + 1) = t.take (atN A B first) ++ t.drop (atN A B first + 1) from hw] at w3
  have w6 := refWith_a s (atN A B first) ((n1 : Int) + n2) hxs (by omega)
  rw [← K.hu] at w6
  have w7 := rcount_a u
  rw [rcnt_eq, h0] at w7
  have w8 := places_a u h0
  have w9 := rjoin_a A.s B.s hA.ok.parts.1 hB.ok.parts.1
  have hcell := fun i hi => cat_cell hA hB K hw h0 i hi
  have hsz := (K.sizes hw h0).2.1
  have hll1 := longer_a A.shape.length B.shape.length (max A.shape.length B.shape.length : Nat) (by omega)
  have hll2 := longer_a 1 (max A.shape.length B.shape.length : Nat) (axN A B : Nat) (by unfold axN; omega)
  have hk : (first = false ∧ ((atN A B first : Nat) : Int) = ((axN A B : Nat) : Int) - 1) ∨ (first = true ∧ ((atN A B first : Nat) : Int) = 0) := by
    unfold atN; cases first
    · left; simp; omega
    · right; simp
  have hsx : (intsA .i64 s)[((atN A B first : Nat) : Int).toNat]? = some [.lit (.int .i64 (n1 : Int))] := int_at K.sx
  have htx : (intsA .i64 t)[((atN A B first : Nat) : Int).toNat]? = some [.lit (.int .i64 (n2 : Int))] := int_at K.tx
  have lis := intsA_len .i64 s
  have lit := intsA_len .i64 t
  have hup := cnt_prod h0
  have hule := cnt_le u
  have hul : u.length = axN A B := by rw [K.hu, List.length_set, hls]
  have hPlen : (placesL u).length = (cnt u).1.toNat := by rw [placesL_len, hup]
  have hPat : ∀ i : Nat, (i : Int) < (cnt u).1 → (placesL u)[i]? = some (digR u i).2 := fun i hi => placesL_at u (by omega)
  have hdl : ∀ i : Nat, (digR u (i : Int)).2.length = axN A B := fun i => by rw [digR_len, hul]
  have hXl : X.length = (cnt u).1.toNat := by rw [hX, catL_len, hsz]; rfl
  have hXat : ∀ i : Nat, (i : Int) < (cnt u).1 → X[i]? = some (catC (n1 * behindN u (atN A B first)) (n2 * behindN u (atN A B first)) al A.cells bl B.cells i) := fun i hi => by
    rw [hX]; unfold catL
    rw [List.getElem?_map, List.getElem?_range (by omega)]; rfl
  generalize hN : axN A B = N at *
  generalize hxe : atN A B first = x at *
  clear hX hA hB K hw hsz hup
  generalize (cnt u).1 = T at *
  generalize hPd : placesL u = P at *
  have hPl' : ((P.map placeV).length : Int) = T := by simp; omega
  refine acalls_of code_scrimref12_Catenate (by simp [fn_scrimref12_Catenate]) fun C hC => ?_
  have hsx' := hsx
  have htx' := htx
  rcases hk with ⟨rfl, hk⟩ | ⟨rfl, hk⟩
  all_goals
    rw [hk] at w1 w2 w3 w4 w6 hsx' htx'
    refine walk2 ?_
    refine aw_slotZ 9 (.lit (.int .i64 ((x : Nat) : Int))) (by rw [hk]; rfl) ?_
    refine aw_nilF 3 2 76 7 rfl rfl rfl rfl ?_
    clear hsx' htx' w1 w2 w3 w4 w5 w6 w7 w8 w9
    refine aw_loopB [3, 4, 6, 22, 23, 9, 10, 12] [0, 1, 2] (fun i : Nat => [(24, .lit (.int .i64 i))]) (fun i => [(3, some ⟨false, false, 26, 3, [[labV (A.s ||| B.s), .sl 1 (intsA .i64 u), .own 4]]⟩), (4, some ⟨true, false, 76, 7, (X.take i).map cellR⟩)]) 5
      (fun i => (i : Int) ≤ T) (fun i => T.toNat - i) 0 (by omega) ?_
    rintro i hi
    dsimp only [List.cons_append, List.nil_append]
    by_cases hil : (i : Int) < T
    · obtain ⟨j, hj, hjb, hcc⟩ := hcell i hil
      have hpk : (P.map placeV)[((i : Nat) : Int).toNat]? = some [.sl 1 (intsA .i64 (digR u i).2)] := by rw [Int.toNat_natCast]; simp [hPat i hil, placeV]
      have hat := hXat i hil
      have hdli := hdl i
      have hms : (X.take i).map cellR ++ [cellV (catC (n1 * behindN u x) (n2 * behindN u x) al A.cells bl B.cells i)] = (X.take (i + 1)).map cellR := by
        rw [takeA_snoc hat]; simp [cellR_eq]
      have hlm : ((X.take i).map cellR).length = i := by simp; omega
      generalize catC (n1 * behindN u x) (n2 * behindN u x) al A.cells bl B.cells i = c at hcc hms
      generalize (digR u (i : Int)).2 = d at hj hcc hpk hdli
      have hdk : (intsA .i64 d)[((x : Nat) : Int).toNat]? = some [.lit (.int .i64 (j : Int))] := int_at hj
      have ldi := intsA_len .i64 d
      clear hPat hXat hcell hat
      rcases hcc with ⟨hjn, cc⟩ | ⟨hjn, cc⟩
      · refine walk2 ?_
        exact ⟨i + 1, by omega, by omega, wkR hC.m [(4, 6)] (by rw [← hms]; rfl)⟩
      · have cW := refWith_a d x ((j : Int) - n1) (by omega) (by omega)
        refine walk2 ?_
        exact ⟨i + 1, by omega, by omega, wkR hC.m [(4, 6)] (by rw [← hms]; rfl)⟩
    · rw [show X.take i = X from List.take_of_length_le (by omega)]
      refine walk2 ?_
      exact fin
end Go.Proofs.Ytfnilbkahkbljaa
namespace Go.Proofs.Ytfnilbkahkbljaa
set_option linter.unusedVariables false
open Go.RowKit

theorem catL_mem {n1 n2 : Nat} {a1 : Bool} {c1 : List Cell} {a2 : Bool} {c2 : List Cell} (e1 : a1 = true → 0 < c1.length) (e2 : a2 = true → 0 < c2.length) (A : Nat) (h1 : a1 = false → A * n1 ≤ c1.length) (h2 : a2 = false → A * n2 ≤ c2.length) : ∀ i, i ≤ A → ∀ c ∈ catL n1 n2 a1 c1 a2 c2 (i * (n1 + n2)), c ∈ c1 ∨ c ∈ c2
  | 0, _, c, hc => by rw [Nat.zero_mul] at hc; simp [catL] at hc
  | i + 1, hi, c, hc => by
    have hrow : ∀ (al : Bool) (cs : List Cell) (n : Nat), (al = true → 0 < cs.length) → ∀ c ∈ rowL al cs i n, c ∈ cs := fun al cs n he c hc => by
      unfold rowL at hc
      split at hc
      · rename_i h
        have := he h
        rw [List.mem_replicate] at hc
        rw [hc.2, List.getD_eq_getElem?_getD, List.getElem?_eq_getElem this]
        exact List.getElem_mem _
      · exact List.mem_of_mem_drop (List.mem_of_mem_take hc)
    have b1 : a1 = false → i * n1 + n1 ≤ c1.length := fun h => by
      have := h1 h
      have h3 : (i + 1) * n1 ≤ A * n1 := Nat.mul_le_mul_right _ hi
      rw [Nat.add_mul, Nat.one_mul] at h3; omega
    have b2 : a2 = false → i * n2 + n2 ≤ c2.length := fun h => by
      have := h2 h
      have h3 : (i + 1) * n2 ≤ A * n2 := Nat.mul_le_mul_right _ hi
      rw [Nat.add_mul, Nat.one_mul] at h3; omega
    rw [← catL_step n1 n2 a1 c1 a2 c2 i b1 b2, List.mem_append, List.mem_append] at hc
    rcases hc with (hc | hc) | hc
    · exact catL_mem e1 e2 A h1 h2 i (by omega) c hc
    · exact .inl (hrow a1 c1 n1 e1 c hc)
    · exact .inr (hrow a2 c2 n2 e2 c hc)

/-- what is known of both together -/
theorem cat_facts {A B : Arr} (hA : okJ A) (hB : okJ B) (first : Bool) :
    ((catP A B first).2 ≠ 0 ∧ (catP A B first).1 = .mk 0 [] []) ∨
    ((catP A B first).2 = 0 ∧ (catP A B first).1.s = A.s ||| B.s ∧ (cnt (catP A B first).1.shape).2 = 0 ∧ (cnt (catP A B first).1.shape).1 = (catP A B first).1.cells.length ∧ (catP A B first).1.shape.length ≤ 6 ∧ ∀ c ∈ (catP A B first).1.cells, c ∈ A.cells ∨ c ∈ B.cells) := by
  rcases cat_cases hA hB first with ⟨he, hn⟩ | ⟨s, t, al, bl, n1, n2, u, K, b1, b2, hr⟩
  · left; rw [he]; exact ⟨by simp, rfl⟩
  · rcases hr with ⟨hw, he⟩ | ⟨hw, h0, he⟩ | ⟨hw, h0, he⟩
    · left; rw [he]; exact ⟨by simp, rfl⟩
    · left; rw [he]; exact ⟨h0, rfl⟩
    · right
      rw [he]
      obtain ⟨z1, z2, z3, z4, z5, z6, z7, z8⟩ := K.sizes hw h0
      refine ⟨rfl, rfl, h0, ?_, ?_, ?_⟩
      · simp only [Arr.shape, Arr.cells, catL_len]; exact z2
      · simp only [Arr.shape]; exact cnt_len h0
      · simp only [Arr.cells]
        exact catL_mem (fun h => by have := (K.al1 h).2; omega) (fun h => by have := (K.bl1 h).2; omega) _ z3 z4 _ (Nat.le_refl _)

theorem zeroJ : okJ (.mk 0 [] []) ∨ True := .inr trivial
theorem arrOK_zero : arrOK (.mk 0 [] []) := ⟨by omega, by simp, by simp [reachBytes], by simp [reachBytes], trivial⟩

theorem right_cat {A B : Arr} {d : Nat} (hA : okJ A) (hB : okJ B) (rA : rightA d A = true) (rB : rightA d B = true) (first : Bool) (h : (catP A B first).2 = 0) : rightA d (catP A B first).1 = true := by
  rcases cat_facts hA hB first with ⟨h1, _⟩ | ⟨_, _, h2, h3, _, h4⟩
  · exact absurd h h1
  · rw [rightA_eq, rcnt_eq, h2, h3]
    simp only [beq_self_eq_true, Bool.true_and]
    refine rightCs_mem.2 fun c hc => ?_
    rcases h4 c hc with h | h
    · exact rightCs_mem.1 (right_shape rA).2.2 c h
    · exact rightCs_mem.1 (right_shape rB).2.2 c h

theorem i64_wf {z : Int} (h0 : -9223372036854775808 ≤ z) (h1 : z ≤ 9223372036854775807) : (Lit.int .i64 z).wf = true := by
  have e1 : IntKind.i64.min = -9223372036854775808 := by decide
  have e2 : IntKind.i64.max = 9223372036854775807 := by decide
  simp only [Lit.wf, Bool.and_eq_true, decide_eq_true_eq]
  omega

theorem arrOK_cat {A B : Arr} (hA : okJ A) (hB : okJ B) (oA : arrOK A) (oB : arrOK B) (first : Bool) : arrOK (catP A B first).1 := by
  rcases cat_facts hA hB first with ⟨_, h1⟩ | ⟨_, h1, h2, h3, h4, h5⟩
  · rw [h1]; exact arrOK_zero
  · have hle := (cnt_le (catP A B first).1.shape).2
    generalize catP A B first = R at *
    obtain ⟨⟨s, sh, cs⟩, e⟩ := R
    simp only [Arr.s, Arr.shape, Arr.cells] at *
    have hsm := cnt_small h2
    refine ⟨by rw [h1]; exact or_lt _ _ oA.parts.1 oB.parts.1, ?_⟩
    have hr : reachBytes = 140737488351232 := rfl
    refine ⟨fun z hz => i64_wf (by have := (hsm z hz).1; omega) (by have := (hsm z hz).2; omega), by omega, by omega, ?_⟩
    exact cellsOK_mem.2 fun c hc => by
      rcases h5 c hc with h | h
      · exact cellsOK_mem.1 oA.parts.2.2.2 c h
      · exact cellsOK_mem.1 oB.parts.2.2.2 c h

theorem same10_a (A B : Arr) (e f : Int) (hA : arrOK A) (hB : arrOK B) : ACalls Try.prog 27 [.agg (arrV A), .lit (.int .i64 e), .agg (arrV B), .lit (.int .i64 f)] (.lit (.bool (decide (e = f) && sameA A B))) := by
  have c1 := same_a A B hA hB
  generalize sameA A B = q at c1 ⊢
  refine acalls_of code_scrimref10_Same (by simp [fn_scrimref10_Same]) fun C hC => ?_
  by_cases h : e = f
  · rw [decide_eq_true h, Bool.true_and]
    refine walk2 ?_
    exact fin
  · rw [decide_eq_false h, Bool.false_and]
    refine walk2 ?_
    exact fin

theorem alone_a (z : Int) (s : Nat) (h0 : -9223372036854775808 ≤ z) (h1 : z ≤ 9223372036854775807) : ACalls Try.prog 44 [.lit (.int .i64 z), labV s] (.agg (arrV (.mk s [] [intC z]))) := by
  have c1 := r8Int_a z h0 h1
  refine acalls_of code_scrimref11_Alone (by simp [fn_scrimref11_Alone]) fun C hC => ?_
  refine walk2 ?_
  exact fin

theorem intJ_ok (z : Int) (h : z.natAbs < 2 ^ 64) : okC (intC z) := by
  have := limbs_len_pow 64 z.natAbs h
  simp only [intC, okC, ofZ, okAs, maxB, List.length_nil, List.length_cons]
  exact ⟨by omega, by omega, by omega, by omega, trivial⟩

theorem u32J_ok {m : List Int} (h : limOK m) : ∀ z ∈ m, (Lit.int .u32 z).wf = true := fun z hz => by
  have := h z hz
  have e1 : IntKind.u32.min = 0 := by decide
  have e2 : IntKind.u32.max = 4294967295 := by decide
  simp only [Lit.wf, Bool.and_eq_true, decide_eq_true_eq]
  omega

theorem intJ_OK (z : Int) (h : z.natAbs < 2 ^ 64) : cellOK (intC z) := by
  have := limbs_len_pow 64 z.natAbs h
  have hr : reachBytes = 140737488351232 := by decide
  simp only [intC, cellOK, ofZ, numOK, arrsOK, List.length_nil, List.length_cons]
  exact ⟨by omega, by decide, ⟨u32J_ok (limbs_ok _), by simp; decide, by omega, by omega⟩, by decide, by omega, trivial⟩

theorem okCs_of {cs : List Cell} (h : ∀ c ∈ cs, okC c) : okCs cs := okCs_mem.2 h

theorem intsJ_ok (l : List Int) (sh : List Int) (s : Nat) (hl : l.length ≤ 1000) (hs : sh.length ≤ 6) (h64 : s < 18446744073709551616) (hz : ∀ z ∈ l, z.natAbs < 2 ^ 64) : okA (.mk s sh (l.map intC)) := by
  simp only [okA]
  refine ⟨h64, by simp only [maxB]; omega, by simp only [maxB, List.length_map]; omega, okCs_of fun c hc => ?_⟩
  obtain ⟨z, hz', rfl⟩ := List.mem_map.1 hc
  exact intJ_ok z (hz z hz')

theorem refCat_a (A B : Arr) (first : Bool) (hA : okJ A) (hB : okJ B) : ACalls Try.prog 26 [.agg (arrV A), .agg (arrV B), .lit (.bool first)] (.tup [.agg (arrV (catP A B first).1), .lit (.int .i64 (catP A B first).2)]) := by
  have hB0 : maxB = 1000000000 := rfl
  have hl1 := hA.len
  have hl2 := hB.len
  have lA := intsA_len .i64 A.shape
  have lB := intsA_len .i64 B.shape
  have hx : atN A B first < axN A B := by unfold atN axN; split <;> omega
  have hll1 := longer_a A.shape.length B.shape.length (max A.shape.length B.shape.length : Nat) (by omega)
  have hll2 := longer_a 1 (max A.shape.length B.shape.length : Nat) (axN A B : Nat) (by unfold axN; omega)
  have hk : (first = false ∧ ((atN A B first : Nat) : Int) = ((axN A B : Nat) : Int) - 1) ∨ (first = true ∧ ((atN A B first : Nat) : Int) = 0) := by
    unfold atN; cases first
    · left; simp; omega
    · right; simp
  have h6 : axN A B ≤ 6 := by unfold axN; omega
  rcases cat_cases hA hB first with ⟨he, hn⟩ | ⟨s, t, al, bl, n1, n2, u, K, b1, b2, hr⟩
  · rw [he]
    have w1 := counted_a A B hl1 hl2 (axN A B) (atN A B first) rfl hx
    have w2 := counted_a B A hl2 hl1 (axN A B) (atN A B first) (axN_comm A B) hx
    cases h1 : widP A.shape B.shape (axN A B) (atN A B first) with
    | none =>
      have w1 := w1.2 h1
      clear w2 hn h1 he
      generalize axN A B = N at *
      generalize atN A B first = x at *
      refine acalls_of code_scrimref12_Catenate (by simp [fn_scrimref12_Catenate]) fun C hC => ?_
      rcases hk with ⟨rfl, hk⟩ | ⟨rfl, hk⟩
      all_goals
        rw [hk] at w1
        refine walk2 ?_
        exact fin
    | some p =>
      obtain ⟨s, al⟩ := p
      have h2 : widP B.shape A.shape (axN A B) (atN A B first) = none := by
        rcases hn with h | h
        · rw [h] at h1; cases h1
        · exact h
      have w1 := w1.1 s al h1
      have w2 := w2.2 h2
      clear hn h1 he h2
      generalize axN A B = N at *
      generalize atN A B first = x at *
      refine acalls_of code_scrimref12_Catenate (by simp [fn_scrimref12_Catenate]) fun C hC => ?_
      rcases hk with ⟨rfl, hk⟩ | ⟨rfl, hk⟩
      all_goals
        rw [hk] at w1 w2
        refine walk2 ?_
        exact fin
  · rcases hr with ⟨hw, he⟩ | ⟨hw, h0, he⟩ | ⟨hw, h0, he⟩
    · rw [he]
      have w1 := (counted_a A B hl1 hl2 (axN A B) (atN A B first) rfl hx).1 s al K.w1
      have w2 := (counted_a B A hl2 hl1 (axN A B) (atN A B first) (axN_comm A B) hx).1 t bl K.w2
      have hxs := (List.getElem?_eq_some_iff.1 K.sx).1
      have hxt := (List.getElem?_eq_some_iff.1 K.tx).1
      have hls := K.ls
      have hlt := K.lt
      have w3 := refWithout_a s (atN A B first) hxs (by omega)
      have w4 := refWithout_a t (atN A B first) hxt (by omega)
      have w5 := ints_a (wout s (atN A B first)) (wout t (atN A B first))
      rw [intsP_eq, decide_eq_false hw] at w5
      unfold wout at w5
      clear he hw K
      generalize axN A B = N at *
      generalize atN A B first = x at *
      generalize s.take x ++ s.drop (x + 1) = ws at w3 w5
      generalize t.take x ++ t.drop (x + 1) = wt at w4 w5
      refine acalls_of code_scrimref12_Catenate (by simp [fn_scrimref12_Catenate]) fun C hC => ?_
      rcases hk with ⟨rfl, hk⟩ | ⟨rfl, hk⟩
      all_goals
        rw [hk] at w1 w2 w3 w4
        refine walk2 ?_
        exact fin
    · rw [he]
      have w1 := (counted_a A B hl1 hl2 (axN A B) (atN A B first) rfl hx).1 s al K.w1
      have w2 := (counted_a B A hl2 hl1 (axN A B) (atN A B first) (axN_comm A B) hx).1 t bl K.w2
      have hxs := (List.getElem?_eq_some_iff.1 K.sx).1
      have hxt := (List.getElem?_eq_some_iff.1 K.tx).1
      have hls := K.ls
      have hlt := K.lt
      have w3 := refWithout_a s (atN A B first) hxs (by omega)
      have w4 := refWithout_a t (atN A B first) hxt (by omega)
      have w5 := ints_a (wout s (atN A B first)) (wout t (atN A B first))
      rw [intsP_eq, hw, decide_eq_true rfl] at w5
      unfold wout at w5
      rw [show s.take (atN A B first) ++ s.drop (atN A B first + 1) = t.take (atN A B first) ++ t.drop (atN A B first + 1) from hw] at w3
      have w6 := refWith_a s (atN A B first) ((n1 : Int) + n2) hxs (by omega)
      rw [← K.hu] at w6
      have w7 := rcount_a u
      rw [rcnt_eq] at w7
      have hsx : (intsA .i64 s)[((atN A B first : Nat) : Int).toNat]? = some [.lit (.int .i64 (n1 : Int))] := int_at K.sx
      have htx : (intsA .i64 t)[((atN A B first : Nat) : Int).toNat]? = some [.lit (.int .i64 (n2 : Int))] := int_at K.tx
      have lis := intsA_len .i64 s
      have lit := intsA_len .i64 t
      clear he hw K
      generalize axN A B = N at *
      generalize atN A B first = x at *
      generalize t.take x ++ t.drop (x + 1) = wt at w3 w4 w5
      generalize (cnt u).1 = T at *
      generalize (cnt u).2 = e at *
      refine acalls_of code_scrimref12_Catenate (by simp [fn_scrimref12_Catenate]) fun C hC => ?_
      rcases hk with ⟨rfl, hk⟩ | ⟨rfl, hk⟩
      all_goals
        rw [hk] at w1 w2 w3 w4 w6 hsx htx
        refine walk2 ?_
        exact fin
    · rw [he]
      exact refCat_ok hA hB K b1 b2 hw h0 _ rfl
end Go.Proofs.Ytfnilbkahkbljaa
namespace Go.Proofs.Ytfnilbkahkbljaa
set_option linter.unusedVariables false
open Go.RowKit

theorem okJ_of {A : Arr} {d : Nat} (hA : okA A) (r : rightA d A = true) : okJ A := ⟨hA, (right_shape r).1, (right_shape r).2.1⟩
theorem okJ_good {A : Arr} (hA : arrOK A) (h : goodA A = true) : okJ A := okJ_of (few_ok hA (good_few h)) (good_right h)

theorem awake12_a : ACalls Try.prog 24 [] (.lit (.bool true)) := by
  have c1 := r11Vector_a [1, 2] 0 (by simp [maxB]) (by intro z hz; simp at hz; omega)
  have c2 := alone_a 3 0 (by omega) (by omega)
  have k1 : okJ (.mk 0 [2] ([1, 2].map intC)) := ⟨intsJ_ok [1, 2] [2] 0 (by simp) (by simp) (by omega) (by intro z hz; simp at hz; omega), by decide, by rfl⟩
  have k2 : okJ (.mk 0 [] [intC 3]) := ⟨intsJ_ok [3] [] 0 (by simp) (by simp) (by omega) (by intro z hz; simp at hz; omega), by decide, by rfl⟩
  have c3 := cat_a _ _ false k1 k2
  have e : catP (.mk 0 [2] ([1, 2].map intC)) (.mk 0 [] [intC 3]) false = (.mk 0 [3] ([1, 2, 3].map intC), 0) := rfl
  rw [e] at c3
  have e2 : ((([1, 2] : List Int).length : Nat) : Int) = 2 := rfl
  rw [e2] at c1
  simp only at c3
  clear e k1 k2
  generalize hX : List.map intC [1, 2] = X at c1 c3
  generalize hY : List.map intC [1, 2, 3] = Y at c3
  clear hX
  refine acalls_of code_scrimlaw12_awake (by simp [fn_scrimlaw12_awake]) fun C hC => ?_
  refine walk2 ?_
  clear c1 c2 c3
  have c4 := r11Vector_a [1, 2, 3] 0 (by simp [maxB]) (by intro z hz; simp at hz; omega)
  have o3 : arrOK (.mk 0 [3] ([1, 2, 3].map intC)) := by
    refine ⟨by omega, fun z hz => by simp at hz; subst hz; decide, by simp [reachBytes], by simp [reachBytes], cellsOK_mem.2 fun c hc => ?_⟩
    obtain ⟨z, hz, rfl⟩ := List.mem_map.1 hc
    exact intJ_OK z (by simp at hz; omega)
  have c5 := same_a _ _ o3 o3
  rw [sameA_refl] at c5
  have e3 : ((([1, 2, 3] : List Int).length : Nat) : Int) = 3 := rfl
  rw [e3] at c4
  rw [hY] at c4 c5
  clear o3 hY
  refine walk2 ?_
  exact fin

theorem joinCatenates_core (A B : Arr) (first : Bool) (hA : arrOK A) (hB : arrOK B) (gA : goodA A = true) (gB : goodA B = true) (R : Arr) (e : Int) (hR : catP A B first = (R, e)) :
    ACalls Try.prog 4 [.agg (arrV A), .agg (arrV B), .lit (.bool first)] (.lit (.bool true)) := by
  have kA := okJ_good hA gA
  have kB := okJ_good hB gB
  have c0 := awake12_a
  have c1 := good_at A hA gA
  have c2 := good_at B hB gB
  have c3 := cat_a A B first kA kB
  have c4 := refCat_a A B first kA kB
  have oR := arrOK_cat kA kB hA hB first
  have rR := right_cat kA kB (good_right gA) (good_right gB) first
  rw [hR] at c3 c4 oR rR
  simp only at c3 c4 oR rR
  have c5 := same10_a R R e e oR oR
  rw [sameA_refl, decide_eq_true rfl, Bool.true_and] at c5
  by_cases he : e = 0
  · have c6 := right_at 8 R 8 rfl (by omega) oR (rR he)
    subst he
    clear hA hB gA gB kA kB oR rR hR
    refine acalls_of code_scrimlaw12_JoinCatenates (by simp [fn_scrimlaw12_JoinCatenates]) fun C hC => ?_
    refine walk2 ?_
    exact fin
  · clear hA hB gA gB kA kB oR rR hR
    refine acalls_of code_scrimlaw12_JoinCatenates (by simp [fn_scrimlaw12_JoinCatenates]) fun C hC => ?_
    refine walk2 ?_
    exact fin

theorem joinCatenates_a (A B : Arr) (first : Bool) (hA : arrOK A) (hB : arrOK B) :
    ACalls Try.prog 4 [.agg (arrV A), .agg (arrV B), .lit (.bool first)] (.lit (.bool true)) := by
  have c0 := awake12_a
  cases gA : goodA A
  · have c1 := good_at A hA gA
    refine acalls_of code_scrimlaw12_JoinCatenates (by simp [fn_scrimlaw12_JoinCatenates]) fun C hC => ?_
    refine walk2 ?_
    exact fin
  · cases gB : goodA B
    · have c1 := good_at A hA gA
      have c2 := good_at B hB gB
      refine acalls_of code_scrimlaw12_JoinCatenates (by simp [fn_scrimlaw12_JoinCatenates]) fun C hC => ?_
      refine walk2 ?_
      exact fin
    · exact joinCatenates_core A B first hA hB gA gB _ _ rfl
end Go.Proofs.Ytfnilbkahkbljaa
namespace Go.Proofs.Ytfnilbkahkbljaa
set_option linter.unusedVariables false
open Go.RowKit

theorem cat_first {A B : Arr} (hA : okJ A) (hB : okJ B) {n1 n2 : Nat} {ta tb : List Int} (eA : A.shape = (n1 : Int) :: ta) (eB : B.shape = (n2 : Int) :: tb) (hl : ta.length = tb.length) :
    catP A B true = if ta = tb then (if (cnt (((n1 + n2 : Nat) : Int) :: ta)).2 = 0 then (.mk (A.s ||| B.s) (((n1 + n2 : Nat) : Int) :: ta) (A.cells ++ B.cells), 0) else (.mk 0 [] [], (cnt (((n1 + n2 : Nat) : Int) :: ta)).2)) else (.mk 0 [] [], 4) := by
  have hax : A.shape.length = axN A B := by unfold axN; rw [eA, eB]; simp; omega
  have hbx : B.shape.length = axN A B := by unfold axN; rw [eA, eB]; simp; omega
  have w1 : widP A.shape B.shape (axN A B) (atN A B true) = some (A.shape, false) := by unfold widP; rw [if_pos hax]
  have w2 : widP B.shape A.shape (axN A B) (atN A B true) = some (B.shape, false) := by unfold widP; rw [if_pos hbx]
  have hx : atN A B true = 0 := rfl
  rcases cat_cases hA hB true with ⟨he, hn⟩ | ⟨s, t, al, bl, m1, m2, u, K, b1, b2, hr⟩
  · rw [w1, w2] at hn; rcases hn with h | h <;> cases h
  · have k1 := K.w1
    rw [w1] at k1
    simp only [Option.some.injEq, Prod.mk.injEq] at k1
    obtain ⟨rfl, rfl⟩ := k1
    have k2 := K.w2
    rw [w2] at k2
    simp only [Option.some.injEq, Prod.mk.injEq] at k2
    obtain ⟨rfl, rfl⟩ := k2
    rw [hx] at hr K
    have e1 : m1 = n1 := by have := K.sx; rw [eA] at this; simp at this; omega
    have e2 : m2 = n2 := by have := K.tx; rw [eB] at this; simp at this; omega
    subst e1; subst e2
    have hu : u = ((m1 + m2 : Nat) : Int) :: ta := by rw [K.hu, eA]; simp
    have hwa : wout A.shape 0 = ta := by rw [eA]; rfl
    have hwb : wout B.shape 0 = tb := by rw [eB]; rfl
    rw [hwa, hwb] at hr
    rcases hr with ⟨hw, he⟩ | ⟨hw, h0, he⟩ | ⟨hw, h0, he⟩
    · rw [if_neg hw]; exact he
    · rw [if_pos hw, if_neg (by rw [← hu]; exact h0), ← hu]; exact he
    · rw [if_pos hw, if_pos (by rw [← hu]; exact h0), ← hu, he]
      have ha1 : aheadN u 0 = 1 := rfl
      have pA := hA.prod
      have pB := hB.prod
      rw [eA, prodL_cons] at pA
      rw [eB, prodL_cons, ← hw] at pB
      have hd : u.drop (0 + 1) = ta := by rw [hu]; rfl
      have hz : u[0]? = some ((m1 + m2 : Nat) : Int) := by rw [hu]; rfl
      have hle : A.cells.length ≤ m1 * behindN u 0 ∧ B.cells.length ≤ m2 * behindN u 0 := by
        rcases geo h0 hz with ⟨_, _, g2, _⟩ | ⟨h1, _, _⟩
        · rw [hd] at g2
          rw [g2, ← Int.natCast_mul] at pA pB
          omega
        · rw [hu, List.mem_cons] at h1
          rcases h1 with h1 | h1
          · have z1 : m1 = 0 := by omega
            have z2 : m2 = 0 := by omega
            rw [z1, show ((0 : Nat) : Int) = 0 from rfl, Int.zero_mul] at pA
            rw [z2, show ((0 : Nat) : Int) = 0 from rfl, Int.zero_mul] at pB
            omega
          · rw [prodL_zero h1, Int.mul_zero] at pA pB
            omega
      have hge : m1 * behindN u 0 ≤ A.cells.length ∧ m2 * behindN u 0 ≤ B.cells.length := by
        obtain ⟨_, _, z3, z4, _⟩ := K.sizes (by rw [hwa, hwb]; exact hw) h0
        have z3 := z3 rfl
        have z4 := z4 rfl
        rw [ha1, Nat.one_mul] at z3 z4
        exact ⟨z3, z4⟩
      have st := catL_step (m1 * behindN u 0) (m2 * behindN u 0) false A.cells false B.cells 0 (fun _ => by omega) (fun _ => by omega)
      rw [Nat.zero_mul, Nat.zero_add] at st
      rw [ha1, ← st]
      have r1 : rowL false A.cells 0 (m1 * behindN u 0) = A.cells := by unfold rowL; rw [if_neg (by simp), Nat.zero_mul, List.drop_zero, List.take_of_length_le hle.1]
      have r2 : rowL false B.cells 0 (m2 * behindN u 0) = B.cells := by unfold rowL; rw [if_neg (by simp), Nat.zero_mul, List.drop_zero, List.take_of_length_le hle.2]
      rw [r1, r2]
      rfl

theorem okA_cat {A B : Arr} (hA : okJ A) (hB : okJ B) (first : Bool) (h : (catP A B first).2 = 0) : okJ (catP A B first).1 := by
  rcases cat_facts hA hB first with ⟨h1, _⟩ | ⟨_, h1, h2, h3, h4, h5⟩
  · exact absurd h h1
  · refine ⟨?_, h2, h3⟩
    have hle := (cnt_le (catP A B first).1.shape).2
    generalize catP A B first = R at *
    obtain ⟨⟨s, sh, cs⟩, e⟩ := R
    simp only [Arr.s, Arr.shape, Arr.cells] at *
    simp only [okA]
    have hB : maxB = 1000000000 := rfl
    refine ⟨by rw [h1]; exact or_lt _ _ hA.ok.parts.1 (by assumption : okJ B).ok.parts.1, by omega, by omega, okCs_of fun c hc => ?_⟩
    rcases h5 c hc with h | h
    · exact okCs_mem.1 hA.ok.parts.2.2.2 c h
    · exact okCs_mem.1 (by assumption : okJ B).ok.parts.2.2.2 c h

theorem shape_cons {A : Arr} (hA : okJ A) (h : A.shape.length ≠ 0) : ∃ (n : Nat) (t : List Int), A.shape = (n : Int) :: t := by
  cases e : A.shape with
  | nil => rw [e] at h; simp at h
  | cons z t =>
    have := hA.small z (by rw [e]; simp)
    exact ⟨z.toNat, t, by congr 1; omega⟩

/-- which two are put together first doesn't matter -/
theorem brackets {A B C : Arr} (hA : okJ A) (hB : okJ B) (hC : okJ C) (h : A.shape.length ≠ 0) (h1 : A.shape.length = B.shape.length) (h2 : A.shape.length = C.shape.length) (e1 : (catP A B true).2 = 0) (e2 : (catP B C true).2 = 0) :
    catP (catP A B true).1 C true = catP A (catP B C true).1 true := by
  obtain ⟨n1, ta, eA⟩ := shape_cons hA h
  obtain ⟨n2, tb, eB⟩ := shape_cons hB (by omega)
  obtain ⟨n3, tc, eC⟩ := shape_cons hC (by omega)
  have la : ta.length = tb.length := by rw [eA, eB] at h1; simpa using h1
  have lb : ta.length = tc.length := by rw [eA, eC] at h2; simpa using h2
  have c1 := cat_first hA hB eA eB la
  have c2 := cat_first hB hC eB eC (by omega)
  have k1 := okA_cat hA hB true e1
  have k2 := okA_cat hB hC true e2
  split at c1
  case isFalse => rw [c1] at e1; simp at e1
  rename_i hab
  split at c2
  case isFalse => rw [c2] at e2; simp at e2
  rename_i hbc
  split at c1
  case isFalse hne => rw [c1] at e1; exact absurd e1 hne
  split at c2
  case isFalse hne => rw [c2] at e2; exact absurd e2 hne
  subst hab; subst hbc
  rw [c1] at k1 ⊢
  rw [c2] at k2 ⊢
  rw [cat_first k1 hC rfl eC rfl, cat_first hA k2 eA rfl rfl]
  simp only [Arr.s, Arr.cells, Nat.add_assoc, Nat.or_assoc, List.append_assoc]

set_option maxHeartbeats 1000000 in
theorem joinBrackets_core (A B C : Arr) (hA : arrOK A) (hB : arrOK B) (hC : arrOK C) (gA : goodA A = true) (gB : goodA B = true) (gC : goodA C = true) (h : A.shape.length ≠ 0) (h1 : A.shape.length = B.shape.length) (h2 : A.shape.length = C.shape.length)
    (R1 R2 R3 : Arr) (e f g : Int) (hR1 : catP A B true = (R1, e)) (hR2 : catP B C true = (R2, f)) (hR3 : catP R1 C true = (R3, g)) :
    ACalls Try.prog 5 [.agg (arrV A), .agg (arrV B), .agg (arrV C)] (.lit (.bool true)) := by
  have kA := okJ_good hA gA
  have kB := okJ_good hB gB
  have kC := okJ_good hC gC
  have lA := intsA_len .i64 A.shape
  have lB := intsA_len .i64 B.shape
  have lC := intsA_len .i64 C.shape
  have h1' : (A.shape.length : Int) = B.shape.length := by omega
  have h2' : (A.shape.length : Int) = C.shape.length := by omega
  have h0' : ¬ (A.shape.length : Int) = 0 := by omega
  have c0 := awake12_a
  have g1 := good_at A hA gA
  have g2 := good_at B hB gB
  have g3 := good_at C hC gC
  have c1 := cat_a A B true kA kB
  have c2 := cat_a B C true kB kC
  rw [hR1] at c1
  rw [hR2] at c2
  simp only at c1 c2
  have l6 := kA.len
  by_cases he : e = 0
  · by_cases hf : f = 0
    · have k1 := okA_cat kA kB true (by rw [hR1]; exact he)
      have k2 := okA_cat kB kC true (by rw [hR2]; exact hf)
      have o1 := arrOK_cat kA kB hA hB true
      have hb := brackets kA kB kC h h1 h2 (by rw [hR1]; exact he) (by rw [hR2]; exact hf)
      rw [hR1] at k1 o1 hb
      rw [hR2] at k2 hb
      simp only at k1 k2 o1 hb
      have c3 := cat_a R1 C true k1 kC
      have c4 := cat_a A R2 true kA k2
      rw [← hb] at c4
      have o3 := arrOK_cat k1 kC o1 hC true
      rw [hR3] at c3 c4 o3
      simp only at c3 c4 o3
      have c5 := same_a R3 R3 o3 o3
      rw [sameA_refl] at c5
      subst he; subst hf
      clear hA hB hC gA gB gC kA kB kC k1 k2 o1 o3 hb hR1 hR2 hR3
      refine acalls_of code_scrimlaw12_JoinBrackets (by simp [fn_scrimlaw12_JoinBrackets]) fun C hC => ?_
      refine walk2 ?_
      exact fin
    · clear hA hB hC gA gB gC kA kB kC hR1 hR2 hR3
      subst he
      refine acalls_of code_scrimlaw12_JoinBrackets (by simp [fn_scrimlaw12_JoinBrackets]) fun C hC => ?_
      refine walk2 ?_
      exact fin
  · clear hA hB hC gA gB gC kA kB kC hR1 hR2 hR3
    refine acalls_of code_scrimlaw12_JoinBrackets (by simp [fn_scrimlaw12_JoinBrackets]) fun C hC => ?_
    refine walk2 ?_
    exact fin

theorem joinBrackets_a (A B C : Arr) (hA : arrOK A) (hB : arrOK B) (hC : arrOK C) :
    ACalls Try.prog 5 [.agg (arrV A), .agg (arrV B), .agg (arrV C)] (.lit (.bool true)) := by
  have hr : reachBytes = 140737488351232 := rfl
  have lA := intsA_len .i64 A.shape
  have lB := intsA_len .i64 B.shape
  have lC := intsA_len .i64 C.shape
  have c0 := awake12_a
  cases gA : goodA A
  · have g1 := good_at A hA gA
    refine acalls_of code_scrimlaw12_JoinBrackets (by simp [fn_scrimlaw12_JoinBrackets]) fun C hC => ?_
    refine walk2 ?_
    exact fin
  · cases gB : goodA B
    · have g1 := good_at A hA gA
      have g2 := good_at B hB gB
      refine acalls_of code_scrimlaw12_JoinBrackets (by simp [fn_scrimlaw12_JoinBrackets]) fun C hC => ?_
      refine walk2 ?_
      exact fin
    · cases gC : goodA C
      · have g1 := good_at A hA gA
        have g2 := good_at B hB gB
        have g3 := good_at C hC gC
        refine acalls_of code_scrimlaw12_JoinBrackets (by simp [fn_scrimlaw12_JoinBrackets]) fun C hC => ?_
        refine walk2 ?_
        exact fin
      · have g1 := good_at A hA gA
        have g2 := good_at B hB gB
        have g3 := good_at C hC gC
        by_cases h0 : A.shape.length = 0
        · have h0' : (A.shape.length : Int) = 0 := by omega
          refine acalls_of code_scrimlaw12_JoinBrackets (by simp [fn_scrimlaw12_JoinBrackets]) fun C hC => ?_
          refine walk2 ?_
          exact fin
        · have h0' : ¬ (A.shape.length : Int) = 0 := by omega
          by_cases h1 : A.shape.length = B.shape.length
          · have h1' : (A.shape.length : Int) = B.shape.length := by omega
            by_cases h2 : A.shape.length = C.shape.length
            · exact joinBrackets_core A B C hA hB hC gA gB gC h0 h1 h2 _ _ _ _ _ _ rfl rfl rfl
            · have h2' : ¬ (A.shape.length : Int) = C.shape.length := by omega
              refine acalls_of code_scrimlaw12_JoinBrackets (by simp [fn_scrimlaw12_JoinBrackets]) fun C hC => ?_
              refine walk2 ?_
              exact fin
          · have h1' : ¬ (A.shape.length : Int) = B.shape.length := by omega
            refine acalls_of code_scrimlaw12_JoinBrackets (by simp [fn_scrimlaw12_JoinBrackets]) fun C hC => ?_
            refine walk2 ?_
            exact fin
end Go.Proofs.Ytfnilbkahkbljaa
