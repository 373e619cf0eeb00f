/- Arrays put together: the program's Catenate. -/
import Derived.Test.YtfnilbkahkbljaaJoinP
import Derived.Test.YtfnilbkahkbljaaArrG
namespace Go.Proofs.Ytfnilbkahkbljaa
set_option linter.unusedVariables false
open Go.RowKit

def wholeP (s t : List Int) (x : Nat) (z : Int) : List Int × Int := if wout s x = wout t x then (if (cnt (s.set x z)).2 = 0 then (s.set x z, 0) else ([], (cnt (s.set x z)).2)) else ([], 4)

set_option maxHeartbeats 1000000 in
theorem pwhole_a (s t : List Int) (cs ds : List Cell) (al bl : Bool) (x n1 n2 : Nat) (hs : s[x]? = some (n1 : Int)) (ht : t[x]? = some (n2 : Int)) (hl : s.length = t.length) (h6 : s.length ≤ 6) (b1 : n1 ≤ 2048) (b2 : n2 ≤ 2048) :
    ACalls Try.prog 68 [.agg (pairV s cs al t ds bl x)] (.tup [.sl 1 (intsA .i64 (wholeP s t x ((n1 : Int) + n2)).1), .lit (.int .i64 (wholeP s t x ((n1 : Int) + n2)).2)]) := by
  have hB : maxB = 1000000000 := rfl
  have ls := intsA_len .i64 s
  have lt := intsA_len .i64 t
  have lsx := (List.getElem?_eq_some_iff.1 hs).1
  have hsx : (intsA .i64 s)[((x : Nat) : Int).toNat]? = some [.lit (.int .i64 (n1 : Int))] := int_at hs
  have htx : (intsA .i64 t)[((x : Nat) : Int).toNat]? = some [.lit (.int .i64 (n2 : Int))] := int_at ht
  have c1 := shWith_a s x ((n1 : Int) + n2) lsx (by omega)
  have c2 := count_a (s.set x ((n1 : Int) + n2))
  have hw := wout_eq hl lsx
  unfold wholeP
  generalize s.set x ((n1 : Int) + n2) = u at c1 c2 ⊢
  refine acalls_of code_join_pair_whole (by simp [fn_join_pair_whole]) fun C hC => ?_
  unfold pairV
  refine walk2 ?_
  refine aw_loopB [1, 12, 13, 2, 3] [0] (fun k : Nat => [(14, .lit (.int .i64 k))]) (fun k => []) 1 (fun k => k ≤ s.length ∧ ∀ j, j < k → j ≠ x → s[j]? = t[j]?) (fun k => s.length - k) 0 ⟨Nat.zero_le _, fun j hj => absurd hj (Nat.not_lt_zero _)⟩ ?_
  rintro k ⟨hk, hE⟩
  dsimp only [List.cons_append, List.nil_append]
  by_cases hkl : k < s.length
  · obtain ⟨a, ha⟩ : ∃ a, s[k]? = some a := ⟨_, List.getElem?_eq_getElem hkl⟩
    obtain ⟨b, hb⟩ : ∃ b, t[k]? = some b := ⟨_, List.getElem?_eq_getElem (by omega)⟩
    have hak : (intsA .i64 s)[((k : Nat) : Int).toNat]? = some [.lit (.int .i64 a)] := int_at ha
    have hbk : (intsA .i64 t)[((k : Nat) : Int).toNat]? = some [.lit (.int .i64 b)] := int_at hb
    by_cases hkx : k = x
    · have hkx' : (k : Int) = x := by omega
      clear c1 c2
      refine walk2 ?_
      refine ⟨k + 1, by omega, ⟨by omega, fun j hj hjx => hE j (by omega) hjx⟩, wkR hC.m [] ?_⟩
      rfl
    · have hkx' : ¬ (k : Int) = x := by omega
      by_cases hab : a = b
      · clear c1 c2
        refine walk2 ?_
        refine ⟨k + 1, by omega, ⟨by omega, fun j hj hjx => ?_⟩, wkR hC.m [] ?_⟩
        · by_cases hjk : j = k
          · subst hjk; rw [ha, hb, hab]
          · exact hE j (by omega) hjx
        · rfl
      · have hne : ¬ wout s x = wout t x := fun h => by
          have := hw.1 h k hkx
          rw [ha, hb] at this
          exact hab (Option.some.inj this)
        rw [if_neg hne]
        clear c1 c2
        refine walk2 ?_
        exact fin
  · have he : wout s x = wout t x := hw.2 fun j hj => by
      by_cases hjl : j < s.length
      · exact hE j (by omega) hj
      · rw [List.getElem?_eq_none (by omega), List.getElem?_eq_none (by omega)]
    rw [if_pos he]
    by_cases h0 : (cnt u).2 = 0
    · rw [if_pos h0]
      rw [h0] at c2
      refine walk2 ?_
      exact fin
    · rw [if_neg h0]
      generalize (cnt u).2 = e at c2 h0 ⊢
      generalize (cnt u).1 = v at c2
      refine walk2 ?_
      exact fin
end Go.Proofs.Ytfnilbkahkbljaa
namespace Go.Proofs.Ytfnilbkahkbljaa
set_option linter.unusedVariables false
open Go.RowKit

/-- an array that is as large as its shape says -/
structure okJ (A : Arr) : Prop where
  ok : okA A
  e : (cnt A.shape).2 = 0
  c : (cnt A.shape).1 = A.cells.length

theorem okJ.small {A : Arr} (h : okJ A) : Small A.shape := cnt_small h.e
theorem okJ.len {A : Arr} (h : okJ A) : A.shape.length ≤ 6 := cnt_len h.e
theorem okJ.prod {A : Arr} (h : okJ A) : prodL A.shape = A.cells.length := by rw [← cnt_prod h.e]; exact h.c
theorem okJ.cells {A : Arr} (h : okJ A) : A.cells.length ≤ 2048 := by have := (cnt_le A.shape).2; rw [h.c] at this; omega

theorem prodC_le : ∀ (l : List Int) (o : Int), 0 < o → (∀ z ∈ l, 0 < z) → o * prodL l ≤ 2048 → prodC l o = o * prodL l
  | [], o, _, _, _ => by simp [prodC, prodL]
  | z :: l, o, ho, hp, h => by
    have hz := hp z (by simp)
    have hl := prodL_pos l (fun y hy => hp y (by simp [hy]))
    simp only [prodL] at h ⊢
    rw [← Int.mul_assoc] at h ⊢
    have h1 : o * z ≤ o * z * prodL l := by
      have := Int.mul_le_mul_of_nonneg_left (show (1 : Int) ≤ prodL l by omega) (Int.le_of_lt (Int.mul_pos ho hz))
      rwa [Int.mul_one] at this
    simp only [prodC]
    rw [if_neg (by omega)]
    exact prodC_le l (o * z) (Int.mul_pos ho hz) (fun y hy => hp y (by simp [hy])) h

theorem split_at {s : List Int} {x : Nat} {z : Int} (h : s[x]? = some z) : s = s.take x ++ z :: s.drop (x + 1) := by
  have := (List.getElem?_eq_some_iff.1 h)
  obtain ⟨hx, e⟩ := this
  rw [← e, ← List.drop_eq_getElem_cons hx, List.take_append_drop]

theorem set_split {s : List Int} {x : Nat} (hx : x < s.length) (z : Int) : s.set x z = s.take x ++ z :: s.drop (x + 1) := (set_cut s x hx z).symm

/-- how many blocks ahead, how many cells behind an axis -/
def aheadN (u : List Int) (x : Nat) : Nat := (prodC (u.take x) 1).toNat
def behindN (u : List Int) (x : Nat) : Nat := (prodC (u.drop (x + 1)) 1).toNat

theorem Small.mem {s t : List Int} (h : Small s) (ht : ∀ z ∈ t, z ∈ s) : Small t := fun z hz => h z (ht z hz)

theorem ahead_eq {u : List Int} (x : Nat) (hu : Small u) : prodC (u.take x) 1 = (aheadN u x : Nat) ∧ aheadN u x ≤ 2048 ∧ prodC (u.drop (x + 1)) 1 = (behindN u x : Nat) ∧ behindN u x ≤ 2048 := by
  have h1 := prodC_range (u.take x) 1 (by omega) (by omega) (hu.mem fun z hz => List.mem_of_mem_take hz)
  have h2 := prodC_range (u.drop (x + 1)) 1 (by omega) (by omega) (hu.mem fun z hz => List.mem_of_mem_drop hz)
  unfold aheadN behindN
  omega

/-- the cells of a shape: blocks ahead, along the axis, behind -/
theorem geo {u : List Int} {x n : Nat} (h : (cnt u).2 = 0) (hz : u[x]? = some (n : Int)) :
    ((∀ z ∈ u, 0 < z) ∧ prodL (u.take x) = (aheadN u x : Nat) ∧ prodL (u.drop (x + 1)) = (behindN u x : Nat) ∧ (cnt u).1 = ((aheadN u x * (n * behindN u x) : Nat) : Int)) ∨
    ((0 : Int) ∈ u ∧ (cnt u).1 = 0 ∧ (aheadN u x = 0 ∨ n = 0 ∨ behindN u x = 0)) := by
  have hs := cnt_small h
  have hsp := split_at hz
  have hp := cnt_prod h
  have hle := cnt_le u
  by_cases h0 : (0 : Int) ∈ u
  · refine .inr ⟨h0, by rw [hp, prodL_zero h0], ?_⟩
    rw [hsp, List.mem_append, List.mem_cons] at h0
    rcases h0 with h0 | h0 | h0
    · left; unfold aheadN; rw [prodC_zero _ _ (hs.mem fun z hz => List.mem_of_mem_take hz) h0]; rfl
    · right; left; omega
    · right; right; unfold behindN; rw [prodC_zero _ _ (hs.mem fun z hz => List.mem_of_mem_drop hz) h0]; rfl
  · have hpos : ∀ z ∈ u, 0 < z := fun z hz => by
      have := (hs z hz).1
      rcases Int.lt_or_eq_of_le this with h1 | h1
      · exact h1
      · subst h1; exact absurd hz h0
    have p1 := prodL_pos (u.take x) (fun z hz => hpos z (List.mem_of_mem_take hz))
    have p2 := prodL_pos (u.drop (x + 1)) (fun z hz => hpos z (List.mem_of_mem_drop hz))
    have pn : 0 < (n : Int) := hpos _ (List.mem_of_getElem? hz)
    have e : prodL u = prodL (u.take x) * (n * prodL (u.drop (x + 1))) := by
      conv => lhs; rw [hsp]
      rw [prodL_append, prodL_cons]
    have l1 : prodL (u.take x) ≤ 2048 := by
      have h1 : 1 ≤ (n : Int) * prodL (u.drop (x + 1)) := Int.mul_pos pn p2
      have := Int.mul_le_mul_of_nonneg_left h1 (Int.le_of_lt p1)
      rw [Int.mul_one] at this; omega
    have l2 : prodL (u.drop (x + 1)) ≤ 2048 := by
      have h1 : 1 * prodL (u.drop (x + 1)) ≤ (n : Int) * prodL (u.drop (x + 1)) := Int.mul_le_mul_of_nonneg_right (by omega) (Int.le_of_lt p2)
      have h2 := Int.mul_pos pn p2
      have h3 : 1 * ((n : Int) * prodL (u.drop (x + 1))) ≤ prodL (u.take x) * (n * prodL (u.drop (x + 1))) := Int.mul_le_mul_of_nonneg_right (by omega) (Int.le_of_lt h2)
      omega
    have c1 := prodC_le (u.take x) 1 (by omega) (fun z hz => hpos z (List.mem_of_mem_take hz)) (by omega)
    have c2 := prodC_le (u.drop (x + 1)) 1 (by omega) (fun z hz => hpos z (List.mem_of_mem_drop hz)) (by omega)
    have a := ahead_eq x hs
    refine .inl ⟨hpos, by omega, by omega, ?_⟩
    rw [hp, e, Int.natCast_mul, Int.natCast_mul]
    rw [show prodL (u.take x) = (aheadN u x : Nat) from by omega, show prodL (u.drop (x + 1)) = (behindN u x : Nat) from by omega]

theorem wid_facts {A B : Arr} (hA : okJ A) (hB : okJ B) {n x : Nat} (hn : n = axN A B) (hx : x < n) {s : List Int} {al : Bool} (h : widP A.shape B.shape n x = some (s, al)) :
    s.length = n ∧ Small s ∧ (al = true → A.shape = [] ∧ A.cells.length = 1) ∧ (al = false → A.shape ≠ [] ∧ prodL s = A.cells.length) := by
  have hn1 : 1 ≤ n := by rw [hn]; unfold axN; omega
  have hone : Small [1] := fun z hz => by simp at hz; omega
  unfold widP at h
  split at h
  · rename_i h1
    simp only [Option.some.injEq, Prod.mk.injEq] at h
    obtain ⟨rfl, rfl⟩ := h
    refine ⟨h1, hA.small, fun h => (by cases h), fun _ => ⟨fun h => ?_, hA.prod⟩⟩
    rw [h] at h1; simp at h1; omega
  · split at h
    · rename_i h1 h2
      have hc1 : A.cells.length = 1 := by
        have := hA.prod
        rw [h2] at this
        simp only [prodL] at this; omega
      split at h
      · rename_i h3
        simp only [Option.some.injEq, Prod.mk.injEq] at h
        obtain ⟨rfl, rfl⟩ := h
        refine ⟨?_, hone, fun _ => ⟨h2, hc1⟩, fun h => by cases h⟩
        rw [hn]; unfold axN; rw [h2, h3]; rfl
      · simp only [Option.some.injEq, Prod.mk.injEq] at h
        obtain ⟨rfl, rfl⟩ := h
        refine ⟨?_, fun z hz => ?_, fun _ => ⟨h2, hc1⟩, fun h => by cases h⟩
        · rename_i h3
          have : B.shape.length ≠ 0 := fun e => h3 (List.eq_nil_of_length_eq_zero e)
          rw [List.length_set, hn]; unfold axN; rw [h2]; simp; omega
        · rcases List.mem_or_eq_of_mem_set hz with h | h
          · exact hB.small z h
          · subst h; omega
    · split at h
      · rename_i h1 h2 h3
        simp only [Option.some.injEq, Prod.mk.injEq] at h
        obtain ⟨rfl, rfl⟩ := h
        refine ⟨by simp; omega, fun z hz => ?_, fun h => (by cases h), fun _ => ⟨h2, ?_⟩⟩
        · rw [List.mem_append, List.mem_cons] at hz
          rcases hz with hz | hz | hz
          · exact hA.small z (List.mem_of_mem_take hz)
          · subst hz; omega
          · exact hA.small z (List.mem_of_mem_drop hz)
        · rw [prodL_append, prodL_cons, Int.one_mul, ← prodL_append, List.take_append_drop, hA.prod]
      · cases h

/-- two arrays together; an error -/
def catP (A B : Arr) (first : Bool) : Arr × Int :=
  match widP A.shape B.shape (axN A B) (atN A B first), widP B.shape A.shape (axN A B) (atN A B first) with
  | some (s, al), some (t, bl) =>
    if (wholeP s t (atN A B first) (s.getD (atN A B first) 0 + t.getD (atN A B first) 0)).2 ≠ 0 then (.mk 0 [] [], (wholeP s t (atN A B first) (s.getD (atN A B first) 0 + t.getD (atN A B first) 0)).2)
    else (.mk (A.s ||| B.s) (s.set (atN A B first) (s.getD (atN A B first) 0 + t.getD (atN A B first) 0))
      (catL ((s.getD (atN A B first) 0).toNat * behindN s (atN A B first)) ((t.getD (atN A B first) 0).toNat * behindN s (atN A B first)) al A.cells bl B.cells
        (aheadN s (atN A B first) * ((s.getD (atN A B first) 0).toNat * behindN s (atN A B first) + (t.getD (atN A B first) 0).toNat * behindN s (atN A B first)))), 0)
  | _, _ => (.mk 0 [] [], 5)

/-- what is known where nothing fails -/
structure Cat (A B : Arr) (first : Bool) (s t : List Int) (al bl : Bool) (x n1 n2 : Nat) (u : List Int) : Prop where
  hx : x = atN A B first
  w1 : widP A.shape B.shape (axN A B) x = some (s, al)
  w2 : widP B.shape A.shape (axN A B) x = some (t, bl)
  sx : s[x]? = some (n1 : Int)
  tx : t[x]? = some (n2 : Int)
  ls : s.length = axN A B
  lt : t.length = axN A B
  l6 : axN A B ≤ 6
  ss : Small s
  st : Small t
  hu : u = s.set x ((n1 : Int) + n2)
  al1 : al = true → A.shape = [] ∧ A.cells.length = 1
  al0 : al = false → A.shape ≠ [] ∧ prodL s = A.cells.length
  bl1 : bl = true → B.shape = [] ∧ B.cells.length = 1
  bl0 : bl = false → B.shape ≠ [] ∧ prodL t = B.cells.length

theorem cat_cases {A B : Arr} (hA : okJ A) (hB : okJ B) (first : Bool) :
    (catP A B first = (.mk 0 [] [], 5) ∧ (widP A.shape B.shape (axN A B) (atN A B first) = none ∨ widP B.shape A.shape (axN A B) (atN A B first) = none)) ∨
    ∃ s t al bl n1 n2 u, Cat A B first s t al bl (atN A B first) n1 n2 u ∧ n1 ≤ 2048 ∧ n2 ≤ 2048 ∧ (
      (wout s (atN A B first) ≠ wout t (atN A B first) ∧ catP A B first = (.mk 0 [] [], 4)) ∨
      (wout s (atN A B first) = wout t (atN A B first) ∧ (cnt u).2 ≠ 0 ∧ catP A B first = (.mk 0 [] [], (cnt u).2)) ∨
      (wout s (atN A B first) = wout t (atN A B first) ∧ (cnt u).2 = 0 ∧ catP A B first = (.mk (A.s ||| B.s) u (catL (n1 * behindN u (atN A B first)) (n2 * behindN u (atN A B first)) al A.cells bl B.cells (aheadN u (atN A B first) * (n1 * behindN u (atN A B first) + n2 * behindN u (atN A B first)))), 0))) := by
  have hl1 := hA.len
  have hl2 := hB.len
  have hx : atN A B first < axN A B := by unfold atN axN; split <;> omega
  have h6 : axN A B ≤ 6 := by unfold axN; omega
  unfold catP
  cases h1 : widP A.shape B.shape (axN A B) (atN A B first) with
  | none => exact .inl ⟨rfl, .inl rfl⟩
  | some p =>
    cases h2 : widP B.shape A.shape (axN A B) (atN A B first) with
    | none => obtain ⟨s, al⟩ := p; exact .inl ⟨rfl, .inr rfl⟩
    | some q =>
      obtain ⟨s, al⟩ := p
      obtain ⟨t, bl⟩ := q
      right
      obtain ⟨f1, f2, f3, f4⟩ := wid_facts hA hB rfl hx h1
      obtain ⟨g1, g2, g3, g4⟩ := wid_facts hB hA (axN_comm A B) hx h2
      generalize hxe : atN A B first = x at *
      obtain ⟨a, ha⟩ : ∃ a, s[x]? = some a := ⟨_, List.getElem?_eq_getElem (by omega)⟩
      obtain ⟨b, hb⟩ : ∃ b, t[x]? = some b := ⟨_, List.getElem?_eq_getElem (by omega)⟩
      have a1 := f2 a (List.mem_of_getElem? ha)
      have b1 := g2 b (List.mem_of_getElem? hb)
      have da : s.getD x 0 = ((a.toNat : Nat) : Int) := by rw [List.getD_eq_getElem?_getD, ha]; simp; omega
      have db : t.getD x 0 = ((b.toNat : Nat) : Int) := by rw [List.getD_eq_getElem?_getD, hb]; simp; omega
      simp only [da, db, Int.toNat_natCast]
      have ha' : s[x]? = some ((a.toNat : Nat) : Int) := by rw [ha]; congr 1; omega
      have hb' : t[x]? = some ((b.toNat : Nat) : Int) := by rw [hb]; congr 1; omega
      generalize hn1 : a.toNat = n1 at *
      generalize hn2 : b.toNat = n2 at *
      have hb1 : behindN (s.set x ((n1 : Int) + n2)) x = behindN s x := by unfold behindN; rw [List.drop_set_of_lt (Nat.lt_succ_self x)]
      have ha1 : aheadN (s.set x ((n1 : Int) + n2)) x = aheadN s x := by unfold aheadN; rw [List.take_set_of_le (Nat.le_refl x)]
      refine ⟨s, t, al, bl, n1, n2, s.set x ((n1 : Int) + n2), ⟨hxe.symm, h1, h2, ha', hb', f1, g1, h6, f2, g2, rfl, f3, f4, g3, g4⟩, by omega, by omega, ?_⟩
      rw [hb1, ha1]
      unfold wholeP
      by_cases hw : wout s x = wout t x
      · right
        by_cases h0 : (cnt (s.set x ((n1 : Int) + n2))).2 = 0
        · right
          exact ⟨hw, h0, by simp [hw, h0]⟩
        · left
          exact ⟨hw, h0, by simp [hw, h0]⟩
      · left
        exact ⟨hw, by simp [hw]⟩
end Go.Proofs.Ytfnilbkahkbljaa
namespace Go.Proofs.Ytfnilbkahkbljaa
set_option linter.unusedVariables false
open Go.RowKit

theorem Cat.sizes {A B : Arr} {first : Bool} {s t : List Int} {al bl : Bool} {x n1 n2 : Nat} {u : List Int} (K : Cat A B first s t al bl x n1 n2 u) (hw : wout s x = wout t x) (hu : (cnt u).2 = 0) :
    u[x]? = some ((n1 + n2 : Nat) : Int) ∧ (cnt u).1 = ((aheadN u x * (n1 * behindN u x + n2 * behindN u x) : Nat) : Int) ∧ (al = false → aheadN u x * (n1 * behindN u x) ≤ A.cells.length) ∧ (bl = false → aheadN u x * (n2 * behindN u x) ≤ B.cells.length) ∧
    u.take x = s.take x ∧ u.drop (x + 1) = s.drop (x + 1) ∧ t.take x = s.take x ∧ t.drop (x + 1) = s.drop (x + 1) := by
  have hxs := (List.getElem?_eq_some_iff.1 K.sx).1
  have hxt := (List.getElem?_eq_some_iff.1 K.tx).1
  have hux : u[x]? = some ((n1 + n2 : Nat) : Int) := by rw [K.hu, List.getElem?_set_self hxs]; simp
  have hut : u.take x = s.take x := by rw [K.hu, List.take_set_of_le (Nat.le_refl x)]
  have hud : u.drop (x + 1) = s.drop (x + 1) := by rw [K.hu, List.drop_set_of_lt (Nat.lt_succ_self x)]
  have hwl : t.take x = s.take x ∧ t.drop (x + 1) = s.drop (x + 1) := by
    unfold wout at hw
    have := List.append_inj hw (by simp; omega)
    exact ⟨this.1.symm, this.2.symm⟩
  have hs := split_at K.sx
  have ht := split_at K.tx
  have es : prodL s = prodL (u.take x) * (n1 * prodL (u.drop (x + 1))) := by
    conv => lhs; rw [hs]
    rw [prodL_append, prodL_cons, hut, hud]
  have et : prodL t = prodL (u.take x) * (n2 * prodL (u.drop (x + 1))) := by
    conv => lhs; rw [ht]
    rw [prodL_append, prodL_cons, hut, hud, hwl.1, hwl.2]
  refine ⟨hux, ?_, fun h => ?_, fun h => ?_, hut, hud, hwl.1, hwl.2⟩
  · rcases geo hu hux with ⟨_, _, _, h⟩ | ⟨_, h, hz⟩
    · rw [h, Nat.add_mul]
    · rw [h]
      rcases hz with hz | hz | hz
      · rw [hz, Nat.zero_mul]; rfl
      · have h1 : n1 = 0 := by omega
        have h2 : n2 = 0 := by omega
        rw [h1, h2]; simp
      · rw [hz]; simp
  · have hp := (K.al0 h).2
    rcases geo hu hux with ⟨_, g1, g2, _⟩ | ⟨_, _, hz⟩
    · rw [es, g1, g2, ← Int.natCast_mul, ← Int.natCast_mul] at hp
      omega
    · rcases hz with hz | hz | hz
      · rw [hz, Nat.zero_mul]; exact Nat.zero_le _
      · have h1 : n1 = 0 := by omega
        rw [h1]; simp
      · rw [hz]; simp
  · have hp := (K.bl0 h).2
    rcases geo hu hux with ⟨_, g1, g2, _⟩ | ⟨_, _, hz⟩
    · rw [et, g1, g2, ← Int.natCast_mul, ← Int.natCast_mul] at hp
      omega
    · rcases hz with hz | hz | hz
      · rw [hz, Nat.zero_mul]; exact Nat.zero_le _
      · have h1 : n2 = 0 := by omega
        rw [h1]; simp
      · rw [hz]; simp

set_option maxHeartbeats 1000000 in
theorem cat_a (A B : Arr) (first : Bool) (hA : okJ A) (hB : okJ B) : ACalls Try.prog 25 [.agg (arrV A), .agg (arrV B), .lit (.bool first)] (.tup [.agg (arrV (catP A B first).1), .lit (.int .i64 (catP A B first).2)]) := by
  have c1 := fit_a A B first hA.len hB.len
  rcases cat_cases hA hB first with ⟨he, hn⟩ | ⟨s, t, al, bl, n1, n2, u, K, b1, b2, hr⟩
  · have c1' : ACalls Try.prog 67 [.agg (arrV A), .agg (arrV B), .lit (.bool first)] (.tup [zPair, .lit (.int .i64 5)]) := by
      rcases hn with h | h
      · rw [h] at c1; exact c1
      · rw [h] at c1
        split at c1
        · rename_i h1 h2; cases h2
        · exact c1
    rw [he]
    unfold zPair at c1'
    clear c1
    refine acalls_defer code_join_Catenate (by simp [fn_join_Catenate]) idle_join_Catenate fun C hC => ?_
    refine walk2 ?_
    intro ds
    refine walk2 ?_
    exact fin
  · rw [K.w1, K.w2] at c1
    simp only at c1
    generalize hxe : atN A B first = x at *
    have c2 := pwhole_a s t A.cells B.cells al bl x n1 n2 K.sx K.tx (by rw [K.ls, K.lt]) (by rw [K.ls]; exact K.l6) b1 b2
    unfold wholeP at c2
    rw [← K.hu] at c2
    rcases hr with ⟨hw, he⟩ | ⟨hw, h0, he⟩ | ⟨hw, h0, he⟩
    · rw [he]
      rw [if_neg hw] at c2
      unfold pairV at c1 c2
      refine acalls_defer code_join_Catenate (by simp [fn_join_Catenate]) idle_join_Catenate fun C hC => ?_
      refine walk2 ?_
      intro ds
      refine walk2 ?_
      exact fin
    · rw [he]
      rw [if_pos hw, if_neg h0] at c2
      unfold pairV at c1 c2
      generalize (cnt u).2 = e at c2 h0 ⊢
      refine acalls_defer code_join_Catenate (by simp [fn_join_Catenate]) idle_join_Catenate fun C hC => ?_
      refine walk2 ?_
      intro ds
      refine walk2 ?_
      exact fin
    · rw [he]
      rw [if_pos hw, if_pos h0] at c2
      obtain ⟨z1, z2, z3, z4, z5, z6, z7, z8⟩ := K.sizes hw h0
      obtain ⟨a1, a2, a3, a4⟩ := ahead_eq x (cnt_small h0)
      have k1 := hA.cells
      have k2 := hB.cells
      have c3 := merge_a s t u A.cells B.cells al bl x n1 n2 (aheadN u x) (behindN u x) K.sx K.tx h0 z1 a1 a3 a2 a4 b1 b2 (fun h => by have := (K.al1 h).2; omega) (fun h => by have := (K.bl1 h).2; omega) z3 z4 (by omega) (by omega)
      have c4 := join_a A.s B.s hA.ok.parts.1 hB.ok.parts.1
      unfold pairV at c1 c2 c3
      generalize catL (n1 * behindN u x) (n2 * behindN u x) al A.cells bl B.cells (aheadN u x * (n1 * behindN u x + n2 * behindN u x)) = R at c3 ⊢
      refine acalls_defer code_join_Catenate (by simp [fn_join_Catenate]) idle_join_Catenate fun C hC => ?_
      refine walk2 ?_
      intro ds
      refine walk2 ?_
      exact fin
end Go.Proofs.Ytfnilbkahkbljaa
