/- Axes that go elsewhere: the plain law. -/
import Derived.Test.YtfnilbkahkbljaaKT
import Derived.Test.YtfnilbkahkbljaaKR
namespace Go.Proofs.Ytfnilbkahkbljaa
set_option linter.unusedVariables false
open Go.RowKit

def posL : List Int → Int → Nat
  | [], _ => 0
  | x :: xs, a => if x = a then 0 else posL xs a + 1

theorem posL_get : ∀ {l : List Int} {a : Int}, posL l a < l.length → l[posL l a]? = some a
  | [], a, h => by simp [posL] at h
  | x :: xs, a, h => by
    simp only [posL] at h ⊢
    split
    · rename_i e; subst e; rfl
    · rename_i e
      rw [if_neg e] at h
      simp only [List.length_cons] at h
      rw [List.getElem?_cons_succ]
      exact posL_get (by omega)
theorem posL_le : ∀ {l : List Int} {a : Int} {i : Nat}, l[i]? = some a → posL l a ≤ i
  | [], a, i, h => by simp at h
  | x :: xs, a, 0, h => by simp at h; subst h; simp [posL]
  | x :: xs, a, i + 1, h => by
    simp only [posL]
    split
    · omega
    · have := posL_le (l := xs) (i := i) (by simpa using h); omega

/-- what has been laid where numbers say, of so many; the others are v -/
def scG {α : Type} (l : List Int) (n : Nat) (f : Nat → α) (v : α) (i : Nat) : List α := (List.range n).map fun j : Nat => if posL l ((j : Int) + 1) < i then f (posL l ((j : Int) + 1)) else v
theorem scG_len {α : Type} (l : List Int) (n : Nat) (f : Nat → α) (v : α) (i : Nat) : (scG l n f v i).length = n := by simp [scG]
theorem scG_get {α : Type} (l : List Int) (n : Nat) (f : Nat → α) (v : α) (i : Nat) {j : Nat} (h : j < n) : (scG l n f v i)[j]? = some (if posL l ((j : Int) + 1) < i then f (posL l ((j : Int) + 1)) else v) := by
  unfold scG; rw [List.getElem?_map, List.getElem?_range h]; rfl
theorem scG_zero {α : Type} (l : List Int) (n : Nat) (f : Nat → α) (v : α) : scG l n f v 0 = List.replicate n v := by
  apply List.ext_getElem?
  intro j
  by_cases h : j < n
  · rw [scG_get l n f v 0 h, if_neg (by omega), List.getElem?_replicate, if_pos h]
  · rw [List.getElem?_eq_none (by rw [scG_len]; omega), List.getElem?_eq_none (by simp; omega)]

/-- the numbers up to here are places, each said once -/
def okP (l : List Int) (n i : Nat) : Prop := ∀ m k, m < i → l[m]? = some k → 1 ≤ k ∧ k ≤ n ∧ posL l k = m

theorem scG_step {α : Type} {l : List Int} {n i : Nat} {k : Int} (f : Nat → α) (v : α) (hk : l[i]? = some k) (h1 : 1 ≤ k) (h2 : k ≤ n) (hp : posL l k = i) : (scG l n f v i).set (k - 1).toNat (f i) = scG l n f v (i + 1) := by
  have hil := (List.getElem?_eq_some_iff.1 hk).1
  have hlt : (k - 1).toNat < (scG l n f v i).length := by rw [scG_len]; omega
  apply List.ext_getElem?
  intro j
  by_cases h : j < n
  · rw [scG_get l n f v (i + 1) h]
    by_cases hj : j = (k - 1).toNat
    · subst hj
      rw [List.getElem?_set_self hlt, show (((k - 1).toNat : Nat) : Int) + 1 = k from by omega, hp, if_pos (by omega)]
    · rw [List.getElem?_set_ne (by omega), scG_get l n f v i h]
      have hne : posL l ((j : Int) + 1) ≠ i := fun e => by
        have := posL_get (l := l) (a := (j : Int) + 1) (by rw [e]; exact hil)
        rw [e, hk] at this
        simp only [Option.some.injEq] at this
        omega
      by_cases h3 : posL l ((j : Int) + 1) < i
      · rw [if_pos h3, if_pos (by omega)]
      · rw [if_neg h3, if_neg (by omega)]
  · rw [List.getElem?_eq_none (by rw [List.length_set, scG_len]; omega), List.getElem?_eq_none (by rw [scG_len]; omega)]

theorem scG_at {α : Type} {l : List Int} {n i : Nat} {k : Int} (f : Nat → α) (v : α) (h1 : 1 ≤ k) (h2 : k ≤ n) : (scG l n f v i)[(k - 1).toNat]? = some (if posL l k < i then f (posL l k) else v) := by
  rw [scG_get l n f v i (by omega), show (((k - 1).toNat : Nat) : Int) + 1 = k from by omega]

theorem cnt_set : ∀ (bs : List Bool) (m : Nat), bs[m]? = some false → (bs.set m true).countP (· == false) + 1 = bs.countP (· == false)
  | [], m, h => by simp at h
  | b :: bs, 0, h => by simp at h; subst h; simp
  | b :: bs, m + 1, h => by
    have := cnt_set bs m (by simpa using h)
    simp only [List.set_cons_succ, List.countP_cons]
    omega

theorem seen_count {l : List Int} {n : Nat} : ∀ i, i ≤ l.length → okP l n i → (scG l n (fun _ => true) false i).countP (· == false) + i = n
  | 0, _, _ => by
    rw [scG_zero]
    have : ∀ n : Nat, (List.replicate n false).countP (· == false) = n := fun n => by
      induction n with
      | zero => rfl
      | succ n ih => rw [List.replicate_succ, List.countP_cons, ih]; simp
    rw [this]; rfl
  | i + 1, hi, h => by
    obtain ⟨k, hk⟩ : ∃ k, l[i]? = some k := ⟨_, List.getElem?_eq_getElem (by omega)⟩
    obtain ⟨h1, h2, h3⟩ := h i k (by omega) hk
    have ih := seen_count i (by omega) (fun m y hm hy => h m y (by omega) hy)
    have hst := scG_step (fun _ => true) false hk h1 h2 h3
    have hat := scG_at (l := l) (i := i) (fun _ => true) false h1 h2
    rw [h3, if_neg (by omega)] at hat
    have := cnt_set _ _ hat
    rw [hst] at this
    omega

/-- every place is said -/
theorem okP_all {l : List Int} {n : Nat} (hl : l.length = n) (h : okP l n n) : ∀ j, j < n → posL l ((j : Int) + 1) < n := fun j hj => by
  have hc := seen_count n (by omega) h
  have h0 : (scG l n (fun _ => true) false n).countP (· == false) = 0 := by omega
  rw [List.countP_eq_zero] at h0
  have := h0 _ (List.mem_of_getElem? (scG_get l n (fun _ => true) false n hj))
  rcases Nat.lt_or_ge (posL l ((j : Int) + 1)) n with h1 | h1
  · exact h1
  · rw [if_neg (by omega)] at this
    simp at this

/-- gathered, and laid -/
def gat (l d : List Int) : List Int := l.map fun k => d.getD (k - 1).toNat 0
def sca (l d : List Int) : List Int := scG l l.length (fun m => d.getD m 0) 0 l.length
theorem gat_len (l d : List Int) : (gat l d).length = l.length := by simp [gat]
theorem sca_len (l d : List Int) : (sca l d).length = l.length := scG_len _ _ _ _ _
theorem gat_get {l d : List Int} {i : Nat} {k : Int} (h : l[i]? = some k) : (gat l d)[i]? = some (d.getD (k - 1).toNat 0) := by unfold gat; rw [List.getElem?_map, h]; rfl
theorem sca_get {l d : List Int} (h : okP l l.length l.length) {j : Nat} (hj : j < l.length) : (sca l d)[j]? = some (d.getD (posL l ((j : Int) + 1)) 0) := by
  unfold sca
  rw [scG_get _ _ _ _ _ hj, if_pos (okP_all rfl h j hj)]
theorem sca_any {l d : List Int} (h : okP l l.length l.length) (v : Int) : scG l l.length (fun m => d.getD m 0) v l.length = sca l d := by
  apply List.ext_getElem?
  intro j
  by_cases hj : j < l.length
  · rw [sca_get h hj, scG_get _ _ _ _ _ hj, if_pos (okP_all rfl h j hj)]
  · rw [List.getElem?_eq_none (by rw [scG_len]; omega), List.getElem?_eq_none (by rw [sca_len]; omega)]

theorem gat_sca {l d : List Int} (h : okP l l.length l.length) (hd : d.length = l.length) : gat l (sca l d) = d := by
  apply List.ext_getElem?
  intro i
  by_cases hi : i < l.length
  · obtain ⟨k, hk⟩ : ∃ k, l[i]? = some k := ⟨_, List.getElem?_eq_getElem hi⟩
    obtain ⟨h1, h2, h3⟩ := h i k hi hk
    rw [gat_get hk, List.getD_eq_getElem?_getD, sca_get h (by omega), Option.getD_some, show (((k - 1).toNat : Nat) : Int) + 1 = k from by omega, h3, List.getD_eq_getElem?_getD, List.getElem?_eq_getElem (by omega)]
    rfl
  · rw [List.getElem?_eq_none (by rw [gat_len]; omega), List.getElem?_eq_none (by omega)]

theorem sca_gat {l d : List Int} (h : okP l l.length l.length) (hd : d.length = l.length) : sca l (gat l d) = d := by
  apply List.ext_getElem?
  intro j
  by_cases hj : j < l.length
  · have hp := okP_all rfl h j hj
    have hg := posL_get hp
    rw [sca_get h hj, List.getD_eq_getElem?_getD, gat_get hg, Option.getD_some, List.getD_eq_getElem?_getD, show ((j : Int) + 1 - 1).toNat = j from by omega, List.getElem?_eq_getElem (by omega)]
    rfl
  · rw [List.getElem?_eq_none (by rw [sca_len]; omega), List.getElem?_eq_none (by omega)]

theorem prodL_set : ∀ (s : List Int) (m : Nat) (v : Int), s[m]? = some 1 → prodL (s.set m v) = prodL s * v
  | [], m, v, h => by simp at h
  | z :: s, 0, v, h => by
    simp at h; subst h
    simp only [List.set_cons_zero, prodL_cons]
    rw [Int.one_mul, Int.mul_comm]
  | z :: s, m + 1, v, h => by
    simp only [List.set_cons_succ, prodL_cons]
    rw [prodL_set s m v (by simpa using h), Int.mul_assoc]

theorem prodL_ones (n : Nat) : prodL (List.replicate n 1) = 1 := by
  induction n with
  | zero => rfl
  | succ n ih => rw [List.replicate_succ, prodL_cons, ih]; rfl

theorem sca_prod {l d : List Int} (h : okP l l.length l.length) (hd : d.length = l.length) : prodL (sca l d) = prodL d := by
  have key : ∀ i, i ≤ l.length → prodL (scG l l.length (fun m => d.getD m 0) 1 i) = prodL (d.take i) := by
    intro i
    induction i with
    | zero => intro _; rw [scG_zero, prodL_ones]; rfl
    | succ i ih =>
      intro hi
      obtain ⟨k, hk⟩ : ∃ k, l[i]? = some k := ⟨_, List.getElem?_eq_getElem (by omega)⟩
      obtain ⟨h1, h2, h3⟩ := h i k (by omega) hk
      obtain ⟨y, hy⟩ : ∃ y, d[i]? = some y := ⟨_, List.getElem?_eq_getElem (by omega)⟩
      have hat := scG_at (l := l) (i := i) (fun m => d.getD m 0) 1 h1 h2
      rw [h3, if_neg (by omega)] at hat
      rw [← scG_step (fun m => d.getD m 0) 1 hk h1 h2 h3, prodL_set _ _ _ hat, ih (by omega), takeA_snoc hy, prodL_append]
      simp [prodL, List.getD_eq_getElem?_getD, hy]
  have := key l.length (Nat.le_refl _)
  rw [sca_any h, List.take_of_length_le (by omega)] at this
  exact this

/-- digits within a shape are some place's -/
theorem dig_ok : ∀ (s d : List Int), d.length = s.length → (∀ (m : Nat) (z y : Int), s[m]? = some z → d[m]? = some y → 0 ≤ y ∧ y < z) → ∃ N : Nat, (N : Int) < prodL s ∧ d = (digR s (N : Int)).2
  | [], [], _, _ => ⟨0, by simp [prodL], rfl⟩
  | [], _ :: _, h, _ => by simp at h
  | _ :: _, [], h, _ => by simp at h
  | z :: s, y :: d, hl, h => by
    obtain ⟨N, h1, h2⟩ := dig_ok s d (by simpa using hl) (fun m z y hz hy => h (m + 1) z y (by simpa using hz) (by simpa using hy))
    obtain ⟨hy0, hy1⟩ := h 0 z y rfl rfl
    have hpos : 0 < prodL s := by omega
    have hp : ∀ x ∈ s, 0 < x := fun x hx => by
      obtain ⟨m, hm⟩ := List.mem_iff_getElem?.1 hx
      have hml := (List.getElem?_eq_some_iff.1 hm).1
      obtain ⟨w, hw⟩ : ∃ w, d[m]? = some w := ⟨_, List.getElem?_eq_getElem (by simp at hl; omega)⟩
      have := h (m + 1) x w (by simpa using hm) (by simpa using hw)
      omega
    have hN : ((y.toNat * (prodL s).toNat + N : Nat) : Int) = y * prodL s + N := by
      rw [Int.natCast_add, Int.natCast_mul, Int.toNat_of_nonneg hy0, Int.toNat_of_nonneg (by omega)]
    refine ⟨y.toNat * (prodL s).toNat + N, ?_, ?_⟩
    · rw [hN, prodL_cons]
      have := Int.mul_le_mul_of_nonneg_right (show y + 1 ≤ z by omega) (Int.le_of_lt hpos)
      rw [Int.add_mul, Int.one_mul] at this
      omega
    · rw [hN]
      have e1 : (digR s (y * prodL s + N)).1 = y := by
        rw [digR_fst s _ hp, Int.add_comm, Int.add_mul_ediv_right _ _ (by omega), Int.ediv_eq_zero_of_lt (by omega) h1, Int.zero_add]
      have e2 : (digR s (y * prodL s + N)).2 = (digR s (N : Int)).2 := digR_mod s _ _ hp (by rw [Int.add_comm, Int.add_mul_emod_self_right])
      show y :: d = (digR s (y * prodL s + N)).1 % z :: (digR s (y * prodL s + N)).2
      rw [e1, e2, ← h2, Int.emod_eq_of_lt hy0 hy1]

theorem dig_lt : ∀ (s : List Int) (n : Int), (∀ z ∈ s, 0 < z) → ∀ (m : Nat) (z y : Int), s[m]? = some z → (digR s n).2[m]? = some y → 0 ≤ y ∧ y < z
  | [], n, _, m, z, y, h, _ => by simp at h
  | x :: s, n, hp, m, z, y, hz, hy => by
    have hx := hp x (by simp)
    have hd : (digR (x :: s) n).2 = (digR s n).1 % x :: (digR s n).2 := rfl
    rw [hd] at hy
    cases m with
    | zero =>
      simp at hz hy
      subst hz; subst hy
      exact ⟨Int.emod_nonneg _ (by omega), Int.emod_lt_of_pos _ hx⟩
    | succ m => exact dig_lt s n (fun w hw => hp w (by simp [hw])) m z y (by simpa using hz) (by simpa using hy)
end Go.Proofs.Ytfnilbkahkbljaa
namespace Go.Proofs.Ytfnilbkahkbljaa
set_option linter.unusedVariables false
open Go.RowKit

/-- a row of one's own that is not empty is not nil -/
theorem q_eqvO {P : Program} {st : St} {d : Option Nat} {g : Option (Nat × Bool)} {t e : TypeId} {x y : Operand} {id : Nat} {ob : OB} (hu : P.underlying t = some (.slice e)) (hg : gOK st g) (hx : ev st x = .own id) (ho : hl st.h id = some ob) (hrow : ob.row = true) (hn : 0 < ob.es.length) (hy : ev st y = .lit (.slice none 0 0)) : Step P st ⟨⟨d, g, .eqv t false x y⟩, .lit (.bool false), [id], [], false⟩ :=
  step_val [id] hg fun o C E ac w sx hlow R hr hh => by
    have h1 := hr x (by simp [AOp.opds])
    rw [hx] at h1
    obtain ⟨hl1, _, hv⟩ := h1
    have h2 := lit_eval (hr y (by simp [AOp.opds])) hy
    obtain ⟨k1, k2⟩ := R.heap.ob id ob hl1 (by rw [hh id (by simp)]; exact ho)
    rw [hrow] at k2
    obtain ⟨vs, a, cap, j1, j2, _⟩ := k2
    have ha : a.isNone = false := by
      rcases j2.2 with ⟨q1, q2⟩ | ⟨g', c', cur, q1, _⟩
      · omega
      · rw [j1] at q1; simp only [Value.slice.injEq] at q1; rw [q1.1]; rfl
    obtain ⟨dst, o, ty, pos, after, guard⟩ := o
    obtain ⟨t2, rfl⟩ := low_spec hlow
    refine ⟨.bool a.isNone, ?_, by rw [ha]; rfl⟩
    have hq : (eqGuard .eql t x y (.slice a ob.es.length cap) (.slice none 0 0)).run P w = .ok () w := rfl
    simp only [execOp, hv.trans j1, h2, Sem.run_bind, cond_false, hq, Result.andThen_ok, eqvS_run hu, Sem.run_pure]

section
variable {P : Program} {tt : List (Nat × AV)} {hh : Hp} {nn dd : Nat} {g : Option (Nat × Bool)} {l : List AInst} {acc : List SD} {K : List SD → St → Prop}
theorem r_eqvO {t e : TypeId} {x y : Operand} {id : Nat} {ob : OB} (hu : P.underlying t = some (.slice e)) (hn : 0 < ob.es.length) (h : RG P (⟨⟨some dd, g, .eqv t false x y⟩, .lit (.bool false), [id], [], false⟩ :: acc) l ⟨(dd, .lit (.bool false)) :: tt, hh, nn⟩ K)
    (hg : gOK ⟨tt, hh, nn⟩ g := by first | exact True.intro | rfl) (hx : ev ⟨tt, hh, nn⟩ x = .own id := by rfl) (ho : hl hh id = some ob := by rfl) (hrow : ob.row = true := by rfl) (hy : ev ⟨tt, hh, nn⟩ y = .lit (.slice none 0 0) := by rfl) :
    RG P acc (⟨some dd, g, .eqv t false x y⟩ :: l) ⟨tt, hh, nn⟩ K := RG.step (q_eqvO hu hg hx ho hrow hn hy) h
end

/-- an empty row of one's own: as the value that it is -/
theorem aw_valO {P : Program} {C : Ctx} {Q : Exit → St → Prop} {st : St} {c : ACode} (n id : Nat) {o : OB} (hn : st.get n = .own id) (ho : hl st.h id = some o) (hrow : o.row = true)
    (h : ∀ a cap, AW P C c Q ⟨(n, .lit (.slice a o.es.length cap)) :: st.t, st.h, st.nx⟩) : AW P C c Q st := by
  intro code hc E ac w R
  have hv := R.tm n
  rw [hn] at hv
  obtain ⟨hl1, _, hv⟩ := hv
  obtain ⟨k1, k2⟩ := R.heap.ob id o hl1 ho
  rw [hrow] at k2
  obtain ⟨vs, a, cap, j1, _⟩ := k2
  refine h a cap code hc E ac w ⟨R.defers, R.size, fun k => ?_, R.heap, R.nx, R.own, R.ext, R.imx, R.imn, R.frm⟩
  by_cases hk : k = n
  · subst hk
    have e1 : St.get ⟨(k, .lit (.slice a o.es.length cap)) :: st.t, st.h, st.nx⟩ k = .lit (.slice a o.es.length cap) := getT_same st.t k _
    rw [e1]
    exact hv.trans j1
  · have e1 : St.get ⟨(n, .lit (.slice a o.es.length cap)) :: st.t, st.h, st.nx⟩ k = st.get k := getT_ne st.t (some n) _ k (by simpa using fun h => hk h.symm)
    rw [e1]
    exact R.tm k

theorem aw_postW {P : Program} {C : Ctx} {Q : Exit → St → Prop} {st : St} {c : ACode} (h : AW P C c (fun e s => ∃ s', Weak C s s' ∧ Q e s') st) : AW P C c Q st := by
  intro code hc E ac w R
  refine wp_mono (h code hc E ac w R) ?_
  rintro e a' w' ⟨E', s, ⟨s', hw, hq⟩, R'⟩
  obtain ⟨E2, R2⟩ := hw E' a' w' R'
  exact ⟨E2, s', hq, R2⟩

theorem weak_any {C : Ctx} {s : St} (n : Nat) : Weak C s ⟨(n, .any) :: s.t, s.h, s.nx⟩ := weak_sub (fun k E w v h => by
  by_cases hk : k = n
  · subst hk
    have e1 : St.get ⟨(k, .any) :: s.t, s.h, s.nx⟩ k = .any := getT_same s.t k _
    rw [e1]; trivial
  · have e1 : St.get ⟨(n, .any) :: s.t, s.h, s.nx⟩ k = s.get k := getT_ne s.t (some n) _ k (by simpa using fun h => hk h.symm)
    rw [e1]; exact h) rfl (Nat.le_refl _)

theorem cloneO_m (es : List (List AV)) (hn : 0 < es.length) (hb : es.length ≤ 100000000000) : AMut Try.prog 63 [.own 0] [(0, some ⟨true, false, 3, 1, es⟩)] 1 (.own 1) [(1, some ⟨true, false, 3, 1, es⟩), (0, some ⟨true, false, 3, 1, es⟩)] 2 := by
  refine amut_of code_slices_Clone_int (by simp [fn_slices_Clone_int]) fun C hC => ?_
  refine walk2 ?_
  refine aw_reg (rrun2 ?_)
  refine r_eqvO Try.underlying23 hn ?_
  refine rrun2 ?_
  refine rg_nil ⟨rfl, ?_⟩
  refine walk2 ?_
  exact fin_m [(1, 2)]

theorem cloneO0_m : AMut Try.prog 63 [.own 0] [(0, some ⟨true, false, 3, 1, []⟩)] 1 .any [(0, some ⟨true, false, 3, 1, []⟩)] 1 := by
  refine amut_of code_slices_Clone_int (by simp [fn_slices_Clone_int]) fun C hC => ?_
  refine aw_postW ?_
  refine walk2 ?_
  refine aw_valO 0 0 rfl rfl rfl fun a cap => ?_
  cases a with
  | none =>
    refine aw_reg (rrun2 ?_)
    refine r_eqvS Try.underlying23 (rrun2 ?_)
    refine rg_nil ⟨rfl, ?_⟩
    refine walk2 ?_
    exact ⟨_, weak_any 2, fin_m []⟩
  | some x =>
    refine aw_reg (rrun2 ?_)
    refine r_eqvS Try.underlying23 (rrun2 ?_)
    refine rg_nil ⟨rfl, ?_⟩
    refine walk2 ?_
    refine aw_say 0 rfl (b := .sl 1 []) (fun E w v h => ⟨some x, cap, [], h, Nat.zero_le _, fun h => (by cases h), Nat.zero_le _, fun i v h => (by cases h), fun u h => (by cases h), rfl⟩) ?_
    refine walk2 ?_
    exact ⟨_, weak_any 2, fin_m []⟩

theorem perm2_m (l d : List Int) (hl : d.length = l.length) (h6 : l.length ≤ 6) (hok : okP l l.length l.length) :
    AMut Try.prog 104 [.own 0, .ep 1 [[.sl 1 (intsA .i64 l)]] 0 0] [(0, some ⟨true, false, 3, 1, intsA .i64 d⟩)] 1 (.tup []) [(0, some ⟨true, false, 3, 1, intsA .i64 (gat l d)⟩)] 1 := by
  have ls := intsA_len .i64 l
  have ld := intsA_len .i64 d
  by_cases h0 : l.length = 0
  · have e1 : l = [] := List.eq_nil_of_length_eq_zero h0
    have e2 : d = [] := List.eq_nil_of_length_eq_zero (by omega)
    subst e1; subst e2
    have c1 : AMut Try.prog 63 [.own 0] [(0, some ⟨true, false, 3, 1, intsA .i64 []⟩)] 1 .any [(0, some ⟨true, false, 3, 1, intsA .i64 []⟩)] 1 := cloneO0_m
    have ls : (((intsA .i64 []).length : Nat) : Int) = 0 := rfl
    refine amut_of code_turn_Permute_2 (by simp [fn_turn_Permute_2]) fun C hC => ?_
    refine walk2 ?_
    refine aw_reg (rrun2 ?_)
    refine r_callM [(0, 0)] c1 ?_
    refine rrun2 ?_
    refine rg_nil ⟨rfl, ?_⟩
    refine walk2 ?_
    refine aw_loopB [] [0] (fun i : Nat => [(9, .lit (.int .i64 ((0 : Nat) : Int))), (10, .lit (.int .i64 ((0 : Nat) : Int)))]) (fun _ => []) 1 (fun _ => True) (fun _ => 0) 0 trivial ?_
    rintro i _
    dsimp only [List.cons_append, List.nil_append]
    refine walk2 ?_
    exact fin_m []
  · have c1 := cloneO_m (intsA .i64 d) (by omega) (by omega)
    refine amut_of code_turn_Permute_2 (by simp [fn_turn_Permute_2]) fun C hC => ?_
    refine walk2 ?_
    refine aw_reg (rrun2 ?_)
    refine r_callN [(0, 0)] c1 ?_
    refine rrun2 ?_
    refine rg_nil ⟨rfl, ?_⟩
    refine walk2 ?_
    refine aw_loopB [0, 3, 8, 9] [1] (fun i : Nat => [(10, .lit (.int .i64 i))]) (fun i => [(0, some ⟨true, false, 3, 1, intsA .i64 ((gat l d).take i ++ d.drop i)⟩)]) 2
      (fun i => i ≤ l.length) (fun i => l.length - i) 0 (Nat.zero_le _) ?_
    rintro i hi
    dsimp only [List.cons_append, List.nil_append]
    by_cases hil : i < l.length
    · obtain ⟨k, hk⟩ : ∃ k, l[i]? = some k := ⟨_, List.getElem?_eq_getElem hil⟩
      obtain ⟨h1, h2, h3⟩ := hok i k hil hk
      obtain ⟨y, hy⟩ : ∃ y, d[(k - 1).toNat]? = some y := ⟨_, List.getElem?_eq_getElem (by omega)⟩
      obtain ⟨w, hw⟩ : ∃ w, d[i]? = some w := ⟨_, List.getElem?_eq_getElem (by omega)⟩
      have hg := gat_get (d := d) hk
      rw [List.getD_eq_getElem?_getD, hy, Option.getD_some] at hg
      have hgl := gat_len l d
      have hcl : ((gat l d).take i ++ d.drop i).length = l.length := by simp; omega
      have hcur : ((gat l d).take i ++ d.drop i)[i]? = some w := by
        rw [List.getElem?_append_right (by simp; omega), List.length_take, List.getElem?_drop, ← hw]
        congr 1; omega
      have hset : ((gat l d).take i ++ d.drop i).set i y = (gat l d).take (i + 1) ++ d.drop (i + 1) := by
        rw [takeA_snoc hg, dropA_cons hw, List.set_append, if_neg (by simp; omega), List.append_assoc]
        congr 1
        rw [List.length_take, show i - min i (gat l d).length = 0 from by omega]
        rfl
      generalize (gat l d).take i ++ d.drop i = cur at hcl hcur hset ⊢
      have lc := intsA_len .i64 cur
      have hkk : (intsA .i64 l)[((i : Nat) : Int).toNat]? = some [.lit (.int .i64 k)] := int_at hk
      have hyk : (intsA .i64 d)[(k - 1).toNat]? = some [.lit (.int .i64 y)] := int_at hy
      have hck : (intsA .i64 cur)[((i : Nat) : Int).toNat]? = some [.lit (.int .i64 w)] := int_at hcur
      have hst : (intsA .i64 cur).set ((i : Nat) : Int).toNat [.lit (.int .i64 y)] = intsA .i64 ((gat l d).take (i + 1) ++ d.drop (i + 1)) := by rw [← hset]; exact intsA_set .i64 cur i y
      clear hg hset
      refine walk2 ?_
      exact ⟨i + 1, by omega, by omega, wkR hC.m [] (by rw [← hst]; rfl)⟩
    · have : i = l.length := by omega
      subst this
      have e : (gat l d).take l.length ++ d.drop l.length = gat l d := by
        rw [List.take_of_length_le (by rw [gat_len]; omega), List.drop_eq_nil_of_le (by omega), List.append_nil]
      rw [e]
      refine walk2 ?_
      exact fin_m []
end Go.Proofs.Ytfnilbkahkbljaa
namespace Go.Proofs.Ytfnilbkahkbljaa
set_option linter.unusedVariables false
open Go.RowKit

def perN (l sh : List Int) (j : Nat) : Nat := (idx sh (gat l (digR (sca l sh) (j : Int)).2)).1.toNat

theorem sca_small {l sh : List Int} (h : okP l l.length l.length) (hl : l.length = sh.length) (hs : Small sh) : Small (sca l sh) := fun z hz => by
  obtain ⟨j, hj⟩ := List.mem_iff_getElem?.1 hz
  have hjl := (List.getElem?_eq_some_iff.1 hj).1
  rw [sca_len] at hjl
  rw [sca_get h hjl] at hj
  have hp := okP_all rfl h j hjl
  obtain ⟨y, hy⟩ : ∃ y, sh[posL l ((j : Int) + 1)]? = some y := ⟨_, List.getElem?_eq_getElem (by omega)⟩
  rw [List.getD_eq_getElem?_getD, hy] at hj
  simp at hj
  subst hj
  exact hs y (List.mem_of_getElem? hy)

structure PerF (l : List Int) (A : Arr) : Prop where
  e : (cnt (sca l A.shape)).2 = 0
  c : (cnt (sca l A.shape)).1 = A.cells.length
  n : ∀ j, j < A.cells.length → idx A.shape (gat l (digR (sca l A.shape) (j : Int)).2) = (((perN l A.shape j : Nat) : Int), true) ∧ perN l A.shape j < A.cells.length ∧ gat l (digR (sca l A.shape) (j : Int)).2 = (digR A.shape ((perN l A.shape j : Nat) : Int)).2
  m : ∀ i, i < A.cells.length → ∃ j, j < A.cells.length ∧ perN l A.shape j = i ∧ sca l (digR A.shape (i : Int)).2 = (digR (sca l A.shape) (j : Int)).2 ∧ ∀ r, r < A.cells.length → perN l A.shape r = i → r = j
  p : 0 < A.cells.length → (∀ z ∈ A.shape, 0 < z) ∧ ∀ z ∈ sca l A.shape, 0 < z

theorem per_facts {A : Arr} (hA : okJ A) {l : List Int} (hl : l.length = A.shape.length) (h : okP l l.length l.length) : PerF l A := by
  have hpr := sca_prod (d := A.shape) h hl.symm
  have hss := sca_small h hl hA.small
  have hcl := hA.cells
  have hp := hA.prod
  have h6 := hA.len
  have he : (cnt (sca l A.shape)).2 = 0 := cnt_ok (by rw [sca_len]; omega) hss (by rw [hpr, hp]; omega)
  have hc : (cnt (sca l A.shape)).1 = A.cells.length := by rw [cnt_prod he, hpr, hp]
  have hpos : 0 < A.cells.length → (∀ z ∈ A.shape, 0 < z) ∧ ∀ z ∈ sca l A.shape, 0 < z := fun h0 => ⟨pos_of_prod hA.small (by omega), pos_of_prod hss (by omega)⟩
  have hn : ∀ j, j < A.cells.length → idx A.shape (gat l (digR (sca l A.shape) (j : Int)).2) = (((perN l A.shape j : Nat) : Int), true) ∧ perN l A.shape j < A.cells.length ∧ gat l (digR (sca l A.shape) (j : Int)).2 = (digR A.shape ((perN l A.shape j : Nat) : Int)).2 := fun j hj => by
    obtain ⟨p1, p2⟩ := hpos (by omega)
    obtain ⟨N, hN, hd⟩ := dig_ok A.shape (gat l (digR (sca l A.shape) (j : Int)).2) (by rw [gat_len, hl]) (fun m z y hz hy => by
      have hml := (List.getElem?_eq_some_iff.1 hz).1
      obtain ⟨k, hk⟩ : ∃ k, l[m]? = some k := ⟨_, List.getElem?_eq_getElem (by omega)⟩
      obtain ⟨k1, k2, k3⟩ := h m k (by omega) hk
      rw [gat_get hk] at hy
      obtain ⟨w, hw⟩ : ∃ w, (digR (sca l A.shape) (j : Int)).2[(k - 1).toNat]? = some w := ⟨_, List.getElem?_eq_getElem (by rw [digR_len, sca_len]; omega)⟩
      rw [List.getD_eq_getElem?_getD, hw] at hy
      simp at hy
      subst hy
      have hs := sca_get (d := A.shape) h (j := (k - 1).toNat) (by omega)
      rw [show (((k - 1).toNat : Nat) : Int) + 1 = k from by omega, k3, List.getD_eq_getElem?_getD, hz, Option.getD_some] at hs
      exact dig_lt _ _ p2 _ _ _ hs hw)
    have hix : idx A.shape (gat l (digR (sca l A.shape) (j : Int)).2) = ((N : Int), true) := by rw [hd]; exact idx_digR hA.e p1 hN
    have hNe : perN l A.shape j = N := by unfold perN; rw [hix]; simp
    rw [hNe]
    exact ⟨hix, by omega, hd⟩
  have hinj : ∀ r j, r < A.cells.length → j < A.cells.length → perN l A.shape r = perN l A.shape j → r = j := fun r j hr hj e => by
    obtain ⟨_, p2⟩ := hpos (by omega)
    have e1 := (hn r hr).2.2
    have e2 := (hn j hj).2.2
    rw [e, ← e2] at e1
    have e3 := congrArg (sca l) e1
    rw [sca_gat h (by rw [digR_len, sca_len]), sca_gat h (by rw [digR_len, sca_len])] at e3
    have := digR_inj p2 (m := (r : Int)) (n := (j : Int)) (by omega) (by rw [hpr, hp]; omega) (by omega) (by rw [hpr, hp]; omega) e3
    omega
  refine ⟨he, hc, hn, fun i hi => ?_, hpos⟩
  obtain ⟨p1, p2⟩ := hpos (by omega)
  obtain ⟨M, hM, hd⟩ := dig_ok (sca l A.shape) (sca l (digR A.shape (i : Int)).2) (by rw [sca_len, sca_len]) (fun m z y hz hy => by
    have hml := (List.getElem?_eq_some_iff.1 hz).1
    rw [sca_len] at hml
    have hpp := okP_all rfl h m hml
    rw [sca_get h hml] at hz hy
    obtain ⟨w, hw⟩ : ∃ w, A.shape[posL l ((m : Int) + 1)]? = some w := ⟨_, List.getElem?_eq_getElem (by omega)⟩
    obtain ⟨v, hv⟩ : ∃ v, (digR A.shape (i : Int)).2[posL l ((m : Int) + 1)]? = some v := ⟨_, List.getElem?_eq_getElem (by rw [digR_len]; omega)⟩
    rw [List.getD_eq_getElem?_getD, hw] at hz
    rw [List.getD_eq_getElem?_getD, hv] at hy
    simp at hz hy
    subst hz; subst hy
    exact dig_lt _ _ p1 _ _ _ hw hv)
  have hMl : M < A.cells.length := by rw [hpr, hp] at hM; omega
  have hNM : perN l A.shape M = i := by
    have e1 := (hn M hMl).2.2
    rw [← hd, gat_sca h (by rw [digR_len]; omega)] at e1
    have := digR_inj p1 (m := (i : Int)) (n := ((perN l A.shape M : Nat) : Int)) (by omega) (by rw [hp]; omega) (by omega) (by rw [hp]; have := (hn M hMl).2.1; omega) e1
    omega
  exact ⟨M, hMl, hNM, hd, fun r hr e => hinj r M hr hMl (by rw [e, hNM])⟩
end Go.Proofs.Ytfnilbkahkbljaa
namespace Go.Proofs.Ytfnilbkahkbljaa
set_option linter.unusedVariables false
open Go.RowKit

def okB (l : List Int) (n : Nat) : Bool := (List.range l.length).all fun m => match l[m]? with | some k => decide (1 ≤ k) && (decide (k ≤ n) && (posL l k == m)) | none => true
theorem okB_iff {l : List Int} {n : Nat} : okB l n = true ↔ okP l n l.length := by
  unfold okB okP
  rw [List.all_eq_true]
  constructor
  · intro h m k hm hk
    have := h m (List.mem_range.2 hm)
    rw [hk] at this
    simpa using this
  · intro h m hm
    have hm := List.mem_range.1 hm
    obtain ⟨k, hk⟩ : ∃ k, l[m]? = some k := ⟨_, List.getElem?_eq_getElem hm⟩
    rw [hk]
    simpa using h m k hm hk

def perP (K A : Arr) : Arr × Int := if (intsR K).2 ≠ 0 then (.mk 0 [] [], (intsR K).2) else if (intsR K).1.length ≠ A.shape.length then (.mk 0 [] [], 4)
  else if okB (intsR K).1 (intsR K).1.length then (.mk (A.s ||| totA K) (sca (intsR K).1 A.shape) (permL A.cells (perN (intsR K).1 A.shape)), 0) else (.mk 0 [] [], 3)

theorem rep_step (n i : Nat) (h : i < n) : (List.replicate i (-1 : Int) ++ List.replicate (n - i) 0).set i (-1) = List.replicate (i + 1) (-1) ++ List.replicate (n - (i + 1)) 0 := by
  rw [List.set_append, if_neg (by simp), List.length_replicate, Nat.sub_self, show n - i = (n - (i + 1)) + 1 from by omega, List.replicate_succ, List.set_cons_zero, List.replicate_succ', List.append_assoc]
  rfl

set_option maxHeartbeats 4000000 in
theorem permute_a (K A : Arr) (hK : arrOK K) (kK : okJ K) (hA : okJ A) : ACalls Try.prog 49 [.agg (arrV K), .agg (arrV A)] (.tup [.agg (arrV (perP K A).1), .lit (.int .i64 (perP K A).2)]) := by
  have hl6 := hA.len
  have c0 := arrInts_a K hK kK.ok
  have ls := intsA_len .i64 A.shape
  have lK := intsA_len .i64 (intsR K).1
  have hkl : (intsR K).1.length ≤ 1000000000 := by
    have := kK.cells
    unfold intsR
    split
    · simp
    · split
      · rename_i l hl; rw [intsF_len hl]; simp; omega
      · simp
  unfold perP
  by_cases h0 : (intsR K).2 = 0
  case neg =>
    rw [if_pos h0]
    generalize (intsR K).1 = l at *
    generalize (intsR K).2 = e at *
    refine acalls_defer code_turn_Permute (by simp [fn_turn_Permute]) idle_turn_Permute fun C hC => ?_
    refine walk2 ?_
    intro ds
    refine walk2 ?_
    exact fin
  rw [if_neg (by simp [h0])]
  rw [h0] at c0
  have htl := totA_lt K kK.ok
  have c1 := total_a K kK.ok
  generalize totA K = T at *
  generalize (intsR K).1 = l at *
  by_cases hll : l.length = A.shape.length
  case neg =>
    rw [if_pos hll]
    have hll' : ¬ (l.length : Int) = A.shape.length := by omega
    refine acalls_defer code_turn_Permute (by simp [fn_turn_Permute]) idle_turn_Permute fun C hC => ?_
    refine walk2 ?_
    intro ds
    refine walk2 ?_
    exact fin
  rw [if_neg (by simp [hll])]
  have hll' : (l.length : Int) = A.shape.length := by omega
  have c2 := raise_a A T hA.ok.parts.1 htl
  have hmk : List.replicate ((l.length : Nat) : Int).toNat [AV.lit (.int .i64 0)] = intsA .i64 (List.replicate 0 (-1) ++ List.replicate (l.length - 0) 0) := by
    rw [Int.toNat_natCast, intsA_rep]; simp
  have hc4 : okP l l.length l.length → ACalls Try.prog 92 [.agg (arrV (raiA A T)), .sl 1 (intsA .i64 (sca l A.shape)), .fn 104 [] [.ep 1 [[.sl 1 (intsA .i64 l)]] 0 0]] (.agg (arrV (.mk (A.s ||| T) (sca l A.shape) (permL A.cells (perN l A.shape))))) := fun hok => by
    have F := per_facts hA hll hok
    have c4 := moved1_a (raiA A T) (okJ_raise hA htl).ok (sca l A.shape) 104 (.sl 1 (intsA .i64 l)) (gat l) F.e F.c hA.cells
      (fun i hi => perm2_m l _ (by rw [digR_len, sca_len]) (by omega) hok)
      (fun i hi => ⟨_, (F.n i hi).2.1, (F.n i hi).1, by rw [gat_len]; omega⟩)
    rw [movedL_eq (A := raiA A T) (p := perN l A.shape) (fun i hi => (F.n i hi).1)] at c4
    exact c4
  refine acalls_defer code_turn_Permute (by simp [fn_turn_Permute]) idle_turn_Permute fun C hC => ?_
  refine walk2 ?_
  intro ds
  refine walk2 ?_
  refine aw_slotZ 32 (.lit (.int .i64 (l.length : Nat))) (by show AV.lit (.int .i64 (((List.replicate ((l.length : Nat) : Int).toNat [AV.lit (.int .i64 0)]).length : Nat) : Int)) = _; rw [List.length_replicate, Int.toNat_natCast]) ?_
  refine aw_keepN [2, 3, 4, 5, 6, 7, 32, 33] [0, 1, 2, 3, 4, 5] 6 (kt := [(2, .optr 0 0 0), (3, .optr 1 0 0), (4, .optr 2 0 0), (5, .optr 3 0 0), (6, .optr 4 0 0), (7, .own 5), (32, .lit (.int .i64 (l.length : Nat))), (33, .lit (.int .i64 ((0 : Nat) : Int)))])
    (kh := [(0, some ⟨false, false, 26, 3, [arrV K]⟩), (1, some ⟨false, false, 26, 3, [arrV A]⟩), (2, some ⟨false, false, 26, 3, [[.lit (.int .u64 0), .lit (.slice none 0 0), .lit (.slice none 0 0)]]⟩), (3, some ⟨false, false, 37, 1, [[.lit (.int .i64 0)]]⟩), (4, some ⟨false, false, 23, 1, [[.sl 1 (intsA .i64 l)]]⟩),
      (5, some ⟨true, false, 3, 1, intsA .i64 (List.replicate 0 (-1) ++ List.replicate (l.length - 0) 0)⟩)]) ?_ (eh := by rw [← hmk]; rfl)
  refine aw_loopB [2, 3, 4, 5, 6, 7, 32] [0, 1, 2, 3, 4] (fun i : Nat => [(33, .lit (.int .i64 i))]) (fun i => [(5, some ⟨true, false, 3, 1, intsA .i64 (List.replicate i (-1) ++ List.replicate (l.length - i) 0)⟩)]) 6
    (fun i => i ≤ l.length) (fun i => l.length - i) 0 (Nat.zero_le _) ?_
  rintro i hi
  dsimp only [List.cons_append, List.nil_append]
  by_cases hil : i < l.length
  · have hcl : (List.replicate i (-1 : Int) ++ List.replicate (l.length - i) 0).length = l.length := by simp; omega
    have hcur : (List.replicate i (-1 : Int) ++ List.replicate (l.length - i) 0)[i]? = some 0 := by
      rw [List.getElem?_append_right (by simp), List.length_replicate, Nat.sub_self, List.getElem?_replicate, if_pos (by omega)]
    have hset := rep_step l.length i hil
    generalize List.replicate i (-1 : Int) ++ List.replicate (l.length - i) 0 = cur at hcl hcur hset ⊢
    have lc := intsA_len .i64 cur
    have hck : (intsA .i64 cur)[((i : Nat) : Int).toNat]? = some [.lit (.int .i64 0)] := int_at hcur
    have hst : (intsA .i64 cur).set ((i : Nat) : Int).toNat [.lit (.int .i64 (-1))] = intsA .i64 (List.replicate (i + 1) (-1) ++ List.replicate (l.length - (i + 1)) 0) := by rw [← hset]; exact intsA_set .i64 cur i (-1)
    clear hset hc4 hmk
    refine walk2 ?_
    exact ⟨i + 1, by omega, by omega, wkR hC.m [] (by rw [← hst]; rfl)⟩
  · have : i = l.length := by omega
    subst this
    have e0 : List.replicate l.length (-1 : Int) ++ List.replicate (l.length - l.length) 0 = scG l l.length (fun m => A.shape.getD m 0) (-1) 0 := by rw [scG_zero, Nat.sub_self]; simp
    rw [e0]
    refine walk2 ?_
    refine aw_loopB [2, 3, 4, 5, 6, 7, 40, 41] [0, 1, 2, 3, 4] (fun i : Nat => [(42, .lit (.int .i64 i))]) (fun i => [(5, some ⟨true, false, 3, 1, intsA .i64 (scG l l.length (fun m => A.shape.getD m 0) (-1) i)⟩)]) 6
      (fun i => i ≤ l.length ∧ okP l l.length i) (fun i => l.length - i) 0 ⟨Nat.zero_le _, fun m k hm => absurd hm (Nat.not_lt_zero _)⟩ ?_
    rintro i ⟨hi, hok⟩
    dsimp only [List.cons_append, List.nil_append]
    by_cases hil : i < l.length
    · obtain ⟨k, hk⟩ : ∃ k, l[i]? = some k := ⟨_, List.getElem?_eq_getElem hil⟩
      have hkk : (intsA .i64 l)[((i : Nat) : Int).toNat]? = some [.lit (.int .i64 k)] := int_at hk
      obtain ⟨y, hy⟩ : ∃ y, A.shape[i]? = some y := ⟨_, List.getElem?_eq_getElem (by omega)⟩
      have hyk : (intsA .i64 A.shape)[((i : Nat) : Int).toNat]? = some [.lit (.int .i64 y)] := int_at hy
      have hbad : ¬ (1 ≤ k ∧ k ≤ l.length ∧ posL l k = i) → okB l l.length = false := fun h => by
        cases hb : okB l l.length
        · rfl
        · exact absurd (okB_iff.1 hb i k hil hk) h
      have hgl := scG_len l l.length (fun m => A.shape.getD m 0) (-1) i
      have lg := intsA_len .i64 (scG l l.length (fun m => A.shape.getD m 0) (-1) i)
      by_cases h1 : k < 1
      · rw [hbad (by omega)]
        clear hc4
        refine walk2 ?_
        exact fin
      · by_cases h2 : k > l.length
        · rw [hbad (by omega)]
          clear hc4
          refine walk2 ?_
          exact fin
        · have hat := scG_at (l := l) (i := i) (fun m => A.shape.getD m 0) (-1) (show 1 ≤ k by omega) (show k ≤ l.length by omega)
          have hple := posL_le hk
          by_cases h3 : posL l k < i
          · rw [if_pos h3] at hat
            obtain ⟨v, hv⟩ : ∃ v, A.shape[posL l k]? = some v := ⟨_, List.getElem?_eq_getElem (by omega)⟩
            rw [List.getD_eq_getElem?_getD, hv, Option.getD_some] at hat
            have hv0 := (hA.small v (List.mem_of_getElem? hv)).1
            have hatk : (intsA .i64 (scG l l.length (fun m => A.shape.getD m 0) (-1) i))[(k - 1).toNat]? = some [.lit (.int .i64 v)] := int_at hat
            rw [hbad (by omega)]
            generalize scG l l.length (fun m => A.shape.getD m 0) (-1) i = G at *
            clear hc4
            refine walk2 ?_
            exact fin
          · rw [if_neg h3] at hat
            have hatk : (intsA .i64 (scG l l.length (fun m => A.shape.getD m 0) (-1) i))[(k - 1).toNat]? = some [.lit (.int .i64 (-1))] := int_at hat
            have hst0 := scG_step (l := l) (n := l.length) (i := i) (fun m => A.shape.getD m 0) (-1) hk (by omega) (by omega) (by omega)
            rw [List.getD_eq_getElem?_getD, hy, Option.getD_some] at hst0
            have hst := intsA_set .i64 (scG l l.length (fun m => A.shape.getD m 0) (-1) i) (k - 1).toNat y
            rw [hst0] at hst
            generalize scG l l.length (fun m => A.shape.getD m 0) (-1) i = G at hgl lg hatk hst ⊢
            clear hc4 hat hst0
            refine walk2 ?_
            exact ⟨i + 1, by omega, ⟨by omega, fun m x hm hx => by
              by_cases hmi : m = i
              · subst hmi
                rw [hk] at hx
                simp only [Option.some.injEq] at hx
                subst hx
                omega
              · exact hok m x (by omega) hx⟩, wkR hC.m [] (by rw [← hst]; rfl)⟩
    · have : i = l.length := by omega
      subst this
      have c4 := hc4 hok
      rw [okB_iff.2 hok, sca_any hok]
      clear hc4
      generalize (Arr.mk (A.s ||| T) (sca l A.shape) (permL A.cells (perN l A.shape))) = Z at c4 ⊢
      generalize sca l A.shape = S at c4 ⊢
      generalize raiA A T = R at c2 c4
      refine walk2 ?_
      refine aw_freeze 4 rfl ?_
      refine aw_freeze 5 rfl ?_
      refine aw_view 7 rfl rfl ?_
      refine walk2 ?_
      exact fin
end Go.Proofs.Ytfnilbkahkbljaa
namespace Go.Proofs.Ytfnilbkahkbljaa
set_option linter.unusedVariables false
open Go.RowKit

end Go.Proofs.Ytfnilbkahkbljaa
namespace Go.Proofs.Ytfnilbkahkbljaa
set_option linter.unusedVariables false
open Go.RowKit

theorem arrOK_new {A R : Arr} (hA : arrOK A) (hs : R.s < 18446744073709551616) (hsh : Small R.shape) (h6 : R.shape.length ≤ 6) (hl : R.cells.length = A.cells.length) (hm : ∀ c ∈ R.cells, c ∈ A.cells) : arrOK R := by
  obtain ⟨s, sh, cs⟩ := R
  obtain ⟨s2, sh2, cs2⟩ := A
  simp only [Arr.s, Arr.shape, Arr.cells] at *
  simp only [arrOK] at hA ⊢
  have hr : reachBytes = 140737488351232 := rfl
  exact ⟨hs, fun z hz => i64_wf (by have := (hsh z hz).1; omega) (by have := (hsh z hz).2; omega), by omega, by rw [hl]; exact hA.2.2.2.1, cellsOK_mem.2 fun c hc => cellsOK_mem.1 hA.2.2.2.2 c (hm c hc)⟩

theorem right_new {A R : Arr} {d : Nat} (hA : rightA d A = true) (h1 : (cnt R.shape).2 = 0) (h2 : (cnt R.shape).1 = R.cells.length) (hm : ∀ c ∈ R.cells, c ∈ A.cells) : rightA d R = true := by
  obtain ⟨_, _, r3⟩ := right_shape hA
  rw [rightA_eq, rcnt_eq, h1, h2]
  simp only [beq_self_eq_true, Bool.true_and]
  exact rightCs_mem.2 fun c hc => rightCs_mem.1 r3 c (hm c hc)

theorem perP_cases (K A : Arr) : ((perP K A).2 ≠ 0 ∧ (perP K A).1 = .mk 0 [] []) ∨ ((intsR K).2 = 0 ∧ (intsR K).1.length = A.shape.length ∧ okP (intsR K).1 (intsR K).1.length (intsR K).1.length ∧ perP K A = (.mk (A.s ||| totA K) (sca (intsR K).1 A.shape) (permL A.cells (perN (intsR K).1 A.shape)), 0)) := by
  unfold perP
  by_cases h0 : (intsR K).2 = 0
  · rw [if_neg (by simp [h0])]
    by_cases hll : (intsR K).1.length = A.shape.length
    · rw [if_neg (by simp [hll])]
      cases hb : okB (intsR K).1 (intsR K).1.length
      · rw [if_neg (by simp)]; exact .inl ⟨by simp, rfl⟩
      · rw [if_pos rfl]; exact .inr ⟨h0, hll, okB_iff.1 hb, rfl⟩
    · rw [if_pos hll]; exact .inl ⟨by simp, rfl⟩
  · rw [if_pos h0]; exact .inl ⟨h0, rfl⟩

theorem per_mem {A : Arr} (hA : okJ A) {l : List Int} (F : PerF l A) : (permL A.cells (perN l A.shape)).length = A.cells.length ∧ ∀ c ∈ permL A.cells (perN l A.shape), c ∈ A.cells :=
  ⟨permL_len _ _, permL_mem fun i hi => (F.n i hi).2.1⟩

theorem perP_facts {K A : Arr} (kK : okJ K) (hA : okJ A) (oA : arrOK A) {d : Nat} (rA : rightA d A = true) : arrOK (perP K A).1 ∧ ((perP K A).2 = 0 → rightA d (perP K A).1 = true ∧ (perP K A).1.cells.length = A.cells.length) := by
  rcases perP_cases K A with ⟨h1, h2⟩ | ⟨_, hll, hok, h3⟩
  · exact ⟨by rw [h2]; exact arrOK_zero, fun h => absurd h h1⟩
  · rw [h3]
    have F := per_facts hA hll hok
    obtain ⟨m1, m2⟩ := per_mem hA F
    have hl := or_lt _ _ oA.parts.1 (totA_lt K kK.ok)
    refine ⟨arrOK_new oA hl (sca_small hok hll hA.small) (cnt_len F.e) m1 m2, fun _ => ⟨right_new rA F.e ?_ m2, m1⟩⟩
    show (cnt (sca (intsR K).1 A.shape)).1 = ((permL A.cells (perN (intsR K).1 A.shape)).length : Int)
    rw [F.c, m1]

end Go.Proofs.Ytfnilbkahkbljaa
