/- Limbs and what they stand for; no program in sight. -/
import Derived.Test.YtmbigpjokpdnkaaNumA
namespace Go.Proofs.Ytmbigpjokpdnkaa
set_option linter.unusedVariables false
open Go.RowKit

def limOK (xs : List Int) : Prop := ∀ z ∈ xs, 0 ≤ z ∧ z < 4294967296
def hd (xs : List Int) : Int := xs.headD 0
def limb (xs : List Int) (i : Nat) : Int := hd (xs.drop i)
def valL : List Int → Nat
  | [] => 0
  | z :: zs => z.toNat + 4294967296 * valL zs

theorem limOK.tail {xs : List Int} (h : limOK xs) : limOK xs.tail := fun z hz => h z (List.mem_of_mem_tail hz)
theorem limOK.drop {xs : List Int} (h : limOK xs) (k : Nat) : limOK (xs.drop k) := fun z hz => h z (List.mem_of_mem_drop hz)
theorem hd_range {xs : List Int} (h : limOK xs) : 0 ≤ hd xs ∧ hd xs < 4294967296 := by
  cases xs with
  | nil => simp [hd]
  | cons z zs => exact h z (by simp)
theorem limb_range {xs : List Int} (h : limOK xs) (i : Nat) : 0 ≤ limb xs i ∧ limb xs i < 4294967296 := hd_range (h.drop i)
theorem limb_at {xs : List Int} {i : Nat} {z : Int} (h : xs[i]? = some z) : limb xs i = z := by
  obtain ⟨hi, rfl⟩ := List.getElem?_eq_some_iff.1 h
  unfold limb hd
  rw [List.drop_eq_getElem_cons hi]; rfl
theorem limb_out {xs : List Int} {i : Nat} (h : xs.length ≤ i) : limb xs i = 0 := by simp [limb, hd, List.drop_eq_nil_of_le h]
theorem valL_hd (xs : List Int) : valL xs = (hd xs).toNat + 4294967296 * valL xs.tail := by
  cases xs with
  | nil => simp only [valL, hd, List.headD_nil, List.tail_nil, Int.toNat_zero, Nat.mul_zero, Nat.add_zero]
  | cons z zs => simp only [valL, hd, List.headD_cons, List.tail_cons]
theorem tail_drop (xs : List Int) (k : Nat) : (xs.drop k).tail = xs.drop (k + 1) := by rw [List.tail_drop]
theorem hd_drop (xs : List Int) (k : Nat) : hd (xs.drop k) = limb xs k := rfl

/-- the limbs of a number -/
def limbs (n : Nat) : List Int := if h : n = 0 then [] else ((n % 4294967296 : Nat) : Int) :: limbs (n / 4294967296)
termination_by n
decreasing_by omega
theorem limbs_zero : limbs 0 = [] := by rw [limbs]; simp
theorem limbs_pos {n : Nat} (h : n ≠ 0) : limbs n = ((n % 4294967296 : Nat) : Int) :: limbs (n / 4294967296) := by rw [limbs, dif_neg h]
theorem limbs_nil {n : Nat} : limbs n = [] ↔ n = 0 := by
  constructor
  · intro h
    cases n with
    | zero => rfl
    | succ n => rw [limbs_pos (by omega)] at h; cases h
  · rintro rfl; exact limbs_zero
theorem limbs_ok (n : Nat) : limOK (limbs n) := by
  induction n using Nat.strongRecOn with
  | _ n ih =>
    by_cases h : n = 0
    · subst h; rw [limbs_zero]; intro z hz; cases hz
    · rw [limbs_pos h]
      intro z hz
      rcases List.mem_cons.1 hz with rfl | hz
      · omega
      · exact ih _ (by omega) z hz
theorem valL_limbs (n : Nat) : valL (limbs n) = n := by
  induction n using Nat.strongRecOn with
  | _ n ih =>
    by_cases h : n = 0
    · subst h; rw [limbs_zero]; rfl
    · rw [limbs_pos h, valL, ih _ (by omega)]
      omega
theorem limbs_len_mono : ∀ {m n : Nat}, m ≤ n → (limbs m).length ≤ (limbs n).length := by
  intro m
  induction m using Nat.strongRecOn with
  | _ m ih =>
    intro n h
    by_cases hm : m = 0
    · subst hm; rw [limbs_zero]; simp
    · rw [limbs_pos hm, limbs_pos (by omega : n ≠ 0)]
      simp only [List.length_cons]
      have := ih (m / 4294967296) (by omega) (n := n / 4294967296) (Nat.div_le_div_right h)
      omega
theorem limbs_len_pow : ∀ (k n : Nat), n < 2 ^ k → (limbs n).length ≤ k
  | 0, n, h => by
    have : n = 0 := by simpa using h
    subst this; rw [limbs_zero]; simp
  | k + 1, n, h => by
    by_cases hn : n = 0
    · subst hn; rw [limbs_zero]; simp
    · rw [limbs_pos hn]
      simp only [List.length_cons]
      have := limbs_len_pow k (n / 4294967296) (by rw [Nat.pow_succ] at h; omega)
      omega

def trimS : List Int → List Int
  | [] => []
  | z :: zs => if trimS zs = [] ∧ z = 0 then [] else z :: trimS zs
theorem trimS_snoc (x : Int) : ∀ l : List Int, trimS (l ++ [x]) = if x = 0 then trimS l else l ++ [x]
  | [] => by by_cases h : x = 0 <;> simp [trimS, h]
  | z :: l => by
    have ih := trimS_snoc x l
    simp only [List.cons_append, trimS, ih]
    by_cases h : x = 0
    · simp [h]
    · simp [h]
theorem trim_take (xs : List Int) : ∀ k, k ≤ xs.length → xs.take (trimLen xs k) = trimS (xs.take k)
  | 0, _ => by simp [trimLen, trimS]
  | k + 1, h => by
    have ih := trim_take xs k (by omega)
    have hk : xs[k]? = some xs[k] := by simp
    rw [List.take_succ_eq_append_getElem (by omega), trimS_snoc]
    simp only [trimLen]
    by_cases h0 : xs[k] = 0
    · rw [if_pos (by rw [hk, h0]), if_pos h0]; exact ih
    · rw [if_neg (by rw [hk]; simpa using h0), if_neg h0, List.take_succ_eq_append_getElem (by omega)]
theorem trimI_S (xs : List Int) : trimI xs = trimS xs := by
  rw [trimI, trim_take xs _ (Nat.le_refl _), List.take_length]
theorem trimS_limbs : ∀ {xs : List Int}, limOK xs → trimS xs = limbs (valL xs)
  | [], _ => by simp [trimS, valL, limbs_zero]
  | z :: zs, h => by
    have ih := trimS_limbs h.tail
    simp only [List.tail_cons] at ih
    have hz := h z (by simp)
    simp only [trimS, ih, limbs_nil, valL]
    by_cases h0 : valL zs = 0 ∧ z = 0
    · rw [if_pos h0, h0.1, h0.2]; simp [limbs_zero]
    · rw [if_neg h0, limbs_pos (n := z.toNat + 4294967296 * valL zs) (by omega)]
      have e1 : (z.toNat + 4294967296 * valL zs) % 4294967296 = z.toNat := by omega
      have e2 : (z.toNat + 4294967296 * valL zs) / 4294967296 = valL zs := by omega
      rw [e1, e2]
      congr 1
      omega
theorem trimI_limbs {xs : List Int} (h : limOK xs) : trimI xs = limbs (valL xs) := (trimI_S xs).trans (trimS_limbs h)
theorem trimI_self (n : Nat) : trimI (limbs n) = limbs n := by rw [trimI_limbs (limbs_ok n), valL_limbs]

/-! sums, differences, doubles, from the lowest limb on -/
def addF : Nat → List Int → List Int → Int → List Int
  | 0, _, _, _ => []
  | n + 1, xs, ys, c => ((hd xs + hd ys + c) % 4294967296) :: addF n xs.tail ys.tail ((hd xs + hd ys + c) / 4294967296)
def subF : Nat → List Int → List Int → Int → List Int
  | 0, _, _, _ => []
  | n + 1, xs, ys, b => ((4294967296 + hd xs - hd ys - b) % 4294967296) :: subF n xs.tail ys.tail (1 - (4294967296 + hd xs - hd ys - b) / 4294967296)
def twiceF : Nat → List Int → Int → List Int
  | 0, _, _ => []
  | n + 1, xs, c => ((2 * hd xs + c) % 4294967296) :: twiceF n xs.tail ((2 * hd xs + c) / 4294967296)

theorem nil_of_len {xs : List Int} (h : xs.length ≤ 0) : xs = [] := List.eq_nil_of_length_eq_zero (by omega)

theorem addF_val : ∀ (n : Nat) (xs ys : List Int) (c : Int), limOK xs → limOK ys → xs.length ≤ n → ys.length ≤ n → 0 ≤ c → c ≤ 1 → (valL (addF (n + 1) xs ys c) : Int) = valL xs + valL ys + c ∧ limOK (addF (n + 1) xs ys c)
  | 0, xs, ys, c, hx, hy, lx, ly, h0, h1 => by
    rw [nil_of_len lx, nil_of_len ly]
    simp only [addF, hd, List.headD_nil, valL]
    refine ⟨by omega, fun z hz => ?_⟩
    simp only [List.mem_singleton] at hz; omega
  | n + 1, xs, ys, c, hx, hy, lx, ly, h0, h1 => by
    have h2 := hd_range hx
    have h3 := hd_range hy
    have e1 := valL_hd xs
    have e2 := valL_hd ys
    obtain ⟨ih1, ih2⟩ := addF_val n xs.tail ys.tail ((hd xs + hd ys + c) / 4294967296) hx.tail hy.tail (by simp; omega) (by simp; omega) (by omega) (by omega)
    rw [addF, valL]
    refine ⟨by omega, fun z hz => ?_⟩
    rcases List.mem_cons.1 hz with rfl | hz
    · omega
    · exact ih2 z hz

theorem twiceF_val : ∀ (n : Nat) (xs : List Int) (c : Int), limOK xs → xs.length ≤ n → 0 ≤ c → c ≤ 1 → (valL (twiceF (n + 1) xs c) : Int) = 2 * valL xs + c ∧ limOK (twiceF (n + 1) xs c)
  | 0, xs, c, hx, lx, h0, h1 => by
    rw [nil_of_len lx]
    simp only [twiceF, hd, List.headD_nil, valL]
    refine ⟨by omega, fun z hz => ?_⟩
    simp only [List.mem_singleton] at hz; omega
  | n + 1, xs, c, hx, lx, h0, h1 => by
    have h2 := hd_range hx
    have e1 := valL_hd xs
    obtain ⟨ih1, ih2⟩ := twiceF_val n xs.tail ((2 * hd xs + c) / 4294967296) hx.tail (by simp; omega) (by omega) (by omega)
    rw [twiceF, valL]
    refine ⟨by omega, fun z hz => ?_⟩
    rcases List.mem_cons.1 hz with rfl | hz
    · omega
    · exact ih2 z hz

theorem subF_val : ∀ (n : Nat) (xs ys : List Int) (b : Int), limOK xs → limOK ys → xs.length ≤ n → ys.length ≤ n → 0 ≤ b → b ≤ 1 → (valL ys : Int) + b ≤ valL xs → (valL (subF n xs ys b) : Int) = valL xs - valL ys - b ∧ limOK (subF n xs ys b)
  | 0, xs, ys, b, hx, hy, lx, ly, h0, h1, h => by
    rw [nil_of_len lx, nil_of_len ly] at h ⊢
    simp only [subF, valL] at h ⊢
    refine ⟨by omega, fun z hz => by cases hz⟩
  | n + 1, xs, ys, b, hx, hy, lx, ly, h0, h1, h => by
    have h2 := hd_range hx
    have h3 := hd_range hy
    have e1 := valL_hd xs
    have e2 := valL_hd ys
    obtain ⟨ih1, ih2⟩ := subF_val n xs.tail ys.tail (1 - (4294967296 + hd xs - hd ys - b) / 4294967296) hx.tail hy.tail (by simp; omega) (by simp; omega) (by omega) (by omega) (by omega)
    rw [subF, valL]
    refine ⟨by omega, fun z hz => ?_⟩
    rcases List.mem_cons.1 hz with rfl | hz
    · omega
    · exact ih2 z hz

theorem addF_len : ∀ (n : Nat) (xs ys : List Int) (c : Int), (addF n xs ys c).length = n
  | 0, _, _, _ => rfl
  | n + 1, _, _, _ => by simp [addF, addF_len n]
theorem subF_len : ∀ (n : Nat) (xs ys : List Int) (c : Int), (subF n xs ys c).length = n
  | 0, _, _, _ => rfl
  | n + 1, _, _, _ => by simp [subF, subF_len n]
theorem twiceF_len : ∀ (n : Nat) (xs : List Int) (c : Int), (twiceF n xs c).length = n
  | 0, _, _ => rfl
  | n + 1, _, _ => by simp [twiceF, twiceF_len n]

theorem twiceF_step (xs : List Int) (L k : Nat) (h : k < L) (c : Int) : twiceF (L - k) (xs.drop k) c = ((2 * limb xs k + c) % 4294967296) :: twiceF (L - (k + 1)) (xs.drop (k + 1)) ((2 * limb xs k + c) / 4294967296) := by
  rw [show L - k = (L - (k + 1)) + 1 from by omega, twiceF, hd_drop, tail_drop]
theorem addF_step (xs ys : List Int) (L k : Nat) (h : k < L) (c : Int) : addF (L - k) (xs.drop k) (ys.drop k) c = ((limb xs k + limb ys k + c) % 4294967296) :: addF (L - (k + 1)) (xs.drop (k + 1)) (ys.drop (k + 1)) ((limb xs k + limb ys k + c) / 4294967296) := by
  rw [show L - k = (L - (k + 1)) + 1 from by omega, addF, hd_drop, hd_drop, tail_drop, tail_drop]
theorem subF_step (xs ys : List Int) (L k : Nat) (h : k < L) (c : Int) : subF (L - k) (xs.drop k) (ys.drop k) c = ((4294967296 + limb xs k - limb ys k - c) % 4294967296) :: subF (L - (k + 1)) (xs.drop (k + 1)) (ys.drop (k + 1)) (1 - (4294967296 + limb xs k - limb ys k - c) / 4294967296) := by
  rw [show L - k = (L - (k + 1)) + 1 from by omega, subF, hd_drop, hd_drop, tail_drop, tail_drop]

/-- which of two is greater -/
def cmpI (a b : Nat) : Int := if a < b then -1 else if b < a then 1 else 0

theorem valL_take_drop (B : Nat) (hB : B = 4294967296) (xs : List Int) (h : limOK xs) : ∀ k : Nat, ∃ t, t < B ^ k ∧ valL xs = t + B ^ k * valL (xs.drop k)
  | 0 => ⟨0, by simp, by simp⟩
  | k + 1 => by
    obtain ⟨t, h1, h2⟩ := valL_take_drop B hB xs h k
    have h3 := hd_range (h.drop k)
    have e := valL_hd (xs.drop k)
    rw [tail_drop, ← hB] at e
    refine ⟨t + B ^ k * (hd (xs.drop k)).toNat, ?_, ?_⟩
    · rw [Nat.pow_succ]
      have h4 : (hd (xs.drop k)).toNat + 1 ≤ B := by omega
      have h5 := Nat.mul_le_mul_left (B ^ k) h4
      rw [Nat.mul_add, Nat.mul_one] at h5
      omega
    · rw [h2, e, Nat.mul_add, Nat.pow_succ, ← Nat.mul_assoc, Nat.add_assoc]

theorem valL_lt_of_drop {xs ys : List Int} (hx : limOK xs) (hy : limOK ys) (k : Nat) (h : valL (xs.drop k) < valL (ys.drop k)) : valL xs < valL ys := by
  obtain ⟨t, h1, h2⟩ := valL_take_drop 4294967296 rfl xs hx k
  obtain ⟨u, h3, h4⟩ := valL_take_drop 4294967296 rfl ys hy k
  have h5 := Nat.mul_le_mul_left (4294967296 ^ k) (show valL (xs.drop k) + 1 ≤ valL (ys.drop k) from h)
  rw [Nat.mul_add, Nat.mul_one] at h5
  omega

theorem valL_drop (xs : List Int) (k : Nat) : valL (xs.drop k) = (limb xs k).toNat + 4294967296 * valL (xs.drop (k + 1)) := by
  rw [valL_hd, tail_drop]; rfl

/-! quotients and divisors, as the reference has them -/
def bitF (a : List Int) (i : Nat) : Int := limb a (i / 32) / 2 ^ (i % 32) % 2
theorem bitF_range (a : List Int) (i : Nat) : 0 ≤ bitF a i ∧ bitF a i ≤ 1 := by unfold bitF; omega
def dmF (a : List Int) (b : Nat) : Nat → Nat → Nat → Nat × Nat
  | 0, q, r => (q, r)
  | n + 1, q, r => if b ≤ 2 * r + (bitF a n).toNat then dmF a b n (2 * q + 1) (2 * r + (bitF a n).toNat - b) else dmF a b n (2 * q) (2 * r + (bitF a n).toNat)
def dm (a : List Int) (b : Nat) : Nat × Nat := if b = 0 then (0, 0) else dmF a b (32 * a.length) 0 0
theorem dmF_lt (a : List Int) (b : Nat) : ∀ (n q r : Nat), r < b → (dmF a b n q r).2 < b ∧ (dmF a b n q r).1 < (q + 1) * 2 ^ n
  | 0, q, r, h => ⟨h, by simp [dmF]⟩
  | n + 1, q, r, h => by
    have hb := bitF_range a n
    simp only [dmF]
    split
    · obtain ⟨h1, h2⟩ := dmF_lt a b n (2 * q + 1) (2 * r + (bitF a n).toNat - b) (by omega)
      refine ⟨h1, ?_⟩
      have e : (q + 1) * 2 ^ (n + 1) = (2 * q + 1 + 1) * 2 ^ n := by rw [Nat.pow_succ, Nat.mul_comm (2 ^ n) 2, ← Nat.mul_assoc]; congr 1; omega
      omega
    · obtain ⟨h1, h2⟩ := dmF_lt a b n (2 * q) (2 * r + (bitF a n).toNat) (by omega)
      refine ⟨h1, ?_⟩
      have e : (q + 1) * 2 ^ (n + 1) = (2 * q + 1 + 1) * 2 ^ n := by rw [Nat.pow_succ, Nat.mul_comm (2 ^ n) 2, ← Nat.mul_assoc]; congr 1; omega
      have e2 : (2 * q + 1) * 2 ^ n ≤ (2 * q + 1 + 1) * 2 ^ n := Nat.mul_le_mul_right _ (by omega)
      omega
theorem dm_lt (a : List Int) {b : Nat} (h : b ≠ 0) : (dm a b).2 < b ∧ (dm a b).1 < 2 ^ (32 * a.length) := by
  rw [dm, if_neg h]
  have := dmF_lt a b (32 * a.length) 0 0 (by omega)
  simpa using this
def gcdF : Nat → Nat → Nat → Nat
  | 0, x, _ => x
  | k + 1, x, y => if y = 0 then x else gcdF k y (dm (limbs x) y).2

theorem numOK.lim {n : Num} (h : numOK n) : limOK n.top ∧ limOK n.bot := by
  have h1 : IntKind.u32.min = 0 := by decide
  have h2 : IntKind.u32.max = 4294967295 := by decide
  have key : ∀ z : Int, (Lit.int .u32 z).wf = true → 0 ≤ z ∧ z < 4294967296 := fun z hz => by
    have h' : IntKind.u32.min ≤ z ∧ z ≤ IntKind.u32.max := by simpa [Lit.wf] using hz
    omega
  exact ⟨fun z hz => key z (h.1 z hz), fun z hz => key z (h.2.1 z hz)⟩

/-- two whole numbers as a ratio, in the reference's words -/
def makeF (nx : Bool) (X : Nat) (ny : Bool) (Y : Nat) : Num × Int :=
  if Y = 0 then (⟨false, [], []⟩, 3)
  else
    let g := gcdF 100000 X Y
    let t := (dm (limbs X) g).1
    let b := (dm (limbs Y) g).1
    if (limbs t).length > 32 ∨ (limbs b).length > 32 then (⟨false, [], []⟩, 7) else (⟨decide (t ≠ 0) && (nx != ny), limbs t, limbs b⟩, 0)
def sgnV (n : Bool) (X : Nat) : Bool := if X = 0 then false else n
theorem sgn_limbs (n : Bool) (X : Nat) : sgn n (limbs X) = sgnV n X := by
  unfold sgn sgnV
  by_cases h : X = 0
  · subst h; rw [limbs_zero]; rfl
  · rw [if_neg h, if_neg]
    intro e
    exact h (limbs_nil.1 (List.eq_nil_of_length_eq_zero e))
def rightN (n : Num) : Bool :=
  if n.top.length > 32 ∨ n.bot.length > 32 then false
  else ((makeF (sgnV n.neg (valL n.top)) (valL n.top) false (valL n.bot)).2 == 0) && numP n (makeF (sgnV n.neg (valL n.top)) (valL n.top) false (valL n.bot)).1
end Go.Proofs.Ytmbigpjokpdnkaa
