/- Quotients, divisors, ratios of the reference: what they answer. -/
import Derived.Test.YtfnbhkeilcbmjaaNatV
import Derived.Test.YtfnbhkeilcbmjaaSameP
namespace Go.Proofs.Ytfnbhkeilcbmjaa
set_option linter.unusedVariables false
open Go.RowKit

theorem limbs_len_shift {Y : Nat} (h : Y ≠ 0) : (limbs (4294967296 * Y)).length = (limbs Y).length + 1 := by
  rw [limbs_pos (n := 4294967296 * Y) (by omega), show 4294967296 * Y / 4294967296 = Y from by omega]; rfl
theorem limbs_len_le {n k : Nat} (ys : List Int) (h : n ≤ k) (hk : (limbs k).length ≤ 40) : (limbs n).length ≤ 40 := Nat.le_trans (limbs_len_mono h) hk

theorem rDivMod_a (xs ys : List Int) (Y : Nat) (hY : ys = limbs Y) (hx : limOK xs) (lx : xs.length ≤ 40) (ly : ys.length ≤ 40) (h : Y ≠ 0) :
    ACalls Try.prog 96 [.sl 1 (intsA .u32 xs), .sl 1 (intsA .u32 ys)] (.tup [.sl 1 (intsA .u32 (limbs (dm xs Y).1)), .sl 1 (intsA .u32 (limbs (dm xs Y).2)), .lit (.bool true)]) := by
  subst hY
  have hB : maxB = 1000000000 := rfl
  have lxs := intsA_len .u32 xs
  have lys := intsA_len .u32 (limbs Y)
  have hy := limbs_ok Y
  have c1 := rNorm_a (limbs Y) (by omega)
  rw [trimI_self] at c1
  have hne : (limbs Y).length ≠ 0 := fun e => h (limbs_nil.1 (List.eq_nil_of_length_eq_zero e))
  have hp : ∀ n q r : Nat, n ≤ 32 * xs.length → q < 2 ^ (32 * xs.length - n) → r < Y → (limbs q).length ≤ 32 * xs.length ∧ (limbs r).length ≤ 40 := fun n q r hn hq hr => by
    have := limbs_len_pow _ q hq
    have h2 := limbs_len_mono (m := r) (n := Y) (by omega)
    omega
  refine acalls_of code_scrimref02_DivMod (by simp [fn_scrimref02_DivMod]) fun C hC => ?_
  refine walk2 ?_
  refine aw_nilS 7 1 rfl ?_
  refine aw_nilS 8 1 rfl ?_
  refine aw_loopB [0, 1, 4, 5, 6] [] (fun p : Nat × Nat × Nat => [(7, .sl 1 (intsA .u32 (limbs p.2.1))), (8, .sl 1 (intsA .u32 (limbs p.2.2))), (9, .lit (.int .i64 ((p.1 : Int) - 1)))]) (fun _ => []) 0
    (fun p => p.1 ≤ 32 * xs.length ∧ p.2.1 < 2 ^ (32 * xs.length - p.1) ∧ p.2.2 < Y ∧ dm xs Y = dmF xs Y p.1 p.2.1 p.2.2) (fun p => p.1) (32 * xs.length, 0, 0)
    ⟨Nat.le_refl _, by simp, by simp only; omega, by rw [dm, if_neg h]⟩ ?_
    (ht := by simp only [limbs_zero, show ((32 * xs.length : Nat) : Int) - 1 = 32 * (xs.length : Int) - 1 from by omega]; rfl)
  rintro ⟨n, q, r⟩ ⟨hn, hq, hr, hE⟩
  simp only at hn hq hr hE
  dsimp only [List.cons_append, List.nil_append]
  obtain ⟨lq, lr⟩ := hp n q r hn hq hr
  cases n with
  | zero =>
    rw [dmF] at hE
    rw [hE]
    refine walk2 ?_
    exact fin
  | succ n =>
    have hb := bitF_range xs n
    rw [dmF] at hE
    have c2 := rBit_a xs n (((n + 1 : Nat) : Int) - 1) (by omega) (by omega) hx
    have c3 := rtwice_a (limbs r) (bitF xs n) (limbs_ok r) (by omega) hb.1 hb.2
    have l2 : (limbs (2 * r + (bitF xs n).toNat)).length ≤ 41 := by
      have := limbs_len_mono (m := 2 * r + (bitF xs n).toNat) (n := 4294967296 * Y) (by omega)
      rw [limbs_len_shift h] at this
      omega
    have e1 : 2 ^ (32 * xs.length - n) = 2 * 2 ^ (32 * xs.length - (n + 1)) := by
      rw [show 32 * xs.length - n = (32 * xs.length - (n + 1)) + 1 from by omega, Nat.pow_succ, Nat.mul_comm]
    rw [valL_limbs] at c3
    by_cases hle : Y ≤ 2 * r + (bitF xs n).toNat
    · rw [if_pos hle] at hE
      have c4 := rSub_a (limbs (2 * r + (bitF xs n).toNat)) (limbs Y) (limbs_ok _) hy (by omega) (by omega) (by rw [valL_limbs, valL_limbs]; exact hle)
      rw [valL_limbs, valL_limbs] at c4
      have c5 := rtwice_a (limbs q) 1 (limbs_ok q) (by omega) (by omega) (by omega)
      rw [valL_limbs] at c5
      refine walk2 ?_
      exact ⟨(n, 2 * q + 1, 2 * r + (bitF xs n).toNat - Y), by simp only; omega, ⟨by simp only; omega, by simp only; omega, by simp only; omega, hE⟩, wkR hC.m [] (by simp only; rw [show ((n : Nat) : Int) - 1 = ((n + 1 : Nat) : Int) - 1 - 1 from by omega]; rfl)⟩
    · rw [if_neg hle] at hE
      have c4 := rSubN_a (limbs (2 * r + (bitF xs n).toNat)) (limbs Y) (limbs_ok _) hy (by omega) (by omega) (by rw [valL_limbs, valL_limbs]; omega)
      have c5 := rtwice_a (limbs q) 0 (limbs_ok q) (by omega) (by omega) (by omega)
      rw [valL_limbs] at c5
      refine walk2 ?_
      exact ⟨(n, 2 * q, 2 * r + (bitF xs n).toNat), by simp only; omega, ⟨by simp only; omega, by simp only; omega, by simp only; omega, hE⟩, wkR hC.m [] (by simp only; rw [show ((n : Nat) : Int) - 1 = ((n + 1 : Nat) : Int) - 1 - 1 from by omega]; rfl)⟩

theorem gcdF_ne : ∀ (k x y : Nat), (x ≠ 0 ∨ (y ≠ 0 ∧ k ≠ 0)) → gcdF k x y ≠ 0
  | 0, x, y, h => by simp only [gcdF]; rcases h with h | h; exact h; exact absurd rfl h.2
  | k + 1, x, y, h => by
    simp only [gcdF]
    split
    · rename_i hy
      rcases h with h | h
      · exact h
      · exact absurd hy h.1
    · rename_i hy
      exact gcdF_ne k y _ (.inl hy)
theorem gcdF_le : ∀ (k x y M : Nat), x ≤ M → y ≤ M → gcdF k x y ≤ M
  | 0, x, y, M, hx, hy => by simpa [gcdF] using hx
  | k + 1, x, y, M, hx, hy => by
    simp only [gcdF]
    split
    · exact hx
    · rename_i h0
      have := (dm_lt (limbs x) h0).1
      exact gcdF_le k y _ M hy (by omega)

theorem rGcd_a (xs ys : List Int) (hx : limOK xs) (hy : limOK ys) (lx : xs.length ≤ 40) (ly : ys.length ≤ 40) :
    ACalls Try.prog 95 [.sl 1 (intsA .u32 xs), .sl 1 (intsA .u32 ys)] (.sl 1 (intsA .u32 (limbs (gcdF 100000 (valL xs) (valL ys))))) := by
  have hB : maxB = 1000000000 := rfl
  have c1 := rNorm_a xs (by omega)
  have c2 := rNorm_a ys (by omega)
  have t1 := trimI_len xs
  have t2 := trimI_len ys
  rw [trimI_limbs hx] at c1 t1
  rw [trimI_limbs hy] at c2 t2
  generalize valL xs = X at c1 t1 ⊢
  generalize valL ys = Y at c2 t2 ⊢
  refine acalls_of code_scrimref02_Gcd (by simp [fn_scrimref02_Gcd]) fun C hC => ?_
  refine walk2 ?_
  refine aw_loopB [4] [] (fun p : Nat × Nat × Nat => [(5, .sl 1 (intsA .u32 (limbs p.2.1))), (6, .sl 1 (intsA .u32 (limbs p.2.2))), (7, .lit (.int .i64 p.1))]) (fun _ => []) 0
    (fun p => p.1 ≤ 100000 ∧ (limbs p.2.1).length ≤ 40 ∧ (limbs p.2.2).length ≤ 40 ∧ gcdF 100000 X Y = gcdF (100000 - p.1) p.2.1 p.2.2) (fun p => 100000 - p.1) (0, X, Y) ⟨Nat.zero_le _, by simp only; omega, by simp only; omega, rfl⟩ ?_
  rintro ⟨n, x, y⟩ ⟨hn, lx', ly', hE⟩
  simp only at hn lx' ly' hE
  dsimp only [List.cons_append, List.nil_append]
  generalize gcdF 100000 X Y = G at hE ⊢
  have la := intsA_len .u32 (limbs y)
  by_cases h1 : n < 100000
  · by_cases h2 : y = 0
    · subst h2
      rw [show 100000 - n = (100000 - (n + 1)) + 1 from by omega, gcdF, if_pos rfl] at hE
      rw [limbs_zero] at la
      simp only [List.length_nil] at la
      rw [hE, limbs_zero]
      refine walk2 ?_
      exact fin
    · have hpos : 0 < (limbs y).length := by
        rcases Nat.eq_zero_or_pos (limbs y).length with e | e
        · exact absurd (limbs_nil.1 (List.eq_nil_of_length_eq_zero e)) h2
        · exact e
      rw [show 100000 - n = (100000 - (n + 1)) + 1 from by omega, gcdF, if_neg h2] at hE
      have c3 := rDivMod_a (limbs x) (limbs y) y rfl (limbs_ok x) lx' ly' h2
      have hlt := (dm_lt (limbs x) h2).1
      have hll := limbs_len_mono (m := (dm (limbs x) y).2) (n := y) (by omega)
      refine walk2 ?_
      exact ⟨(n + 1, y, (dm (limbs x) y).2), by simp only; omega, ⟨by simp only; omega, ly', by simp only; omega, hE⟩, wkR hC.m []⟩
  · rw [show 100000 - n = 0 from by omega, gcdF] at hE
    rw [hE]
    refine walk2 ?_
    exact fin

theorem r3Norm_a (n : Bool) (m : List Int) (hm : limOK m) (lm : m.length ≤ maxB) : ACalls Try.prog 93 [.agg (intV n m)] (.agg (intV (sgnV n (valL m)) (limbs (valL m)))) := by
  have c1 := rNorm_a m lm
  rw [trimI_limbs hm] at c1
  generalize valL m = V at c1 ⊢
  have la := intsA_len .u32 (limbs V)
  refine acalls_of code_scrimref03_Norm (by simp [fn_scrimref03_Norm]) fun C hC => ?_
  by_cases h : V = 0
  · subst h
    rw [limbs_zero] at c1 la ⊢
    refine walk2 ?_
    exact fin
  · have hpos : ¬ (limbs V).length = 0 := fun e => absurd (limbs_nil.1 (List.eq_nil_of_length_eq_zero e)) h
    rw [sgnV, if_neg h]
    refine walk2 ?_
    exact fin

theorem rTop_a (n : Num) (hn : limOK n.top) (lm : n.top.length ≤ maxB) : ACalls Try.prog 90 [.agg (numV n)] (.agg (intV (sgnV n.neg (valL n.top)) (limbs (valL n.top)))) := by
  have c1 := r3Norm_a n.neg n.top hn lm
  refine acalls_of code_scrimref04_Top (by simp [fn_scrimref04_Top]) fun C hC => ?_
  refine walk2 ?_
  exact fin

theorem rBot_a (n : Num) (hn : limOK n.bot) (lm : n.bot.length ≤ maxB) : ACalls Try.prog 91 [.agg (numV n)] (.agg (intV (sgnV false (valL n.bot)) (limbs (valL n.bot)))) := by
  have c1 := r3Norm_a false n.bot hn lm
  refine acalls_of code_scrimref04_Bot (by simp [fn_scrimref04_Bot]) fun C hC => ?_
  refine walk2 ?_
  exact fin

theorem numP_self (n : Num) : numP n n = true := (numP_iff n n).2 rfl

theorem rMake_a (nx ny : Bool) (X Y : Nat) (lx : (limbs X).length ≤ 40) (ly : (limbs Y).length ≤ 40) : ACalls Try.prog 89 [.agg (intV nx (limbs X)), .agg (intV ny (limbs Y))] (.tup [.agg (numV (makeF (sgnV nx X) X (sgnV ny Y) Y).1), .lit (.int .i64 (makeF (sgnV nx X) X (sgnV ny Y) Y).2)]) := by
  have hB : maxB = 1000000000 := rfl
  have c1 := r3Norm_a nx (limbs X) (limbs_ok X) (by omega)
  have c2 := r3Norm_a ny (limbs Y) (limbs_ok Y) (by omega)
  rw [valL_limbs] at c1 c2
  have la := intsA_len .u32 (limbs Y)
  refine acalls_of code_scrimref04_Make (by simp [fn_scrimref04_Make]) fun C hC => ?_
  unfold makeF
  by_cases h : Y = 0
  · rw [if_pos h]
    subst h
    rw [limbs_zero] at la
    simp only [limbs_zero] at c2 la ⊢
    refine walk2 ?_
    exact fin
  · rw [if_neg h]
    have hpos : ¬ (limbs Y).length = 0 := fun e => absurd (limbs_nil.1 (List.eq_nil_of_length_eq_zero e)) h
    have c3 := rGcd_a (limbs X) (limbs Y) (limbs_ok X) (limbs_ok Y) lx ly
    rw [valL_limbs, valL_limbs] at c3
    have g0 := gcdF_ne 100000 X Y (.inr ⟨h, by omega⟩)
    have gl : (limbs (gcdF 100000 X Y)).length ≤ 40 := by
      have := limbs_len_mono (gcdF_le 100000 X Y (max X Y) (by omega) (by omega))
      rcases Nat.le_total X Y with hh | hh
      · rw [show max X Y = Y from by omega] at this; omega
      · rw [show max X Y = X from by omega] at this; omega
    generalize gcdF 100000 X Y = G at c3 g0 gl ⊢
    have c4 := rDivMod_a (limbs X) (limbs G) G rfl (limbs_ok X) lx gl g0
    have c5 := rDivMod_a (limbs Y) (limbs G) G rfl (limbs_ok Y) ly gl g0
    simp only
    generalize (dm (limbs X) G).1 = T at c4 ⊢
    generalize (dm (limbs Y) G).1 = U at c5 ⊢
    generalize (dm (limbs X) G).2 = T2 at c4
    generalize (dm (limbs Y) G).2 = U2 at c5
    have lt := intsA_len .u32 (limbs T)
    have lu := intsA_len .u32 (limbs U)
    by_cases h1 : (limbs T).length > 32
    · rw [if_pos (.inl h1)]
      refine walk2 ?_
      exact fin
    · by_cases h2 : (limbs U).length > 32
      · rw [if_pos (.inr h2)]
        refine walk2 ?_
        exact fin
      · rw [if_neg (by omega)]
        by_cases h3 : T = 0
        · subst h3
          have lt0 : ((intsA .u32 (limbs 0)).length : Int) = 0 := by rw [limbs_zero]; rfl
          clear lt
          refine walk2 ?_
          exact fin
        · have hp3 : ¬ (limbs T).length = 0 := fun e => absurd (limbs_nil.1 (List.eq_nil_of_length_eq_zero e)) h3
          rw [show decide (T ≠ 0) = true from decide_eq_true h3, Bool.true_and]
          have e : ∀ b c : Bool, (b != c) = (match absBool .neq b c with | some (.bool x) => x | _ => false) := fun b c => by cases b <;> cases c <;> rfl
          refine walk2 ?_
          exact fin

theorem rRight_a (n : Num) (hn : numOK n) : ACalls Try.prog 78 [.agg (numV n)] (.lit (.bool (rightN n))) := by
  have hB : maxB = 1000000000 := rfl
  obtain ⟨l1, l2⟩ := hn.lim
  have lt := intsA_len .u32 n.top
  have lb := intsA_len .u32 n.bot
  refine acalls_of code_scrimref04_Right (by simp [fn_scrimref04_Right]) fun C hC => ?_
  unfold rightN
  by_cases h1 : n.top.length > 32
  · rw [if_pos (.inl h1)]
    refine walk2 ?_
    exact fin
  by_cases h2 : n.bot.length > 32
  · rw [if_pos (.inr h2)]
    refine walk2 ?_
    exact fin
  rw [if_neg (by omega)]
  have c1 := rTop_a n l1 (by omega)
  have c2 := rBot_a n l2 (by omega)
  have t1 := trimI_len n.top
  have t2 := trimI_len n.bot
  rw [trimI_limbs l1] at t1
  rw [trimI_limbs l2] at t2
  have c3 := rMake_a (sgnV n.neg (valL n.top)) (sgnV false (valL n.bot)) (valL n.top) (valL n.bot) (by omega) (by omega)
  have e1 : ∀ b V, sgnV (sgnV b V) V = sgnV b V := fun b V => by unfold sgnV; split <;> rfl
  have e2 : sgnV false (valL n.bot) = false := by unfold sgnV; split <;> rfl
  rw [e1, e1, e2] at c3
  rw [e2] at c2
  generalize makeF (sgnV n.neg (valL n.top)) (valL n.top) false (valL n.bot) = M at c3 ⊢
  obtain ⟨m, e⟩ := M
  simp only at c3 ⊢
  have c4 := rnum_a n m
  by_cases h3 : e = 0
  · subst h3
    rw [beq_self_eq_true, Bool.true_and]
    refine walk2 ?_
    exact fin
  · rw [show (e == 0) = false from by simpa using h3, Bool.false_and]
    refine walk2 ?_
    exact fin
end Go.Proofs.Ytfnbhkeilcbmjaa
