/- Lines woven: the reference's and the program's. -/
import Derived.Test.YtfnilbkahkbljaaOperH
namespace Go.Proofs.Ytfnilbkahkbljaa
set_option linter.unusedVariables false
open Go.RowKit

/-! where a cell stands: its line, and its place in it -/
def lnQ (L B p : Nat) : Nat := p / B / L * B + p % B
theorem lnQ_div {L B p : Nat} (hB : 0 < B) : lnQ L B p / B = p / B / L ∧ lnQ L B p % B = p % B := by
  have hm := Nat.mod_lt p hB
  unfold lnQ
  constructor
  · rw [Nat.add_comm, Nat.add_mul_div_right _ _ hB, Nat.div_eq_of_lt hm, Nat.zero_add]
  · rw [Nat.add_comm, Nat.add_mul_mod_self_right, Nat.mod_eq_of_lt hm]
theorem lnQ_back (L B p : Nat) (hB : 0 < B) : (lnQ L B p / B * L + p / B % L) * B + lnQ L B p % B = p := by
  obtain ⟨h1, h2⟩ := lnQ_div (L := L) (p := p) hB
  rw [h1, h2, Nat.mul_comm (p / B / L) L, Nat.div_add_mod, Nat.mul_comm, Nat.div_add_mod]
theorem lnQ_at {L B i n : Nat} (hB : 0 < B) (hn : n < L) : lnQ L B ((i / B * L + n) * B + i % B) = i ∧ ((i / B * L + n) * B + i % B) / B % L = n := by
  have hm := Nat.mod_lt i hB
  have e1 : ((i / B * L + n) * B + i % B) / B = i / B * L + n := by
    rw [Nat.add_comm, Nat.add_mul_div_right _ _ hB, Nat.div_eq_of_lt hm, Nat.zero_add]
  have e2 : ((i / B * L + n) * B + i % B) % B = i % B := by
    rw [Nat.add_comm, Nat.add_mul_mod_self_right, Nat.mod_eq_of_lt hm]
  have e3 : (i / B * L + n) / L = i / B := by
    rw [Nat.add_comm, Nat.add_mul_div_right _ _ (by omega), Nat.div_eq_of_lt hn, Nat.zero_add]
  have e4 : (i / B * L + n) % L = n := by
    rw [Nat.add_comm, Nat.add_mul_mod_self_right, Nat.mod_eq_of_lt hn]
  unfold lnQ
  rw [e1, e2, e3, e4]
  refine ⟨?_, rfl⟩
  rw [Nat.mul_comm]; exact Nat.div_add_mod i B
theorem lnQ_lt {N L B p : Nat} (h : p < N * L * B) : 0 < B ∧ 0 < L ∧ lnQ L B p < N * B ∧ p / B % L < L := by
  have hB : 0 < B := by
    rcases Nat.eq_zero_or_pos B with e | e
    · subst e; omega
    · exact e
  have hL : 0 < L := by
    rcases Nat.eq_zero_or_pos L with e | e
    · subst e; simp at h
    · exact e
  have h1 : p / B < N * L := by rw [Nat.div_lt_iff_lt_mul hB]; exact h
  have h2 : p / B / L < N := by rw [Nat.div_lt_iff_lt_mul hL]; exact h1
  have h3 : (p / B / L + 1) * B ≤ N * B := Nat.mul_le_mul_right _ h2
  have hm := Nat.mod_lt p hB
  rw [Nat.succ_mul] at h3
  exact ⟨hB, hL, by unfold lnQ; omega, Nat.mod_lt _ hL⟩

def fillB (L B i n p : Nat) : Bool := decide (lnQ L B p < i) || (decide (lnQ L B p = i) && decide (p / B % L < n))
def wvRow (cs : List Cell) (f : Nat → Bool) : List (List AV) := (List.range cs.length).map fun p => if f p then cellV (cs.getD p cellD) else cellZ
theorem wvRow_len (cs : List Cell) (f : Nat → Bool) : (wvRow cs f).length = cs.length := by simp [wvRow]
theorem wvRow_congr {cs : List Cell} {f g : Nat → Bool} (h : ∀ p, p < cs.length → f p = g p) : wvRow cs f = wvRow cs g := by
  unfold wvRow
  refine List.map_congr_left fun p hp => ?_
  rw [h p (List.mem_range.1 hp)]
theorem wvRow_none {cs : List Cell} {f : Nat → Bool} (h : ∀ p, p < cs.length → f p = false) : List.replicate cs.length cellZ = wvRow cs f := by
  rw [wvRow_congr (g := fun _ => false) h]
  unfold wvRow
  refine List.ext_getElem? fun i => ?_
  rw [List.getElem?_replicate, List.getElem?_map]
  by_cases hi : i < cs.length
  · simp [hi]
  · simp [hi]
theorem wvRow_all {cs : List Cell} {f : Nat → Bool} (h : ∀ p, p < cs.length → f p = true) : wvRow cs f = cs.map cellR := by
  rw [wvRow_congr (g := fun _ => true) h]
  unfold wvRow
  refine List.ext_getElem? fun i => ?_
  rw [List.getElem?_map, List.getElem?_map]
  by_cases hi : i < cs.length
  · rw [List.getElem?_range hi, List.getElem?_eq_getElem hi]
    simp [List.getElem?_eq_getElem hi, cellR_eq]
  · rw [List.getElem?_eq_none (by simp; omega), List.getElem?_eq_none (by omega)]; rfl
theorem wvRow_get {cs : List Cell} {f : Nat → Bool} {p : Nat} (hp : p < cs.length) (hf : f p = false) : (wvRow cs f)[p]? = some cellZ := by
  simp [wvRow, hp, hf]
theorem wvRow_set {cs : List Cell} {f g : Nat → Bool} {p : Nat} {c : Cell} (hc : cs[p]? = some c) (hg : g p = true) (h : ∀ r, r < cs.length → r ≠ p → f r = g r) : (wvRow cs f).set p (cellV c) = wvRow cs g := by
  obtain ⟨hp, hce⟩ := List.getElem?_eq_some_iff.1 hc
  refine List.ext_getElem? fun i => ?_
  rw [List.getElem?_set]
  by_cases hi : p = i
  · subst hi
    rw [if_pos rfl, if_pos (by rw [wvRow_len]; exact hp)]
    simp [wvRow, hp, hg, List.getD, hce]
  · rw [if_neg hi]
    by_cases hl : i < cs.length
    · simp [wvRow, hl, h i hl (Ne.symm hi)]
    · rw [List.getElem?_eq_none (by rw [wvRow_len]; omega), List.getElem?_eq_none (by rw [wvRow_len]; omega)]

theorem refWeave_nil (s : Nat) (first : Bool) (cs : List Cell) : ACalls Try.prog 22 [labV s, .sl 1 (intsA .i64 []), .lit (.bool first), .sl 1 ([cs].map lineV)] (.agg (arrV (.mk s [] cs))) := by
  have hX0 : ([cs].map lineV)[(0 : Int).toNat]? = some [.sl 7 (cs.map cellR)] := rfl
  have hX1 : (([cs].map lineV).length : Int) = 1 := rfl
  generalize [cs].map lineV = X at hX0 hX1 ⊢
  refine acalls_of code_scrimref26_Weave (by simp [fn_scrimref26_Weave]) fun C hC => ?_
  refine walk2 ?_
  exact fin

theorem refWeave_zero (s : Nat) (sh : List Int) (first : Bool) (X : List (List AV)) (hs : 0 < sh.length) (h1 : (cnt sh).2 = 0) (h0 : (cnt sh).1 = 0) : ACalls Try.prog 22 [labV s, .sl 1 (intsA .i64 sh), .lit (.bool first), .sl 1 X] (.agg (arrV (.mk s sh []))) := by
  have hB : maxB = 1000000000 := rfl
  have lsh := intsA_len .i64 sh
  have hl6 := cnt_len h1
  have hx : axisN sh first < sh.length := by unfold axisN; split <;> omega
  have c0 := axis26_a sh first hs (by omega)
  have c1 := refWithout_a sh (axisN sh first) hx (by omega)
  have c2 := places_a sh h1
  have hpl : placesL sh = [] := by
    have := placesL_len sh
    rw [← cnt_prod h1, h0] at this
    exact List.eq_nil_of_length_eq_zero (by simpa using this)
  rw [hpl] at c2
  generalize axisN sh first = x at c0 c1
  refine acalls_of code_scrimref26_Weave (by simp [fn_scrimref26_Weave]) fun C hC => ?_
  refine walk2 ?_
  refine aw_loopB [8, 9, 13] [0, 1] (fun n : Nat => [(14, .lit (.int .i64 n))]) (fun n => []) 2 (fun n => n = 0) (fun n => 0) 0 rfl ?_
  rintro n rfl
  dsimp only [List.cons_append, List.nil_append]
  have hz : (((([] : List (List Int)).map placeV).length : Nat) : Int) = 0 := rfl
  refine walk2 ?_
  exact fin
set_option maxHeartbeats 1000000 in
theorem refWeave_ok (s : Nat) (sh : List Int) (cs : List Cell) (first : Bool) (s1 s2 : List Int) (N L B : Nat) (hx : s1.length = axisN sh first) (hsh : sh = s1 ++ (L : Int) :: s2) (h1 : (cnt sh).2 = 0) (he : (cnt (s1 ++ s2)).2 = 0)
    (hn1 : prodL s1 = N) (hn2 : prodL s2 = B) (hN : N * L * B = cs.length) (hcl : cs.length ≤ 5000) (hM : N * B ≤ 5000) :
    ACalls Try.prog 22 [labV s, .sl 1 (intsA .i64 sh), .lit (.bool first), .sl 1 ((linesQ cs L B (N * B)).map lineV)] (.agg (arrV (.mk s sh cs))) := by
  have hB : maxB = 1000000000 := rfl
  have lsh := intsA_len .i64 sh
  have hl6 := cnt_len h1
  have hshl : sh.length = s1.length + (s2.length + 1) := by rw [hsh]; simp
  have c0 := axis26_a sh first (by omega) (by omega)
  rw [← hx] at c0
  have c1 := refWithout_a sh s1.length (by omega) (by omega)
  have er : sh.take s1.length ++ sh.drop (s1.length + 1) = s1 ++ s2 := by
    rw [hsh, List.take_left, show s1 ++ (L : Int) :: s2 = (s1 ++ [(L : Int)]) ++ s2 from by simp, List.drop_left' (by simp)]
  rw [er] at c1
  have c2 := places_a sh h1
  have hpl := placesL_len sh
  have hpr : prodL sh = (cs.length : Int) := by rw [hsh, prodL_append, prodL_cons, hn1, hn2, ← hN, Int.natCast_mul, Int.natCast_mul, Int.mul_assoc]
  rw [hpr, Int.toNat_natCast] at hpl
  have hpat : ∀ q, q < cs.length → (placesL sh)[q]? = some (digR sh q).2 := fun q hq => placesL_at sh (by rw [hpr]; exact hq)
  have hpl' : (((placesL sh).map placeV).length : Int) = cs.length := by simp [hpl]
  have hX := linesQ_len cs L B (N * B)
  have hXI : (((linesQ cs L B (N * B)).map lineV).length : Int) = (N * B : Nat) := by simp [hX]
  have hXat : ∀ q, q < N * B → (linesQ cs L B (N * B))[q]? = some (lineAt cs L B q) := fun q hq => linesQ_at cs L B (N * B) q hq
  generalize hPd : placesL sh = P at c2 hpl hpat hpl'
  generalize linesQ cs L B (N * B) = X at hX hXI hXat ⊢
  refine acalls_of code_scrimref26_Weave (by simp [fn_scrimref26_Weave]) fun C hC => ?_
  refine walk2 ?_
  refine aw_nilF 1 2 76 7 rfl rfl rfl rfl ?_
  refine aw_loopB [3, 8, 9, 10, 11, 13] [0] (fun n : Nat => [(14, .lit (.int .i64 n))]) (fun n => [(1, some ⟨false, false, 26, 3, [[labV s, .sl 1 (intsA .i64 sh), .own 2]]⟩), (2, some ⟨true, false, 76, 7, (cs.take n).map cellR⟩)]) 3
    (fun n => n ≤ cs.length) (fun n => cs.length - n) 0 (Nat.zero_le _) ?_
  rintro n hn
  dsimp only [List.cons_append, List.nil_append]
  by_cases hnl : n < cs.length
  · obtain ⟨hBp, hLp, hq, hk⟩ := lnQ_lt (p := n) (by rw [hN]; exact hnl)
    have hNp : 0 < N := by
      rcases Nat.eq_zero_or_pos N with e | e
      · subst e; omega
      · exact e
    have hpp : ∀ z ∈ sh, 0 < z := pos_of_prod (cnt_small h1) (by rw [hpr]; omega)
    have hppr : ∀ z ∈ s1 ++ s2, 0 < z := fun z hz => hpp z (by
      rw [hsh]
      rcases List.mem_append.1 hz with h | h
      · exact List.mem_append_left _ h
      · exact List.mem_append_right _ (List.mem_cons_of_mem _ h))
    obtain ⟨d1, d2⟩ := digR_cut (s1 := s1) (s2 := s2) (L := (L : Int)) (by rw [← hsh]; exact hpp) (n : Int) (by omega)
    rw [← hsh] at d1 d2
    have eq1 : (n : Int) / prodL s2 / (L : Int) * prodL s2 + (n : Int) % prodL s2 = ((lnQ L B n : Nat) : Int) := by
      rw [hn2, lnQ, Int.natCast_add, Int.natCast_mul, Int.natCast_ediv, Int.natCast_ediv, Int.natCast_emod]
    have eq2 : (n : Int) / prodL s2 % (L : Int) = ((n / B % L : Nat) : Int) := by
      rw [hn2, Int.natCast_emod, Int.natCast_ediv]
    rw [eq1] at d1
    rw [eq2] at d2
    have hat := hpat n hnl
    have hpk : (P.map placeV)[((n : Nat) : Int).toNat]? = some [.sl 1 (intsA .i64 (digR sh n).2)] := by rw [Int.toNat_natCast]; simp [hat, placeV]
    have hdl := digR_len sh n
    generalize (digR sh (n : Int)).2 = p at d1 d2 hat hpk hdl
    have c3 := refWithout_a p s1.length (by omega) (by omega)
    rw [d1] at c3
    have c4 := refIndex_a (s1 ++ s2) (digR (s1 ++ s2) (lnQ L B n : Nat)).2 he
    rw [find_digR hppr (by omega) (by rw [prodL_append, hn1, hn2, ← Int.natCast_mul]; omega)] at c4
    have hline := hXat _ hq
    have hlk : (X.map lineV)[((lnQ L B n : Nat) : Int).toNat]? = some [.sl 7 ((lineAt cs L B (lnQ L B n)).map cellR)] := by rw [Int.toNat_natCast]; simp [hline, lineV]
    obtain ⟨c, hc⟩ : ∃ c, cs[n]? = some c := ⟨_, List.getElem?_eq_getElem hnl⟩
    have hbk := lnQ_back L B n hBp
    have hlc : (lineAt cs L B (lnQ L B n))[n / B % L]? = some c := by
      simp only [lineAt, List.getElem?_map, List.getElem?_range hk, Option.map_some, List.getD]
      rw [hbk, hc]; rfl
    have hll : (((lineAt cs L B (lnQ L B n)).map cellR).length : Int) = L := by simp [lineAt_len]
    have hlv : ((lineAt cs L B (lnQ L B n)).map cellR)[((n / B % L : Nat) : Int).toNat]? = some (cellV c) := by rw [Int.toNat_natCast]; exact cell_at hlc
    have hpx : (intsA .i64 p)[((s1.length : Nat) : Int).toNat]? = some [.lit (.int .i64 ((n / B % L : Nat) : Int))] := by rw [Int.toNat_natCast]; exact int_at d2
    have lp := intsA_len .i64 p
    have hms : (cs.take n).map cellR ++ [cellV c] = (cs.take (n + 1)).map cellR := by
      rw [takeA_snoc hc]; simp [cellR_eq]
    have hlm : ((cs.take n).map cellR).length = n := by simp; omega
    generalize lnQ L B n = q at hq c3 c4 hlk hll hlv hlc hline hbk d1 eq1
    generalize n / B % L = k at hk hlv hpx hlc d2 eq2 hbk
    generalize lineAt cs L B q = line at hlk hll hlv hlc hline
    clear d1 d2 eq1 eq2 hlc hbk hline hXat hpat hat
    refine walk2 ?_
    exact ⟨n + 1, by omega, by omega, wkR hC.m [(2, 4)] (by rw [← hms]; rfl)⟩
  · rw [show cs.take n = cs from List.take_of_length_le (by omega)]
    refine walk2 ?_
    exact fin
end Go.Proofs.Ytfnilbkahkbljaa
