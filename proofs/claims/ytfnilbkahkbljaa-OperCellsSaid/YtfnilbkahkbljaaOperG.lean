/- Lines along an axis: the walk of oper.Lines. -/
import Derived.Test.YtfnilbkahkbljaaOperP
namespace Go.Proofs.Ytfnilbkahkbljaa
set_option linter.unusedVariables false
open Go.RowKit

theorem okC_len {c : Cell} (h : okC c) : c.n.top.length ≤ maxB ∧ c.n.bot.length ≤ maxB ∧ c.ins.length ≤ maxB := ⟨h.parts.2.1, h.parts.2.2.1, h.parts.2.2.2.1⟩
theorem okC_D : okC cellD := by
  simp only [cellD, okC, okAs, maxB, List.length_nil]; exact ⟨by omega, by omega, by omega, by omega, trivial⟩

theorem aw_slot {P : Program} {C : Ctx} {Q : Exit → St → Prop} {st : St} {c : ACode} (n : Nat) (v : AV) (e : st.get n = v) (h : AW P C c Q ⟨(n, v) :: st.t, st.h, st.nx⟩) : AW P C c Q st :=
  aw_say (b := v) n e (fun E w u hu => hu) h

set_option maxHeartbeats 1000000 in
theorem operLines_core (A : Arr) (first : Bool) (hA : okA A) (rest : List Int) (N L B : Nat) (hs : 0 < A.shape.length)
    (c0 : ACalls Try.prog 56 [.sl 1 (intsA .i64 A.shape), .lit (.bool first)] (.tup [.sl 1 (intsA .i64 rest), .lit (.int .i64 N), .lit (.int .i64 L), .lit (.int .i64 B), .lit (.bool true)]))
    (hN : N * L * B = A.cells.length) (hb1 : N * L ≤ 5000000) (hb2 : N * B ≤ 5000000) (hbL : L ≤ 5000) (hbN : N ≤ 5000) (hbB : B ≤ 5000) (hcl : A.cells.length ≤ 5000) :
    ACalls Try.prog 16 [.agg (arrV A), .lit (.bool first)] (.tup [.sl 1 ((linesQ A.cells L B (N * B)).map lineV), .sl 1 (intsA .i64 rest)]) := by
  have hB : maxB = 1000000000 := rfl
  have lcs := cells_len A
  have lsh := intsA_len .i64 A.shape
  obtain ⟨a1, a2, a3, a4⟩ := hA.parts
  have hNI : (N : Int) * L * B = A.cells.length := by exact_mod_cast hN
  have hm1 : -9223372036854775808 ≤ (N : Int) * L ∧ (N : Int) * L ≤ 9223372036854775807 := by
    rw [← Int.natCast_mul]; generalize N * L = q at hb1 ⊢; omega
  have hm2 : -9223372036854775808 ≤ (N : Int) * L * B ∧ (N : Int) * L * B ≤ 9223372036854775807 := by omega
  have hcap : 0 ≤ (N : Int) * B ∧ (N : Int) * B ≤ 5000000 := by
    rw [← Int.natCast_mul]; generalize N * B = q at hb2 ⊢; omega
  have hm3 : -9223372036854775808 ≤ (N : Int) * B ∧ (N : Int) * B ≤ 9223372036854775807 := by omega
  refine acalls_of code_oper_Lines (by simp [fn_oper_Lines]) fun C hC => ?_
  refine walk2 ?_
  have hX := linesQ_len A.cells L B (N * B)
  generalize hXd : linesQ A.cells L B (N * B) = X at hX ⊢
  have hXat : ∀ q, q < N * B → X[q]? = some (lineAt A.cells L B q) := fun q hq => by rw [← hXd]; exact linesQ_at A.cells L B (N * B) q hq
  refine aw_loopB [2, 6, 7, 8, 9, 53] [0] (fun i : Nat => [(11, .own 1), (54, .lit (.int .i64 i))]) (fun i => [(1, some ⟨true, false, 24, 1, (X.take (i * B)).map lineV⟩)]) 2
    (fun i => i ≤ N) (fun i => N - i) 0 (Nat.zero_le _) ?_ (hh := by rw [Nat.zero_mul]; rfl)
  rintro i hi
  dsimp only [List.cons_append, List.nil_append]
  by_cases hil : i < N
  · have hib : i * B + B ≤ N * B := by rw [← Nat.succ_mul]; exact Nat.mul_le_mul_right _ hil
    refine walk2 ?_
    refine aw_loopB [2, 6, 7, 8, 9, 53, 54, 12, 57] [0] (fun j : Nat => [(11, .own 1), (58, .lit (.int .i64 j))]) (fun j => [(1, some ⟨true, false, 24, 1, (X.take (i * B + j)).map lineV⟩)]) 2
      (fun j => j ≤ B) (fun j => B - j) 0 (Nat.zero_le _) ?_ (hh := by rw [Nat.add_zero]; rfl)
    rintro j hj
    dsimp only [List.cons_append, List.nil_append]
    by_cases hjl : j < B
    · have hq : i * B + j < N * B := by omega
      have hat := hXat (i * B + j) hq
      generalize hld : lineAt A.cells L B (i * B + j) = line at hat
      have hll : line.length = L := by rw [← hld]; exact lineAt_len _ _ _ _
      have hlI : (line.length : Int) = L := by rw [hll]
      have hlat : ∀ n, n < L → ∀ c, A.cells[(i * L + n) * B + j]? = some c → line[n]? = some c := fun n hn c hc => by rw [← hld]; exact lineAt_at A.cells L B i j n hjl hn hc
      have hlok : ∀ c ∈ line, okC c := by rw [← hld]; exact lineAt_mem (okCs_mem.1 a4) okC_D
      have c1 := vector_a line (by omega) (fun c hc => okC_len (hlok c hc))
      have hms : (X.take (i * B + j)).map lineV ++ [lineV line] = (X.take (i * B + (j + 1))).map lineV := by
        rw [← Nat.add_assoc, takeA_snoc hat]; simp
      have hlm : ((X.take (i * B + j)).map lineV).length = i * B + j := by simp; omega
      have e0 := rowK_zero cellV cellZ line
      rw [hll] at e0
      clear hat hld hXat
      refine walk2 ?_
      refine aw_slot 64 (.lit (.int .i64 L)) (by show AV.lit (.int .i64 (((List.replicate ((L : Int).toNat) cellZ).length : Nat) : Int)) = _; rw [List.length_replicate, Int.toNat_natCast]) ?_
      refine aw_loopB [2, 6, 7, 8, 9, 53, 54, 12, 57, 58, 13, 11, 14, 63, 64] [0, 1] (fun n : Nat => [(65, .lit (.int .i64 n))]) (fun n => [(2, some ⟨true, false, 76, 7, rowK cellV cellZ line n⟩)]) 3
        (fun n => n ≤ L) (fun n => L - n) 0 (Nat.zero_le _) ?_ (hh := by rw [← e0]; rfl)
      rintro n hn
      dsimp only [List.cons_append, List.nil_append]
      by_cases hnl : n < L
      · have hlt := idx3_lt hil hnl hjl
        rw [hN] at hlt
        obtain ⟨c, hc⟩ : ∃ c, A.cells[(i * L + n) * B + j]? = some c := ⟨_, List.getElem?_eq_getElem hlt⟩
        have hln := hlat n hnl c hc
        have hmi : -9223372036854775808 ≤ (i : Int) * L ∧ (i : Int) * L ≤ 9223372036854775807 := by
          have : i * L ≤ N * L := Nat.mul_le_mul_right _ hi
          rw [← Int.natCast_mul]; generalize i * L = q at this; generalize N * L = q2 at this hb1; omega
        have eI : ((i : Int) * L + n) * B = (((i * L + n) * B : Nat) : Int) := by
          rw [Int.natCast_mul, Int.natCast_add, Int.natCast_mul]
        have hmj : -9223372036854775808 ≤ ((i : Int) * L + n) * B ∧ ((i : Int) * L + n) * B ≤ 9223372036854775807 := by
          rw [eI]; generalize (i * L + n) * B = q at hlt; omega
        have hmn : -9223372036854775808 ≤ (i : Int) * L + n ∧ (i : Int) * L + n ≤ 9223372036854775807 := by
          have : i * L ≤ N * L := Nat.mul_le_mul_right _ hi
          rw [← Int.natCast_mul]; generalize i * L = q at this; generalize N * L = q2 at this hb1; omega
        have hix : 0 ≤ ((i : Int) * L + n) * B + j ∧ ((i : Int) * L + n) * B + j < A.cells.length := by
          rw [eI]; generalize (i * L + n) * B = q at hlt; omega
        have hcv : (A.cells.map cellR)[(((i : Int) * L + n) * B + j).toNat]? = some (cellV c) := by
          rw [eI, show ((((i * L + n) * B : Nat) : Int) + (j : Int)).toNat = (i * L + n) * B + j from by generalize (i * L + n) * B = q; omega]
          exact cell_at hc
        have hset := rowK_set cellV cellZ line n c hln
        have hget := rowK_get cellV cellZ line n (by omega)
        have hrl := rowK_len cellV cellZ line n (by omega)
        clear hlt hc hln eI
        refine walk2 ?_
        exact ⟨n + 1, by omega, by omega, wkR hC.m [] (by rw [← hset]; rfl)⟩
      · rw [rowK_end cellV cellZ line n (by omega), show line.map cellV = line.map cellR from by simp [cellR_eq]]
        refine walk2 ?_
        exact ⟨j + 1, by omega, by omega, wkR hC.m [(1, 4)] (by rw [← hms]; rfl)⟩
    · rw [show i * B + j = (i + 1) * B from by rw [Nat.succ_mul]; omega]
      refine walk2 ?_
      exact ⟨i + 1, by omega, by omega, wkR hC.m []⟩
  · rw [show i = N from by omega, List.take_of_length_le (by omega)]
    refine walk2 ?_
    exact fin
set_option maxHeartbeats 1000000 in
theorem refLines_core (A : Arr) (first : Bool) (hA : okA A) (s1 s2 : List Int) (N L B : Nat) (hx : s1.length = axisN A.shape first) (hsh : A.shape = s1 ++ (L : Int) :: s2) (h1 : (cnt A.shape).2 = 0) (he : (cnt (s1 ++ s2)).2 = 0)
    (hn1 : prodL s1 = N) (hn2 : prodL s2 = B) (hN : N * L * B = A.cells.length) (hcl : A.cells.length ≤ 5000) (hbL : L ≤ 5000) (hM : N * B ≤ 5000) :
    ACalls Try.prog 17 [.agg (arrV A), .lit (.bool first)] (.tup [.sl 1 ((linesQ A.cells L B (N * B)).map lineV), .sl 1 (intsA .i64 (s1 ++ s2))]) := by
  have hB : maxB = 1000000000 := rfl
  have lcs := cells_len A
  have lsh := intsA_len .i64 A.shape
  obtain ⟨a1, a2, a3, a4⟩ := hA.parts
  have hl6 := cnt_len h1
  have hshl : A.shape.length = s1.length + (s2.length + 1) := by rw [hsh]; simp
  have c0 := axis26_a A.shape first (by omega) (by omega)
  rw [← hx] at c0
  have c1 := refWithout_a A.shape s1.length (by omega) (by omega)
  have er : A.shape.take s1.length ++ A.shape.drop (s1.length + 1) = s1 ++ s2 := by
    rw [hsh, List.take_left, show s1 ++ (L : Int) :: s2 = (s1 ++ [(L : Int)]) ++ s2 from by simp, List.drop_left' (by simp)]
  rw [er] at c1
  have c2 := places_a (s1 ++ s2) he
  have hpl := placesL_len (s1 ++ s2)
  have hpr : prodL (s1 ++ s2) = ((N * B : Nat) : Int) := by rw [prodL_append, hn1, hn2, Int.natCast_mul]
  rw [hpr, Int.toNat_natCast] at hpl
  have hpat : ∀ q, q < N * B → (placesL (s1 ++ s2))[q]? = some (digR (s1 ++ s2) q).2 := fun q hq => placesL_at (s1 ++ s2) (by rw [hpr]; exact hq)
  have hpl' : (((placesL (s1 ++ s2)).map placeV).length : Int) = (N * B : Nat) := by simp [hpl]
  have hxk : (intsA .i64 A.shape)[((s1.length : Nat) : Int).toNat]? = some [.lit (.int .i64 L)] := by
    rw [Int.toNat_natCast]; refine int_at ?_; rw [hsh]; simp
  refine acalls_of code_scrimref26_Lines (by simp [fn_scrimref26_Lines]) fun C hC => ?_
  have hX := linesQ_len A.cells L B (N * B)
  generalize hXd : linesQ A.cells L B (N * B) = X at hX ⊢
  have hXat : ∀ q, q < N * B → X[q]? = some (lineAt A.cells L B q) := fun q hq => by rw [← hXd]; exact linesQ_at A.cells L B (N * B) q hq
  generalize hPd : placesL (s1 ++ s2) = P at c2 hpl hpat hpl'
  refine walk2 ?_
  refine aw_nil 10 24 1 rfl ?_
  refine aw_loopB [2, 6, 7, 9] [0] (fun q : Nat => [(10, .own 1), (11, .lit (.int .i64 q))]) (fun q => [(1, some ⟨true, false, 24, 1, (X.take q).map lineV⟩)]) 2
    (fun q => q ≤ N * B) (fun q => N * B - q) 0 (Nat.zero_le _) ?_
  rintro q hq
  dsimp only [List.cons_append, List.nil_append]
  by_cases hql : q < N * B
  · have hat := hXat q hql
    have hpq := hpat q hql
    have hpk : (P.map placeV)[((q : Nat) : Int).toNat]? = some [.sl 1 (intsA .i64 (digR (s1 ++ s2) q).2)] := by rw [Int.toNat_natCast]; simp [hpq, placeV]
    have hdl := digR_len (s1 ++ s2) q
    have hpos : 0 < B := by
      rcases Nat.eq_zero_or_pos B with h | h
      · subst h; omega
      · exact h
    have hfind : ∀ n : Nat, n < L → findL (placesL A.shape) (putP (digR (s1 ++ s2) q).2 s1.length n) 0 = (((q / B * L + n) * B + q % B : Nat) : Int) := fun n hn => by
      have hpp : ∀ z ∈ A.shape, 0 < z := pos_of_prod (cnt_small h1) (by
        rw [hsh, prodL_append, prodL_cons, hn1, hn2, ← Int.natCast_mul, ← Int.natCast_mul]
        have hNp : 0 < N := by
          rcases Nat.eq_zero_or_pos N with h | h
          · subst h; omega
          · exact h
        have := Nat.mul_pos hNp (Nat.mul_pos (show 0 < L by omega) hpos)
        omega)
      have e1 := digR_put (s1 := s1) (s2 := s2) (L := (L : Int)) (by rw [← hsh]; exact hpp) (q : Int) (n : Int) (by omega) (by omega) (by omega)
      rw [e1, hn2, ← hsh]
      have e2 : (((q : Int) / (B : Int) * (L : Int) + (n : Int)) * (B : Int) + (q : Int) % (B : Int)) = (((q / B * L + n) * B + q % B : Nat) : Int) := by
        simp only [Int.natCast_add, Int.natCast_mul, Int.natCast_ediv, Int.natCast_emod]
      rw [e2]
      have hlt : (q / B * L + n) * B + q % B < N * L * B := idx3_lt (by rw [Nat.div_lt_iff_lt_mul hpos]; exact hql) hn (Nat.mod_lt _ hpos)
      refine find_digR hpp (by omega) ?_
      rw [← cnt_prod h1]
      have : prodL A.shape = ((N * L * B : Nat) : Int) := by
        rw [hsh, prodL_append, prodL_cons, hn1, hn2, Int.natCast_mul, Int.natCast_mul, Int.mul_assoc]
      rw [cnt_prod h1, this]
      omega
    have hilt : ∀ n : Nat, n < L → (q / B * L + n) * B + q % B < A.cells.length := fun n hn => by
      rw [← hN]; exact idx3_lt (by rw [Nat.div_lt_iff_lt_mul hpos]; exact hql) hn (Nat.mod_lt _ hpos)
    have hms : (X.take q).map lineV ++ [lineV (lineAt A.cells L B q)] = (X.take (q + 1)).map lineV := by
      rw [takeA_snoc hat]; simp
    have hlm : ((X.take q).map lineV).length = q := by simp; omega
    have hll := lineAt_len A.cells L B q
    have hlat : ∀ n, n < L → ∀ c, A.cells[(q / B * L + n) * B + q % B]? = some c → (lineAt A.cells L B q)[n]? = some c := fun n hn c hc => by
      simp only [lineAt, List.getElem?_map, List.getElem?_range hn, Option.map_some, List.getD, hc, Option.getD_some]
    generalize lineAt A.cells L B q = line at hat hms hll hlat
    generalize hpd : (digR (s1 ++ s2) q).2 = p at hpk hdl hfind
    clear hat hXat hpat hpq hpd
    refine walk2 ?_
    refine aw_nil 12 76 7 rfl ?_
    refine aw_loopB [2, 6, 7, 9, 10, 11] [0, 1] (fun n : Nat => [(12, .own 2), (13, .lit (.int .i64 n))]) (fun n => [(2, some ⟨true, false, 76, 7, (line.take n).map cellR⟩)]) 3
      (fun n => n ≤ L) (fun n => L - n) 0 (Nat.zero_le _) ?_
    rintro n hn
    dsimp only [List.cons_append, List.nil_append]
    by_cases hnl : n < L
    · have hlt := hilt n hnl
      obtain ⟨c, hc⟩ : ∃ c, A.cells[(q / B * L + n) * B + q % B]? = some c := ⟨_, List.getElem?_eq_getElem hlt⟩
      have hln := hlat n hnl c hc
      have hcv := cell_at hc
      have c3 := put26_a p s1.length n (by rw [hdl]; simp) (by rw [hdl]; simp; omega)
      have c4 := refIndex_a A.shape (putP p s1.length n) h1
      rw [hfind n hnl] at c4
      generalize (q / B * L + n) * B + q % B = ix at hlt hc hcv c4
      have hcv' : (A.cells.map cellR)[((ix : Nat) : Int).toNat]? = some (cellV c) := by rw [Int.toNat_natCast]; exact hcv
      have hms2 : (line.take n).map cellR ++ [cellV c] = (line.take (n + 1)).map cellR := by
        rw [takeA_snoc hln]; simp [cellR_eq]
      have hlm2 : ((line.take n).map cellR).length = n := by simp; omega
      clear hc hcv hfind hilt hlat hln
      refine walk2 ?_
      exact ⟨n + 1, by omega, by omega, wkR hC.m [(2, 4)] (by rw [← hms2]; rfl)⟩
    · rw [show line.take n = line from List.take_of_length_le (by omega)]
      refine aw_freeze 2 rfl ?_
      refine aw_view 12 rfl rfl ?_
      refine walk2 ?_
      exact ⟨q + 1, by omega, by omega, wkR hC.m [(1, 4)] (by rw [← hms]; rfl)⟩
  · rw [show q = N * B from by omega, List.take_of_length_le (by omega)]
    refine walk2 ?_
    exact fin
end Go.Proofs.Ytfnilbkahkbljaa
