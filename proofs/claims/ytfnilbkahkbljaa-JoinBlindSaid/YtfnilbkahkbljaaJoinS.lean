/- Rows, and arrays as cells. -/
import Derived.Test.YtfnilbkahkbljaaJoinX
import Derived.Test.YtfnilbkahkbljaaTotP
import Derived.Test.YtfnilbkahkbljaaRefAl
namespace Go.Proofs.Ytfnilbkahkbljaa
set_option linter.unusedVariables false
open Go.RowKit

def tblP (A : Arr) : Arr := .mk A.s (match A.shape with | [] => [1, 1] | n :: t => [n, prodC t 1]) A.cells

theorem table_a (A : Arr) (hA : okJ A) : ACalls Try.prog 39 [.agg (arrV A)] (.agg (arrV (tblP A))) := by
  have hB : maxB = 1000000000 := rfl
  obtain ⟨a1, a2, a3, a4⟩ := hA.ok.parts
  have hcl := hA.cells
  have hb : (A.cells.map cellR).length * 104 ≤ 140737488355328 := by simp; omega
  have ls := intsA_len .i64 A.shape
  unfold tblP
  cases e : A.shape with
  | nil =>
    rw [e] at ls
    have ls : (((intsA .i64 []).length : Nat) : Int) = 0 := rfl
    refine acalls_of code_join_Table (by simp [fn_join_Table]) fun C hC => ?_
    unfold arrV
    rw [e]
    refine walk2 ?_
    exact fin
  | cons n t =>
    have c1 := shAround_a A.shape 0 n hA.e (by rw [e]; rfl)
    rw [e] at c1 ls
    simp only [List.take_zero, Nat.zero_add, List.drop_succ_cons, List.drop_zero, Int.natCast_zero] at c1
    have ls2 : 0 < ((n :: t).length : Int) := by simp
    refine acalls_of code_join_Table (by simp [fn_join_Table]) fun C hC => ?_
    unfold arrV
    rw [e]
    refine walk2 ?_
    exact fin

def strP (X Y : Arr) : Arr × Int := if depA X > 8 ∨ depA Y > 8 then (.mk 0 [] [], 7) else (.mk 0 [2] [packC X, packC Y], 0)

theorem packC_ok {A : Arr} (hA : okA A) : okC (packC A) := by
  obtain ⟨a1, a2, a3, a4⟩ := hA.parts
  have hB : maxB = 1000000000 := rfl
  unfold packC
  split
  · split
    · rename_i l k n c ins r he
      rw [he] at a4
      have := a4.1
      simp only [okC] at this ⊢
      exact ⟨or_lt _ _ this.1 a1, this.2⟩
    · simp [okC, okAs, hB]
  · simp only [okC, okAs]
    exact ⟨a1, by simp, by simp, by simp [hB], hA, trivial⟩

theorem strand_a (X Y : Arr) (hX : okA X) (hY : okA Y) (rX : rightA 8 X = true) (rY : rightA 8 Y = true) :
    ACalls Try.prog 38 [.sl 3 ([X, Y].map arrR)] (.tup [.agg (arrV (strP X Y).1), .lit (.int .i64 (strP X Y).2)]) := by
  have hB : maxB = 1000000000 := rfl
  have d1 := depth_a 8 X (by omega) hX rX
  have d2 := depth_a 8 Y (by omega) hY rY
  have p1 := pack_a X hX
  have p2 := pack_a Y hY
  have o1 := (packC_ok hX).parts
  have o2 := (packC_ok hY).parts
  have c1 := vector_a [packC X, packC Y] (by simp) (fun c hc => by
    simp only [List.mem_cons, List.not_mem_nil, or_false] at hc
    rcases hc with rfl | rfl
    · exact ⟨o1.2.1, o1.2.2.1, o1.2.2.2.1⟩
    · exact ⟨o2.2.1, o2.2.2.1, o2.2.2.2.1⟩)
  rw [show ((([packC X, packC Y] : List Cell).length : Nat) : Int) = 2 from rfl] at c1
  have hx0 : ([X, Y].map arrR)[(0 : Int).toNat]? = some (arrV X) := by simp [arrR_eq]
  have hx1 : ([X, Y].map arrR)[(0 + 1 : Int).toNat]? = some (arrV Y) := by simp [arrR_eq]
  have hxl : (([X, Y].map arrR).length : Int) = 2 := rfl
  generalize [X, Y].map arrR = L at hx0 hx1 hxl ⊢
  have hcc : [packC X, packC Y].map cellR = [cellV (packC X), cellV (packC Y)] := by simp [cellR_eq]
  unfold strP
  by_cases h1 : depA X > 8
  · rw [if_pos (.inl h1)]
    clear c1 p1 p2 d2
    refine acalls_defer code_join_Strand (by simp [fn_join_Strand]) idle_join_Strand fun C hC => ?_
    refine walk2 ?_
    intro ds
    refine walk2 ?_
    refine aw_unroll 3 ?_
    refine awr_one ?_
    refine walk2 ?_
    exact fin
  · by_cases h2 : depA Y > 8
    · rw [if_pos (.inr h2)]
      clear c1 p1 p2
      refine acalls_defer code_join_Strand (by simp [fn_join_Strand]) idle_join_Strand fun C hC => ?_
      refine walk2 ?_
      intro ds
      refine walk2 ?_
      refine aw_unroll 3 ?_
      refine awr_one ?_
      refine walk2 ?_
      exact fin
    · rw [if_neg (by omega)]
      rw [hcc] at c1
      refine acalls_defer code_join_Strand (by simp [fn_join_Strand]) idle_join_Strand fun C hC => ?_
      refine walk2 ?_
      intro ds
      refine walk2 ?_
      refine aw_unroll 3 ?_
      refine awr_one ?_
      refine walk2 ?_
      refine aw_unroll 3 ?_
      refine awr_one ?_
      refine walk2 ?_
      exact fin
end Go.Proofs.Ytfnilbkahkbljaa
namespace Go.Proofs.Ytfnilbkahkbljaa
set_option linter.unusedVariables false
open Go.RowKit

theorem flowsN_or (a b o : Nat) : flowsN (a ||| b) o = (flowsN a o && flowsN b o) := by
  unfold flowsN
  rw [Bool.eq_iff_iff]
  simp only [beq_iff_eq, Bool.and_eq_true]
  constructor
  · intro h
    constructor
    · conv => lhs; rw [← h]
      rw [← Nat.or_assoc, ← Nat.or_assoc, Nat.or_self]; exact h
    · conv => lhs; rw [← h]
      rw [Nat.or_comm a b, Nat.or_assoc b a o, ← Nat.or_assoc b b, Nat.or_self, ← Nat.or_assoc, Nat.or_comm b a]; exact h
  · rintro ⟨h1, h2⟩
    rw [Nat.or_assoc, h2, h1]

theorem alikeC_D (o : Nat) : alikeC o cellD cellD = true := by
  simp [cellD, alikeC, numP, intsP, alikeAs]

theorem alikeCs_iff (o : Nat) : ∀ {cs ds : List Cell}, alikeCs o cs ds = true ↔ cs.length = ds.length ∧ ∀ i, alikeC o (cs.getD i cellD) (ds.getD i cellD) = true
  | [], [] => ⟨fun _ => ⟨rfl, fun i => by simpa using alikeC_D o⟩, fun _ => by simp [alikeCs]⟩
  | [], d :: ds => by simp [alikeCs]
  | c :: cs, [] => by simp [alikeCs]
  | c :: cs, d :: ds => by
    rw [alikeCs, Bool.and_eq_true, alikeCs_iff o (cs := cs) (ds := ds)]
    constructor
    · rintro ⟨h1, h2, h3⟩
      refine ⟨by simpa using h2, fun i => ?_⟩
      cases i with
      | zero => simpa using h1
      | succ i => simpa using h3 i
    · rintro ⟨h1, h2⟩
      refine ⟨by simpa using h2 0, by simpa using h1, fun i => by simpa using h2 (i + 1)⟩

theorem alike_catL (o : Nat) (n1 n2 : Nat) (a1 a2 : Bool) {c1 d1 c2 d2 : List Cell} (h1 : alikeCs o c1 d1 = true) (h2 : alikeCs o c2 d2 = true) (m : Nat) :
    alikeCs o (catL n1 n2 a1 c1 a2 c2 m) (catL n1 n2 a1 d1 a2 d2 m) = true := by
  refine (alikeCs_iff o).2 ⟨by simp [catL], fun i => ?_⟩
  by_cases hi : i < m
  · have e : ∀ (x y : List Cell), (catL n1 n2 a1 x a2 y m).getD i cellD = catC n1 n2 a1 x a2 y i := fun x y => by
      unfold catL
      rw [List.getD_eq_getElem?_getD, List.getElem?_map, List.getElem?_range hi]; rfl
    rw [e, e]
    unfold catC cellP
    split
    · exact ((alikeCs_iff o).1 h1).2 _
    · exact ((alikeCs_iff o).1 h2).2 _
  · have e : ∀ (x y : List Cell), (catL n1 n2 a1 x a2 y m).getD i cellD = cellD := fun x y => by
      rw [List.getD_eq_getElem?_getD, List.getElem?_eq_none (by rw [catL_len]; omega)]; rfl
    rw [e, e]
    exact alikeC_D o

/-- what becomes of two arrays hangs on their shapes alone -/
theorem catP_form (sh1 sh2 : List Int) (f : Bool) : (∃ e : Int, e ≠ 0 ∧ ∀ s1 cs1 s2 cs2, (catP (.mk s1 sh1 cs1) (.mk s2 sh2 cs2) f).2 = e) ∨
    (∃ u N1 N2 al bl m, ∀ s1 cs1 s2 cs2, catP (.mk s1 sh1 cs1) (.mk s2 sh2 cs2) f = (.mk (s1 ||| s2) u (catL N1 N2 al cs1 bl cs2 m), 0)) := by
  have hn : ∀ s1 cs1 s2 cs2, axN (.mk s1 sh1 cs1) (.mk s2 sh2 cs2) = axN (.mk 0 sh1 []) (.mk 0 sh2 []) := fun _ _ _ _ => rfl
  have hx : ∀ s1 cs1 s2 cs2, atN (.mk s1 sh1 cs1) (.mk s2 sh2 cs2) f = atN (.mk 0 sh1 []) (.mk 0 sh2 []) f := fun _ _ _ _ => rfl
  unfold catP
  simp only [hn, hx, Arr.shape, Arr.s, Arr.cells]
  generalize axN (.mk 0 sh1 []) (.mk 0 sh2 []) = n
  generalize atN (.mk 0 sh1 []) (.mk 0 sh2 []) f = x
  cases widP sh1 sh2 n x with
  | none => exact .inl ⟨5, by omega, fun _ _ _ _ => rfl⟩
  | some p =>
    obtain ⟨s, al⟩ := p
    cases widP sh2 sh1 n x with
    | none => exact .inl ⟨5, by omega, fun _ _ _ _ => rfl⟩
    | some q =>
      obtain ⟨t, bl⟩ := q
      simp only
      by_cases h : (wholeP s t x (s.getD x 0 + t.getD x 0)).2 = 0
      · right
        exact ⟨_, _, _, _, _, _, fun s1 cs1 s2 cs2 => by rw [if_neg (by simpa using h)]⟩
      · left
        exact ⟨_, h, fun s1 cs1 s2 cs2 => by rw [if_pos h]⟩

theorem alikeA_inv {o : Nat} {A B : Arr} (h : alikeA o A B = true) : (flowsN A.s o = false ∧ flowsN B.s o = false) ∨ (flowsN A.s o = true ∧ flowsN B.s o = true ∧ A.s = B.s ∧ A.shape = B.shape ∧ alikeCs o A.cells B.cells = true) := by
  rw [alikeA_eq] at h
  split at h
  · rename_i hv
    simp only [Bool.and_eq_true, beq_iff_eq] at h
    have := h.2.1
    unfold intsP at this
    exact .inr ⟨hv.1, hv.2, h.1, by simpa using this, h.2.2⟩
  · rename_i hv
    rw [beq_iff_eq] at h
    left
    cases h1 : flowsN A.s o <;> cases h2 : flowsN B.s o <;> simp_all

theorem alikeA_hid {o : Nat} {A B : Arr} (h1 : flowsN A.s o = false) (h2 : flowsN B.s o = false) : alikeA o A B = true := by
  rw [alikeA_eq, h1, h2]; simp

theorem alikeA_seen {o : Nat} {A B : Arr} (hs : A.s = B.s) (hsh : A.shape = B.shape) (hc : alikeCs o A.cells B.cells = true) : alikeA o A B = true := by
  rw [alikeA_eq, hs, hsh, hc]
  split
  · simp [intsP]
  · simp

theorem alike_cat {o : Nat} {A B C D : Arr} (first : Bool) (h1 : alikeA o A B = true) (h2 : alikeA o C D = true) (hs1 : (catP A C first).2 = 0) (hs2 : (catP B D first).2 = 0) : alikeA o (catP A C first).1 (catP B D first).1 = true := by
  have hform : ∀ {X Y : Arr}, (catP X Y first).2 = 0 → (catP X Y first).1.s = X.s ||| Y.s := fun {X Y} h => by
    obtain ⟨s1, sh1, cs1⟩ := X
    obtain ⟨s2, sh2, cs2⟩ := Y
    rcases catP_form sh1 sh2 first with ⟨e, he, hf⟩ | ⟨u, N1, N2, al, bl, m, hf⟩
    · rw [hf] at h; exact absurd h he
    · rw [hf]; rfl
  have f1 := hform hs1
  have f2 := hform hs2
  rcases alikeA_inv h1 with ⟨a1, a2⟩ | ⟨a1, a2, a3, a4, a5⟩
  · exact alikeA_hid (by rw [f1, flowsN_or, a1]; rfl) (by rw [f2, flowsN_or, a2]; rfl)
  · rcases alikeA_inv h2 with ⟨b1, b2⟩ | ⟨b1, b2, b3, b4, b5⟩
    · exact alikeA_hid (by rw [f1, flowsN_or, b1, Bool.and_false]) (by rw [f2, flowsN_or, b2, Bool.and_false])
    · obtain ⟨s1, sh1, cs1⟩ := A
      obtain ⟨s2, sh2, cs2⟩ := B
      obtain ⟨s3, sh3, cs3⟩ := C
      obtain ⟨s4, sh4, cs4⟩ := D
      simp only [Arr.s, Arr.shape, Arr.cells] at a3 a4 a5 b3 b4 b5
      subst a3 a4 b3 b4
      rcases catP_form sh1 sh3 first with ⟨e, he, hf⟩ | ⟨u, N1, N2, al, bl, m, hf⟩
      · rw [hf] at hs1; exact absurd hs1 he
      · rw [hf, hf]
        exact alikeA_seen rfl rfl (alike_catL o N1 N2 al bl a5 b5 m)

theorem alike_tbl {o : Nat} {A B : Arr} (h : alikeA o A B = true) : alikeA o (tblP A) (tblP B) = true := by
  rcases alikeA_inv h with ⟨a1, a2⟩ | ⟨a1, a2, a3, a4, a5⟩
  · exact alikeA_hid a1 a2
  · exact alikeA_seen a3 (by unfold tblP; rw [a4]; rfl) a5

theorem alikeC_hid {o : Nat} {c d : Cell} (h1 : flowsN c.l o = false) (h2 : flowsN d.l o = false) : alikeC o c d = true := by
  rw [alikeC_eq, h1, h2]; simp

theorem one_cell {A : Arr} (h : aloneP A = true) : ∃ l k n c ins, A.cells = [.mk l k n c ins] := by
  have h2 := (aloneP_true h).2
  match hA : A.cells, h2 with
  | [.mk l k n c ins], _ => exact ⟨l, k, n, c, ins, rfl⟩

theorem packC_l {o : Nat} {A : Arr} (h : flowsN A.s o = false) : flowsN (packC A).l o = false := by
  unfold packC
  cases ha : aloneP A
  · rw [if_neg (by simp)]; exact h
  · rw [if_pos rfl]
    obtain ⟨l, k, n, c, ins, e⟩ := one_cell ha
    rw [e]
    simp only [Cell.l]
    rw [flowsN_or, h, Bool.and_false]

theorem alike_pack {o : Nat} {A B : Arr} (h : alikeA o A B = true) : alikeC o (packC A) (packC B) = true := by
  rcases alikeA_inv h with ⟨a1, a2⟩ | ⟨a1, a2, a3, a4, a5⟩
  · exact alikeC_hid (packC_l a1) (packC_l a2)
  · have hl := ((alikeCs_iff o).1 a5).1
    have ha : aloneP A = aloneP B := by unfold aloneP; rw [a4, hl]
    unfold packC
    rw [ha]
    cases hb : aloneP B
    · rw [if_neg (by simp), if_neg (by simp), alikeC_eq]
      simp only [Cell.l, Cell.kind, Cell.c, Cell.n, Cell.ins, alikeAs, h, Bool.and_self, a3, beq_self_eq_true, Bool.true_and]
      split
      · simp [numP, intsP]
      · rfl
    · rw [if_pos rfl, if_pos rfl]
      obtain ⟨l, k, n, c, ins, eA⟩ := one_cell (ha.trans hb)
      obtain ⟨l2, k2, n2, c2, ins2, eB⟩ := one_cell hb
      rw [eA, eB] at a5
      rw [eA, eB]
      simp only [alikeCs, Bool.and_true] at a5
      simp only
      unfold alikeC at a5 ⊢
      have e1 : flowsN (l ||| A.s) o = flowsN l o := by rw [flowsN_or, a1, Bool.and_true]
      have e2 : flowsN (l2 ||| B.s) o = flowsN l2 o := by rw [flowsN_or, a2, Bool.and_true]
      simp only [e1, e2]
      split
      · rename_i hv
        split at a5
        · simp only [Bool.and_eq_true, beq_iff_eq] at a5 ⊢
          exact ⟨by rw [a5.1, a3], a5.2⟩
        · rename_i hn; exact absurd hv hn
      · rename_i hv
        split at a5
        · rename_i hn; exact absurd hn hv
        · exact a5

theorem alike_str {o : Nat} {A B C D : Arr} (h1 : alikeA o A B = true) (h2 : alikeA o C D = true) (hs1 : (strP A C).2 = 0) (hs2 : (strP B D).2 = 0) : alikeA o (strP A C).1 (strP B D).1 = true := by
  unfold strP at hs1 hs2 ⊢
  split at hs1
  · simp at hs1
  · split at hs2
    · simp at hs2
    · rename_i n1 n2
      rw [if_neg n1, if_neg n2]
      exact alikeA_seen rfl rfl (by simp only [Arr.cells, alikeCs, alike_pack h1, alike_pack h2, Bool.and_self])

theorem cellsOK_pack {A : Arr} (hA : arrOK A) : cellOK (packC A) := by
  obtain ⟨a1, a2, a3, a4⟩ := hA.parts
  have hr : reachBytes = 140737488351232 := rfl
  unfold packC
  cases ha : aloneP A
  · rw [if_neg (by simp)]
    simp only [cellOK, arrsOK, numOK]
    exact ⟨a1, by decide, ⟨by simp, by simp, by simp, by simp⟩, by decide, by simp [hr], hA, trivial⟩
  · rw [if_pos rfl]
    obtain ⟨l, k, n, c, ins, e⟩ := one_cell ha
    rw [e] at a4 ⊢
    have := a4.1
    simp only [cellOK] at this ⊢
    exact ⟨or_lt _ _ this.1 a1, this.2⟩

theorem arrOK_str {A B : Arr} (hA : arrOK A) (hB : arrOK B) : arrOK (strP A B).1 := by
  unfold strP
  split
  · exact arrOK_zero
  · exact ⟨by omega, fun z hz => by simp at hz; subst hz; decide, by simp [reachBytes], by simp [reachBytes], cellsOK_pack hA, cellsOK_pack hB, trivial⟩

theorem arrOK_tbl {A : Arr} (kA : okJ A) (hA : arrOK A) : arrOK (tblP A) := by
  obtain ⟨a1, a2, a3, a4⟩ := hA.parts
  have hsm := kA.small
  unfold tblP
  cases e : A.shape with
  | nil => exact ⟨a1, fun z hz => by simp at hz; subst hz; decide, by simp [reachBytes], a3, a4⟩
  | cons n t =>
    have h1 := hsm n (by rw [e]; simp)
    have h2 := prodC_range t 1 (by omega) (by omega) (hsm.mem fun z hz => by rw [e]; simp [hz])
    refine ⟨a1, fun z hz => ?_, by simp [reachBytes], a3, a4⟩
    simp only [List.mem_cons, List.not_mem_nil, or_false] at hz
    rcases hz with rfl | rfl
    · exact i64_wf (by omega) (by omega)
    · exact i64_wf (by omega) (by omega)

theorem rows2 (A C : Arr) : [A, C].map arrR = [arrV A, arrV C] := by simp [arrR_eq]

set_option maxHeartbeats 4000000 in
theorem joinBlind_core (A B C D : Arr) (first : Bool) (o : Nat) (ho : o < 18446744073709551616) (hA : arrOK A) (hB : arrOK B) (hC : arrOK C) (hD : arrOK D) (gA : goodA A = true) (gB : goodA B = true) (gC : goodA C = true) (gD : goodA D = true) (h1 : alikeA o A B = true) (h2 : alikeA o C D = true)
    (R1 R2 S1 S2 : Arr) (e f g h : Int) (hR1 : catP A C first = (R1, e)) (hR2 : catP B D first = (R2, f)) (hS1 : strP A C = (S1, g)) (hS2 : strP B D = (S2, h)) :
    ACalls Try.prog 8 [.agg (arrV A), .agg (arrV B), .agg (arrV C), .agg (arrV D), .lit (.bool first), labV o] (.lit (.bool true)) := by
  have kA := okJ_good hA gA
  have kB := okJ_good hB gB
  have kC := okJ_good hC gC
  have kD := okJ_good hD gD
  have c0 := awake12_a
  have g1 := good_at A hA gA
  have g2 := good_at B hB gB
  have g3 := good_at C hC gC
  have g4 := good_at D hD gD
  have l1 := refAlike_at A B o ho hA hB h1
  have l2 := refAlike_at C D o ho hC hD h2
  have c1 := cat_a A C first kA kC
  have c2 := cat_a B D first kB kD
  have c3 := strand_a A C kA.ok kC.ok (good_right gA) (good_right gC)
  have c4 := strand_a B D kB.ok kD.ok (good_right gB) (good_right gD)
  rw [rows2] at c3 c4
  have oR1 := arrOK_cat kA kC hA hC first
  have oR2 := arrOK_cat kB kD hB hD first
  have oS1 := arrOK_str hA hC
  have oS2 := arrOK_str hB hD
  have aR := alike_cat first h1 h2
  have aS := alike_str h1 h2
  rw [hR1] at c1 oR1 aR
  rw [hR2] at c2 oR2 aR
  rw [hS1] at c3 oS1 aS
  rw [hS2] at c4 oS2 aS
  simp only at c1 c2 c3 c4 oR1 oR2 oS1 oS2 aR aS
  have t1 := table_a A kA
  have t2 := table_a B kB
  have l5 := refAlike_at _ _ o ho (arrOK_tbl kA hA) (arrOK_tbl kB hB) (alike_tbl h1)
  generalize tblP A = T1 at t1 l5
  generalize tblP B = T2 at t2 l5
  have hef : (e = 0 ∧ f = 0 ∧ ACalls Try.prog 37 [.agg (arrV R1), .agg (arrV R2), labV o] (.lit (.bool true))) ∨ (e = 0 ∧ f ≠ 0) ∨ e ≠ 0 := by
    by_cases he : e = 0
    · by_cases hf : f = 0
      · exact .inl ⟨he, hf, refAlike_at R1 R2 o ho oR1 oR2 (aR he hf)⟩
      · exact .inr (.inl ⟨he, hf⟩)
    · exact .inr (.inr he)
  have hgh : (g = 0 ∧ h = 0 ∧ ACalls Try.prog 37 [.agg (arrV S1), .agg (arrV S2), labV o] (.lit (.bool true))) ∨ (g = 0 ∧ h ≠ 0) ∨ g ≠ 0 := by
    by_cases he : g = 0
    · by_cases hf : h = 0
      · exact .inl ⟨he, hf, refAlike_at S1 S2 o ho oS1 oS2 (aS he hf)⟩
      · exact .inr (.inl ⟨he, hf⟩)
    · exact .inr (.inr he)
  have k3 : True → _ := fun _ => c3
  have k4 : True → _ := fun _ => c4
  clear hA hB hC hD gA gB gC gD kA kB kC kD hR1 hR2 hS1 hS2 h1 h2 oR1 oR2 oS1 oS2 aR aS c3 c4
  rcases hef with ⟨rfl, rfl, l3⟩ | ⟨rfl, hf⟩ | he
  all_goals
    refine acalls_of code_scrimlaw12_JoinBlind (by simp [fn_scrimlaw12_JoinBlind]) fun C hC => ?_
    refine walk2 ?_
    refine aw_reg (rrun2 ?_)
    refine r_callF 6 [6] (k3 trivial) ?_
    refine rrun2 ?_
    refine rg_nil ⟨rfl, ?_⟩
    refine walk2 ?_
    refine aw_reg (rrun2 ?_)
    refine r_callF 8 [8] (k4 trivial) ?_
    refine rrun2 ?_
    refine rg_nil ⟨rfl, ?_⟩
    refine walk2 ?_
    rcases hgh with ⟨rfl, rfl, l4⟩ | ⟨rfl, hh⟩ | hg
    all_goals
      refine walk2 ?_
      exact fin

theorem joinBlind_a (A B C D : Arr) (first : Bool) (o : Nat) (hA : arrOK A) (hB : arrOK B) (hC : arrOK C) (hD : arrOK D) (ho : o < 18446744073709551616) :
    ACalls Try.prog 8 [.agg (arrV A), .agg (arrV B), .agg (arrV C), .agg (arrV D), .lit (.bool first), labV o] (.lit (.bool true)) := by
  have c0 := awake12_a
  obtain ⟨a, gA⟩ : ∃ a, goodA A = a := ⟨_, rfl⟩
  obtain ⟨b, gB⟩ : ∃ a, goodA B = a := ⟨_, rfl⟩
  obtain ⟨c, gC⟩ : ∃ a, goodA C = a := ⟨_, rfl⟩
  obtain ⟨d, gD⟩ : ∃ a, goodA D = a := ⟨_, rfl⟩
  obtain ⟨x, h1⟩ : ∃ a, alikeA o A B = a := ⟨_, rfl⟩
  obtain ⟨y, h2⟩ : ∃ a, alikeA o C D = a := ⟨_, rfl⟩
  have g1 := good_at A hA gA
  have g2 := good_at B hB gB
  have g3 := good_at C hC gC
  have g4 := good_at D hD gD
  have l1 := refAlike_at A B o ho hA hB h1
  have l2 := refAlike_at C D o ho hC hD h2
  cases a
  · refine acalls_of code_scrimlaw12_JoinBlind (by simp [fn_scrimlaw12_JoinBlind]) fun C hC => ?_
    refine walk2 ?_
    exact fin
  cases b
  · refine acalls_of code_scrimlaw12_JoinBlind (by simp [fn_scrimlaw12_JoinBlind]) fun C hC => ?_
    refine walk2 ?_
    exact fin
  cases c
  · refine acalls_of code_scrimlaw12_JoinBlind (by simp [fn_scrimlaw12_JoinBlind]) fun C hC => ?_
    refine walk2 ?_
    exact fin
  cases d
  · refine acalls_of code_scrimlaw12_JoinBlind (by simp [fn_scrimlaw12_JoinBlind]) fun C hC => ?_
    refine walk2 ?_
    exact fin
  cases x
  · refine acalls_of code_scrimlaw12_JoinBlind (by simp [fn_scrimlaw12_JoinBlind]) fun C hC => ?_
    refine walk2 ?_
    exact fin
  cases y
  · refine acalls_of code_scrimlaw12_JoinBlind (by simp [fn_scrimlaw12_JoinBlind]) fun C hC => ?_
    refine walk2 ?_
    exact fin
  exact joinBlind_core A B C D first o ho hA hB hC hD gA gB gC gD h1 h2 _ _ _ _ _ _ _ _ rfl rfl rfl rfl
end Go.Proofs.Ytfnilbkahkbljaa
