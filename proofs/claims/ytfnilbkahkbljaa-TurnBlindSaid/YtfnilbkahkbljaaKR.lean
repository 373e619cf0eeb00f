/- turn.Reverse and turn.Rotate. -/
import Derived.Test.YtfnilbkahkbljaaKT
import Derived.Test.YtfnilbkahkbljaaKJ
import Derived.Test.YtfnilbkahkbljaaAbsN
namespace Go.Proofs.Ytfnilbkahkbljaa
set_option linter.unusedVariables false
open Go.RowKit

theorem rot2_m (d : List Int) (x : Nat) (j b n : Int) (hj : d[x]? = some j) (h0 : 0 ≤ j) (hb : 0 ≤ b) (hj1 : j ≤ 1000000) (hb1 : b ≤ 1000000) (hn : 0 < n) (hl : d.length ≤ 1000) :
    AMut Try.prog 93 [.own 0, .ep 1 [[.lit (.int .i64 (x : Nat))]] 0 0, .ep 1 [[.lit (.int .i64 b)]] 0 0, .ep 1 [[.lit (.int .i64 n)]] 0 0] [(0, some ⟨true, false, 3, 1, intsA .i64 d⟩)] 1 (.tup []) [(0, some ⟨true, false, 3, 1, intsA .i64 (d.set x ((j + b) % n))⟩)] 1 := by
  have hx := (List.getElem?_eq_some_iff.1 hj).1
  have ls := intsA_len .i64 d
  have hjk : (intsA .i64 d)[((x : Nat) : Int).toNat]? = some [.lit (.int .i64 j)] := int_at hj
  have hset := intsA_set .i64 d x ((j + b) % n)
  refine amut_of code_turn_Rotate_2 (by simp [fn_turn_Rotate_2]) fun C hC => ?_
  refine walk2 ?_
  rw [← hset]
  exact fin_m []

theorem rev2_m (d : List Int) (x : Nat) (j n : Int) (hj : d[x]? = some j) (h0 : 0 ≤ j) (hj1 : j ≤ 1000000) (hn : 0 ≤ n) (hn1 : n ≤ 1000000) (hl : d.length ≤ 1000) :
    AMut Try.prog 98 [.own 0, .ep 1 [[.lit (.int .i64 n)]] 0 0, .ep 1 [[.lit (.int .i64 (x : Nat))]] 0 0] [(0, some ⟨true, false, 3, 1, intsA .i64 d⟩)] 1 (.tup []) [(0, some ⟨true, false, 3, 1, intsA .i64 (d.set x (n - 1 - j))⟩)] 1 := by
  have hx := (List.getElem?_eq_some_iff.1 hj).1
  have ls := intsA_len .i64 d
  have hjk : (intsA .i64 d)[((x : Nat) : Int).toNat]? = some [.lit (.int .i64 j)] := int_at hj
  have hset := intsA_set .i64 d x (n - 1 - j)
  refine amut_of code_turn_Reverse_2 (by simp [fn_turn_Reverse_2]) fun C hC => ?_
  refine walk2 ?_
  rw [← hset]
  exact fin_m []

def axT (A : Arr) (first : Bool) : Nat := if first then 0 else A.shape.length - 1

theorem along0_a (A : Arr) (first : Bool) (h : A.shape = []) : ACalls Try.prog 91 [.agg (arrV A), .lit (.bool first)] (.tup [.lit (.int .i64 0), .lit (.bool false)]) := by
  refine acalls_of code_turn_along (by simp [fn_turn_along]) fun C hC => ?_
  unfold arrV
  rw [h]
  refine walk2 ?_
  exact fin

theorem along1_a (A : Arr) (first : Bool) (h : A.shape.length ≠ 0) (hl : A.shape.length ≤ 6) : ACalls Try.prog 91 [.agg (arrV A), .lit (.bool first)] (.tup [.lit (.int .i64 (axT A first : Nat)), .lit (.bool true)]) := by
  have ls := intsA_len .i64 A.shape
  refine acalls_of code_turn_along (by simp [fn_turn_along]) fun C hC => ?_
  cases first
  · rw [show ((axT A false : Nat) : Int) = (A.shape.length : Int) - 1 from by simp [axT]; omega]
    refine walk2 ?_
    exact fin
  · rw [show ((axT A true : Nat) : Int) = 0 from rfl]
    refine walk2 ?_
    exact fin

/-- how long the axis is; how many cells stand behind a place of it -/
def lenT (A : Arr) (first : Bool) : Nat := (A.shape.getD (axT A first) 0).toNat
def behT (A : Arr) (first : Bool) : Nat := behindN A.shape (axT A first)

def revA (A : Arr) (first : Bool) : Arr := if A.shape = [] then A else .mk A.s A.shape (permL A.cells (fun i => rotI (lenT A first) (behT A first) (lenT A first - 1 - jOf (lenT A first) (behT A first) i) i))
def rotC (A : Arr) (first : Bool) (z : Int) : List Cell := if A.shape = [] then A.cells else permL A.cells (fun i => rotI (lenT A first) (behT A first) ((jOf (lenT A first) (behT A first) i + (z % (lenT A first : Nat)).toNat) % lenT A first) i)

theorem axT_z {A : Arr} (hA : okJ A) (first : Bool) (h : A.shape ≠ []) : A.shape[axT A first]? = some ((lenT A first : Nat) : Int) ∧ lenT A first ≤ 2048 := by
  have h0 : A.shape.length ≠ 0 := fun e => h (List.eq_nil_of_length_eq_zero e)
  have hx : axT A first < A.shape.length := by unfold axT; split <;> omega
  obtain ⟨z, hz⟩ : ∃ z, A.shape[axT A first]? = some z := ⟨_, List.getElem?_eq_getElem hx⟩
  have hs := hA.small z (List.mem_of_getElem? hz)
  have : lenT A first = z.toNat := by unfold lenT; rw [List.getD_eq_getElem?_getD, hz]; rfl
  rw [hz, this]
  exact ⟨by congr 1; omega, by omega⟩

theorem ax_at {A : Arr} (hA : okJ A) (first : Bool) (h : A.shape ≠ []) (hc : 0 < A.cells.length) : Ax A.shape (axT A first) (lenT A first) (aheadN A.shape (axT A first)) (behT A first) :=
  ax_of hA.e (axT_z hA first h).1 (by rw [hA.c]; omega)

theorem movedL_eq {A : Arr} {s : List Int} {g : List Int → List Int} {p : Nat → Nat} (h : ∀ i, i < A.cells.length → idx A.shape (g (digR s (i : Int)).2) = (((p i : Nat) : Int), true)) : movedL A s g = permL A.cells p := by
  show permL A.cells (fun i => (idx A.shape (g (digR s (i : Int)).2)).1.toNat) = _
  exact permL_congr fun i hi => by rw [h i hi]; simp

theorem Ax.idx {A : Arr} (hA : okJ A) {x L Ad B : Nat} (K : Ax A.shape x L Ad B) {i k : Nat} (hi : i < A.cells.length) (hk : k < L) : idx A.shape ((digR A.shape (i : Int)).2.set x (k : Int)) = (((rotI L B k i : Nat) : Int), true) ∧ rotI L B k i < A.cells.length := by
  have hc := hA.c
  have hp := hA.prod
  rw [K.c] at hc
  have hlt : rotI L B k i < Ad * (L * B) := rot_lt K.B_pos hk (by omega)
  rw [(K.dig i).2 k hk]
  exact ⟨idx_digR K.h K.pos (by omega), by omega⟩

set_option maxHeartbeats 2000000 in
theorem reverse_a (A : Arr) (first : Bool) (hA : okJ A) : ACalls Try.prog 45 [.agg (arrV A), .lit (.bool first)] (.agg (arrV (revA A first))) := by
  have hl := hA.len
  unfold revA
  by_cases h : A.shape = []
  · rw [if_pos h]
    have c1 := along0_a A first h
    refine acalls_defer code_turn_Reverse (by simp [fn_turn_Reverse]) idle_turn_Reverse fun C hC => ?_
    refine walk2 ?_
    intro ds
    refine walk2 ?_
    exact fin
  · rw [if_neg h]
    have h0 : A.shape.length ≠ 0 := fun e => h (List.eq_nil_of_length_eq_zero e)
    have c1 := along1_a A first h0 hl
    obtain ⟨hz, hz1⟩ := axT_z hA first h
    have hzk : (intsA .i64 A.shape)[((axT A first : Nat) : Int).toNat]? = some [.lit (.int .i64 ((lenT A first : Nat) : Int))] := int_at hz
    have hxl := (List.getElem?_eq_some_iff.1 hz).1
    have ls := intsA_len .i64 A.shape
    have hk : ∀ i, i < A.cells.length → (setF (axT A first) (fun j => (lenT A first : Nat) - 1 - j) (digR A.shape (i : Int)).2) = (digR A.shape (i : Int)).2.set (axT A first) ((lenT A first - 1 - jOf (lenT A first) (behT A first) i : Nat) : Int) ∧ lenT A first - 1 - jOf (lenT A first) (behT A first) i < lenT A first := fun i hi => by
      have K := ax_at hA first h (by omega)
      have hj := jOf_lt (B := behT A first) K.L_pos i
      have := K.L_pos
      unfold setF
      rw [K.getD i]
      exact ⟨by congr 1; dsimp only; omega, by omega⟩
    have c2 := moved2_a A hA.ok A.shape 98 (.lit (.int .i64 ((lenT A first : Nat) : Int))) (.lit (.int .i64 ((axT A first : Nat) : Int))) (setF (axT A first) (fun j => (lenT A first : Nat) - 1 - j)) hA.e hA.c hA.cells
      (fun i hi => by
        have K := ax_at hA first h (by omega)
        have hj := jOf_lt (B := behT A first) K.L_pos i
        have hd := (K.dig i).1
        have := rev2_m (digR A.shape (i : Int)).2 (axT A first) _ ((lenT A first : Nat) : Int) hd (by omega) (by omega) (by omega) (by omega) (by rw [digR_len]; omega)
        unfold setF
        rw [K.getD i]
        exact this)
      (fun i hi => by
        have K := ax_at hA first h (by omega)
        obtain ⟨k1, k2⟩ := hk i hi
        obtain ⟨k3, k4⟩ := K.idx hA hi k2
        rw [k1]
        exact ⟨_, k4, k3, by rw [List.length_set, digR_len]; omega⟩)
    rw [movedL_eq (p := fun i => rotI (lenT A first) (behT A first) (lenT A first - 1 - jOf (lenT A first) (behT A first) i) i) (fun i hi => by
        have K := ax_at hA first h (by omega)
        obtain ⟨k1, k2⟩ := hk i hi
        rw [k1]
        exact (K.idx hA hi k2).1)] at c2
    generalize permL A.cells (fun i => rotI (lenT A first) (behT A first) (lenT A first - 1 - jOf (lenT A first) (behT A first) i) i) = R at c2 ⊢
    generalize axT A first = x at *
    generalize lenT A first = L at *
    clear hk
    refine acalls_defer code_turn_Reverse (by simp [fn_turn_Reverse]) idle_turn_Reverse fun C hC => ?_
    refine walk2 ?_
    intro ds
    refine walk2 ?_
    refine aw_freeze 2 rfl ?_
    refine aw_freeze 3 rfl ?_
    refine walk2 ?_
    exact fin
end Go.Proofs.Ytfnilbkahkbljaa
namespace Go.Proofs.Ytfnilbkahkbljaa
set_option linter.unusedVariables false
open Go.RowKit

/-- only what is named is kept of a state, in these words -/
theorem aw_keepN {P : Program} {C : Ctx} {Q : Exit → St → Prop} {st : St} {c : ACode} (L H : List Nat) (n : Nat) {kt : List (Nat × AV)} {kh : Hp} (h : AW P C c Q ⟨kt, kh, n⟩)
    (et : (L.map fun k => (k, getT st.t k)) = kt := by rfl) (eh : (H.map fun k => (k, hl st.h k)) = kh := by rfl) (hn : Nat.ble st.nx n = true := by rfl) : AW P C c Q st := by
  subst et eh
  exact aw_weak (weak_keep L H n (Nat.ble_eq ▸ hn)) h

def raiA (A : Arr) (l : Nat) : Arr := .mk (A.s ||| l) A.shape A.cells
theorem raise_a (A : Arr) (l : Nat) (hs : A.s < 18446744073709551616) (hl : l < 18446744073709551616) : ACalls Try.prog 90 [.agg (arrV A), labV l] (.agg (arrV (raiA A l))) := by
  have c1 := join_a A.s l hs hl
  refine acalls_of code_array_Raise (by simp [fn_array_Raise]) fun C hC => ?_
  refine walk2 ?_
  exact fin

theorem okJ_raise {A : Arr} (hA : okJ A) {l : Nat} (hl : l < 18446744073709551616) : okJ (raiA A l) := by
  refine ⟨?_, hA.e, hA.c⟩
  obtain ⟨a1, a2, a3, a4⟩ := hA.ok.parts
  simp only [raiA, okA]
  exact ⟨or_lt _ _ a1 hl, a2, a3, a4⟩

theorem tmod_pos (z : Int) (L : Nat) (h : 0 < L) : -(L : Int) < z.tmod L ∧ z.tmod L < L ∧ (z.tmod L + L) % L = z % L := by
  have h1 := Int.tmod_lt_of_pos z (show (0 : Int) < L by omega)
  have h2 : -(L : Int) < z.tmod L := by
    have := Int.tmod_lt_of_pos (-z) (show (0 : Int) < L by omega)
    rw [Int.neg_tmod] at this; omega
  refine ⟨h2, h1, ?_⟩
  have h3 := Int.mul_tdiv_add_tmod z L
  rw [Int.add_emod_right]
  conv => rhs; rw [← h3]
  rw [Int.mul_add_emod_self_left]

/-- the answer, and its error -/
def rotP (K A : Arr) (first : Bool) : Arr × Int := if (intsR K).2 ≠ 0 then (.mk 0 [] [], (intsR K).2) else match (intsR K).1 with | [z] => (.mk (A.s ||| totA K) A.shape (rotC A first z), 0) | _ => (.mk 0 [] [], 4)

theorem listK1 (l : List Int) : (∃ a, l = [a]) ∨ l.length ≠ 1 := by
  match l with
  | [] => right; simp
  | [a] => left; exact ⟨a, rfl⟩
  | _ :: _ :: _ => right; simp

theorem rotP_len {K A : Arr} {first : Bool} (h0 : (intsR K).2 = 0) (h : (intsR K).1.length ≠ 1) : rotP K A first = (.mk 0 [] [], 4) := by
  unfold rotP
  rw [if_neg (by simp [h0])]
  split
  · rename_i z e; rw [e] at h; simp at h
  · rfl
theorem rotP_ok {K A : Arr} {first : Bool} {z : Int} (h0 : (intsR K).2 = 0) (h : (intsR K).1 = [z]) : rotP K A first = (.mk (A.s ||| totA K) A.shape (rotC A first z), 0) := by
  unfold rotP
  rw [if_neg (by simp [h0]), h]

set_option maxHeartbeats 4000000 in
theorem rotate_a (K A : Arr) (first : Bool) (hK : arrOK K) (kK : okJ K) (hA : okJ A) : ACalls Try.prog 42 [.agg (arrV K), .agg (arrV A), .lit (.bool first)] (.tup [.agg (arrV (rotP K A first).1), .lit (.int .i64 (rotP K A first).2)]) := by
  have hl := hA.len
  have c0 := arrInts_a K hK kK.ok
  have lK := intsA_len .i64 (intsR K).1
  by_cases h0 : (intsR K).2 = 0
  · rcases listK1 (intsR K).1 with ⟨z, hz⟩ | hne
    · rw [rotP_ok h0 hz]
      have hzk : (intsA .i64 (intsR K).1)[(0 : Int).toNat]? = some [.lit (.int .i64 z)] := by rw [hz]; rfl
      have hzl : (((intsR K).1.length : Nat) : Int) = 1 := by rw [hz]; rfl
      rw [h0] at c0
      have htl := totA_lt K kK.ok
      have c1 := total_a K kK.ok
      have c2 := raise_a A (totA K) hA.ok.parts.1 htl
      have kR := okJ_raise hA htl
      generalize totA K = T at *
      generalize (intsR K).1 = l at *
      by_cases h : A.shape = []
      · have c3 := along0_a A first h
        have e : (Arr.mk (A.s ||| T) A.shape (rotC A first z)) = raiA A T := by unfold rotC raiA; rw [if_pos h]
        rw [e]
        generalize raiA A T = R at c2 ⊢
        clear kR
        refine acalls_defer code_turn_Rotate (by simp [fn_turn_Rotate]) idle_turn_Rotate fun C hC => ?_
        refine walk2 ?_
        intro ds
        refine walk2 ?_
        exact fin
      · have hs0 : A.shape.length ≠ 0 := fun e => h (List.eq_nil_of_length_eq_zero e)
        have c3 := along1_a A first hs0 hl
        obtain ⟨hx, hx1⟩ := axT_z hA first h
        have hxk : (intsA .i64 A.shape)[((axT A first : Nat) : Int).toNat]? = some [.lit (.int .i64 ((lenT A first : Nat) : Int))] := int_at hx
        have hxl := (List.getElem?_eq_some_iff.1 hx).1
        have ls := intsA_len .i64 A.shape
        by_cases hL : lenT A first = 0
        · have hnil : A.cells = [] := by
            have hp := hA.prod
            rw [split_at hx, prodL_append, prodL_cons, hL] at hp
            simp at hp
            exact List.eq_nil_of_length_eq_zero (by omega)
          have e : (Arr.mk (A.s ||| T) A.shape (rotC A first z)) = raiA A T := by unfold rotC raiA; rw [if_neg h, hnil]; rfl
          rw [e]
          have hL' : ((lenT A first : Nat) : Int) = 0 := by omega
          generalize raiA A T = R at c2 ⊢
          generalize axT A first = x at *
          generalize lenT A first = L at *
          clear kR e hnil
          refine acalls_defer code_turn_Rotate (by simp [fn_turn_Rotate]) idle_turn_Rotate fun C hC => ?_
          refine walk2 ?_
          intro ds
          refine walk2 ?_
          exact fin
        · have hL0 : 0 < lenT A first := by omega
          obtain ⟨t1, t2, t3⟩ := tmod_pos z (lenT A first) hL0
          have hb0 : 0 ≤ (z.tmod (lenT A first) + lenT A first) % lenT A first := Int.emod_nonneg _ (by omega)
          have hb1 : (z.tmod (lenT A first) + lenT A first) % lenT A first < lenT A first := Int.emod_lt_of_pos _ (by omega)
          have hk : ∀ i, i < A.cells.length → (setF (axT A first) (fun j => (j + (z.tmod (lenT A first) + lenT A first) % lenT A first) % (lenT A first : Nat)) (digR A.shape (i : Int)).2) = (digR A.shape (i : Int)).2.set (axT A first) (((jOf (lenT A first) (behT A first) i + (z % (lenT A first : Nat)).toNat) % lenT A first : Nat) : Int) ∧ (jOf (lenT A first) (behT A first) i + (z % (lenT A first : Nat)).toNat) % lenT A first < lenT A first := fun i hi => by
            have K := ax_at hA first h (by omega)
            unfold setF
            rw [K.getD i]
            refine ⟨?_, Nat.mod_lt _ hL0⟩
            congr 1
            dsimp only
            rw [t3] at hb0 hb1 ⊢
            rw [Int.natCast_emod, Int.natCast_add, Int.toNat_of_nonneg hb0]
          have c4 := moved3_a (raiA A T) kR.ok A.shape 93 (.lit (.int .i64 ((axT A first : Nat) : Int))) (.lit (.int .i64 ((z.tmod (lenT A first) + lenT A first) % lenT A first))) (.lit (.int .i64 ((lenT A first : Nat) : Int)))
            (setF (axT A first) (fun j => (j + (z.tmod (lenT A first) + lenT A first) % lenT A first) % (lenT A first : Nat))) hA.e hA.c hA.cells
            (fun i hi => by
              have hi : i < A.cells.length := hi
              have K := ax_at hA first h (by omega)
              have hj := jOf_lt (B := behT A first) K.L_pos i
              have hd := (K.dig i).1
              have := rot2_m (digR A.shape (i : Int)).2 (axT A first) _ ((z.tmod (lenT A first) + lenT A first) % lenT A first) ((lenT A first : Nat) : Int) hd (by omega) hb0 (by omega) (by omega) (by omega) (by rw [digR_len]; omega)
              unfold setF
              rw [K.getD i]
              exact this)
            (fun i hi => by
              have hi : i < A.cells.length := hi
              have K := ax_at hA first h (by omega)
              obtain ⟨k1, k2⟩ := hk i hi
              obtain ⟨k3, k4⟩ := K.idx hA hi k2
              rw [k1]
              exact ⟨_, k4, k3, by rw [List.length_set, digR_len]; omega⟩)
          rw [movedL_eq (A := raiA A T) (p := fun i => rotI (lenT A first) (behT A first) ((jOf (lenT A first) (behT A first) i + (z % (lenT A first : Nat)).toNat) % lenT A first) i) (fun i hi => by
              have hi : i < A.cells.length := hi
              have K := ax_at hA first h (by omega)
              obtain ⟨k1, k2⟩ := hk i hi
              rw [k1]
              exact (K.idx hA hi k2).1)] at c4
          have e : (Arr.mk (A.s ||| T) A.shape (rotC A first z)) = .mk (raiA A T).s A.shape (permL (raiA A T).cells (fun i => rotI (lenT A first) (behT A first) ((jOf (lenT A first) (behT A first) i + (z % (lenT A first : Nat)).toNat) % lenT A first) i)) := by unfold rotC raiA; rw [if_neg h]; rfl
          rw [e]
          generalize (Arr.mk (raiA A T).s A.shape (permL (raiA A T).cells (fun i => rotI (lenT A first) (behT A first) ((jOf (lenT A first) (behT A first) i + (z % (lenT A first : Nat)).toNat) % lenT A first) i))) = Z at c4 ⊢
          generalize raiA A T = R at c2 c4
          generalize axT A first = x at *
          generalize lenT A first = L at *
          have hLne : ((L : Nat) : Int) ≠ 0 := by omega
          clear hk kR e
          refine acalls_defer code_turn_Rotate (by simp [fn_turn_Rotate]) idle_turn_Rotate fun C hC => ?_
          refine walk2 ?_
          intro ds
          refine walk2 ?_
          refine aw_keepN [4, 6, 7, 9, 10, 12, 13] [1, 2, 3, 4, 5, 6, 7] 8 (kt := [(4, .optr 1 0 0), (6, .optr 2 0 0), (7, .optr 3 0 0), (9, .optr 4 0 0), (10, .optr 5 0 0), (12, .optr 6 0 0), (13, .optr 7 0 0)])
            (kh := [(1, some ⟨false, false, 26, 3, [arrV A]⟩), (2, some ⟨false, false, 26, 3, [[.lit (.int .u64 0), .lit (.slice none 0 0), .lit (.slice none 0 0)]]⟩), (3, some ⟨false, false, 37, 1, [[.lit (.int .i64 0)]]⟩), (4, some ⟨false, false, 26, 3, [arrV R]⟩),
              (5, some ⟨false, false, 3, 1, [[.lit (.int .i64 (x : Nat))]]⟩), (6, some ⟨false, false, 3, 1, [[.lit (.int .i64 (L : Nat))]]⟩), (7, some ⟨false, false, 3, 1, [[.lit (.int .i64 ((z.tmod (L : Int) + L) % L))]]⟩)]) ?_
          refine aw_freeze 5 rfl ?_
          refine aw_freeze 6 rfl ?_
          refine aw_freeze 7 rfl ?_
          refine walk2 ?_
          exact fin
    · rw [rotP_len h0 hne]
      rw [h0] at c0
      have hzl : ¬ (((intsR K).1.length : Nat) : Int) = 1 := by omega
      have hkl : (intsR K).1.length ≤ 1000000000 := by
        have := kK.cells
        unfold intsR
        split
        · simp
        · split
          · rename_i l hl; rw [intsF_len hl]; simp; omega
          · simp
      generalize (intsR K).1 = l at *
      refine acalls_defer code_turn_Rotate (by simp [fn_turn_Rotate]) idle_turn_Rotate fun C hC => ?_
      refine walk2 ?_
      intro ds
      refine walk2 ?_
      exact fin
  · unfold rotP
    rw [if_pos h0]
    generalize (intsR K).1 = l at *
    generalize (intsR K).2 = e at *
    refine acalls_defer code_turn_Rotate (by simp [fn_turn_Rotate]) idle_turn_Rotate fun C hC => ?_
    refine walk2 ?_
    intro ds
    refine walk2 ?_
    exact fin
end Go.Proofs.Ytfnilbkahkbljaa
namespace Go.Proofs.Ytfnilbkahkbljaa
set_option linter.unusedVariables false
open Go.RowKit

end Go.Proofs.Ytfnilbkahkbljaa
namespace Go.Proofs.Ytfnilbkahkbljaa
set_option linter.unusedVariables false
open Go.RowKit

theorem light14_a (A : Arr) (hA : arrOK A) : ACalls Try.prog 40 [.agg (arrV A)] (.lit (.bool (goodA A && decide (A.cells.length ≤ 100)))) := by
  have lcs := cells_len A
  have c1 := good_a A hA
  refine acalls_of code_scrimlaw14_light (by simp [fn_scrimlaw14_light]) fun C hC => ?_
  cases h : goodA A
  · rw [h] at c1
    rw [Bool.false_and]
    refine walk2 ?_
    exact fin
  · rw [h] at c1
    rw [Bool.true_and]
    by_cases hc : A.cells.length ≤ 100
    · rw [decide_eq_true hc]
      refine walk2 ?_
      exact fin
    · rw [decide_eq_false hc]
      refine walk2 ?_
      exact fin

theorem light14_at (A : Arr) (hA : arrOK A) {b : Bool} (h : (goodA A && decide (A.cells.length ≤ 100)) = b) : ACalls Try.prog 40 [.agg (arrV A)] (.lit (.bool b)) := h ▸ light14_a A hA
theorem light_good {A : Arr} (h : (goodA A && decide (A.cells.length ≤ 100)) = true) : goodA A = true := by rw [Bool.and_eq_true] at h; exact h.1

/-- an array of another one's cells, and its shape -/
theorem rot_mem {A : Arr} (hA : okJ A) (first : Bool) (z : Int) : (rotC A first z).length = A.cells.length ∧ ∀ c ∈ rotC A first z, c ∈ A.cells := by
  unfold rotC
  split
  · exact ⟨rfl, fun c hc => hc⟩
  · rename_i h
    refine ⟨permL_len _ _, permL_mem fun i hi => ?_⟩
    have K := ax_at hA first h (by omega)
    exact (K.idx hA hi (Nat.mod_lt _ K.L_pos)).2

theorem rev_mem {A : Arr} (hA : okJ A) (first : Bool) : (revA A first).s = A.s ∧ (revA A first).shape = A.shape ∧ (revA A first).cells.length = A.cells.length ∧ ∀ c ∈ (revA A first).cells, c ∈ A.cells := by
  unfold revA
  split
  · exact ⟨rfl, rfl, rfl, fun c hc => hc⟩
  · rename_i h
    refine ⟨rfl, rfl, permL_len _ _, permL_mem fun i hi => ?_⟩
    have K := ax_at hA first h (by omega)
    have hj := jOf_lt (B := behT A first) K.L_pos i
    have := K.L_pos
    exact (K.idx hA hi (by omega)).2

theorem okJ_same {A R : Arr} (hA : okJ A) (hs : R.s < 18446744073709551616) (hsh : R.shape = A.shape) (hl : R.cells.length = A.cells.length) (hm : ∀ c ∈ R.cells, c ∈ A.cells) : okJ R := by
  obtain ⟨s, sh, cs⟩ := R
  obtain ⟨a1, a2, a3, a4⟩ := hA.ok.parts
  have hc := hA.c
  have he := hA.e
  simp only [Arr.s, Arr.cells] at hs hl hm
  have hsh : sh = A.shape := hsh
  rw [← hsh] at hc he a2
  refine ⟨?_, he, by show (cnt sh).1 = (cs.length : Int); rw [hl]; exact hc⟩
  simp only [okA]
  exact ⟨hs, a2, by rw [hl]; exact a3, okCs_of fun c hc => okCs_mem.1 a4 c (hm c hc)⟩

theorem arrOK_same {A R : Arr} (hA : arrOK A) (hs : R.s < 18446744073709551616) (hsh : R.shape = A.shape) (hl : R.cells.length = A.cells.length) (hm : ∀ c ∈ R.cells, c ∈ A.cells) : arrOK R := by
  obtain ⟨s, sh, cs⟩ := R
  obtain ⟨s2, sh2, cs2⟩ := A
  simp only [Arr.s, Arr.shape, Arr.cells] at *
  subst hsh
  simp only [arrOK] at hA ⊢
  exact ⟨hs, hA.2.1, hA.2.2.1, by rw [hl]; exact hA.2.2.2.1, cellsOK_mem.2 fun c hc => cellsOK_mem.1 hA.2.2.2.2 c (hm c hc)⟩

theorem right_same {A R : Arr} {d : Nat} (hA : rightA d A = true) (hsh : R.shape = A.shape) (hl : R.cells.length = A.cells.length) (hm : ∀ c ∈ R.cells, c ∈ A.cells) : rightA d R = true := by
  obtain ⟨r1, r2, r3⟩ := right_shape hA
  rw [rightA_eq, rcnt_eq, hsh, r1, r2, hl]
  simp only [beq_self_eq_true, Bool.true_and]
  exact rightCs_mem.2 fun c hc => rightCs_mem.1 r3 c (hm c hc)

theorem rotP_cases (K A : Arr) (first : Bool) : ((rotP K A first).2 ≠ 0 ∧ (rotP K A first).1 = .mk 0 [] []) ∨ ∃ z, (intsR K).2 = 0 ∧ (intsR K).1 = [z] ∧ rotP K A first = (.mk (A.s ||| totA K) A.shape (rotC A first z), 0) := by
  by_cases h0 : (intsR K).2 = 0
  · rcases listK1 (intsR K).1 with ⟨z, hz⟩ | hne
    · exact .inr ⟨z, h0, hz, rotP_ok h0 hz⟩
    · rw [rotP_len h0 hne]; exact .inl ⟨by simp, rfl⟩
  · left
    unfold rotP
    rw [if_pos h0]
    exact ⟨h0, rfl⟩

theorem rotP_facts {K A : Arr} (kK : okJ K) (hA : okJ A) (oA : arrOK A) (first : Bool) {d : Nat} (rA : rightA d A = true) : arrOK (rotP K A first).1 ∧ ((rotP K A first).2 = 0 → rightA d (rotP K A first).1 = true ∧ okJ (rotP K A first).1) := by
  rcases rotP_cases K A first with ⟨h1, h2⟩ | ⟨z, _, _, h3⟩
  · exact ⟨by rw [h2]; exact arrOK_zero, fun h => absurd h h1⟩
  · rw [h3]
    have hl := or_lt _ _ oA.parts.1 (totA_lt K kK.ok)
    obtain ⟨m1, m2⟩ := rot_mem hA first z
    exact ⟨arrOK_same oA hl rfl m1 m2, fun _ => ⟨right_same rA rfl m1 m2, okJ_same hA hl rfl m1 m2⟩⟩

theorem smallN_ofZ (z : Int) (h0 : -9223372036854775808 ≤ z) (h1 : z ≤ 9223372036854775807) : smallN (ofZ z) = (z, true) := by
  show (if isOneB [1] then smallV (sgnV (decide (z < 0)) (valL (limbs z.natAbs))) (valL (limbs z.natAbs)) else (0, false)) = _
  rw [if_pos (show isOneB [1] = true from rfl), valL_limbs, sgn_dec]
  unfold smallV
  by_cases hz : z < 0
  · rw [decide_eq_true hz, if_pos rfl, if_pos (by omega)]
    have : -(z.natAbs : Int) = z := by omega
    rw [this]
  · rw [decide_eq_false hz, if_neg (by simp), if_pos (by omega)]
    have : (z.natAbs : Int) = z := by omega
    rw [this]

theorem intsR_alone (z : Int) (h0 : -9223372036854775808 ≤ z) (h1 : z ≤ 9223372036854775807) (s : Nat) : intsR (.mk s [] [intC z]) = ([z], 0) := by
  have hi : intOf (intC z) = some z := by
    show (if (0 : Int) = 0 then (if (smallN (ofZ z)).2 = true then some (smallN (ofZ z)).1 else none) else none) = _
    rw [smallN_ofZ z h0 h1]; rfl
  unfold intsR
  simp only [Arr.shape, Arr.cells, List.length_nil, intsF, hi]
  rfl

theorem totA_alone (z : Int) : totA (.mk 0 [] [intC z]) = 0 := by
  simp [totA, totCs, intC, totC, totAs]

theorem okJ_alone (z : Int) (h : z.natAbs < 2 ^ 64) : okJ (.mk 0 [] [intC z]) := ⟨intsJ_ok [z] [] 0 (by simp) (by simp) (by omega) (by intro y hy; simp at hy; subst hy; exact h), by show (cnt []).2 = 0; decide, by rfl⟩
theorem arrOK_alone (z : Int) (h : z.natAbs < 2 ^ 64) : arrOK (.mk 0 [] [intC z]) := ⟨by omega, by simp, by simp [reachBytes], by simp [reachBytes], intJ_OK z h, trivial⟩

/-- the answer for a number alone -/
theorem rotP_alone (z : Int) (h0 : -9223372036854775808 ≤ z) (h1 : z ≤ 9223372036854775807) (A : Arr) (first : Bool) : rotP (.mk 0 [] [intC z]) A first = (.mk A.s A.shape (rotC A first z), 0) := by
  rw [rotP_ok (z := z) (by rw [intsR_alone z h0 h1]) (by rw [intsR_alone z h0 h1]), totA_alone, Nat.or_zero]

theorem okJ_three (a b c : Int) (ha : a.natAbs < 2 ^ 64) (hb : b.natAbs < 2 ^ 64) (hc : c.natAbs < 2 ^ 64) : okJ (.mk 0 [3] ([a, b, c].map intC)) := ⟨intsJ_ok [a, b, c] [3] 0 (by simp) (by simp) (by omega) (by
  intro y hy; simp only [List.mem_cons, List.not_mem_nil, or_false] at hy; rcases hy with rfl | rfl | rfl <;> assumption), by show (cnt [3]).2 = 0; decide, by rfl⟩
theorem arrOK_three (a b c : Int) (ha : a.natAbs < 2 ^ 64) (hb : b.natAbs < 2 ^ 64) (hc : c.natAbs < 2 ^ 64) : arrOK (.mk 0 [3] ([a, b, c].map intC)) := by
  refine ⟨by omega, fun z hz => by simp at hz; subst hz; decide, by simp [reachBytes], by simp [reachBytes], cellsOK_mem.2 fun y hy => ?_⟩
  simp only [List.map_cons, List.map_nil, List.mem_cons, List.not_mem_nil, or_false] at hy
  rcases hy with rfl | rfl | rfl <;> exact intJ_OK _ (by assumption)
end Go.Proofs.Ytfnilbkahkbljaa
namespace Go.Proofs.Ytfnilbkahkbljaa
set_option linter.unusedVariables false
open Go.RowKit

theorem rot_ex : rotP (.mk 0 [] [intC 1]) (.mk 0 [3] ([1, 2, 3].map intC)) false = (.mk 0 [3] ([2, 3, 1].map intC), 0) := by
  rw [rotP_alone 1 (by omega) (by omega)]; rfl
theorem rev_ex : revA (.mk 0 [3] ([2, 3, 1].map intC)) false = .mk 0 [3] ([1, 3, 2].map intC) := rfl

theorem awake14_a : ACalls Try.prog 41 [] (.lit (.bool true)) := by
  have c1 := alone_a 1 0 (by omega) (by omega)
  have c2 := r11Vector_a [1, 2, 3] 0 (by simp [maxB]) (by intro z hz; simp at hz; omega)
  have c3 := rotate_a _ _ false (arrOK_alone 1 (by decide)) (okJ_alone 1 (by decide)) (okJ_three 1 2 3 (by decide) (by decide) (by decide))
  rw [rot_ex] at c3
  simp only at c3
  have e3 : ((([1, 2, 3] : List Int).length : Nat) : Int) = 3 := rfl
  rw [e3] at c2
  have c4 := reverse_a _ false (okJ_three 2 3 1 (by decide) (by decide) (by decide))
  rw [rev_ex] at c4
  have k5 : True → _ := fun _ => r11Vector_a [2, 3, 1] 0 (by simp [maxB]) (by intro z hz; simp at hz; omega)
  have k6 : True → _ := fun _ => r11Vector_a [1, 3, 2] 0 (by simp [maxB]) (by intro z hz; simp at hz; omega)
  have e5 : ((([2, 3, 1] : List Int).length : Nat) : Int) = 3 := rfl
  have e6 : ((([1, 3, 2] : List Int).length : Nat) : Int) = 3 := rfl
  rw [e5] at k5
  rw [e6] at k6
  have c7 := same_a _ _ (arrOK_three 2 3 1 (by decide) (by decide) (by decide)) (arrOK_three 2 3 1 (by decide) (by decide) (by decide))
  have c8 := same_a _ _ (arrOK_three 1 3 2 (by decide) (by decide) (by decide)) (arrOK_three 1 3 2 (by decide) (by decide) (by decide))
  rw [sameA_refl] at c7 c8
  generalize List.map intC [1, 2, 3] = X at c2 c3
  generalize List.map intC [2, 3, 1] = Y at c3 c4 k5 c7
  generalize List.map intC [1, 3, 2] = Z at c4 k6 c8
  have k2 : True → _ := fun _ => c2
  clear c2
  refine acalls_of code_scrimlaw14_awake (by simp [fn_scrimlaw14_awake]) fun C hC => ?_
  refine walk2 ?_
  refine aw_reg (rrun2 ?_)
  refine r_callF 0 [0] (k2 trivial) ?_
  refine rrun2 ?_
  refine rg_nil ⟨rfl, ?_⟩
  refine walk2 ?_
  refine aw_reg (rrun2 ?_)
  refine r_callF 2 [2] (k5 trivial) ?_
  refine rrun2 ?_
  refine r_callF 3 [3] (k6 trivial) ?_
  refine rrun2 ?_
  refine rg_nil ⟨rfl, ?_⟩
  refine walk2 ?_
  exact fin

end Go.Proofs.Ytfnilbkahkbljaa
