/- turn.Reverse and turn.Rotate. -/
import Derived.Test.YtfnilbkahkbljaaTurnP
import Derived.Test.YtfnilbkahkbljaaTotP
import Derived.Test.YtfnilbkahkbljaaIntsP
import Derived.Test.YtfnilbkahkbljaaAbsN
namespace Go.Proofs.Ytfnilbkahkbljaa
set_option linter.unusedVariables false
open Go.RowKit

theorem rot2_m (d : List Int) (x : Nat) (j b n : Int) (hj : d[x]? = some j) (h0 : 0 ≤ j) (hb : 0 ≤ b) (hj1 : j ≤ 1000000) (hb1 : b ≤ 1000000) (hn : 0 < n) (hl : d.length ≤ 1000) :
    AMut Try.prog 93 [.own 0, .ep 1 [[.lit (.int .i64 (x : Nat))]] 0 0, .ep 1 [[.lit (.int .i64 b)]] 0 0, .ep 1 [[.lit (.int .i64 n)]] 0 0] [(0, some ⟨true, false, 3, 1, intsA .i64 d⟩)] 1 (.tup []) [(0, some ⟨true, false, 3, 1, intsA .i64 (d.set x ((j + b) % n))⟩)] 1 := by
  have hx := (List.getElem?_eq_some_iff.1 hj).1
  have ls := intsA_len .i64 d
  have hjk : (intsA .i64 d)[((x : Nat) : Int).toNat]? = some [.lit (.int .i64 j)] := int_at hj
  have hset := intsA_set .i64 d x ((j + b) % n)
  refine amut_of code_turn_Rotate_2 (by simp [fn_turn_Rotate_2]) fun C hC => ?_
  refine walk2 ?_
  rw [← hset]
  exact fin_m []

theorem rev2_m (d : List Int) (x : Nat) (j n : Int) (hj : d[x]? = some j) (h0 : 0 ≤ j) (hj1 : j ≤ 1000000) (hn : 0 ≤ n) (hn1 : n ≤ 1000000) (hl : d.length ≤ 1000) :
    AMut Try.prog 98 [.own 0, .ep 1 [[.lit (.int .i64 n)]] 0 0, .ep 1 [[.lit (.int .i64 (x : Nat))]] 0 0] [(0, some ⟨true, false, 3, 1, intsA .i64 d⟩)] 1 (.tup []) [(0, some ⟨true, false, 3, 1, intsA .i64 (d.set x (n - 1 - j))⟩)] 1 := by
  have hx := (List.getElem?_eq_some_iff.1 hj).1
  have ls := intsA_len .i64 d
  have hjk : (intsA .i64 d)[((x : Nat) : Int).toNat]? = some [.lit (.int .i64 j)] := int_at hj
  have hset := intsA_set .i64 d x (n - 1 - j)
  refine amut_of code_turn_Reverse_2 (by simp [fn_turn_Reverse_2]) fun C hC => ?_
  refine walk2 ?_
  rw [← hset]
  exact fin_m []

def axT (A : Arr) (first : Bool) : Nat := if first then 0 else A.shape.length - 1

theorem along0_a (A : Arr) (first : Bool) (h : A.shape = []) : ACalls Try.prog 91 [.agg (arrV A), .lit (.bool first)] (.tup [.lit (.int .i64 0), .lit (.bool false)]) := by
  refine acalls_of code_turn_along (by simp [fn_turn_along]) fun C hC => ?_
  unfold arrV
  rw [h]
  refine walk2 ?_
  exact fin

theorem along1_a (A : Arr) (first : Bool) (h : A.shape.length ≠ 0) (hl : A.shape.length ≤ 6) : ACalls Try.prog 91 [.agg (arrV A), .lit (.bool first)] (.tup [.lit (.int .i64 (axT A first : Nat)), .lit (.bool true)]) := by
  have ls := intsA_len .i64 A.shape
  refine acalls_of code_turn_along (by simp [fn_turn_along]) fun C hC => ?_
  cases first
  · rw [show ((axT A false : Nat) : Int) = (A.shape.length : Int) - 1 from by simp [axT]; omega]
    refine walk2 ?_
    exact fin
  · rw [show ((axT A true : Nat) : Int) = 0 from rfl]
    refine walk2 ?_
    exact fin

/-- how long the axis is; how many cells stand behind a place of it -/
def lenT (A : Arr) (first : Bool) : Nat := (A.shape.getD (axT A first) 0).toNat
def behT (A : Arr) (first : Bool) : Nat := behindN A.shape (axT A first)

def revA (A : Arr) (first : Bool) : Arr := if A.shape = [] then A else .mk A.s A.shape (permL A.cells (fun i => rotI (lenT A first) (behT A first) (lenT A first - 1 - jOf (lenT A first) (behT A first) i) i))
def rotC (A : Arr) (first : Bool) (z : Int) : List Cell := if A.shape = [] then A.cells else permL A.cells (fun i => rotI (lenT A first) (behT A first) ((jOf (lenT A first) (behT A first) i + (z % (lenT A first : Nat)).toNat) % lenT A first) i)

theorem axT_z {A : Arr} (hA : okJ A) (first : Bool) (h : A.shape ≠ []) : A.shape[axT A first]? = some ((lenT A first : Nat) : Int) ∧ lenT A first ≤ 2048 := by
  have h0 : A.shape.length ≠ 0 := fun e => h (List.eq_nil_of_length_eq_zero e)
  have hx : axT A first < A.shape.length := by unfold axT; split <;> omega
  obtain ⟨z, hz⟩ : ∃ z, A.shape[axT A first]? = some z := ⟨_, List.getElem?_eq_getElem hx⟩
  have hs := hA.small z (List.mem_of_getElem? hz)
  have : lenT A first = z.toNat := by unfold lenT; rw [List.getD_eq_getElem?_getD, hz]; rfl
  rw [hz, this]
  exact ⟨by congr 1; omega, by omega⟩

theorem ax_at {A : Arr} (hA : okJ A) (first : Bool) (h : A.shape ≠ []) (hc : 0 < A.cells.length) : Ax A.shape (axT A first) (lenT A first) (aheadN A.shape (axT A first)) (behT A first) :=
  ax_of hA.e (axT_z hA first h).1 (by rw [hA.c]; omega)

theorem movedL_eq {A : Arr} {s : List Int} {g : List Int → List Int} {p : Nat → Nat} (h : ∀ i, i < A.cells.length → idx A.shape (g (digR s (i : Int)).2) = (((p i : Nat) : Int), true)) : movedL A s g = permL A.cells p := by
  show permL A.cells (fun i => (idx A.shape (g (digR s (i : Int)).2)).1.toNat) = _
  exact permL_congr fun i hi => by rw [h i hi]; simp

theorem Ax.idx {A : Arr} (hA : okJ A) {x L Ad B : Nat} (K : Ax A.shape x L Ad B) {i k : Nat} (hi : i < A.cells.length) (hk : k < L) : idx A.shape ((digR A.shape (i : Int)).2.set x (k : Int)) = (((rotI L B k i : Nat) : Int), true) ∧ rotI L B k i < A.cells.length := by
  have hc := hA.c
  have hp := hA.prod
  rw [K.c] at hc
  have hlt : rotI L B k i < Ad * (L * B) := rot_lt K.B_pos hk (by omega)
  rw [(K.dig i).2 k hk]
  exact ⟨idx_digR K.h K.pos (by omega), by omega⟩

set_option maxHeartbeats 2000000 in
theorem reverse_a (A : Arr) (first : Bool) (hA : okJ A) : ACalls Try.prog 45 [.agg (arrV A), .lit (.bool first)] (.agg (arrV (revA A first))) := by
  have hl := hA.len
  unfold revA
  by_cases h : A.shape = []
  · rw [if_pos h]
    have c1 := along0_a A first h
    refine acalls_defer code_turn_Reverse (by simp [fn_turn_Reverse]) idle_turn_Reverse fun C hC => ?_
    refine walk2 ?_
    intro ds
    refine walk2 ?_
    exact fin
  · rw [if_neg h]
    have h0 : A.shape.length ≠ 0 := fun e => h (List.eq_nil_of_length_eq_zero e)
    have c1 := along1_a A first h0 hl
    obtain ⟨hz, hz1⟩ := axT_z hA first h
    have hzk : (intsA .i64 A.shape)[((axT A first : Nat) : Int).toNat]? = some [.lit (.int .i64 ((lenT A first : Nat) : Int))] := int_at hz
    have hxl := (List.getElem?_eq_some_iff.1 hz).1
    have ls := intsA_len .i64 A.shape
    have hk : ∀ i, i < A.cells.length → (setF (axT A first) (fun j => (lenT A first : Nat) - 1 - j) (digR A.shape (i : Int)).2) = (digR A.shape (i : Int)).2.set (axT A first) ((lenT A first - 1 - jOf (lenT A first) (behT A first) i : Nat) : Int) ∧ lenT A first - 1 - jOf (lenT A first) (behT A first) i < lenT A first := fun i hi => by
      have K := ax_at hA first h (by omega)
      have hj := jOf_lt (B := behT A first) K.L_pos i
      have := K.L_pos
      unfold setF
      rw [K.getD i]
      exact ⟨by congr 1; dsimp only; omega, by omega⟩
    have c2 := moved2_a A hA.ok A.shape 98 (.lit (.int .i64 ((lenT A first : Nat) : Int))) (.lit (.int .i64 ((axT A first : Nat) : Int))) (setF (axT A first) (fun j => (lenT A first : Nat) - 1 - j)) hA.e hA.c hA.cells
      (fun i hi => by
        have K := ax_at hA first h (by omega)
        have hj := jOf_lt (B := behT A first) K.L_pos i
        have hd := (K.dig i).1
        have := rev2_m (digR A.shape (i : Int)).2 (axT A first) _ ((lenT A first : Nat) : Int) hd (by omega) (by omega) (by omega) (by omega) (by rw [digR_len]; omega)
        unfold setF
        rw [K.getD i]
        exact this)
      (fun i hi => by
        have K := ax_at hA first h (by omega)
        obtain ⟨k1, k2⟩ := hk i hi
        obtain ⟨k3, k4⟩ := K.idx hA hi k2
        rw [k1]
        exact ⟨_, k4, k3, by rw [List.length_set, digR_len]; omega⟩)
    rw [movedL_eq (p := fun i => rotI (lenT A first) (behT A first) (lenT A first - 1 - jOf (lenT A first) (behT A first) i) i) (fun i hi => by
        have K := ax_at hA first h (by omega)
        obtain ⟨k1, k2⟩ := hk i hi
        rw [k1]
        exact (K.idx hA hi k2).1)] at c2
    generalize permL A.cells (fun i => rotI (lenT A first) (behT A first) (lenT A first - 1 - jOf (lenT A first) (behT A first) i) i) = R at c2 ⊢
    generalize axT A first = x at *
    generalize lenT A first = L at *
    clear hk
    refine acalls_defer code_turn_Reverse (by simp [fn_turn_Reverse]) idle_turn_Reverse fun C hC => ?_
    refine walk2 ?_
    intro ds
    refine walk2 ?_
    refine aw_freeze 2 rfl ?_
    refine aw_freeze 3 rfl ?_
    refine walk2 ?_
    exact fin
end Go.Proofs.Ytfnilbkahkbljaa
namespace Go.Proofs.Ytfnilbkahkbljaa
set_option linter.unusedVariables false
open Go.RowKit

/-- only what is named is kept of a state, in these words -/
theorem aw_keepN {P : Program} {C : Ctx} {Q : Exit → St → Prop} {st : St} {c : ACode} (L H : List Nat) (n : Nat) {kt : List (Nat × AV)} {kh : Hp} (h : AW P C c Q ⟨kt, kh, n⟩)
    (et : (L.map fun k => (k, getT st.t k)) = kt := by rfl) (eh : (H.map fun k => (k, hl st.h k)) = kh := by rfl) (hn : Nat.ble st.nx n = true := by rfl) : AW P C c Q st := by
  subst et eh
  exact aw_weak (weak_keep L H n (Nat.ble_eq ▸ hn)) h

def raiA (A : Arr) (l : Nat) : Arr := .mk (A.s ||| l) A.shape A.cells
theorem raise_a (A : Arr) (l : Nat) (hs : A.s < 18446744073709551616) (hl : l < 18446744073709551616) : ACalls Try.prog 90 [.agg (arrV A), labV l] (.agg (arrV (raiA A l))) := by
  have c1 := join_a A.s l hs hl
  refine acalls_of code_array_Raise (by simp [fn_array_Raise]) fun C hC => ?_
  refine walk2 ?_
  exact fin

theorem okJ_raise {A : Arr} (hA : okJ A) {l : Nat} (hl : l < 18446744073709551616) : okJ (raiA A l) := by
  refine ⟨?_, hA.e, hA.c⟩
  obtain ⟨a1, a2, a3, a4⟩ := hA.ok.parts
  simp only [raiA, okA]
  exact ⟨or_lt _ _ a1 hl, a2, a3, a4⟩

theorem tmod_pos (z : Int) (L : Nat) (h : 0 < L) : -(L : Int) < z.tmod L ∧ z.tmod L < L ∧ (z.tmod L + L) % L = z % L := by
  have h1 := Int.tmod_lt_of_pos z (show (0 : Int) < L by omega)
  have h2 : -(L : Int) < z.tmod L := by
    have := Int.tmod_lt_of_pos (-z) (show (0 : Int) < L by omega)
    rw [Int.neg_tmod] at this; omega
  refine ⟨h2, h1, ?_⟩
  have h3 := Int.mul_tdiv_add_tmod z L
  rw [Int.add_emod_right]
  conv => rhs; rw [← h3]
  rw [Int.mul_add_emod_self_left]

/-- the answer, and its error -/
def rotP (K A : Arr) (first : Bool) : Arr × Int := if (intsR K).2 ≠ 0 then (.mk 0 [] [], (intsR K).2) else match (intsR K).1 with | [z] => (.mk (A.s ||| totA K) A.shape (rotC A first z), 0) | _ => (.mk 0 [] [], 4)

theorem listK1 (l : List Int) : (∃ a, l = [a]) ∨ l.length ≠ 1 := by
  match l with
  | [] => right; simp
  | [a] => left; exact ⟨a, rfl⟩
  | _ :: _ :: _ => right; simp

theorem rotP_len {K A : Arr} {first : Bool} (h0 : (intsR K).2 = 0) (h : (intsR K).1.length ≠ 1) : rotP K A first = (.mk 0 [] [], 4) := by
  unfold rotP
  rw [if_neg (by simp [h0])]
  split
  · rename_i z e; rw [e] at h; simp at h
  · rfl
theorem rotP_ok {K A : Arr} {first : Bool} {z : Int} (h0 : (intsR K).2 = 0) (h : (intsR K).1 = [z]) : rotP K A first = (.mk (A.s ||| totA K) A.shape (rotC A first z), 0) := by
  unfold rotP
  rw [if_neg (by simp [h0]), h]

set_option maxHeartbeats 4000000 in
theorem rotate_a (K A : Arr) (first : Bool) (hK : arrOK K) (kK : okJ K) (hA : okJ A) : ACalls Try.prog 42 [.agg (arrV K), .agg (arrV A), .lit (.bool first)] (.tup [.agg (arrV (rotP K A first).1), .lit (.int .i64 (rotP K A first).2)]) := by
  have hl := hA.len
  have c0 := arrInts_a K hK kK.ok
  have lK := intsA_len .i64 (intsR K).1
  by_cases h0 : (intsR K).2 = 0
  · rcases listK1 (intsR K).1 with ⟨z, hz⟩ | hne
    · rw [rotP_ok h0 hz]
      have hzk : (intsA .i64 (intsR K).1)[(0 : Int).toNat]? = some [.lit (.int .i64 z)] := by rw [hz]; rfl
      have hzl : (((intsR K).1.length : Nat) : Int) = 1 := by rw [hz]; rfl
      rw [h0] at c0
      have htl := totA_lt K kK.ok
      have c1 := total_a K kK.ok
      have c2 := raise_a A (totA K) hA.ok.parts.1 htl
      have kR := okJ_raise hA htl
      generalize totA K = T at *
      generalize (intsR K).1 = l at *
      by_cases h : A.shape = []
      · have c3 := along0_a A first h
        have e : (Arr.mk (A.s ||| T) A.shape (rotC A first z)) = raiA A T := by unfold rotC raiA; rw [if_pos h]
        rw [e]
        generalize raiA A T = R at c2 ⊢
        clear kR
        refine acalls_defer code_turn_Rotate (by simp [fn_turn_Rotate]) idle_turn_Rotate fun C hC => ?_
        refine walk2 ?_
        intro ds
        refine walk2 ?_
        exact fin
      · have hs0 : A.shape.length ≠ 0 := fun e => h (List.eq_nil_of_length_eq_zero e)
        have c3 := along1_a A first hs0 hl
        obtain ⟨hx, hx1⟩ := axT_z hA first h
        have hxk : (intsA .i64 A.shape)[((axT A first : Nat) : Int).toNat]? = some [.lit (.int .i64 ((lenT A first : Nat) : Int))] := int_at hx
        have hxl := (List.getElem?_eq_some_iff.1 hx).1
        have ls := intsA_len .i64 A.shape
        by_cases hL : lenT A first = 0
        · have hnil : A.cells = [] := by
            have hp := hA.prod
            rw [split_at hx, prodL_append, prodL_cons, hL] at hp
            simp at hp
            exact List.eq_nil_of_length_eq_zero (by omega)
          have e : (Arr.mk (A.s ||| T) A.shape (rotC A first z)) = raiA A T := by unfold rotC raiA; rw [if_neg h, hnil]; rfl
          rw [e]
          have hL' : ((lenT A first : Nat) : Int) = 0 := by omega
          generalize raiA A T = R at c2 ⊢
          generalize axT A first = x at *
          generalize lenT A first = L at *
          clear kR e hnil
          refine acalls_defer code_turn_Rotate (by simp [fn_turn_Rotate]) idle_turn_Rotate fun C hC => ?_
          refine walk2 ?_
          intro ds
          refine walk2 ?_
          exact fin
        · have hL0 : 0 < lenT A first := by omega
          obtain ⟨t1, t2, t3⟩ := tmod_pos z (lenT A first) hL0
          have hb0 : 0 ≤ (z.tmod (lenT A first) + lenT A first) % lenT A first := Int.emod_nonneg _ (by omega)
          have hb1 : (z.tmod (lenT A first) + lenT A first) % lenT A first < lenT A first := Int.emod_lt_of_pos _ (by omega)
          have hk : ∀ i, i < A.cells.length → (setF (axT A first) (fun j => (j + (z.tmod (lenT A first) + lenT A first) % lenT A first) % (lenT A first : Nat)) (digR A.shape (i : Int)).2) = (digR A.shape (i : Int)).2.set (axT A first) (((jOf (lenT A first) (behT A first) i + (z % (lenT A first : Nat)).toNat) % lenT A first : Nat) : Int) ∧ (jOf (lenT A first) (behT A first) i + (z % (lenT A first : Nat)).toNat) % lenT A first < lenT A first := fun i hi => by
            have K := ax_at hA first h (by omega)
            unfold setF
            rw [K.getD i]
            refine ⟨?_, Nat.mod_lt _ hL0⟩
            congr 1
            dsimp only
            rw [t3] at hb0 hb1 ⊢
            rw [Int.natCast_emod, Int.natCast_add, Int.toNat_of_nonneg hb0]
          have c4 := moved3_a (raiA A T) kR.ok A.shape 93 (.lit (.int .i64 ((axT A first : Nat) : Int))) (.lit (.int .i64 ((z.tmod (lenT A first) + lenT A first) % lenT A first))) (.lit (.int .i64 ((lenT A first : Nat) : Int)))
            (setF (axT A first) (fun j => (j + (z.tmod (lenT A first) + lenT A first) % lenT A first) % (lenT A first : Nat))) hA.e hA.c hA.cells
            (fun i hi => by
              have hi : i < A.cells.length := hi
              have K := ax_at hA first h (by omega)
              have hj := jOf_lt (B := behT A first) K.L_pos i
              have hd := (K.dig i).1
              have := rot2_m (digR A.shape (i : Int)).2 (axT A first) _ ((z.tmod (lenT A first) + lenT A first) % lenT A first) ((lenT A first : Nat) : Int) hd (by omega) hb0 (by omega) (by omega) (by omega) (by rw [digR_len]; omega)
              unfold setF
              rw [K.getD i]
              exact this)
            (fun i hi => by
              have hi : i < A.cells.length := hi
              have K := ax_at hA first h (by omega)
              obtain ⟨k1, k2⟩ := hk i hi
              obtain ⟨k3, k4⟩ := K.idx hA hi k2
              rw [k1]
              exact ⟨_, k4, k3, by rw [List.length_set, digR_len]; omega⟩)
          rw [movedL_eq (A := raiA A T) (p := fun i => rotI (lenT A first) (behT A first) ((jOf (lenT A first) (behT A first) i + (z % (lenT A first : Nat)).toNat) % lenT A first) i) (fun i hi => by
              have hi : i < A.cells.length := hi
              have K := ax_at hA first h (by omega)
              obtain ⟨k1, k2⟩ := hk i hi
              rw [k1]
              exact (K.idx hA hi k2).1)] at c4
          have e : (Arr.mk (A.s ||| T) A.shape (rotC A first z)) = .mk (raiA A T).s A.shape (permL (raiA A T).cells (fun i => rotI (lenT A first) (behT A first) ((jOf (lenT A first) (behT A first) i + (z % (lenT A first : Nat)).toNat) % lenT A first) i)) := by unfold rotC raiA; rw [if_neg h]; rfl
          rw [e]
          generalize (Arr.mk (raiA A T).s A.shape (permL (raiA A T).cells (fun i => rotI (lenT A first) (behT A first) ((jOf (lenT A first) (behT A first) i + (z % (lenT A first : Nat)).toNat) % lenT A first) i))) = Z at c4 ⊢
          generalize raiA A T = R at c2 c4
          generalize axT A first = x at *
          generalize lenT A first = L at *
          have hLne : ((L : Nat) : Int) ≠ 0 := by omega
          clear hk kR e
          refine acalls_defer code_turn_Rotate (by simp [fn_turn_Rotate]) idle_turn_Rotate fun C hC => ?_
          refine walk2 ?_
          intro ds
          refine walk2 ?_
          refine aw_keepN [4, 6, 7, 9, 10, 12, 13] [1, 2, 3, 4, 5, 6, 7] 8 (kt := [(4, .optr 1 0 0), (6, .optr 2 0 0), (7, .optr 3 0 0), (9, .optr 4 0 0), (10, .optr 5 0 0), (12, .optr 6 0 0), (13, .optr 7 0 0)])
            (kh := [(1, some ⟨false, false, 26, 3, [arrV A]⟩), (2, some ⟨false, false, 26, 3, [[.lit (.int .u64 0), .lit (.slice none 0 0), .lit (.slice none 0 0)]]⟩), (3, some ⟨false, false, 37, 1, [[.lit (.int .i64 0)]]⟩), (4, some ⟨false, false, 26, 3, [arrV R]⟩),
              (5, some ⟨false, false, 3, 1, [[.lit (.int .i64 (x : Nat))]]⟩), (6, some ⟨false, false, 3, 1, [[.lit (.int .i64 (L : Nat))]]⟩), (7, some ⟨false, false, 3, 1, [[.lit (.int .i64 ((z.tmod (L : Int) + L) % L))]]⟩)]) ?_
          refine aw_freeze 5 rfl ?_
          refine aw_freeze 6 rfl ?_
          refine aw_freeze 7 rfl ?_
          refine walk2 ?_
          exact fin
    · rw [rotP_len h0 hne]
      rw [h0] at c0
      have hzl : ¬ (((intsR K).1.length : Nat) : Int) = 1 := by omega
      have hkl : (intsR K).1.length ≤ 1000000000 := by
        have := kK.cells
        unfold intsR
        split
        · simp
        · split
          · rename_i l hl; rw [intsF_len hl]; simp; omega
          · simp
      generalize (intsR K).1 = l at *
      refine acalls_defer code_turn_Rotate (by simp [fn_turn_Rotate]) idle_turn_Rotate fun C hC => ?_
      refine walk2 ?_
      intro ds
      refine walk2 ?_
      exact fin
  · unfold rotP
    rw [if_pos h0]
    generalize (intsR K).1 = l at *
    generalize (intsR K).2 = e at *
    refine acalls_defer code_turn_Rotate (by simp [fn_turn_Rotate]) idle_turn_Rotate fun C hC => ?_
    refine walk2 ?_
    intro ds
    refine walk2 ?_
    exact fin
end Go.Proofs.Ytfnilbkahkbljaa
namespace Go.Proofs.Ytfnilbkahkbljaa
set_option linter.unusedVariables false
open Go.RowKit

theorem axis14_a (A : Arr) (first : Bool) (hl : A.shape.length ≤ 6) (h : A.shape.length ≠ 0) : ACalls Try.prog 95 [.agg (arrV A), .lit (.bool first)] (.lit (.int .i64 (axT A first : Nat))) := by
  have ls := intsA_len .i64 A.shape
  refine acalls_of code_scrimref14_axis (by simp [fn_scrimref14_axis]) fun C hC => ?_
  cases first
  · rw [show ((axT A false : Nat) : Int) = (A.shape.length : Int) - 1 from by simp [axT]; omega]
    refine walk2 ?_
    exact fin
  · rw [show ((axT A true : Nat) : Int) = 0 from rfl]
    refine walk2 ?_
    exact fin

/-- where a cell comes from -/
def srcT (L B : Nat) (z : Int) (rev : Bool) (i : Nat) : Nat := if rev then L - 1 - jOf L B i else (jOf L B i + (z % (L : Nat)).toNat) % L

set_option maxHeartbeats 2000000 in
theorem rotated_a (A : Arr) (first : Bool) (hA : okJ A) (h : A.shape ≠ []) (z : Int) (rev : Bool) : ACalls Try.prog 94 [.agg (arrV A), .lit (.int .i64 (axT A first : Nat)), .lit (.int .i64 z), .lit (.bool rev)]
    (.agg (arrV (.mk A.s A.shape (permL A.cells (fun i => rotI (lenT A first) (behT A first) (srcT (lenT A first) (behT A first) z rev i) i))))) := by
  have hB : maxB = 1000000000 := rfl
  have hl := hA.len
  have lcs := cells_len A
  have ls := intsA_len .i64 A.shape
  have hcl := hA.cells
  have c1 := places_a A.shape hA.e
  have hpl : (placesL A.shape).length = A.cells.length := by rw [placesL_len, hA.prod]; rfl
  have hpat : ∀ i : Nat, i < A.cells.length → (placesL A.shape)[i]? = some (digR A.shape i).2 := fun i hi => placesL_at A.shape (by rw [hA.prod]; exact hi)
  obtain ⟨hx, hx1⟩ := axT_z hA first h
  have hxk : (intsA .i64 A.shape)[((axT A first : Nat) : Int).toNat]? = some [.lit (.int .i64 ((lenT A first : Nat) : Int))] := int_at hx
  have hxl := (List.getElem?_eq_some_iff.1 hx).1
  have hsrc : ∀ i, i < A.cells.length → srcT (lenT A first) (behT A first) z rev i < lenT A first := fun i hi => by
    have K := ax_at hA first h (by omega)
    have hj := jOf_lt (B := behT A first) K.L_pos i
    have := K.L_pos
    unfold srcT
    split
    · omega
    · exact Nat.mod_lt _ K.L_pos
  have hml := permL_len A.cells (fun i => rotI (lenT A first) (behT A first) (srcT (lenT A first) (behT A first) z rev i) i)
  have hat := fun i (hi : i < A.cells.length) => permL_get A.cells (fun i => rotI (lenT A first) (behT A first) (srcT (lenT A first) (behT A first) z rev i) i) hi
  generalize permL A.cells (fun i => rotI (lenT A first) (behT A first) (srcT (lenT A first) (behT A first) z rev i) i) = X at hml hat ⊢
  have hpl' : (((placesL A.shape).map placeV).length : Int) = A.cells.length := by simp; omega
  generalize placesL A.shape = P at c1 hpl hpat hpl'
  refine acalls_of code_scrimref14_rotated (by simp [fn_scrimref14_rotated]) fun C hC => ?_
  refine walk2 ?_
  refine aw_nilF 2 2 76 7 rfl rfl rfl rfl ?_
  refine aw_loopB [1, 2, 3, 4, 8, 9, 10] [0, 1] (fun i : Nat => [(11, .lit (.int .i64 i))]) (fun i => [(2, some ⟨false, false, 26, 3, [[labV A.s, .sl 1 (intsA .i64 A.shape), .own 3]]⟩), (3, some ⟨true, false, 76, 7, (X.take i).map cellR⟩)]) 4
    (fun i => i ≤ A.cells.length) (fun i => A.cells.length - i) 0 (Nat.zero_le _) ?_
  rintro i hi
  dsimp only [List.cons_append, List.nil_append]
  by_cases hil : i < A.cells.length
  · have K := ax_at hA first h (by omega)
    have hL0 := K.L_pos
    obtain ⟨hd1, hd2⟩ := K.dig i
    have hs := hsrc i hil
    obtain ⟨k1, k2⟩ := K.idx hA hil hs
    have hc1 := refWith_a (digR A.shape (i : Int)).2 (axT A first) ((srcT (lenT A first) (behT A first) z rev i : Nat) : Int) (by rw [digR_len]; omega) (by rw [digR_len]; omega)
    rw [hd2 _ hs] at hc1
    have hf := refIndex_a A.shape (digR A.shape ((rotI (lenT A first) (behT A first) (srcT (lenT A first) (behT A first) z rev i) i : Nat) : Int)).2 hA.e
    rw [find_digR K.pos (by omega) (by rw [hA.prod]; omega)] at hf
    have hjl := jOf_lt (B := behT A first) hL0 i
    have hsv : ((srcT (lenT A first) (behT A first) z rev i : Nat) : Int) = if rev then ((lenT A first : Nat) : Int) - 1 - (jOf (lenT A first) (behT A first) i : Nat) else (((jOf (lenT A first) (behT A first) i : Nat) : Int) + z.tmod (lenT A first : Nat) + (lenT A first : Nat)) % (lenT A first : Nat) := by
      obtain ⟨t1, t2, t3⟩ := tmod_pos z (lenT A first) hL0
      unfold srcT
      split
      · omega
      · have h0 : 0 ≤ z % ((lenT A first : Nat) : Int) := Int.emod_nonneg _ (by omega)
        rw [Int.natCast_emod, Int.natCast_add, Int.toNat_of_nonneg h0, ← t3, Int.add_assoc]
        simp only [Int.add_emod_emod]
    obtain ⟨t1, t2, _⟩ := tmod_pos z (lenT A first) hL0
    rw [hsv] at hc1
    have hx2 := hat i hil
    obtain ⟨c, hc⟩ : ∃ c, A.cells[rotI (lenT A first) (behT A first) (srcT (lenT A first) (behT A first) z rev i) i]? = some c := ⟨_, List.getElem?_eq_getElem k2⟩
    rw [List.getD_eq_getElem?_getD, hc, Option.getD_some] at hx2
    have hck : (A.cells.map cellR)[((rotI (lenT A first) (behT A first) (srcT (lenT A first) (behT A first) z rev i) i : Nat) : Int).toNat]? = some (cellV c) := cell_at hc
    have hms : (X.take i).map cellR ++ [cellV c] = (X.take (i + 1)).map cellR := by rw [takeA_snoc hx2]; simp [cellR_eq]
    have hlm : ((X.take i).map cellR).length = i := by simp; omega
    have hpk : (P.map placeV)[((i : Nat) : Int).toNat]? = some [.sl 1 (intsA .i64 (digR A.shape i).2)] := by rw [Int.toNat_natCast]; simp [hpat i hil, placeV]
    have hdk : (intsA .i64 (digR A.shape (i : Int)).2)[((axT A first : Nat) : Int).toNat]? = some [.lit (.int .i64 ((jOf (lenT A first) (behT A first) i : Nat) : Int))] := int_at hd1
    have ldl := intsA_len .i64 (digR A.shape (i : Int)).2
    have hdl := digR_len A.shape (i : Int)
    generalize rotI (lenT A first) (behT A first) (srcT (lenT A first) (behT A first) z rev i) i = N at hc1 hf hck k2
    generalize (digR A.shape (N : Int)).2 = dN at hc1 hf
    generalize (digR A.shape (i : Int)).2 = d at hc1 hpk hdk ldl hdl
    generalize jOf (lenT A first) (behT A first) i = j at hc1 hdk hjl
    generalize axT A first = x at hc1 hdk hxk hxl
    generalize lenT A first = L at hc1 hxk hjl t1 t2 hx1 hL0
    clear hat hpat hsrc hsv hd1 hd2 K k1 hx2 hc c1 hs
    cases rev
    · simp only [Bool.false_eq_true, if_false] at hc1
      refine walk2 ?_
      exact ⟨i + 1, by omega, by omega, wkR hC.m [(3, 5)] (by rw [← hms]; rfl)⟩
    · simp only [if_true] at hc1
      refine walk2 ?_
      exact ⟨i + 1, by omega, by omega, wkR hC.m [(3, 5)] (by rw [← hms]; rfl)⟩
  · rw [show X.take i = X from List.take_of_length_le (by omega)]
    refine walk2 ?_
    exact fin
end Go.Proofs.Ytfnilbkahkbljaa
