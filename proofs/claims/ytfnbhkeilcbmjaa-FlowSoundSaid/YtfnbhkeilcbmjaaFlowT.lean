/- Flow: configurations, deeds and records that are drawn, opened as data. -/
import Derived.Test.YtfnbhkeilcbmjaaArrT
import Derived.Test.YtfnbhkeilcbmjaaFlowH
namespace Go.Proofs.Ytfnbhkeilcbmjaa
set_option linter.unusedVariables false
open Go.RowKit

theorem sz_i64 : Try.prog.cellsOf 3 = 1 := by kernel_rfl
theorem sz_u64 : Try.prog.cellsOf 22 = 1 := by kernel_rfl
theorem sz_arr : Try.prog.cellsOf 43 = 3 := by kernel_rfl
theorem sz_deed : Try.prog.cellsOf 45 = 7 := by kernel_rfl
theorem sz_rec : Try.prog.cellsOf 52 = 8 := by kernel_rfl
theorem sz_cfg : Try.prog.cellsOf 29 = 36 := by kernel_rfl
theorem sz_err : Try.prog.cellsOf 50 = 1 := by kernel_rfl
theorem sz_a1 : Try.prog.cellsOf 23 = 8 := by kernel_rfl
theorem sz_a2 : Try.prog.cellsOf 25 = 8 := by kernel_rfl
theorem sz_a3 : Try.prog.cellsOf 27 = 8 := by kernel_rfl
theorem sz_s1 : Try.prog.cellsOf 26 = 1 := by kernel_rfl
theorem sz_s2 : Try.prog.cellsOf 24 = 1 := by kernel_rfl
theorem by_rec : 0 < Try.prog.bytesOf 52 := of_decide_eq_true (by kernel_rfl)
theorem by_deed : 0 < Try.prog.bytesOf 45 := of_decide_eq_true (by kernel_rfl)
theorem by_arr : 0 < Try.prog.bytesOf 43 := of_decide_eq_true (by kernel_rfl)
theorem by_i64 : 0 < Try.prog.bytesOf 3 := of_decide_eq_true (by kernel_rfl)

abbrev flowTs : List TypeId := [45, 30, 52, 37, 29, 50, 23, 25, 27, 43, 71, 69, 26, 41, 24, 67, 22, 3, 4, 103]
theorem flowTs_closed : closedB Try.prog flowTs = true := by kernel_rfl

theorem list_of {α : Type} {V : α → List AV} {ok : α → Prop} : ∀ (es : List (List AV)), (∀ x ∈ es, ∃ d, x = V d ∧ ok d) → ∃ ds : List α, es = ds.map V ∧ ∀ d ∈ ds, ok d
  | [], _ => ⟨[], rfl, fun d h => by cases h⟩
  | x :: es, h => by
    obtain ⟨d, rfl, hd⟩ := h x (by simp)
    obtain ⟨ds, rfl, hds⟩ := list_of es (fun y hy => h y (by simp [hy]))
    exact ⟨d :: ds, rfl, fun e he => by rcases List.mem_cons.1 he with rfl | he; exact hd; exact hds e he⟩
theorem list8 {α : Type} {l : List α} (h : l.length = 8) : ∃ a b c d e f g i, l = [a, b, c, d, e, f, g, i] := by
  match l, h with
  | [a, b, c, d, e, f, g, i], _ => exact ⟨a, b, c, d, e, f, g, i, rfl⟩
theorem list8f {l : List AV} (h : l.length = 8) : ∃ f : Nat → AV, l = [f 0, f 1, f 2, f 3, f 4, f 5, f 6, f 7] := by
  obtain ⟨a, b, c, d, e, f, g, i, rfl⟩ := list8 h
  exact ⟨fun n => [a, b, c, d, e, f, g, i].getD n .any, rfl⟩

def deedOK (d : Deed) : Prop := arrOK d.v ∧ d.l < 18446744073709551616 ∧ d.to < 18446744073709551616 ∧ (Lit.int .i64 d.kind).wf = true ∧ (Lit.int .i64 d.k).wf = true
def recOK (r : Rec) : Prop := arrOK r.v ∧ r.fro < 18446744073709551616 ∧ r.to < 18446744073709551616

theorem typ_arrV {n : Nat} {avs : List AV} (h : Typ Try.prog n 43 avs) : ∃ A : Arr, avs = arrV A ∧ arrOK A := by
  obtain ⟨A, rfl, ok⟩ := typ_arr arrT n avs h
  exact ⟨A, arrR_eq A, ok⟩

theorem typ_deed {n : Nat} {avs : List AV} (h : Typ Try.prog n 45 avs) : ∃ d : Deed, avs = deedV d ∧ deedOK d := by
  cases n with
  | zero => exact h.elim
  | succ n =>
  have hu := Try.underlying45
  simp only [Typ, hu] at h
  obtain ⟨hl, hf⟩ := h
  rw [sz_deed] at hl
  obtain ⟨x0, x1, x2, x3, x4, x5, x6, rfl⟩ := list7 hl
  have e0 : Typ Try.prog n 3 (([x0, x1, x2, x3, x4, x5, x6].drop 0).take (Try.prog.cellsOf 3)) := hf 0 _ rfl
  have e1 : Typ Try.prog n 3 (([x0, x1, x2, x3, x4, x5, x6].drop 1).take (Try.prog.cellsOf 3)) := hf 1 _ rfl
  have e2 : Typ Try.prog n 22 (([x0, x1, x2, x3, x4, x5, x6].drop 2).take (Try.prog.cellsOf 22)) := hf 2 _ rfl
  have e3 : Typ Try.prog n 22 (([x0, x1, x2, x3, x4, x5, x6].drop 3).take (Try.prog.cellsOf 22)) := hf 3 _ rfl
  have e4 : Typ Try.prog n 43 (([x0, x1, x2, x3, x4, x5, x6].drop 4).take (Try.prog.cellsOf 43)) := hf 4 _ rfl
  simp only [sz_i64, sz_u64, sz_arr, List.drop_zero, List.drop_succ_cons, List.take_succ_cons, List.take_zero] at e0 e1 e2 e3 e4
  obtain ⟨z0, h0, w0⟩ := typ_int Try.underlying3 e0
  obtain ⟨z1, h1, w1⟩ := typ_int Try.underlying3 e1
  obtain ⟨z2, h2, w2⟩ := typ_int Try.underlying22 e2
  obtain ⟨z3, h3, w3⟩ := typ_int Try.underlying22 e3
  obtain ⟨A, h4, ok⟩ := typ_arrV e4
  simp only [List.cons.injEq, and_true] at h0 h1 h2 h3
  obtain ⟨n2, rfl, l2⟩ := lab_nat w2
  obtain ⟨n3, rfl, l3⟩ := lab_nat w3
  simp only [arrV, List.cons.injEq, and_true] at h4
  obtain ⟨h4, h5, h6⟩ := h4
  refine ⟨⟨z0, z1, n2, n3, A⟩, ?_, ok, l2, l3, w0, w1⟩
  rw [h0, h1, h2, h3, h4, h5, h6]; rfl

theorem typ_rec {n : Nat} {avs : List AV} (h : Typ Try.prog n 52 avs) : ∃ d : Rec, avs = recV d ∧ recOK d := by
  cases n with
  | zero => exact h.elim
  | succ n =>
  have hu := Try.underlying52
  simp only [Typ, hu] at h
  obtain ⟨hl, hf⟩ := h
  rw [sz_rec] at hl
  obtain ⟨x0, x1, x2, x3, x4, x5, x6, x7, rfl⟩ := list8 hl
  have e0 : Typ Try.prog n 3 (([x0, x1, x2, x3, x4, x5, x6, x7].drop 0).take (Try.prog.cellsOf 3)) := hf 0 _ rfl
  have e1 : Typ Try.prog n 3 (([x0, x1, x2, x3, x4, x5, x6, x7].drop 1).take (Try.prog.cellsOf 3)) := hf 1 _ rfl
  have e2 : Typ Try.prog n 22 (([x0, x1, x2, x3, x4, x5, x6, x7].drop 2).take (Try.prog.cellsOf 22)) := hf 2 _ rfl
  have e3 : Typ Try.prog n 22 (([x0, x1, x2, x3, x4, x5, x6, x7].drop 3).take (Try.prog.cellsOf 22)) := hf 3 _ rfl
  have e4 : Typ Try.prog n 50 (([x0, x1, x2, x3, x4, x5, x6, x7].drop 4).take (Try.prog.cellsOf 50)) := hf 4 _ rfl
  have e5 : Typ Try.prog n 43 (([x0, x1, x2, x3, x4, x5, x6, x7].drop 5).take (Try.prog.cellsOf 43)) := hf 5 _ rfl
  simp only [sz_i64, sz_u64, sz_arr, sz_err, List.drop_zero, List.drop_succ_cons, List.take_succ_cons, List.take_zero] at e0 e1 e2 e3 e4 e5
  obtain ⟨z0, h0, w0⟩ := typ_int Try.underlying3 e0
  obtain ⟨z1, h1, w1⟩ := typ_int Try.underlying3 e1
  obtain ⟨z2, h2, w2⟩ := typ_int Try.underlying22 e2
  obtain ⟨z3, h3, w3⟩ := typ_int Try.underlying22 e3
  obtain ⟨z4, h4, w4⟩ := typ_int Try.underlying50 e4
  obtain ⟨A, h5, ok⟩ := typ_arrV e5
  simp only [List.cons.injEq, and_true] at h0 h1 h2 h3 h4
  obtain ⟨n2, rfl, l2⟩ := lab_nat w2
  obtain ⟨n3, rfl, l3⟩ := lab_nat w3
  simp only [arrV, List.cons.injEq, and_true] at h5
  obtain ⟨h5, h6, h7⟩ := h5
  refine ⟨⟨z0, z1, n2, n3, z4, A⟩, ?_, ok, l2, l3⟩
  rw [h0, h1, h2, h3, h4, h5, h6, h7]; rfl

theorem typ_deeds {n : Nat} {avs : List AV} (h : Typ Try.prog n 30 avs) : ∃ ds : List Deed, avs = [.sl 7 (ds.map deedV)] ∧ (∀ d ∈ ds, deedOK d) ∧ ds.length ≤ reachBytes := by
  cases n with
  | zero => exact h.elim
  | succ n =>
  have hu := Try.underlying30
  simp only [Typ, hu] at h
  obtain ⟨es, rfl, hle, hes⟩ := h
  obtain ⟨ds, rfl, hok⟩ := list_of es (fun x hx => typ_deed (hes x hx))
  refine ⟨ds, by rw [sz_deed], hok, ?_⟩
  rw [List.length_map] at hle
  exact Nat.le_trans (Nat.le_mul_of_pos_right _ by_deed) hle

theorem typ_recs {n : Nat} {avs : List AV} (h : Typ Try.prog n 37 avs) : ∃ ds : List Rec, avs = [.sl 8 (ds.map recV)] ∧ (∀ d ∈ ds, recOK d) ∧ ds.length ≤ reachBytes := by
  cases n with
  | zero => exact h.elim
  | succ n =>
  have hu := Try.underlying37
  simp only [Typ, hu] at h
  obtain ⟨es, rfl, hle, hes⟩ := h
  obtain ⟨ds, rfl, hok⟩ := list_of es (fun x hx => typ_rec (hes x hx))
  refine ⟨ds, by rw [sz_rec], hok, ?_⟩
  rw [List.length_map] at hle
  exact Nat.le_trans (Nat.le_mul_of_pos_right _ by_rec) hle

/-- a configuration as it is drawn -/
structure CfgT (c : Cfg) : Prop where
  cl : ∀ n, c.cl n < 18446744073709551616
  lb : ∀ n, c.lb n < 18446744073709551616
  au : c.au < 18446744073709551616
  ins : ∀ n, (¬ n < 8 → c.ins n = []) ∧ (c.ins n).length ≤ reachBytes ∧ ∀ A ∈ c.ins n, arrOK A
  dr : ∀ n, (¬ n < 8 → c.dr n = []) ∧ (c.dr n).length ≤ reachBytes ∧ ∀ z ∈ c.dr n, (Lit.int .i64 z).wf = true

theorem pick8 {β : Type} {p : Nat → β → Prop} (d : ∃ b, ∀ i, ¬ i < 8 → p i b) (h : ∀ i, i < 8 → ∃ b, p i b) : ∃ g : Nat → β, ∀ i, p i (g i) := by
  obtain ⟨b0, hb0⟩ := d
  have : ∀ i, ∃ b, p i b := fun i => by
    by_cases hi : i < 8
    · exact h i hi
    · exact ⟨b0, hb0 i hi⟩
  exact ⟨fun i => Classical.choose (this i), fun i => Classical.choose_spec (this i)⟩

theorem typ_cfg {n : Nat} {avs : List AV} (h : Typ Try.prog n 29 avs) : ∃ c : Cfg, avs = cfgV c ∧ CfgT c := by
  cases n with
  | zero => exact h.elim
  | succ n =>
  have hu := Try.underlying29
  simp only [Typ, hu] at h
  obtain ⟨hl, hf⟩ := h
  rw [sz_cfg] at hl
  have e0 : Typ Try.prog n 23 ((avs.drop 0).take (Try.prog.cellsOf 23)) := hf 0 _ rfl
  have e1 : Typ Try.prog n 25 ((avs.drop 8).take (Try.prog.cellsOf 25)) := hf 1 _ rfl
  have e2 : Typ Try.prog n 23 ((avs.drop 16).take (Try.prog.cellsOf 23)) := hf 2 _ rfl
  have e3 : Typ Try.prog n 27 ((avs.drop 24).take (Try.prog.cellsOf 27)) := hf 3 _ rfl
  have e4 : Typ Try.prog n 22 ((avs.drop 32).take (Try.prog.cellsOf 22)) := hf 4 _ rfl
  have e5 : Typ Try.prog n 3 ((avs.drop 33).take (Try.prog.cellsOf 3)) := hf 5 _ rfl
  have e6 : Typ Try.prog n 3 ((avs.drop 34).take (Try.prog.cellsOf 3)) := hf 6 _ rfl
  have e7 : Typ Try.prog n 3 ((avs.drop 35).take (Try.prog.cellsOf 3)) := hf 7 _ rfl
  simp only [sz_i64, sz_u64, sz_a1, sz_a2, sz_a3] at e0 e1 e2 e3 e4 e5 e6 e7
  obtain ⟨z4, h4, w4⟩ := typ_int Try.underlying22 e4
  obtain ⟨z5, h5, w5⟩ := typ_int Try.underlying3 e5
  obtain ⟨z6, h6, w6⟩ := typ_int Try.underlying3 e6
  obtain ⟨z7, h7, w7⟩ := typ_int Try.underlying3 e7
  obtain ⟨b4, rfl, l4⟩ := lab_nat w4
  clear hf e4 e5 e6 e7
  cases n with
  | zero => exact e0.elim
  | succ n =>
  simp only [Typ, Try.underlying23, sz_u64, sz_a1] at e0 e2
  simp only [Typ, Try.underlying25, sz_s2, sz_a2] at e1
  simp only [Typ, Try.underlying27, sz_s1, sz_a3] at e3
  obtain ⟨f0, q0⟩ := list8f e0.1
  obtain ⟨f1, q1⟩ := list8f e1.1
  obtain ⟨f2, q2⟩ := list8f e2.1
  obtain ⟨f3, q3⟩ := list8f e3.1
  have k0 := e0.2
  have k1 := e1.2
  have k2 := e2.2
  have k3 := e3.2
  rw [q0] at k0
  rw [q1] at k1
  rw [q2] at k2
  rw [q3] at k3
  have one8 : ∀ (f : Nat → AV) (i : Nat), i < 8 → ([f 0, f 1, f 2, f 3, f 4, f 5, f 6, f 7].drop (i * 1)).take 1 = [f i] := fun f i hi => lt8 (p := fun i => ([f 0, f 1, f 2, f 3, f 4, f 5, f 6, f 7].drop (i * 1)).take 1 = [f i]) rfl rfl rfl rfl rfl rfl rfl rfl i hi
  have arrs : ∀ avs : List AV, Typ Try.prog n 24 avs → ∃ As : List Arr, avs = [.sl 3 (As.map arrR)] ∧ (As.length ≤ reachBytes ∧ ∀ A ∈ As, arrOK A) := fun avs h => by
    cases n with
    | zero => exact h.elim
    | succ n =>
    simp only [Typ, Try.underlying24] at h
    obtain ⟨es, rfl, hle, hes⟩ := h
    obtain ⟨ds, rfl, hok⟩ := list_of es (fun x hx => typ_arr arrT n x (hes x hx))
    refine ⟨ds, by rw [sz_arr], ?_, hok⟩
    rw [List.length_map] at hle
    exact Nat.le_trans (Nat.le_mul_of_pos_right _ by_arr) hle
  obtain ⟨g0, G0⟩ := pick8 (p := fun i (b : Nat) => (i < 8 → f0 i = labV b) ∧ b < 18446744073709551616) ⟨0, fun i hi => ⟨fun h => absurd h hi, by omega⟩⟩ (fun i hi => by
    have := k0 i hi
    rw [one8 f0 i hi] at this
    obtain ⟨z, hz, w⟩ := typ_int Try.underlying22 this
    obtain ⟨b, rfl, hb⟩ := lab_nat w
    exact ⟨b, fun _ => by simpa using hz, hb⟩)
  obtain ⟨g2, G2⟩ := pick8 (p := fun i (b : Nat) => (i < 8 → f2 i = labV b) ∧ b < 18446744073709551616) ⟨0, fun i hi => ⟨fun h => absurd h hi, by omega⟩⟩ (fun i hi => by
    have := k2 i hi
    rw [one8 f2 i hi] at this
    obtain ⟨z, hz, w⟩ := typ_int Try.underlying22 this
    obtain ⟨b, rfl, hb⟩ := lab_nat w
    exact ⟨b, fun _ => by simpa using hz, hb⟩)
  obtain ⟨g1, G1⟩ := pick8 (p := fun i (b : List Arr) => (i < 8 → f1 i = .sl 3 (b.map arrR)) ∧ ((¬ i < 8 → b = []) ∧ b.length ≤ reachBytes ∧ ∀ A ∈ b, arrOK A)) ⟨[], fun i hi => ⟨fun h => absurd h hi, fun _ => rfl, Nat.zero_le _, fun A h => by cases h⟩⟩ (fun i hi => by
    have := k1 i hi
    rw [one8 f1 i hi] at this
    obtain ⟨As, hz, w⟩ := arrs _ this
    exact ⟨As, fun _ => by simpa using hz, fun h => absurd hi h, w⟩)
  obtain ⟨g3, G3⟩ := pick8 (p := fun i (b : List Int) => (i < 8 → f3 i = .sl 1 (intsA .i64 b)) ∧ ((¬ i < 8 → b = []) ∧ b.length ≤ reachBytes ∧ ∀ z ∈ b, (Lit.int .i64 z).wf = true)) ⟨[], fun i hi => ⟨fun h => absurd h hi, fun _ => rfl, Nat.zero_le _, fun A h => by cases h⟩⟩ (fun i hi => by
    have := k3 i hi
    rw [one8 f3 i hi] at this
    obtain ⟨zs, hz, w1, w2⟩ := typ_ints Try.underlying26 Try.underlying3 sz_i64 by_i64 this
    exact ⟨zs, fun _ => by simpa using hz, fun h => absurd hi h, w2, w1⟩)
  refine ⟨⟨g0, g1, g2, g3, b4, z5, z6, z7⟩, ?_, ⟨fun i => (G0 i).2, fun i => (G2 i).2, l4, fun i => (G1 i).2, fun i => (G3 i).2⟩⟩
  have hsplit : avs = (avs.drop 0).take 8 ++ ((avs.drop 8).take 8 ++ ((avs.drop 16).take 8 ++ ((avs.drop 24).take 8 ++ ((avs.drop 32).take 1 ++ ((avs.drop 33).take 1 ++ ((avs.drop 34).take 1 ++ (avs.drop 35).take 1)))))) := by
    have t35 : (avs.drop 35).take 1 = avs.drop 35 := List.take_of_length_le (by rw [List.length_drop]; omega)
    rw [t35]
    have s : ∀ (k m j : Nat), j = k + m → (avs.drop k).take m ++ avs.drop j = avs.drop k := fun k m j e => by rw [e, ← List.drop_drop, List.take_append_drop]
    rw [s 34 1 35 (by omega), s 33 1 34 (by omega), s 32 1 33 (by omega), s 24 8 32 (by omega), s 16 8 24 (by omega), s 8 8 16 (by omega), s 0 8 8 (by omega), List.drop_zero]
  rw [hsplit, q0, q1, q2, q3, h4, h5, h6, h7]
  have a0 : ∀ i, i < 8 → f0 i = labV (g0 i) := fun i hi => (G0 i).1 hi
  have a1 : ∀ i, i < 8 → f1 i = .sl 3 ((g1 i).map arrR) := fun i hi => (G1 i).1 hi
  have a2 : ∀ i, i < 8 → f2 i = labV (g2 i) := fun i hi => (G2 i).1 hi
  have a3 : ∀ i, i < 8 → f3 i = .sl 1 (intsA .i64 (g3 i)) := fun i hi => (G3 i).1 hi
  rw [a0 0 (by omega), a0 1 (by omega), a0 2 (by omega), a0 3 (by omega), a0 4 (by omega), a0 5 (by omega), a0 6 (by omega), a0 7 (by omega)]
  rw [a1 0 (by omega), a1 1 (by omega), a1 2 (by omega), a1 3 (by omega), a1 4 (by omega), a1 5 (by omega), a1 6 (by omega), a1 7 (by omega)]
  rw [a2 0 (by omega), a2 1 (by omega), a2 2 (by omega), a2 3 (by omega), a2 4 (by omega), a2 5 (by omega), a2 6 (by omega), a2 7 (by omega)]
  rw [a3 0 (by omega), a3 1 (by omega), a3 2 (by omega), a3 3 (by omega), a3 4 (by omega), a3 5 (by omega), a3 6 (by omega), a3 7 (by omega)]
  rfl

section
variable {H : Type} {enc : TypeId × Value → H} {W : World} {held : Bool}
theorem open_deed {fuel : Nat} {c : Array Value} {x : DataW H × List MemPlace} (h : DataW.trod enc Try.prog W 0 (fun _ => true) held fuel 45 c.toList = some x) (hw : ∀ k ∈ x.1.weights Try.prog 45, k ≤ reachBytes) :
    ∃ A : Deed, RdI (fun b => b < W.heap.size) W (.agg (deedV A)) (.agg c) ∧ deedOK A := by
  obtain ⟨avs, r1, r2, _, r4⟩ := trod_typ flowTs_closed fuel _ _ x (by simp [flowTs]) h hw
  obtain ⟨A, rfl, ok⟩ := typ_deed r4
  exact ⟨A, ⟨c.toList, by simp, r2, r1⟩, ok⟩
theorem open_cfg {fuel : Nat} {c : Array Value} {x : DataW H × List MemPlace} (h : DataW.trod enc Try.prog W 0 (fun _ => true) held fuel 29 c.toList = some x) (hw : ∀ k ∈ x.1.weights Try.prog 29, k ≤ reachBytes) :
    ∃ A : Cfg, RdI (fun b => b < W.heap.size) W (.agg (cfgV A)) (.agg c) ∧ CfgT A := by
  obtain ⟨avs, r1, r2, _, r4⟩ := trod_typ flowTs_closed fuel _ _ x (by simp [flowTs]) h hw
  obtain ⟨A, rfl, ok⟩ := typ_cfg r4
  exact ⟨A, ⟨c.toList, by simp, r2, r1⟩, ok⟩
theorem open_deeds {fuel : Nat} {v : Value} {x : DataW H × List MemPlace} (h : DataW.trod enc Try.prog W 0 (fun _ => true) held fuel 30 [v] = some x) (hw : ∀ k ∈ x.1.weights Try.prog 30, k ≤ reachBytes) :
    ∃ ds : List Deed, RdI (fun b => b < W.heap.size) W (.sl 7 (ds.map deedV)) v ∧ (∀ d ∈ ds, deedOK d) ∧ ds.length ≤ reachBytes := by
  obtain ⟨avs, r1, r2, _, r4⟩ := trod_typ flowTs_closed fuel _ _ x (by simp [flowTs]) h hw
  obtain ⟨A, rfl, ok⟩ := typ_deeds r4
  obtain ⟨v', rest, e, h1, h2⟩ := r1
  simp only [List.cons.injEq] at e
  exact ⟨A, by rw [e.1]; exact h1, ok⟩
theorem open_recs {fuel : Nat} {v : Value} {x : DataW H × List MemPlace} (h : DataW.trod enc Try.prog W 0 (fun _ => true) held fuel 37 [v] = some x) (hw : ∀ k ∈ x.1.weights Try.prog 37, k ≤ reachBytes) :
    ∃ ds : List Rec, RdI (fun b => b < W.heap.size) W (.sl 8 (ds.map recV)) v ∧ (∀ d ∈ ds, recOK d) ∧ ds.length ≤ reachBytes := by
  obtain ⟨avs, r1, r2, _, r4⟩ := trod_typ flowTs_closed fuel _ _ x (by simp [flowTs]) h hw
  obtain ⟨A, rfl, ok⟩ := typ_recs r4
  obtain ⟨v', rest, e, h1, h2⟩ := r1
  simp only [List.cons.injEq] at e
  exact ⟨A, by rw [e.1]; exact h1, ok⟩
end
theorem flowNone_b (d : Deed) (h : deedOK d) : ACalls Try.prog 5 [.agg (deedV d)] (.lit (.bool true)) := flowNone_a d h.1
end Go.Proofs.Ytfnbhkeilcbmjaa
