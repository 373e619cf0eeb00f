/- Scopes: deeds that are drawn, opened as data. -/
import Derived.Test.YtmbigpjokpdnkaaArrT
import Derived.Test.YtmbigpjokpdnkaaXprS
namespace Go.Proofs.Ytmbigpjokpdnkaa
set_option linter.unusedVariables false
open Go.RowKit

theorem sz_i64 : Try.prog.cellsOf 3 = 1 := by kernel_rfl
theorem sz_u64 : Try.prog.cellsOf 22 = 1 := by kernel_rfl
theorem sz_u32 : Try.prog.cellsOf 111 = 1 := by kernel_rfl
theorem sz_bool : Try.prog.cellsOf 4 = 1 := by kernel_rfl
theorem sz_str : Try.prog.cellsOf 9 = 1 := by kernel_rfl
theorem sz_arr : Try.prog.cellsOf 26 = 3 := by kernel_rfl
theorem sz_num : Try.prog.cellsOf 47 = 3 := by kernel_rfl
theorem sz_expr : Try.prog.cellsOf 50 = 8 := by kernel_rfl
theorem sz_deed : Try.prog.cellsOf 52 = 14 := by kernel_rfl
theorem sz_s1 : Try.prog.cellsOf 23 = 1 := by kernel_rfl
theorem sz_s2 : Try.prog.cellsOf 45 = 1 := by kernel_rfl
theorem sz_s3 : Try.prog.cellsOf 48 = 1 := by kernel_rfl
theorem by_deed : 0 < Try.prog.bytesOf 52 := of_decide_eq_true (by kernel_rfl)
theorem by_expr : 0 < Try.prog.bytesOf 50 := of_decide_eq_true (by kernel_rfl)
theorem by_i64 : 0 < Try.prog.bytesOf 3 := of_decide_eq_true (by kernel_rfl)
theorem by_u32 : 0 < Try.prog.bytesOf 111 := of_decide_eq_true (by kernel_rfl)

abbrev scpTs : List TypeId := [52, 36, 50, 48, 26, 85, 47, 23, 24, 83, 45, 22, 3, 4, 111, 9]
theorem scpTs_closed : closedB Try.prog scpTs = true := by kernel_rfl

theorem list_of {α : Type} {V : α → List AV} {ok : α → Prop} : ∀ (es : List (List AV)), (∀ x ∈ es, ∃ d, x = V d ∧ ok d) → ∃ ds : List α, es = ds.map V ∧ ∀ d ∈ ds, ok d
  | [], _ => ⟨[], rfl, fun d h => by cases h⟩
  | x :: es, h => by
    obtain ⟨d, rfl, hd⟩ := h x (by simp)
    obtain ⟨ds, rfl, hds⟩ := list_of es (fun y hy => h y (by simp [hy]))
    exact ⟨d :: ds, rfl, fun e he => by rcases List.mem_cons.1 he with rfl | he; exact hd; exact hds e he⟩
theorem list8 {α : Type} {l : List α} (h : l.length = 8) : ∃ a b c d e f g i, l = [a, b, c, d, e, f, g, i] := by
  match l, h with
  | [a, b, c, d, e, f, g, i], _ => exact ⟨a, b, c, d, e, f, g, i, rfl⟩
theorem list14 {α : Type} {l : List α} (h : l.length = 14) : ∃ a b c d e f g i j k m n o p, l = [a, b, c, d, e, f, g, i, j, k, m, n, o, p] := by
  match l, h with
  | [a, b, c, d, e, f, g, i, j, k, m, n, o, p], _ => exact ⟨a, b, c, d, e, f, g, i, j, k, m, n, o, p, rfl⟩
theorem typ_str {P : Program} {t : TypeId} (h1 : P.underlying t = some .string) : ∀ {n : Nat} {avs : List AV}, Typ P n t avs → ∃ s : ByteArray, avs = [.lit (.string s)] ∧ s.size ≤ reachBytes
  | 0, _, h => h.elim
  | n + 1, avs, h => by simpa only [Typ, h1] using h

theorem typ_arrV {n : Nat} {avs : List AV} (h : Typ Try.prog n 26 avs) : ∃ A : Arr, avs = arrV A ∧ arrOK A := by
  obtain ⟨A, rfl, ok⟩ := typ_arr arrT n avs h
  exact ⟨A, arrR_eq A, ok⟩

theorem typ_numV {n : Nat} {avs : List AV} (h : Typ Try.prog n 47 avs) : ∃ N : Num, avs = numV N ∧ numOK N := by
  cases n with
  | zero => exact h.elim
  | succ n =>
  have hu := Try.underlying47
  simp only [Typ, hu] at h
  obtain ⟨hl, hf⟩ := h
  rw [sz_num] at hl
  obtain ⟨x0, x1, x2, rfl⟩ := list3 hl
  have e0 : Typ Try.prog n 4 (([x0, x1, x2].drop 0).take (Try.prog.cellsOf 4)) := hf 0 _ rfl
  have e1 : Typ Try.prog n 45 (([x0, x1, x2].drop 1).take (Try.prog.cellsOf 45)) := hf 1 _ rfl
  have e2 : Typ Try.prog n 45 (([x0, x1, x2].drop 2).take (Try.prog.cellsOf 45)) := hf 2 _ rfl
  simp only [sz_bool, sz_s2, List.drop_zero, List.drop_succ_cons, List.take_succ_cons, List.take_zero] at e0 e1 e2
  obtain ⟨b, h0⟩ := typ_bool Try.underlying4 e0
  obtain ⟨tp, h1, w1, l1⟩ := typ_ints Try.underlying45 Try.underlying111 sz_u32 by_u32 e1
  obtain ⟨bt, h2, w2, l2⟩ := typ_ints Try.underlying45 Try.underlying111 sz_u32 by_u32 e2
  simp only [List.cons.injEq, and_true] at h0 h1 h2
  exact ⟨⟨b, tp, bt⟩, by rw [h0, h1, h2]; rfl, w1, w2, l1, l2⟩

theorem typ_xpr : ∀ (n : Nat) (avs : List AV), Typ Try.prog n 50 avs → ∃ X : Xpr, avs = xprR X ∧ xprOK X := by
  intro n
  induction n using Nat.strongRecOn with
  | _ n ih =>
  intro avs h
  cases n with
  | zero => exact h.elim
  | succ n =>
  have hu := Try.underlying50
  simp only [Typ, hu] at h
  obtain ⟨hl, hf⟩ := h
  rw [sz_expr] at hl
  obtain ⟨x0, x1, x2, x3, x4, x5, x6, x7, rfl⟩ := list8 hl
  have e0 : Typ Try.prog n 3 (([x0, x1, x2, x3, x4, x5, x6, x7].drop 0).take (Try.prog.cellsOf 3)) := hf 0 _ rfl
  have e1 : Typ Try.prog n 3 (([x0, x1, x2, x3, x4, x5, x6, x7].drop 1).take (Try.prog.cellsOf 3)) := hf 1 _ rfl
  have e2 : Typ Try.prog n 9 (([x0, x1, x2, x3, x4, x5, x6, x7].drop 2).take (Try.prog.cellsOf 9)) := hf 2 _ rfl
  have e3 : Typ Try.prog n 47 (([x0, x1, x2, x3, x4, x5, x6, x7].drop 3).take (Try.prog.cellsOf 47)) := hf 3 _ rfl
  have e4 : Typ Try.prog n 23 (([x0, x1, x2, x3, x4, x5, x6, x7].drop 6).take (Try.prog.cellsOf 23)) := hf 4 _ rfl
  have e5 : Typ Try.prog n 48 (([x0, x1, x2, x3, x4, x5, x6, x7].drop 7).take (Try.prog.cellsOf 48)) := hf 5 _ rfl
  simp only [sz_i64, sz_str, sz_num, sz_s1, sz_s3, List.drop_zero, List.drop_succ_cons, List.take_succ_cons, List.take_zero] at e0 e1 e2 e3 e4 e5
  obtain ⟨z0, h0, w0⟩ := typ_int Try.underlying3 e0
  obtain ⟨z1, h1, w1⟩ := typ_int Try.underlying3 e1
  obtain ⟨s2, h2, w2⟩ := typ_str Try.underlying9 e2
  obtain ⟨N, h3, w3⟩ := typ_numV e3
  obtain ⟨t4, h4, w4, l4⟩ := typ_ints Try.underlying23 Try.underlying3 sz_i64 by_i64 e4
  cases n with
  | zero => exact e5.elim
  | succ n =>
  simp only [Typ, Try.underlying48] at e5
  obtain ⟨es, h5, hle, hes⟩ := e5
  obtain ⟨ds, rfl, hok⟩ := list_of es (fun x hx => ih n (by omega) x (hes x hx))
  rw [List.length_map] at hle
  simp only [List.cons.injEq, and_true] at h0 h1 h2 h4 h5
  simp only [numV, List.cons.injEq, and_true] at h3
  obtain ⟨k0, k1, k2⟩ := h3
  refine ⟨.mk z0 z1 s2 N t4 ds, ?_, w0, w1, w2, w3, w4, l4, Nat.le_trans (Nat.le_mul_of_pos_right _ by_expr) hle, xprsOK_mem.2 hok⟩
  rw [h0, h1, h2, h4, h5, k0, k1, k2, sz_expr]
  simp only [xprR, xprsR_map]

theorem typ_xprV {n : Nat} {avs : List AV} (h : Typ Try.prog n 50 avs) : ∃ X : Xpr, avs = xprV X ∧ xprOK X := by
  obtain ⟨A, rfl, ok⟩ := typ_xpr n avs h
  exact ⟨A, xprR_eq A, ok⟩

theorem typ_sdeed {n : Nat} {avs : List AV} (h : Typ Try.prog n 52 avs) : ∃ d : SDeed, avs = sdeedV d ∧ sdeedOK d := by
  cases n with
  | zero => exact h.elim
  | succ n =>
  have hu := Try.underlying52
  simp only [Typ, hu] at h
  obtain ⟨hl, hf⟩ := h
  rw [sz_deed] at hl
  obtain ⟨x0, x1, x2, x3, x4, x5, x6, x7, x8, x9, y0, y1, y2, y3, rfl⟩ := list14 hl
  have e0 : Typ Try.prog n 3 (([x0, x1, x2, x3, x4, x5, x6, x7, x8, x9, y0, y1, y2, y3].drop 0).take (Try.prog.cellsOf 3)) := hf 0 _ rfl
  have e1 : Typ Try.prog n 9 (([x0, x1, x2, x3, x4, x5, x6, x7, x8, x9, y0, y1, y2, y3].drop 1).take (Try.prog.cellsOf 9)) := hf 1 _ rfl
  have e2 : Typ Try.prog n 22 (([x0, x1, x2, x3, x4, x5, x6, x7, x8, x9, y0, y1, y2, y3].drop 2).take (Try.prog.cellsOf 22)) := hf 2 _ rfl
  have e3 : Typ Try.prog n 26 (([x0, x1, x2, x3, x4, x5, x6, x7, x8, x9, y0, y1, y2, y3].drop 3).take (Try.prog.cellsOf 26)) := hf 3 _ rfl
  have e4 : Typ Try.prog n 50 (([x0, x1, x2, x3, x4, x5, x6, x7, x8, x9, y0, y1, y2, y3].drop 6).take (Try.prog.cellsOf 50)) := hf 4 _ rfl
  simp only [sz_i64, sz_str, sz_u64, sz_arr, sz_expr, List.drop_zero, List.drop_succ_cons, List.take_succ_cons, List.take_zero] at e0 e1 e2 e3 e4
  obtain ⟨z0, h0, w0⟩ := typ_int Try.underlying3 e0
  obtain ⟨s1, h1, w1⟩ := typ_str Try.underlying9 e1
  obtain ⟨z2, h2, w2⟩ := typ_int Try.underlying22 e2
  obtain ⟨A, h3, okA⟩ := typ_arrV e3
  obtain ⟨X, h4, okX⟩ := typ_xprV e4
  simp only [List.cons.injEq, and_true] at h0 h1 h2
  obtain ⟨n2, rfl, l2⟩ := lab_nat w2
  simp only [arrV, List.cons.injEq, and_true] at h3
  simp only [xprV, List.cons.injEq, and_true] at h4
  obtain ⟨a0, a1, a2⟩ := h3
  obtain ⟨b0, b1, b2, b3, b4, b5, b6, b7⟩ := h4
  refine ⟨⟨z0, s1, n2, A, X⟩, ?_, okA, okX, l2, w1⟩
  rw [h0, h1, h2, a0, a1, a2, b0, b1, b2, b3, b4, b5, b6, b7]

theorem typ_sdeeds {n : Nat} {avs : List AV} (h : Typ Try.prog n 36 avs) : ∃ ds : List SDeed, avs = [.sl 14 (ds.map sdeedV)] ∧ (∀ d ∈ ds, sdeedOK d) ∧ ds.length ≤ reachBytes := by
  cases n with
  | zero => exact h.elim
  | succ n =>
  have hu := Try.underlying36
  simp only [Typ, hu] at h
  obtain ⟨es, rfl, hle, hes⟩ := h
  obtain ⟨ds, rfl, hok⟩ := list_of es (fun x hx => typ_sdeed (hes x hx))
  refine ⟨ds, by rw [sz_deed], hok, ?_⟩
  rw [List.length_map] at hle
  exact Nat.le_trans (Nat.le_mul_of_pos_right _ by_deed) hle

section
variable {H : Type} {enc : TypeId × Value → H} {W : World} {held : Bool}
theorem open_sdeed {fuel : Nat} {c : Array Value} {x : DataW H × List MemPlace} (h : DataW.trod enc Try.prog W 0 (fun _ => true) held fuel 52 c.toList = some x) (hw : ∀ k ∈ x.1.weights Try.prog 52, k ≤ reachBytes) :
    ∃ A : SDeed, RdI (fun b => b < W.heap.size) W (.agg (sdeedV A)) (.agg c) ∧ sdeedOK A := by
  obtain ⟨avs, r1, r2, _, r4⟩ := trod_typ scpTs_closed fuel _ _ x (by simp [scpTs]) h hw
  obtain ⟨A, rfl, ok⟩ := typ_sdeed r4
  exact ⟨A, ⟨c.toList, by simp, r2, r1⟩, ok⟩
theorem open_sdeeds {fuel : Nat} {v : Value} {x : DataW H × List MemPlace} (h : DataW.trod enc Try.prog W 0 (fun _ => true) held fuel 36 [v] = some x) (hw : ∀ k ∈ x.1.weights Try.prog 36, k ≤ reachBytes) :
    ∃ ds : List SDeed, RdI (fun b => b < W.heap.size) W (.sl 14 (ds.map sdeedV)) v ∧ (∀ d ∈ ds, sdeedOK d) ∧ ds.length ≤ reachBytes := by
  obtain ⟨avs, r1, r2, _, r4⟩ := trod_typ scpTs_closed fuel _ _ x (by simp [scpTs]) h hw
  obtain ⟨A, rfl, ok⟩ := typ_sdeeds r4
  obtain ⟨v', rest, e, h1, h2⟩ := r1
  simp only [List.cons.injEq] at e
  exact ⟨A, by rw [e.1]; exact h1, ok⟩
end
end Go.Proofs.Ytmbigpjokpdnkaa
