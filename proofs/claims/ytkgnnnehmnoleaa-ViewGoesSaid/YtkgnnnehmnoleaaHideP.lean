/- view.Hide and view.Cell. -/
import Derived.Test.YtkgnnnehmnoleaaHideQ
namespace Go.Proofs.Ytkgnnnehmnoleaa
set_option linter.unusedVariables false
open Go.RowKit

abbrev cellZ : List AV := [.lit (.int .u64 0), .lit (.int .i64 0), .lit (.bool false), .lit (.slice none 0 0), .lit (.slice none 0 0), .lit (.int .i64 0), .lit (.slice none 0 0)]
abbrev arrZ : List AV := [.lit (.int .u64 0), .lit (.slice none 0 0), .lit (.slice none 0 0)]

theorem sub_secretA : Sub (.agg [.lit (.int .u64 18446744073709551615), .lit (.slice none 0 0), .lit (.slice none 0 0)]) (.agg (arrV (.mk secretN [] []))) :=
  Sub.agg (SubL.cons (Sub.refl _) (SubL.cons (Sub.nil _) (SubL.cons (Sub.nil _) SubL.nil)))
theorem sub_secretC : Sub (.agg [.lit (.int .u64 18446744073709551615), .lit (.int .i64 0), .lit (.bool false), .lit (.slice none 0 0), .lit (.slice none 0 0), .lit (.int .i64 0), .lit (.slice none 0 0)]) (.agg (cellV (.mk secretN 0 ⟨false, [], []⟩ 0 []))) :=
  Sub.agg (SubL.cons (Sub.refl _) (SubL.cons (Sub.refl _) (SubL.cons (Sub.refl _) (SubL.cons (Sub.nil _) (SubL.cons (Sub.nil _) (SubL.cons (Sub.refl _) (SubL.cons (Sub.nil _) SubL.nil)))))))

abbrev stC (o : Nat) (A : Cell) (es : List (List AV)) (k : Nat) : St := ⟨[(1, labV o), (2, .optr 0 0 0), (4, .optr 1 0 0), (5, .own 2), (15, .sl 3 (A.ins.map arrR)), (16, .lit (.int .i64 A.ins.length)), (17, .lit (.int .i64 k))],
  [(0, some ⟨false, false, 32, 7, [cellV A]⟩), (1, some ⟨false, false, 32, 7, [cellZ]⟩), (2, some ⟨true, false, 26, 3, es⟩)], 3⟩

mutual
theorem viewHide_a (o : Nat) (ho : o < 18446744073709551616) : ∀ (A : Arr), okA A → ACalls Try.prog 10 [.agg (arrV A), labV o] (.agg (arrV (hideA o A)))
  | A, hA => by
    have hB : maxB = 1000000000 := rfl
    have lcs := cells_len A
    have lsh := intsA_len .i64 A.shape
    obtain ⟨a1, a2, a3, a4⟩ := hA.parts
    refine acalls_of code_view_Hide (by simp [fn_view_Hide]) fun C hC => ?_
    refine walk ?_
    refine aw_reg (rrun ?_)
    refine r_call (flows_a A.s o a1 ho) ?_
    cases h1 : flowsN A.s o
    · rw [hideA_no h1]
      refine rrun ?_
      refine rg_nil ⟨rfl, ?_⟩
      refine walk ?_
      exact ⟨_, _, rfl, rfl, sub_secretA⟩
    · rw [hideA_yes h1]
      refine rrun ?_
      refine rg_nil ⟨rfl, ?_⟩
      refine walk ?_
      refine aw_reg (rrun ?_)
      refine r_call (cloneInt_a (intsA .i64 A.shape) (by omega)) (rrun ?_)
      refine r_make ?_ ?_ ?_ ?_
      · omega
      · omega
      · omega
      refine rrun ?_
      refine rg_nil ⟨rfl, ?_⟩
      refine walk ?_
      refine aw_loop (X := Nat) (fun k => ⟨[(1, labV o), (2, .optr 0 0 0), (4, .optr 1 0 0), (5, .optr 3 0 0), (25, .sl 7 (A.cells.map cellR)), (26, .lit (.int .i64 A.cells.length)), (27, .lit (.int .i64 k))],
          [(0, some ⟨false, false, 26, 3, [arrV A]⟩), (1, some ⟨false, false, 26, 3, [arrZ]⟩), (2, some ⟨true, false, 32, 7, rowK (fun c => cellV (hideC o c)) cellZ A.cells k⟩), (3, some ⟨false, false, 26, 3, [[labV A.s, .sl 1 (intsA .i64 A.shape), .own 2]]⟩)], 4⟩)
        (fun k => k ≤ A.cells.length) (fun k => A.cells.length - k) 0 (wk hC [(0, 0), (1, 1), (2, 2), (3, 3)] [1, 2, 4, 5, 25, 26, 27] 4 (by rw [← rowK_zero]; rfl)) (Nat.zero_le _) ?_
      intro k hk
      by_cases hlt : k < A.cells.length
      · obtain ⟨c, hc⟩ : ∃ c, A.cells[k]? = some c := ⟨_, List.getElem?_eq_getElem hlt⟩
        have hck := cell_at hc
        have hcm := List.mem_of_getElem? hc
        have hcok := okCs_mem.1 a4 c hcm
        have hrl := rowK_len (fun c => cellV (hideC o c)) cellZ A.cells k hk
        have hrg := rowK_get (fun c => cellV (hideC o c)) cellZ A.cells k hlt
        have hrs := rowK_set (fun c => cellV (hideC o c)) cellZ A.cells k c hc
        have ht : SizeOf.sizeOf c < SizeOf.sizeOf A := Nat.lt_trans (cell_size hcm) A.size
        refine walk ?_
        refine aw_reg (rrun ?_)
        refine r_call (viewCell_a o ho c hcok) (rrun ?_)
        refine r_storeR ?_
        refine rg_nil ⟨rfl, ?_⟩
        refine walk ?_
        refine ⟨k + 1, by omega, by omega, wk hC [(0, 0), (1, 1), (2, 2), (3, 3)] [1, 2, 4, 5, 25, 26, 27] 4 (by rw [← hrs]; rfl)⟩
      · have hre := rowK_end (fun c => cellV (hideC o c)) cellZ A.cells k hlt
        rw [hre, cellR_hide]
        refine walk ?_
        exact ⟨_, _, rfl, rfl, Sub.refl _⟩
  termination_by A => SizeOf.sizeOf A
theorem viewCell_a (o : Nat) (ho : o < 18446744073709551616) : ∀ (A : Cell), okC A → ACalls Try.prog 14 [.agg (cellV A), labV o] (.agg (cellV (hideC o A)))
  | A, hA => by
    have hB : maxB = 1000000000 := rfl
    have lin := ins_len A
    have ltop := intsA_len .u32 A.n.top
    have lbot := intsA_len .u32 A.n.bot
    obtain ⟨a1, a2, a3, a4, a5⟩ := hA.parts
    refine acalls_of code_view_Cell (by simp [fn_view_Cell]) fun C hC => ?_
    refine walk ?_
    refine aw_reg (rrun ?_)
    refine r_call (flows_a A.l o a1 ho) ?_
    cases h1 : flowsN A.l o
    · rw [hideC_no h1]
      refine rrun ?_
      refine rg_nil ⟨rfl, ?_⟩
      refine walk ?_
      exact ⟨_, _, rfl, rfl, sub_secretC⟩
    · rw [hideC_yes h1]
      refine rrun ?_
      refine rg_nil ⟨rfl, ?_⟩
      refine walk ?_
      refine aw_loop (X := Nat) (fun k => match k with
        | 0 => ⟨[(1, labV o), (2, .optr 0 0 0), (4, .optr 1 0 0), (5, .lit (.slice none 0 0)), (15, .sl 3 (A.ins.map arrR)), (16, .lit (.int .i64 A.ins.length)), (17, .lit (.int .i64 0))],
          [(0, some ⟨false, false, 32, 7, [cellV A]⟩), (1, some ⟨false, false, 32, 7, [cellZ]⟩)], 2⟩
        | k + 1 => stC o A (mapK (fun a => arrV (hideA o a)) A.ins (k + 1)) (k + 1))
        (fun k => k ≤ A.ins.length) (fun k => A.ins.length - k) 0 (wk hC [(0, 0), (1, 1)] [1, 2, 4, 5, 15, 16, 17] 2) (Nat.zero_le _) ?_
      intro k hk
      by_cases hlt : k < A.ins.length
      · obtain ⟨c, hc⟩ : ∃ c, A.ins[k]? = some c := ⟨_, List.getElem?_eq_getElem hlt⟩
        have hck := arr_at hc
        have hcm := List.mem_of_getElem? hc
        have hcok := okAs_mem.1 a5 c hcm
        have ht : SizeOf.sizeOf c < SizeOf.sizeOf A := Nat.lt_trans (arr_size hcm) A.size
        cases k with
        | zero =>
          have hms := mapK_one (fun a => arrV (hideA o a)) A.ins c hc
          refine walk ?_
          refine aw_reg (rrun ?_)
          refine r_call (viewHide_a o ho c hcok) (rrun ?_)
          refine r_rowlit ?_
          refine r_appendNX [3] ?_ ?_
          · simp [chunk]
          refine rrun ?_
          refine rg_nil ⟨rfl, ?_⟩
          refine walk ?_
          refine ⟨1, by omega, by omega, wk hC [(0, 0), (1, 1), (4, 2)] [1, 2, 4, 5, 15, 16, 17] 3 (congrArg (fun m => stC o A m 1) hms)⟩
        | succ k =>
          have hms := mapK_step (fun a => arrV (hideA o a)) A.ins (k + 1) c hc
          have hml := mapK_len (fun a => arrV (hideA o a)) A.ins (k + 1)
          refine walk ?_
          refine aw_reg (rrun ?_)
          refine r_call (viewHide_a o ho c hcok) (rrun ?_)
          refine r_rowlit ?_
          refine r_appendX [4] ?_ ?_
          · simp only [chunk, List.length_cons, List.length_nil]; omega
          refine rrun ?_
          refine rg_nil ⟨rfl, ?_⟩
          refine walk ?_
          refine ⟨k + 2, by omega, by omega, wk hC [(0, 0), (1, 1), (5, 2)] [1, 2, 4, 5, 15, 16, 17] 3 (congrArg (fun m => stC o A m (k + 2)) hms)⟩
      · cases k with
        | zero =>
          have he : A.ins = [] := List.eq_nil_of_length_eq_zero (by omega)
          refine walk ?_
          refine aw_reg (rrun ?_)
          refine r_call (cloneU32_a (intsA .u32 A.n.top) (by omega)) (rrun ?_)
          refine r_call (cloneU32_a (intsA .u32 A.n.bot) (by omega)) (rrun ?_)
          refine rg_nil ⟨rfl, ?_⟩
          refine walk ?_
          refine ⟨_, _, rfl, rfl, ?_⟩
          rw [he]
          exact Sub.agg (SubL.cons (Sub.refl _) (SubL.cons (Sub.refl _) (SubL.cons (Sub.refl _) (SubL.cons (Sub.refl _) (SubL.cons (Sub.refl _) (SubL.cons (Sub.refl _) (SubL.cons (Sub.nil _) SubL.nil)))))))
        | succ k =>
          have hme := mapK_end (fun a => arrV (hideA o a)) A.ins (k + 1) hlt
          simp only
          rw [hme, arrR_hide]
          refine walk ?_
          refine aw_reg (rrun ?_)
          refine r_call (cloneU32_a (intsA .u32 A.n.top) (by omega)) (rrun ?_)
          refine r_call (cloneU32_a (intsA .u32 A.n.bot) (by omega)) (rrun ?_)
          refine rg_nil ⟨rfl, ?_⟩
          refine walk ?_
          exact ⟨_, _, rfl, rfl, Sub.refl _⟩
  termination_by A => SizeOf.sizeOf A
end

theorem viewAlike_a (A B : Arr) (o : Nat) (ho : o < 18446744073709551616) (hA : okA A) (hB : okA B) : ACalls Try.prog 16 [.agg (arrV A), .agg (arrV B), labV o] (.lit (.bool (alikeA o A B))) := by
  rw [alikeA_hide o ho A B hA.wf hB.wf]
  refine acalls_of code_view_Alike (by simp [fn_view_Alike]) fun C hC => ?_
  refine walk ?_
  refine aw_reg (rrun ?_)
  refine r_call (viewHide_a o ho A hA) (rrun ?_)
  refine r_call (viewHide_a o ho B hB) (rrun ?_)
  refine r_call (arraySame_a (hideA o A) (hideA o B)) (rrun ?_)
  refine rg_nil ⟨rfl, ?_⟩
  refine walk ?_
  exact ⟨_, _, rfl, rfl, Sub.refl _⟩
end Go.Proofs.Ytkgnnnehmnoleaa
