/- Names and what they have, as plain lists: put, drop, find; a map's entries in whatever order against a rising list. -/
import Derived.Test.YtmbigpjokpdnkaaXprS
namespace Go.Proofs.Ytmbigpjokpdnkaa
set_option linter.unusedVariables false
open Go.RowKit Go.Maps Go.Sort

/-- the order of names -/
abbrev ky (s : ByteArray) : List UInt8 := s.data.toList
theorem ky_inj {a b : ByteArray} (h : ky a = ky b) : a = b := by
  cases a; cases b
  simp only [ky] at h
  congr 1
  exact Array.toList_inj.1 h
theorem bytesL : ∀ (x y : List UInt8), Op.bytesLess x y = decide (x < y)
  | [], [] => by simp [Op.bytesLess]
  | _ :: _, [] => by simp [Op.bytesLess]
  | [], _ :: _ => by simp [Op.bytesLess]
  | a :: x, b :: y => by
    rw [Op.bytesLess, bytesL x y]
    simp only [List.cons_lt_cons_iff]
    by_cases h1 : a < b <;> by_cases h2 : a = b <;> by_cases h3 : x < y <;> simp [h1, h2, h3]
/-- k >= s -/
def geB (k s : ByteArray) : Bool := !(decide (ky k < ky s))
theorem geB_str (k s : ByteArray) : strV .geq k s = some (geB k s) := by
  simp only [strV, geB, ByteArray.toList_eq, bytesL, ky]
theorem ky_irrefl (s : ByteArray) : ¬ ky s < ky s := List.lt_irrefl _
theorem geB_self (s : ByteArray) : geB s s = true := by simp only [geB, decide_eq_false (ky_irrefl s), Bool.not_false]

section
variable {β : Type}
abbrev NL (β : Type) := List (ByteArray × β)
/-- the document's put: along the list -/
def putG (s : ByteArray) (v : β) : Bool → NL β → NL β
  | laid, [] => bif laid then [] else [(s, v)]
  | laid, p :: r => (bif !laid && geB p.1 s then [(s, v)] else []) ++ ((if p.1 = s then [] else [p]) ++ putG s v (laid || geB p.1 s) r)
def putL (s : ByteArray) (v : β) (V : NL β) : NL β := putG s v false V
def delL (s : ByteArray) (V : NL β) : NL β := V.filter fun p => decide (p.1 ≠ s)
def getL (s : ByteArray) : NL β → Option β
  | [] => none
  | p :: r => if p.1 = s then some p.2 else getL s r
/-- where; -1: nowhere -/
def atL (s : ByteArray) : NL β → Nat → Int
  | [], _ => -1
  | p :: r, k => if p.1 = s then (k : Int) else atL s r (k + 1)
/-- rising -/
def Ris (V : NL β) : Prop := V.Pairwise fun p q => ky p.1 < ky q.1
def Uni (V : NL β) : Prop := V.Pairwise fun p q => p.1 ≠ q.1
theorem Ris.uni {V : NL β} (h : Ris V) : Uni V := h.imp fun {a b} hab e => by rw [e] at hab; exact ky_irrefl _ hab

theorem delL_cons (s : ByteArray) (p : ByteArray × β) (r : NL β) : delL s (p :: r) = if p.1 = s then delL s r else p :: delL s r := by
  by_cases h : p.1 = s <;> simp [delL, h]
theorem putG_true (s : ByteArray) (v : β) : ∀ V : NL β, putG s v true V = delL s V
  | [] => rfl
  | p :: r => by
    rw [delL_cons, putG]
    simp only [Bool.not_true, Bool.false_and, cond_false, Bool.true_or, List.nil_append, putG_true s v r]
    split <;> rfl
theorem delL_none {s : ByteArray} : ∀ {V : NL β}, (∀ p ∈ V, p.1 ≠ s) → delL s V = V := fun {V} h => List.filter_eq_self.2 fun p hp => by simpa using h p hp
theorem mem_delL {s : ByteArray} {V : NL β} {p : ByteArray × β} : p ∈ delL s V ↔ p ∈ V ∧ p.1 ≠ s := by simp [delL]

theorem lt_of_not {a b : ByteArray} (h1 : ¬ ky a < ky b) (h2 : a ≠ b) : ky b < ky a := by
  have h := List.not_lt.1 h1
  rcases List.le_iff_lt_or_eq.1 h with h | h
  · exact h
  · exact absurd (ky_inj h).symm h2

/-- behind a put the name stands once, the others as they were -/
theorem putL_perm (s : ByteArray) (v : β) : ∀ {V : NL β}, Ris V → (putL s v V).Perm ((s, v) :: delL s V)
  | [], _ => by simp [putL, putG, delL]
  | p :: r, h => by
    obtain ⟨h1, h2⟩ := List.pairwise_cons.1 h
    unfold putL
    rw [putG]
    cases hg : geB p.1 s
    · have hne : p.1 ≠ s := fun e => by rw [e, geB_self] at hg; cases hg
      rw [delL_cons, if_neg hne, if_neg hne]
      simp only [Bool.not_false, Bool.and_false, cond_false, List.nil_append, Bool.or_self, List.cons_append]
      exact ((putL_perm s v h2).cons p).trans (List.Perm.swap _ _ _)
    · simp only [Bool.not_false, Bool.and_self, cond_true, Bool.or_true, putG_true]
      rw [delL_cons]
      by_cases hne : p.1 = s
      · rw [if_pos hne, if_pos hne]; simp
      · rw [if_neg hne, if_neg hne]; simp
theorem delL_ris {s : ByteArray} {V : NL β} (h : Ris V) : Ris (delL s V) := List.Pairwise.filter _ h
theorem putL_ris (s : ByteArray) (v : β) : ∀ {V : NL β}, Ris V → Ris (putL s v V)
  | [], _ => by simp [putL, putG, Ris]
  | p :: r, h => by
    obtain ⟨h1, h2⟩ := List.pairwise_cons.1 h
    unfold putL
    rw [putG]
    cases hg : geB p.1 s
    · have hne : p.1 ≠ s := fun e => by rw [e, geB_self] at hg; cases hg
      have hlt : ky p.1 < ky s := by simpa [geB] using hg
      rw [if_neg hne]
      simp only [Bool.not_false, Bool.and_false, cond_false, List.nil_append, Bool.or_self, List.cons_append]
      refine List.pairwise_cons.2 ⟨fun q hq => ?_, putL_ris s v h2⟩
      have hq' := (putL_perm s v h2).mem_iff.1 hq
      rcases List.mem_cons.1 hq' with rfl | hq'
      · exact hlt
      · exact h1 q (mem_delL.1 hq').1
    · simp only [Bool.not_false, Bool.and_self, cond_true, Bool.or_true, putG_true]
      have hnl : ¬ ky p.1 < ky s := by simpa [geB] using hg
      by_cases hne : p.1 = s
      · rw [if_pos hne]
        simp only [List.nil_append, List.cons_append]
        refine List.pairwise_cons.2 ⟨fun q hq => ?_, delL_ris h2⟩
        have := h1 q (mem_delL.1 hq).1
        rw [hne] at this; exact this
      · rw [if_neg hne]
        simp only [List.nil_append, List.cons_append]
        have hlt := lt_of_not hnl hne
        refine List.pairwise_cons.2 ⟨fun q hq => ?_, List.pairwise_cons.2 ⟨fun q hq => h1 q (mem_delL.1 hq).1, delL_ris h2⟩⟩
        rcases List.mem_cons.1 hq with rfl | hq
        · exact hlt
        · exact List.lt_trans hlt (h1 q (mem_delL.1 hq).1)

theorem getL_some {s : ByteArray} {v : β} : ∀ {V : NL β}, getL s V = some v → (s, v) ∈ V
  | [], h => by simp [getL] at h
  | p :: r, h => by
    rw [getL] at h
    split at h
    · rename_i e
      obtain rfl := Option.some.inj h
      subst e
      exact List.mem_cons_self
    · exact List.mem_cons_of_mem _ (getL_some h)
theorem getL_none {s : ByteArray} : ∀ {V : NL β}, getL s V = none ↔ ∀ p ∈ V, p.1 ≠ s
  | [] => by simp [getL]
  | p :: r => by
    rw [getL]
    by_cases h : p.1 = s
    · simp [h]
    · simp only [if_neg h, getL_none, List.mem_cons, forall_eq_or_imp]
      exact ⟨fun k => ⟨h, k⟩, fun k => k.2⟩
theorem getL_mem {s : ByteArray} {v : β} : ∀ {V : NL β}, Uni V → (s, v) ∈ V → getL s V = some v
  | p :: r, hu, h => by
    obtain ⟨h1, h2⟩ := List.pairwise_cons.1 hu
    rw [getL]
    rcases List.mem_cons.1 h with rfl | h
    · simp
    · rw [if_neg (h1 _ h)]; exact getL_mem h2 h
theorem getL_perm {s : ByteArray} {V W : NL β} (h : V.Perm W) (hu : Uni W) : getL s V = getL s W := by
  have hv : Uni V := (h.symm.pairwise hu (fun {x y} hxy => hxy.symm))
  cases hg : getL s W with
  | none => exact getL_none.2 fun p hp => getL_none.1 hg p (h.mem_iff.1 hp)
  | some v => exact getL_mem hv (h.mem_iff.2 (getL_some hg))
theorem atL_none {s : ByteArray} : ∀ {V : NL β} {k : Nat}, getL s V = none → atL s V k = -1
  | [], k, _ => rfl
  | p :: r, k, h => by
    rw [getL] at h
    split at h
    · cases h
    · rename_i hne; rw [atL, if_neg hne]; exact atL_none h
theorem atL_some {s : ByteArray} {v : β} : ∀ {V : NL β} {k : Nat}, getL s V = some v → 0 ≤ atL s V k
  | [], k, h => by simp [getL] at h
  | p :: r, k, h => by
    rw [getL] at h
    rw [atL]
    split
    · omega
    · rename_i hne
      rw [if_neg hne] at h
      exact atL_some h
theorem atL_ge {s : ByteArray} {V : NL β} {k : Nat} : (0 ≤ atL s V k) ↔ (getL s V).isSome = true := by
  cases h : getL s V with
  | none => rw [atL_none h]; simp
  | some v => simp [atL_some h]
theorem delL_split {s : ByteArray} {v : β} : ∀ {V : NL β}, Uni V → getL s V = some v → V.Perm ((s, v) :: delL s V)
  | [], _, h => by simp [getL] at h
  | p :: r, hu, h => by
    obtain ⟨h1, h2⟩ := List.pairwise_cons.1 hu
    rw [getL] at h
    split at h
    · rename_i e
      obtain rfl := Option.some.inj h
      subst e
      rw [delL_cons, if_pos rfl, delL_none (fun q hq => (h1 q hq).symm)]
    · rename_i hne
      rw [delL_cons, if_neg hne]
      exact ((delL_split h2 h).cons p).trans (List.Perm.swap _ _ _)

/-! a map's entries -/
variable (E : β → AV)
def entE (p : ByteArray × β) : List AV := [.lit (.string p.1), E p.2]
theorem map_get (s : ByteArray) : ∀ W : NL β, mapGet s (W.map (entE E)) = some ((getL s W).map E)
  | [] => rfl
  | p :: r => by
    simp only [List.map_cons, entE, mapGet, getL]
    split
    · rfl
    · exact map_get s r
def putW (s : ByteArray) (v : β) : NL β → NL β
  | [] => [(s, v)]
  | p :: r => if p.1 = s then (p.1, v) :: r else p :: putW s v r
theorem map_put (s : ByteArray) (v : β) : ∀ W : NL β, mapPut s (E v) (W.map (entE E)) = (putW s v W).map (entE E)
  | [] => rfl
  | p :: r => by
    simp only [List.map_cons, entE, mapPut, putW]
    split
    · simp [entE]
    · simp only [List.map_cons, entE]
      congr 1
      exact map_put s v r
theorem map_del (s : ByteArray) : ∀ W : NL β, Uni W → mapDel s (W.map (entE E)) = (delL s W).map (entE E)
  | [], _ => rfl
  | p :: r, hu => by
    obtain ⟨h1, h2⟩ := List.pairwise_cons.1 hu
    rw [delL_cons]
    simp only [List.map_cons, entE, mapDel]
    split
    · rename_i e
      rw [delL_none (fun q hq => by rw [← e]; exact (h1 q hq).symm)]
    · simp only [List.map_cons, entE]
      congr 1
      exact map_del s r h2
theorem putW_perm (s : ByteArray) (v : β) : ∀ {W : NL β}, Uni W → (putW s v W).Perm ((s, v) :: delL s W)
  | [], _ => by simp [putW, delL]
  | p :: r, hu => by
    obtain ⟨h1, h2⟩ := List.pairwise_cons.1 hu
    rw [putW, delL_cons]
    split
    · rename_i e
      rw [delL_none (fun q hq => by rw [← e]; exact (h1 q hq).symm), e]
    · exact ((putW_perm s v h2).cons p).trans (List.Perm.swap _ _ _)

theorem put_perm (s : ByteArray) (v : β) {W V : NL β} (h : W.Perm V) (hV : Ris V) : (putW s v W).Perm (putL s v V) :=
  (putW_perm s v (h.symm.pairwise hV.uni (fun {x y} hxy => hxy.symm))).trans (((h.filter _).cons _).trans (putL_perm s v hV).symm)
theorem del_perm (s : ByteArray) {W V : NL β} (h : W.Perm V) : (delL s W).Perm (delL s V) := h.filter _

theorem ent_str {W : NL β} : ∀ e ∈ W.map (entE E), ∃ s v, e = [.lit (.string s), v] := fun e he => by
  obtain ⟨p, _, rfl⟩ := List.mem_map.1 he
  exact ⟨_, _, rfl⟩
/-- the names, rising -/
theorem sorted_names {W V : NL β} (h : W.Perm V) (hV : Ris V) : sortedRow (W.map (entE E)) = V.map fun p => [.lit (.string p.1)] := by
  have e1 : sortedKeys (W.map (entE E)) = V.map fun p => ky p.1 := by
    have hp : ((W.map (entE E)).map keyStr).Perm (V.map fun p => ky p.1) := by
      rw [List.map_map]
      exact h.map _
    unfold sortedKeys
    rw [mergeSort_of_perm hp]
    refine List.mergeSort_of_pairwise ?_
    refine List.Pairwise.map _ (fun a b hab => ?_) hV
    simp only [leB, decide_eq_true_eq]
    exact List.le_of_lt hab
  unfold sortedRow
  rw [e1, List.map_map]
  refine List.map_congr_left fun p _ => ?_
  simp [encStr, ky]
end
end Go.Proofs.Ytmbigpjokpdnkaa
namespace Go.Proofs.Ytmbigpjokpdnkaa
set_option linter.unusedVariables false
open Go.RowKit

section
variable {P : Program} {tt : List (Nat × AV)} {hh : Hp} {nn dd : Nat} {g : Option (Nat × Bool)} {l : List AInst} {acc : List SD} {K : List SD → St → Prop}
theorem r_str {op : BinOp} {x y : Operand} {a b : ByteArray} {v : Bool} (hv : strV op a b = some v) (h : RG P (⟨⟨some dd, g, .binS op x y⟩, .lit (.bool v), [], [], 0⟩ :: acc) l ⟨(dd, .lit (.bool v)) :: tt, hh, nn⟩ K) (hg : gOK ⟨tt, hh, nn⟩ g := by first | exact True.intro | rfl) (hx : ev ⟨tt, hh, nn⟩ x = .lit (.string a) := by rfl) (hy : ev ⟨tt, hh, nn⟩ y = .lit (.string b) := by rfl) : RG P acc (⟨some dd, g, .binS op x y⟩ :: l) ⟨tt, hh, nn⟩ K := RG.step (q_str hg hx hy hv) h
end

/-- only what is named is kept of a state, in these words -/
theorem aw_keepK {P : Program} {C : Ctx} {Q : Exit → St → Prop} {st : St} {c : ACode} (L H : List Nat) (n : Nat) {kt : List (Nat × AV)} {kh : Hp} (h : AW P C c Q ⟨kt, kh, n⟩)
    (et : (L.map fun k => (k, getT st.t k)) = kt := by rfl) (eh : (H.map fun k => (k, hl st.h k)) = kh := by rfl) (hn : Nat.ble st.nx n = true := by rfl) : AW P C c Q st := by
  subst et eh
  exact aw_weak (weak_keep L H n (Nat.ble_eq ▸ hn)) h

theorem len_ok2 {α : Type} {l : List α} {x : α} (h : l.length ≤ 2000) : ((l ++ [x]).length + 1) * 80 ≤ 140737488355328 := by
  rw [List.length_append, List.length_singleton]; omega
theorem len_ok3 {α : Type} {l : List α} {x : α} (h : l.length ≤ 2000) : ((l ++ [x]).length + 1) * 160 ≤ 140737488355328 := by
  rw [List.length_append, List.length_singleton]; omega
abbrev VL := NL (Nat × Arr)
abbrev FL := NL (Nat × Xpr)
abbrev varE (p : ByteArray × (Nat × Arr)) : List AV := varV p.1 p.2.1 p.2.2
abbrev funE (p : ByteArray × (Nat × Xpr)) : List AV := strA p.1 :: labV p.2.1 :: xprV p.2.2
abbrev rowVs (V : VL) : OB := ⟨true, false, 92, 5, V.map varE⟩
abbrev rowFs (F : FL) : OB := ⟨true, false, 95, 10, F.map funE⟩
abbrev rH (V : VL) (F : FL) : Hp := [(0, some (rsB (.own 1) (.own 2))), (1, some (rowVs V)), (2, some (rowFs F))]

section
variable {β : Type}
theorem nl_at {V : NL β} {k : Nat} {p : ByteArray × β} {E : ByteArray × β → List AV} (h : V[k]? = some p) : (V.map E)[k]? = some (E p) := by simp [h]
theorem putG_at {s : ByteArray} {v : β} {laid : Bool} {V : NL β} {k : Nat} {p : ByteArray × β} (h : V[k]? = some p) : putG s v laid (V.drop k) = (bif !laid && geB p.1 s then [(s, v)] else []) ++ ((if p.1 = s then [] else [p]) ++ putG s v (laid || geB p.1 s) (V.drop (k + 1))) := by
  rw [dropA_cons h, putG]
theorem delL_at {s : ByteArray} {V : NL β} {k : Nat} {p : ByteArray × β} (h : V[k]? = some p) : delL s (V.drop k) = (if p.1 = s then [] else [p]) ++ delL s (V.drop (k + 1)) := by
  rw [dropA_cons h, delL_cons]; split <;> rfl
theorem atL_at {s : ByteArray} {V : NL β} {k : Nat} {p : ByteArray × β} (h : V[k]? = some p) : atL s (V.drop k) k = if p.1 = s then (k : Int) else atL s (V.drop (k + 1)) (k + 1) := by
  rw [dropA_cons h, atL]
end

set_option maxRecDepth 10000 in
theorem rGet_m (s : ByteArray) (V : VL) (F : FL) (hV : V.length ≤ 1000) :
    AMut Try.prog 19 [.optr 0 0 0, strA s] (rH V F) 3 (i64A (atL s V 0)) (rH V F) 3 := by
  have lV : (((V.map varE).length : Nat) : Int) = (V.length : Nat) := by simp
  refine amut_of code_scrimref24_Scope_Get (by simp [fn_scrimref24_Scope_Get]) fun C hC => ?_
  refine walk4 ?_
  refine aw_loopB [0, 1, 4] [0, 1, 2] (fun k : Nat => [(5, i64A k)]) (fun _ => []) 3 (fun k => k ≤ V.length ∧ atL s V 0 = atL s (V.drop k) k) (fun k => V.length - k) 0 ⟨Nat.zero_le _, rfl⟩ ?_
  rintro k ⟨hk, hE⟩
  dsimp only [List.cons_append, List.nil_append]
  by_cases hlt : k < V.length
  · obtain ⟨p, hp⟩ : ∃ p, V[k]? = some p := ⟨_, List.getElem?_eq_getElem hlt⟩
    have hpk := nl_at (E := varE) hp
    rw [atL_at hp] at hE
    by_cases he : p.1 = s
    · rw [if_pos he] at hE
      rw [hE]
      refine walk4 ?_
      exact fin_m []
    · rw [if_neg he] at hE
      refine walk4 ?_
      exact ⟨k + 1, by omega, ⟨by omega, hE⟩, wkR hC.m []⟩
  · rw [List.drop_eq_nil_of_le (by omega), atL] at hE
    rw [hE]
    refine walk4 ?_
    exact fin_m []

set_option maxRecDepth 10000 in
theorem rFun_m (s : ByteArray) (V : VL) (F : FL) (hV : F.length ≤ 1000) :
    AMut Try.prog 20 [.optr 0 0 0, strA s] (rH V F) 3 (i64A (atL s F 0)) (rH V F) 3 := by
  have lV : (((F.map funE).length : Nat) : Int) = (F.length : Nat) := by simp
  refine amut_of code_scrimref24_Scope_Fun (by simp [fn_scrimref24_Scope_Fun]) fun C hC => ?_
  refine walk4 ?_
  refine aw_loopB [0, 1, 4] [0, 1, 2] (fun k : Nat => [(5, i64A k)]) (fun _ => []) 3 (fun k => k ≤ F.length ∧ atL s F 0 = atL s (F.drop k) k) (fun k => F.length - k) 0 ⟨Nat.zero_le _, rfl⟩ ?_
  rintro k ⟨hk, hE⟩
  dsimp only [List.cons_append, List.nil_append]
  by_cases hlt : k < F.length
  · obtain ⟨p, hp⟩ : ∃ p, F[k]? = some p := ⟨_, List.getElem?_eq_getElem hlt⟩
    have hpk := nl_at (E := funE) hp
    rw [atL_at hp] at hE
    by_cases he : p.1 = s
    · rw [if_pos he] at hE
      rw [hE]
      refine walk4 ?_
      exact fin_m []
    · rw [if_neg he] at hE
      refine walk4 ?_
      exact ⟨k + 1, by omega, ⟨by omega, hE⟩, wkR hC.m []⟩
  · rw [List.drop_eq_nil_of_le (by omega), atL] at hE
    rw [hE]
    refine walk4 ?_
    exact fin_m []

set_option maxHeartbeats 4000000 in
set_option maxRecDepth 10000 in
theorem rPut_m (s : ByteArray) (b : Nat) (A : Arr) (V : VL) (F : FL) (hV : V.length ≤ 1000) :
    AMut Try.prog 26 [.optr 0 0 0, strA s, labV b, .agg (arrV A)] (rH V F) 3 (.tup []) [(0, some (rsB (.own 3) (.own 2))), (1, some (rowVs V)), (2, some (rowFs F)), (3, some (rowVs (putL s (b, A) V)))] 4 := by
  have lV : (((V.map varE).length : Nat) : Int) = (V.length : Nat) := by simp
  refine amut_of code_scrimref24_Scope_Put (by simp [fn_scrimref24_Scope_Put]) fun C hC => ?_
  refine walk4 ?_
  refine aw_nil 8 92 5 rfl ?_
  refine aw_loopB [0, 1, 2, 7] [0, 1, 2, 3] (fun x : Nat × Bool × VL => [(8, .own 4), (9, .lit (.bool x.2.1)), (10, i64A x.1)]) (fun x => [(4, some (rowVs x.2.2))]) 5
    (fun x => x.1 ≤ V.length ∧ x.2.2.length ≤ 2 * x.1 ∧ putL s (b, A) V = x.2.2 ++ putG s (b, A) x.2.1 (V.drop x.1)) (fun x => V.length - x.1) (0, false, []) ⟨Nat.zero_le _, Nat.zero_le _, rfl⟩ ?_
  rintro ⟨k, laid, out⟩ ⟨hk, hol, hE⟩
  dsimp only [List.cons_append, List.nil_append] at hk hol hE ⊢
  have hlo : ((out.map varE).length + 1) * 80 ≤ 140737488355328 := by rw [List.length_map]; omega
  by_cases hlt : k < V.length
  · obtain ⟨p, hp⟩ : ∃ p, V[k]? = some p := ⟨_, List.getElem?_eq_getElem hlt⟩
    have hpk := nl_at (E := varE) hp
    rw [putG_at hp] at hE
    cases laid with
    | true =>
      simp only [Bool.not_true, Bool.false_and, cond_false, List.nil_append, Bool.true_or] at hE
      by_cases he : p.1 = s
      · rw [if_pos he, List.nil_append] at hE
        refine walk4 ?_
        exact ⟨(k + 1, true, out), by dsimp only; omega, ⟨by dsimp only; omega, by dsimp only; omega, hE⟩, wkR hC.m []⟩
      · rw [if_neg he, ← List.append_assoc] at hE
        have hms : (out ++ [p]).map varE = out.map varE ++ [varE p] := by simp
        refine walk4 ?_
        exact ⟨(k + 1, true, out ++ [p]), by dsimp only; omega, ⟨by dsimp only; omega, by simp; omega, hE⟩, wkR hC.m [(4, 6)] (by dsimp only [rowVs]; rw [hms]; rfl)⟩
    | false =>
      have hst := geB_str p.1 s
      cases hg : geB p.1 s with
      | false =>
        rw [hg] at hE hst
        have he : p.1 ≠ s := fun e => by rw [e, geB_self] at hg; cases hg
        simp only [Bool.not_false, Bool.and_false, cond_false, List.nil_append, Bool.or_self] at hE
        rw [if_neg he, ← List.append_assoc] at hE
        have hms : (out ++ [p]).map varE = out.map varE ++ [varE p] := by simp
        refine walk4 ?_
        refine aw_reg (rrun4 ?_)
        refine r_str hst ?_
        refine rrun4 ?_
        refine rg_nil ⟨rfl, ?_⟩
        refine walk4 ?_
        exact ⟨(k + 1, false, out ++ [p]), by dsimp only; omega, ⟨by dsimp only; omega, by simp; omega, hE⟩, wkR hC.m [(4, 6)] (by dsimp only [rowVs]; rw [hms]; rfl)⟩
      | true =>
        rw [hg] at hE hst
        simp only [Bool.not_false, Bool.and_self, cond_true, Bool.or_true] at hE
        by_cases he : p.1 = s
        · rw [if_pos he, List.nil_append, ← List.append_assoc] at hE
          have hms : (out ++ [(s, (b, A))]).map varE = out.map varE ++ [varE (s, (b, A))] := by simp
          refine walk4 ?_
          refine aw_reg (rrun4 ?_)
          refine r_str hst ?_
          refine rrun4 ?_
          refine rg_nil ⟨rfl, ?_⟩
          refine walk4 ?_
          exact ⟨(k + 1, true, out ++ [(s, (b, A))]), by dsimp only; omega, ⟨by dsimp only; omega, by simp; omega, hE⟩, wkR hC.m [(4, 6)] (by dsimp only [rowVs]; rw [hms]; rfl)⟩
        · rw [if_neg he, ← List.append_assoc, ← List.append_assoc] at hE
          have hms : (out ++ [(s, (b, A))] ++ [p]).map varE = (out.map varE ++ [varE (s, (b, A))]) ++ [varE p] := by simp
          refine walk4 ?_
          refine aw_reg (rrun4 ?_)
          refine r_str hst ?_
          refine rrun4 ?_
          refine rg_nil ⟨rfl, ?_⟩
          refine aw_cond_t rfl ?_
          refine aw_seq ?_
          refine aw_R4 ?_
          refine aw_keepK [0, 1, 2, 7, 8, 10] [0, 1, 2, 3, 6] 7 (kt := [(0, .optr 0 0 0), (1, strA s), (2, labV b), (7, .optr 3 0 0), (8, .own 6), (10, i64A k)])
            (kh := [(0, some (rsB (.own 1) (.own 2))), (1, some (rowVs V)), (2, some (rowFs F)), (3, some ⟨false, false, 26, 3, [arrV A]⟩), (6, some ⟨true, false, 92, 5, out.map varE ++ [varV s b A]⟩)]) ?_
          have hlo2 : ((out.map varE ++ [varV s b A]).length + 1) * 80 ≤ 140737488355328 := len_ok2 (by rw [List.length_map]; exact Nat.le_trans hol (Nat.le_trans (Nat.mul_le_mul_left 2 (Nat.le_trans hk hV)) (by decide)))
          refine walk4 ?_
          exact ⟨(k + 1, true, out ++ [(s, (b, A))] ++ [p]), by dsimp only; omega, ⟨by dsimp only; omega, by simp; omega, hE⟩, wkR hC.m [(4, 8)] (by dsimp only [rowVs]; rw [hms]; rfl)⟩
  · rw [List.drop_eq_nil_of_le (by omega), putG] at hE
    cases laid with
    | true =>
      rw [cond_true, List.append_nil] at hE
      rw [hE]
      refine walk4 ?_
      exact fin_m [(3, 4)]
    | false =>
      rw [cond_false] at hE
      have hms : (out ++ [(s, (b, A))]).map varE = out.map varE ++ [varE (s, (b, A))] := by simp
      rw [hE]
      refine walk4 ?_
      exact fin_m [(3, 6)] (hh := by dsimp only [rowVs]; rw [hms]; rfl)
set_option maxHeartbeats 4000000 in
set_option maxRecDepth 10000 in
theorem rDef_m (s : ByteArray) (b : Nat) (X : Xpr) (V : VL) (F : FL) (hV : F.length ≤ 1000) :
    AMut Try.prog 38 [.optr 0 0 0, strA s, labV b, .agg (xprV X)] (rH V F) 3 (.tup []) [(0, some (rsB (.own 1) (.own 3))), (1, some (rowVs V)), (2, some (rowFs F)), (3, some (rowFs (putL s (b, X) F)))] 4 := by
  have lV : (((F.map funE).length : Nat) : Int) = (F.length : Nat) := by simp
  refine amut_of code_scrimref24_Scope_Define (by simp [fn_scrimref24_Scope_Define]) fun C hC => ?_
  refine walk4 ?_
  refine aw_nil 8 95 10 rfl ?_
  refine aw_loopB [0, 1, 2, 7] [0, 1, 2, 3] (fun x : Nat × Bool × FL => [(8, .own 4), (9, .lit (.bool x.2.1)), (10, i64A x.1)]) (fun x => [(4, some (rowFs x.2.2))]) 5
    (fun x => x.1 ≤ F.length ∧ x.2.2.length ≤ 2 * x.1 ∧ putL s (b, X) F = x.2.2 ++ putG s (b, X) x.2.1 (F.drop x.1)) (fun x => F.length - x.1) (0, false, []) ⟨Nat.zero_le _, Nat.zero_le _, rfl⟩ ?_
  rintro ⟨k, laid, out⟩ ⟨hk, hol, hE⟩
  dsimp only [List.cons_append, List.nil_append] at hk hol hE ⊢
  have hlo : ((out.map funE).length + 1) * 160 ≤ 140737488355328 := by rw [List.length_map]; omega
  by_cases hlt : k < F.length
  · obtain ⟨p, hp⟩ : ∃ p, F[k]? = some p := ⟨_, List.getElem?_eq_getElem hlt⟩
    have hpk := nl_at (E := funE) hp
    rw [putG_at hp] at hE
    cases laid with
    | true =>
      simp only [Bool.not_true, Bool.false_and, cond_false, List.nil_append, Bool.true_or] at hE
      by_cases he : p.1 = s
      · rw [if_pos he, List.nil_append] at hE
        refine walk4 ?_
        exact ⟨(k + 1, true, out), by dsimp only; omega, ⟨by dsimp only; omega, by dsimp only; omega, hE⟩, wkR hC.m []⟩
      · rw [if_neg he, ← List.append_assoc] at hE
        have hms : (out ++ [p]).map funE = out.map funE ++ [funE p] := by simp
        refine walk4 ?_
        exact ⟨(k + 1, true, out ++ [p]), by dsimp only; omega, ⟨by dsimp only; omega, by simp; omega, hE⟩, wkR hC.m [(4, 6)] (by dsimp only [rowFs]; rw [hms]; rfl)⟩
    | false =>
      have hst := geB_str p.1 s
      cases hg : geB p.1 s with
      | false =>
        rw [hg] at hE hst
        have he : p.1 ≠ s := fun e => by rw [e, geB_self] at hg; cases hg
        simp only [Bool.not_false, Bool.and_false, cond_false, List.nil_append, Bool.or_self] at hE
        rw [if_neg he, ← List.append_assoc] at hE
        have hms : (out ++ [p]).map funE = out.map funE ++ [funE p] := by simp
        refine walk4 ?_
        refine aw_reg (rrun4 ?_)
        refine r_str hst ?_
        refine rrun4 ?_
        refine rg_nil ⟨rfl, ?_⟩
        refine walk4 ?_
        exact ⟨(k + 1, false, out ++ [p]), by dsimp only; omega, ⟨by dsimp only; omega, by simp; omega, hE⟩, wkR hC.m [(4, 6)] (by dsimp only [rowFs]; rw [hms]; rfl)⟩
      | true =>
        rw [hg] at hE hst
        simp only [Bool.not_false, Bool.and_self, cond_true, Bool.or_true] at hE
        by_cases he : p.1 = s
        · rw [if_pos he, List.nil_append, ← List.append_assoc] at hE
          have hms : (out ++ [(s, (b, X))]).map funE = out.map funE ++ [funE (s, (b, X))] := by simp
          refine walk4 ?_
          refine aw_reg (rrun4 ?_)
          refine r_str hst ?_
          refine rrun4 ?_
          refine rg_nil ⟨rfl, ?_⟩
          refine walk4 ?_
          exact ⟨(k + 1, true, out ++ [(s, (b, X))]), by dsimp only; omega, ⟨by dsimp only; omega, by simp; omega, hE⟩, wkR hC.m [(4, 6)] (by dsimp only [rowFs]; rw [hms]; rfl)⟩
        · rw [if_neg he, ← List.append_assoc, ← List.append_assoc] at hE
          have hms : (out ++ [(s, (b, X))] ++ [p]).map funE = (out.map funE ++ [funE (s, (b, X))]) ++ [funE p] := by simp
          refine walk4 ?_
          refine aw_reg (rrun4 ?_)
          refine r_str hst ?_
          refine rrun4 ?_
          refine rg_nil ⟨rfl, ?_⟩
          refine aw_cond_t rfl ?_
          refine aw_seq ?_
          refine aw_R4 ?_
          refine aw_keepK [0, 1, 2, 7, 8, 10] [0, 1, 2, 3, 6] 7 (kt := [(0, .optr 0 0 0), (1, strA s), (2, labV b), (7, .optr 3 0 0), (8, .own 6), (10, i64A k)])
            (kh := [(0, some (rsB (.own 1) (.own 2))), (1, some (rowVs V)), (2, some (rowFs F)), (3, some ⟨false, false, 50, 8, [xprV X]⟩), (6, some ⟨true, false, 95, 10, out.map funE ++ [funE (s, (b, X))]⟩)]) ?_
          have hlo2 : ((out.map funE ++ [funE (s, (b, X))]).length + 1) * 160 ≤ 140737488355328 := len_ok3 (by rw [List.length_map]; exact Nat.le_trans hol (Nat.le_trans (Nat.mul_le_mul_left 2 (Nat.le_trans hk hV)) (by decide)))
          refine walk4 ?_
          exact ⟨(k + 1, true, out ++ [(s, (b, X))] ++ [p]), by dsimp only; omega, ⟨by dsimp only; omega, by simp; omega, hE⟩, wkR hC.m [(4, 8)] (by dsimp only [rowFs]; rw [hms]; rfl)⟩
  · rw [List.drop_eq_nil_of_le (by omega), putG] at hE
    cases laid with
    | true =>
      rw [cond_true, List.append_nil] at hE
      rw [hE]
      refine walk4 ?_
      exact fin_m [(3, 4)]
    | false =>
      rw [cond_false] at hE
      have hms : (out ++ [(s, (b, X))]).map funE = out.map funE ++ [funE (s, (b, X))] := by simp
      rw [hE]
      refine walk4 ?_
      exact fin_m [(3, 6)] (hh := by dsimp only [rowFs]; rw [hms]; rfl)

/-- Drop, behind its first part -/
def dropRest : ACode := match fn_scrimref24_Scope_Drop.body with | .seq _ (.seq _ r) => r | c => c
set_option maxHeartbeats 4000000 in
set_option maxRecDepth 10000 in
theorem dropRest_w {C : Ctx} (hC : CtxM C fn_scrimref24_Scope_Drop.N 3) (had : Bool) (s : ByteArray) (V : VL) (F : FL) (hV : V.length ≤ 1000) (hF : F.length ≤ 1000) :
    AW Try.prog C dropRest (retM 3 fn_scrimref24_Scope_Drop.res (.lit (.bool had)) [(0, some (rsB (.own 3) (.own 4))), (1, some (rowVs V)), (2, some (rowFs F)), (3, some (rowVs (delL s V))), (4, some (rowFs (delL s F)))] 5)
      ⟨[(0, .optr 0 0 0), (1, strA s), (4, .lit (.bool false)), (5, .lit (.bool had))], rH V F, 3⟩ := by
  have lV : (((V.map varE).length : Nat) : Int) = (V.length : Nat) := by simp
  have lF : (((F.map funE).length : Nat) : Int) = (F.length : Nat) := by simp
  refine walk4 ?_
  refine aw_nil 6 92 5 rfl ?_
  refine aw_loopB [0, 1, 4, 5] [0, 1, 2] (fun x : Nat × VL => [(6, .own 3), (7, i64A x.1)]) (fun x => [(3, some (rowVs x.2))]) 4
    (fun x => x.1 ≤ V.length ∧ x.2.length ≤ x.1 ∧ delL s V = x.2 ++ delL s (V.drop x.1)) (fun x => V.length - x.1) (0, []) ⟨Nat.zero_le _, Nat.zero_le _, rfl⟩ ?_
  rintro ⟨k, out⟩ ⟨hk, hol, hE⟩
  dsimp only [List.cons_append, List.nil_append] at hk hol hE ⊢
  have hlo : ((out.map varE).length + 1) * 80 ≤ 140737488355328 := by rw [List.length_map]; omega
  by_cases hlt : k < V.length
  · obtain ⟨p, hp⟩ : ∃ p, V[k]? = some p := ⟨_, List.getElem?_eq_getElem hlt⟩
    have hpk := nl_at (E := varE) hp
    rw [delL_at hp] at hE
    by_cases he : p.1 = s
    · rw [if_pos he, List.nil_append] at hE
      refine walk4 ?_
      exact ⟨(k + 1, out), by dsimp only; omega, ⟨by dsimp only; omega, by dsimp only; omega, hE⟩, wkR hC.m []⟩
    · rw [if_neg he, ← List.append_assoc] at hE
      have hms : (out ++ [p]).map varE = out.map varE ++ [varE p] := by simp
      refine walk4 ?_
      exact ⟨(k + 1, out ++ [p]), by dsimp only; omega, ⟨by dsimp only; omega, by simp; omega, hE⟩, wkR hC.m [(3, 5)] (by dsimp only [rowVs]; rw [hms]; rfl)⟩
  · rw [List.drop_eq_nil_of_le (by omega), show delL s ([] : List _) = [] from rfl, List.append_nil] at hE
    clear hlo
    refine walk4 ?_
    refine aw_nil 8 95 10 rfl ?_
    refine aw_loopB [0, 1, 4, 5, 6] [0, 1, 2, 3] (fun x : Nat × FL => [(8, .own 4), (9, i64A x.1)]) (fun x => [(4, some (rowFs x.2))]) 5
      (fun x => x.1 ≤ F.length ∧ x.2.length ≤ x.1 ∧ delL s F = x.2 ++ delL s (F.drop x.1)) (fun x => F.length - x.1) (0, []) ⟨Nat.zero_le _, Nat.zero_le _, rfl⟩ ?_
    rintro ⟨j, put⟩ ⟨hj, hpl, hG⟩
    dsimp only [List.cons_append, List.nil_append] at hj hpl hG ⊢
    have hlo : ((put.map funE).length + 1) * 160 ≤ 140737488355328 := by rw [List.length_map]; omega
    by_cases hlj : j < F.length
    · obtain ⟨q, hq⟩ : ∃ q, F[j]? = some q := ⟨_, List.getElem?_eq_getElem hlj⟩
      have hqk := nl_at (E := funE) hq
      rw [delL_at hq] at hG
      by_cases he : q.1 = s
      · rw [if_pos he, List.nil_append] at hG
        refine walk4 ?_
        exact ⟨(j + 1, put), by dsimp only; omega, ⟨by dsimp only; omega, by dsimp only; omega, hG⟩, wkR hC.m []⟩
      · rw [if_neg he, ← List.append_assoc] at hG
        have hms : (put ++ [q]).map funE = put.map funE ++ [funE q] := by simp
        refine walk4 ?_
        exact ⟨(j + 1, put ++ [q]), by dsimp only; omega, ⟨by dsimp only; omega, by simp; omega, hG⟩, wkR hC.m [(4, 6)] (by dsimp only [rowFs]; rw [hms]; rfl)⟩
    · rw [List.drop_eq_nil_of_le (by omega), show delL s ([] : List _) = [] from rfl, List.append_nil] at hG
      rw [hE, hG]
      refine walk4 ?_
      exact fin_m []

set_option maxHeartbeats 4000000 in
set_option maxRecDepth 10000 in
theorem rDrop_m (s : ByteArray) (V : VL) (F : FL) (hV : V.length ≤ 1000) (hF : F.length ≤ 1000) (had : Bool) (hh : (0 ≤ atL s V 0 ∨ 0 ≤ atL s F 0) ↔ had = true) :
    AMut Try.prog 39 [.optr 0 0 0, strA s] (rH V F) 3 (.lit (.bool had)) [(0, some (rsB (.own 3) (.own 4))), (1, some (rowVs V)), (2, some (rowFs F)), (3, some (rowVs (delL s V))), (4, some (rowFs (delL s F)))] 5 := by
  have c1 := rGet_m s V F hV
  have c2 := rFun_m s V F hF
  refine amut_of code_scrimref24_Scope_Drop (by simp [fn_scrimref24_Scope_Drop]) fun C hC => ?_
  have rest := fun had => dropRest_w hC had s V F hV hF
  generalize atL s V 0 = a1 at *
  generalize atL s F 0 = a2 at *
  refine walk4 ?_
  refine aw_reg (rrun4 ?_)
  refine r_callM [(0, 0), (1, 1), (2, 2)] c1 ?_
  by_cases h1 : 0 ≤ a1
  · obtain rfl : had = true := hh.1 (.inl h1)
    refine rrun4 ?_
    refine rg_nil ⟨rfl, ?_⟩
    exact aw_keepK [0, 1, 4, 5] [0, 1, 2] 3 (rest true)
  · refine rrun4 ?_
    refine r_callM [(0, 0), (1, 1), (2, 2)] c2 ?_
    by_cases h2 : 0 ≤ a2
    · obtain rfl : had = true := hh.1 (.inr h2)
      refine rrun4 ?_
      refine rg_nil ⟨rfl, ?_⟩
      exact aw_keepK [0, 1, 4, 5] [0, 1, 2] 3 (rest true)
    · obtain rfl : had = false := by
        cases had
        · rfl
        · exact absurd (hh.2 rfl) (by omega)
      refine rrun4 ?_
      refine rg_nil ⟨rfl, ?_⟩
      exact aw_keepK [0, 1, 4, 5] [0, 1, 2] 3 (rest false)

/-- how many cells all have -/
def sumV : VL → Nat
  | [] => 0
  | p :: r => sizA p.2.2 + sumV r
theorem sumV_take {V : VL} {k : Nat} {p} (h : V[k]? = some p) : sumV (V.take (k + 1)) = sumV (V.take k) + sizA p.2.2 := by
  induction V generalizing k with
  | nil => simp at h
  | cons q r ih =>
    cases k with
    | zero => simp at h; subst h; simp [sumV]
    | succ k => simp at h; simp only [List.take_succ_cons, sumV, ih h]; omega
theorem sumV_le {V : VL} (h : ∀ p ∈ V, sizA p.2.2 ≤ 4000) : ∀ k, sumV (V.take k) ≤ 4000 * k := by
  induction V with
  | nil => intro k; simp [sumV]
  | cons q r ih =>
    intro k
    cases k with
    | zero => simp [sumV]
    | succ k =>
      have h1 := h q (by simp)
      have h2 := ih (fun p hp => h p (by simp [hp])) k
      simp only [List.take_succ_cons, sumV]; omega
set_option maxHeartbeats 4000000 in
set_option maxRecDepth 10000 in
theorem rCells_m (V : VL) (F : FL) (hV : V.length ≤ 1000) (hz : ∀ p ∈ V, okA p.2.2 ∧ sizA p.2.2 ≤ 4000) :
    AMut Try.prog 40 [.optr 0 0 0] (rH V F) 3 (i64A (sumV V)) (rH V F) 3 := by
  have lV : (((V.map varE).length : Nat) : Int) = (V.length : Nat) := by simp
  refine amut_of code_scrimref24_Scope_Cells (by simp [fn_scrimref24_Scope_Cells]) fun C hC => ?_
  refine walk4 ?_
  refine aw_loopB [0, 2] [0, 1, 2] (fun k : Nat => [(3, i64A (sumV (V.take k))), (4, i64A k)]) (fun _ => []) 3 (fun k => k ≤ V.length) (fun k => V.length - k) 0 (Nat.zero_le _) ?_
  rintro k hk
  dsimp only [List.cons_append, List.nil_append]
  have hle := sumV_le (fun p hp => (hz p hp).2) k
  by_cases hlt : k < V.length
  · obtain ⟨p, hp⟩ : ∃ p, V[k]? = some p := ⟨_, List.getElem?_eq_getElem hlt⟩
    have hpk := nl_at (E := varE) hp
    have hpo := hz p (List.mem_of_getElem? hp)
    have hst := sumV_take hp
    have cs := rsize_a p.2.2 hpo.1 (by omega)
    have hq : sizA p.2.2 ≤ 4000 := hpo.2
    have e : ((sumV (V.take (k + 1)) : Nat) : Int) = (sumV (V.take k) : Nat) + (sizA p.2.2 : Nat) := by rw [hst]; simp
    refine walk4 ?_
    exact ⟨k + 1, by omega, by omega, wkR hC.m [] (by rw [e]; rfl)⟩
  · have e : V.take k = V := List.take_of_length_le (by omega)
    rw [e]
    refine walk4 ?_
    exact fin_m []
end Go.Proofs.Ytmbigpjokpdnkaa
namespace Go.Proofs.Ytmbigpjokpdnkaa
set_option linter.unusedVariables false
open Go.RowKit

set_option maxRecDepth 10000 in
theorem scDef_m (n : Int) (va fu fu' : List (List AV)) (s : ByteArray) (hs : s.size ≤ maxN) (b : Nat) (X : Xpr) (r : Option AV) (h0 : mapGet s fu = some r) (hv' : mapPut s (funV b X) fu = fu') :
    AMut Try.prog 22 [.optr 0 0 0, strA s, funV b X] (scH n va fu) 3 (.tup []) (scH n va fu') 3 := by
  have c0 := scNone_m n va fu
  refine amut_of code_scope_Scope_Define (by simp [fn_scope_Scope_Define]) fun C hC => ?_
  refine walk4 ?_
  refine aw_reg (rrun4 ?_)
  refine r_callM [(0, 0), (1, 1), (2, 2)] c0 ?_
  refine rrun4 ?_
  refine rg_nil ⟨rfl, ?_⟩
  refine walk4 ?_
  exact fin_m []

set_option maxRecDepth 10000 in
theorem scFun_yes (n : Int) (va fu : List (List AV)) (s : ByteArray) (b : Nat) (X : Xpr) (h0 : mapGet s fu = some (some (funV b X))) :
    AMut Try.prog 18 [.optr 0 0 0, strA s] (scH n va fu) 3 (.tup [funV b X, .lit (.bool true)]) (scH n va fu) 3 := by
  have c0 := scNone_m n va fu
  refine amut_of code_scope_Scope_Fun (by simp [fn_scope_Scope_Fun]) fun C hC => ?_
  refine walk4 ?_
  refine aw_reg (rrun4 ?_)
  refine r_callM [(0, 0), (1, 1), (2, 2)] c0 ?_
  refine rrun4 ?_
  refine rg_nil ⟨rfl, ?_⟩
  refine walk4 ?_
  exact fin_m []
set_option maxRecDepth 10000 in
theorem scFun_no (n : Int) (va fu : List (List AV)) (s : ByteArray) (h0 : mapGet s fu = some none) :
    AMut Try.prog 18 [.optr 0 0 0, strA s] (scH n va fu) 3 (.tup [fun00, .lit (.bool false)]) (scH n va fu) 3 := by
  have c0 := scNone_m n va fu
  refine amut_of code_scope_Scope_Fun (by simp [fn_scope_Scope_Fun]) fun C hC => ?_
  refine walk4 ?_
  refine aw_reg (rrun4 ?_)
  refine r_callM [(0, 0), (1, 1), (2, 2)] c0 ?_
  refine rrun4 ?_
  refine rg_nil ⟨rfl, ?_⟩
  refine walk4 ?_
  exact fin_m []

set_option maxRecDepth 10000 in
theorem scDrop_11 (n : Int) (va fu va' fu' : List (List AV)) (s : ByteArray) (b0 : Nat) (A0 : Arr) (k0 : Int) (h0 : mapGet s va = some (some (heldV b0 A0 k0))) (hv' : mapDel s va = va') (b1 : Nat) (X : Xpr) (h1 : mapGet s fu = some (some (funV b1 X))) (hf' : mapDel s fu = fu') (hn : 0 ≤ n ∧ n ≤ 1000000000) (hk0 : 0 ≤ k0 ∧ k0 ≤ 1000000000) :
    AMut Try.prog 25 [.optr 0 0 0, strA s] (scH n va fu) 3 (.lit (.bool true)) (scH (n - k0) va' fu') 3 := by
  have c0 := scNone_m n va fu
  refine amut_of code_scope_Scope_Drop (by simp [fn_scope_Scope_Drop]) fun C hC => ?_
  refine walk4 ?_
  refine aw_reg (rrun4 ?_)
  refine r_callM [(0, 0), (1, 1), (2, 2)] c0 ?_
  refine rrun4 ?_
  refine rg_nil ⟨rfl, ?_⟩
  refine walk4 ?_
  exact fin_m []
set_option maxRecDepth 10000 in
theorem scDrop_1x (n : Int) (va fu va' fu' : List (List AV)) (s : ByteArray) (b0 : Nat) (A0 : Arr) (k0 : Int) (h0 : mapGet s va = some (some (heldV b0 A0 k0))) (hv' : mapDel s va = va') (h1 : mapGet s fu = some none) (hf' : mapDel s fu = fu') (hn : 0 ≤ n ∧ n ≤ 1000000000) (hk0 : 0 ≤ k0 ∧ k0 ≤ 1000000000) :
    AMut Try.prog 25 [.optr 0 0 0, strA s] (scH n va fu) 3 (.lit (.bool true)) (scH (n - k0) va' fu') 3 := by
  have c0 := scNone_m n va fu
  refine amut_of code_scope_Scope_Drop (by simp [fn_scope_Scope_Drop]) fun C hC => ?_
  refine walk4 ?_
  refine aw_reg (rrun4 ?_)
  refine r_callM [(0, 0), (1, 1), (2, 2)] c0 ?_
  refine rrun4 ?_
  refine rg_nil ⟨rfl, ?_⟩
  refine walk4 ?_
  exact fin_m []
set_option maxRecDepth 10000 in
theorem scDrop_x1 (n : Int) (va fu va' fu' : List (List AV)) (s : ByteArray) (h0 : mapGet s va = some none) (hv' : mapDel s va = va') (b1 : Nat) (X : Xpr) (h1 : mapGet s fu = some (some (funV b1 X))) (hf' : mapDel s fu = fu') (hn : 0 ≤ n ∧ n ≤ 1000000000) :
    AMut Try.prog 25 [.optr 0 0 0, strA s] (scH n va fu) 3 (.lit (.bool true)) (scH (n - 0) va' fu') 3 := by
  have c0 := scNone_m n va fu
  refine amut_of code_scope_Scope_Drop (by simp [fn_scope_Scope_Drop]) fun C hC => ?_
  refine walk4 ?_
  refine aw_reg (rrun4 ?_)
  refine r_callM [(0, 0), (1, 1), (2, 2)] c0 ?_
  refine rrun4 ?_
  refine rg_nil ⟨rfl, ?_⟩
  refine walk4 ?_
  exact fin_m []
set_option maxRecDepth 10000 in
theorem scDrop_xx (n : Int) (va fu va' fu' : List (List AV)) (s : ByteArray) (h0 : mapGet s va = some none) (hv' : mapDel s va = va') (h1 : mapGet s fu = some none) (hf' : mapDel s fu = fu') (hn : 0 ≤ n ∧ n ≤ 1000000000) :
    AMut Try.prog 25 [.optr 0 0 0, strA s] (scH n va fu) 3 (.lit (.bool false)) (scH (n - 0) va' fu') 3 := by
  have c0 := scNone_m n va fu
  refine amut_of code_scope_Scope_Drop (by simp [fn_scope_Scope_Drop]) fun C hC => ?_
  refine walk4 ?_
  refine aw_reg (rrun4 ?_)
  refine r_callM [(0, 0), (1, 1), (2, 2)] c0 ?_
  refine rrun4 ?_
  refine rg_nil ⟨rfl, ?_⟩
  refine walk4 ?_
  exact fin_m []

/-! at lists -/
abbrev hE (v : Nat × Arr) : AV := heldV v.1 v.2 (sizA v.2 : Nat)
abbrev fE (v : Nat × Xpr) : AV := funV v.1 v.2
abbrev vaOf (W : VL) : List (List AV) := W.map (entE hE)
abbrev fuOf (U : FL) : List (List AV) := U.map (entE fE)

/-- the sizes that an array of a name may have -/
def szOK (v : Nat × Arr) : Prop := okA v.2 ∧ sizA v.2 ≤ 4000
theorem szOK.le {v : Nat × Arr} (h : szOK v) : (0 : Int) ≤ (sizA v.2 : Nat) ∧ ((sizA v.2 : Nat) : Int) ≤ 1000000000 := by
  have := h.2; omega

theorem sumV_perm {V W : VL} (h : V.Perm W) : sumV V = sumV W := by
  induction h with
  | nil => rfl
  | cons x _ ih => simp only [sumV, ih]
  | swap x y l => simp only [sumV]; omega
  | trans _ _ ih1 ih2 => rw [ih1, ih2]

theorem scPut_l (W : VL) (U : FL) (s : ByteArray) (hs : s.size ≤ maxN) (v : Nat × Arr) (hv : szOK v) (hz : ∀ p ∈ W, szOK p.2) (hu : Uni W) (hW : W.length ≤ 1000) :
    AMut Try.prog 21 [.optr 0 0 0, strA s, slotV v.1 v.2] (scH (sumV W) (vaOf W) (fuOf U)) 3 (.tup []) (scH (sumV (putW s v W)) (vaOf (putW s v W)) (fuOf U)) 3 := by
  have hn : (0 : Int) ≤ (sumV W : Nat) ∧ ((sumV W : Nat) : Int) ≤ 1000000000 := by
    have := sumV_le (fun p hp => (hz p hp).2) W.length
    rw [List.take_length] at this
    omega
  have hsz := size_a v.2 hv.1 (Nat.le_trans hv.2 (by decide))
  have hg := map_get hE s W
  have hp := map_put hE s v W
  have hsum : sumV (putW s v W) = sumV ((s, v) :: delL s W) := sumV_perm (putW_perm s v hu)
  simp only [sumV] at hsum
  cases hl : getL s W with
  | none =>
    rw [hl] at hg
    have hd : delL s W = W := delL_none (getL_none.1 hl)
    rw [hd] at hsum
    have h := scPut_new (sumV W) (vaOf W) (fuOf U) (vaOf (putW s v W)) s hs v.1 v.2 _ hsz hg hp hn hv.le
    have e : ((sumV W : Nat) : Int) + ((sizA v.2 : Nat) - 0) = (sumV (putW s v W) : Nat) := by rw [hsum]; omega
    rw [e] at h
    exact h
  | some u =>
    rw [hl] at hg
    have hd := sumV_perm (delL_split hu hl)
    simp only [sumV] at hd
    have hu0 := hz (s, u) (getL_some hl)
    have h := scPut_old (sumV W) (vaOf W) (fuOf U) (vaOf (putW s v W)) s hs v.1 v.2 _ hsz u.1 u.2 _ hg hp hn hv.le hu0.le
    have e : ((sumV W : Nat) : Int) + ((sizA v.2 : Nat) - (sizA u.2 : Nat)) = (sumV (putW s v W) : Nat) := by rw [hsum]; omega
    rw [e] at h
    exact h

theorem scDef_l (n : Int) (W : VL) (U : FL) (s : ByteArray) (hs : s.size ≤ maxN) (v : Nat × Xpr) :
    AMut Try.prog 22 [.optr 0 0 0, strA s, funV v.1 v.2] (scH n (vaOf W) (fuOf U)) 3 (.tup []) (scH n (vaOf W) (fuOf (putW s v U))) 3 :=
  scDef_m n (vaOf W) (fuOf U) _ s hs v.1 v.2 _ (map_get fE s U) (map_put fE s v U)

theorem scDrop_l (W : VL) (U : FL) (s : ByteArray) (hz : ∀ p ∈ W, szOK p.2) (hu : Uni W) (hw : Uni U) (hW : W.length ≤ 1000) :
    AMut Try.prog 25 [.optr 0 0 0, strA s] (scH (sumV W) (vaOf W) (fuOf U)) 3 (.lit (.bool ((getL s W).isSome || (getL s U).isSome))) (scH (sumV (delL s W)) (vaOf (delL s W)) (fuOf (delL s U))) 3 := by
  have hn : (0 : Int) ≤ (sumV W : Nat) ∧ ((sumV W : Nat) : Int) ≤ 1000000000 := by
    have := sumV_le (fun p hp => (hz p hp).2) W.length
    rw [List.take_length] at this
    omega
  have hg := map_get hE s W
  have hf := map_get fE s U
  have dv := map_del hE s W hu
  have df := map_del fE s U hw
  cases hl : getL s W with
  | none =>
    rw [hl] at hg
    have hd : delL s W = W := delL_none (getL_none.1 hl)
    have e : ((sumV W : Nat) : Int) - 0 = (sumV (delL s W) : Nat) := by rw [hd]; omega
    cases hk : getL s U with
    | none =>
      rw [hk] at hf
      have h := scDrop_xx (sumV W) (vaOf W) (fuOf U) _ _ s hg dv hf df hn
      rw [e] at h
      exact h
    | some x =>
      rw [hk] at hf
      have h := scDrop_x1 (sumV W) (vaOf W) (fuOf U) _ _ s hg dv x.1 x.2 hf df hn
      rw [e] at h
      exact h
  | some u =>
    rw [hl] at hg
    have hd := sumV_perm (delL_split hu hl)
    simp only [sumV] at hd
    have hu0 := hz (s, u) (getL_some hl)
    have e : ((sumV W : Nat) : Int) - (sizA u.2 : Nat) = (sumV (delL s W) : Nat) := by omega
    cases hk : getL s U with
    | none =>
      rw [hk] at hf
      have h := scDrop_1x (sumV W) (vaOf W) (fuOf U) _ _ s u.1 u.2 _ hg dv hf df hn hu0.le
      rw [e] at h
      exact h
    | some x =>
      rw [hk] at hf
      have h := scDrop_11 (sumV W) (vaOf W) (fuOf U) _ _ s u.1 u.2 _ hg dv x.1 x.2 hf df hn hu0.le
      rw [e] at h
      exact h

/-! a deed in both -/
abbrev dH (n : Int) (va fu : List (List AV)) (rv rf : AV) (V : VL) (F : FL) : Hp := [(0, some (scB n)), (1, some (mpB va)), (2, some (mpB fu)), (3, some (rsB rv rf)), (4, some (rowVs V)), (5, some (rowFs F))]

set_option maxHeartbeats 1000000 in
set_option maxRecDepth 10000 in
theorem does_put (d : SDeed) (hd : d.kind = 0 ∨ d.kind = 1 ∨ d.kind = 2) (hs : d.name.size ≤ maxN) (W V : VL) (U F : FL) (hv : szOK (d.b, d.v)) (hz : ∀ p ∈ W, szOK p.2) (hu : Uni W) (hW : W.length ≤ 1000) (hV : V.length ≤ 1000) :
    AMut Try.prog 15 [.optr 0 0 0, .optr 3 0 0, .agg (sdeedV d)] (dH (sumV W) (vaOf W) (fuOf U) (.own 4) (.own 5) V F) 6 (.lit (.bool true))
      [(0, some (scB (sumV (putW d.name (d.b, d.v) W)))), (1, some (mpB (vaOf (putW d.name (d.b, d.v) W)))), (2, some (mpB (fuOf U))), (3, some (rsB (.own 6) (.own 5))), (4, some (rowVs V)), (5, some (rowFs F)), (6, some (rowVs (putL d.name (d.b, d.v) V)))] 7 := by
  have c1 := scPut_l W U d.name hs (d.b, d.v) hv hz hu hW
  have c2 := rPut_m d.name d.b d.v V F hV
  refine amut_of code_scrimlaw24_does (by simp [fn_scrimlaw24_does]) fun C hC => ?_
  obtain ⟨kd, nm, b, v, f⟩ := d
  simp only at hd
  have go : ∀ kd : Int, (kd = 0 ∨ kd = 1 ∨ kd = 2) → AW Try.prog C fn_scrimlaw24_does.body (retM 6 fn_scrimlaw24_does.res (.lit (.bool true)) [(0, some (scB (sumV (putW nm (b, v) W)))), (1, some (mpB (vaOf (putW nm (b, v) W)))), (2, some (mpB (fuOf U))), (3, some (rsB (.own 6) (.own 5))), (4, some (rowVs V)), (5, some (rowFs F)), (6, some (rowVs (putL nm (b, v) V)))] 7) ⟨argT 0 [.optr 0 0 0, .optr 3 0 0, .agg (sdeedV ⟨kd, nm, b, v, f⟩)], dH (sumV W) (vaOf W) (fuOf U) (.own 4) (.own 5) V F, 6⟩ := fun kd hk => by
    rcases hk with rfl | rfl | rfl <;>
     (refine walk4 ?_
      refine aw_reg (rrun4 ?_)
      refine r_callM [(0, 0), (1, 1), (2, 2)] c1 ?_
      refine rrun4 ?_
      refine rg_nil ⟨rfl, ?_⟩
      refine walk4 ?_
      refine aw_reg (rrun4 ?_)
      refine r_callN [(3, 0), (4, 1), (5, 2)] c2 ?_
      refine rrun4 ?_
      refine rg_nil ⟨rfl, ?_⟩
      refine walk4 ?_
      exact fin_m [(6, 7)])
  exact go kd hd

set_option maxHeartbeats 1000000 in
set_option maxRecDepth 10000 in
theorem does_def (nm : ByteArray) (b : Nat) (v : Arr) (f : Xpr) (hs : nm.size ≤ maxN) (n : Int) (W V : VL) (U F : FL) (hF : F.length ≤ 1000) :
    AMut Try.prog 15 [.optr 0 0 0, .optr 3 0 0, .agg (sdeedV ⟨3, nm, b, v, f⟩)] (dH n (vaOf W) (fuOf U) (.own 4) (.own 5) V F) 6 (.lit (.bool true))
      [(0, some (scB n)), (1, some (mpB (vaOf W))), (2, some (mpB (fuOf (putW nm (b, f) U)))), (3, some (rsB (.own 4) (.own 6))), (4, some (rowVs V)), (5, some (rowFs F)), (6, some (rowFs (putL nm (b, f) F)))] 7 := by
  have c1 := scDef_l n W U nm hs (b, f)
  have c2 := rDef_m nm b f V F hF
  refine amut_of code_scrimlaw24_does (by simp [fn_scrimlaw24_does]) fun C hC => ?_
  refine walk4 ?_
  refine aw_reg (rrun4 ?_)
  refine r_callM [(0, 0), (1, 1), (2, 2)] c1 ?_
  refine rrun4 ?_
  refine rg_nil ⟨rfl, ?_⟩
  refine walk4 ?_
  refine aw_reg (rrun4 ?_)
  refine r_callN [(3, 0), (4, 1), (5, 2)] c2 ?_
  refine rrun4 ?_
  refine rg_nil ⟨rfl, ?_⟩
  refine walk4 ?_
  exact fin_m [(6, 7)]

set_option maxHeartbeats 1000000 in
set_option maxRecDepth 10000 in
theorem does_drop (nm : ByteArray) (b : Nat) (v : Arr) (f : Xpr) (W V : VL) (U F : FL) (hz : ∀ p ∈ W, szOK p.2) (hu : Uni W) (hw : Uni U) (hW : W.length ≤ 1000) (hV : V.length ≤ 1000) (hF : F.length ≤ 1000) (e1 : getL nm W = getL nm V) (e2 : getL nm U = getL nm F) :
    AMut Try.prog 15 [.optr 0 0 0, .optr 3 0 0, .agg (sdeedV ⟨4, nm, b, v, f⟩)] (dH (sumV W) (vaOf W) (fuOf U) (.own 4) (.own 5) V F) 6 (.lit (.bool true))
      [(0, some (scB (sumV (delL nm W)))), (1, some (mpB (vaOf (delL nm W)))), (2, some (mpB (fuOf (delL nm U)))), (3, some (rsB (.own 6) (.own 7))), (4, some (rowVs V)), (5, some (rowFs F)), (6, some (rowVs (delL nm V))), (7, some (rowFs (delL nm F)))] 8 := by
  have c1 := scDrop_l W U nm hz hu hw hW
  have c2 := rDrop_m nm V F hV hF ((getL nm W).isSome || (getL nm U).isSome) (by rw [atL_ge, atL_ge, e1, e2, Bool.or_eq_true])
  generalize ((getL nm W).isSome || (getL nm U).isSome) = q at *
  refine amut_of code_scrimlaw24_does (by simp [fn_scrimlaw24_does]) fun C hC => ?_
  cases q with
  | true =>
    refine walk4 ?_
    refine aw_reg (rrun4 ?_)
    refine r_callM [(0, 0), (1, 1), (2, 2)] c1 ?_
    refine rrun4 ?_
    refine r_callN2 [(3, 0), (4, 1), (5, 2)] c2 ?_
    refine rrun4 ?_
    refine rg_nil ⟨rfl, ?_⟩
    refine walk4 ?_
    exact fin_m [(6, 7), (7, 8)]
  | false =>
    refine walk4 ?_
    refine aw_reg (rrun4 ?_)
    refine r_callM [(0, 0), (1, 1), (2, 2)] c1 ?_
    refine rrun4 ?_
    refine r_callN2 [(3, 0), (4, 1), (5, 2)] c2 ?_
    refine rrun4 ?_
    refine rg_nil ⟨rfl, ?_⟩
    refine walk4 ?_
    exact fin_m [(6, 7), (7, 8)]

set_option maxHeartbeats 1000000 in
set_option maxRecDepth 10000 in
theorem does_no (kd : Int) (h0 : kd ≠ 0) (h1 : kd ≠ 1) (h2 : kd ≠ 2) (h3 : kd ≠ 3) (h4 : kd ≠ 4) (nm : ByteArray) (b : Nat) (v : Arr) (f : Xpr) (n : Int) (va fu : List (List AV)) (V : VL) (F : FL) :
    AMut Try.prog 15 [.optr 0 0 0, .optr 3 0 0, .agg (sdeedV ⟨kd, nm, b, v, f⟩)] (dH n va fu (.own 4) (.own 5) V F) 6 (.lit (.bool true)) (dH n va fu (.own 4) (.own 5) V F) 6 := by
  refine amut_of code_scrimlaw24_does (by simp [fn_scrimlaw24_does]) fun C hC => ?_
  refine walk4 ?_
  exact fin_m []
end Go.Proofs.Ytmbigpjokpdnkaa
