/- Arguments that the form reads, opened as data. -/
import Derived.Test.YtkgnnnehmnoleaaAbs6
import Derived.ProofKit
import Derived.OpenShut
import Derived.SizedLaws
namespace Go.Proofs.Ytkgnnnehmnoleaa
set_option linter.unusedVariables false
open Go.RowKit

/-- what is read off arguments of a type -/
def Typ (P : Program) : Nat → TypeId → List AV → Prop
  | 0, _, _ => False
  | n + 1, t, avs => match P.underlying t with
    | some .bool => ∃ b, avs = [.lit (.bool b)]
    | some (.int k) => ∃ z, avs = [.lit (.int k z)] ∧ (Lit.int k z).wf = true
    | some .string => ∃ s : ByteArray, avs = [.lit (.string s)] ∧ s.size ≤ reachBytes
    | some (.slice e) => ∃ es, avs = [.sl (P.cellsOf e) es] ∧ es.length * P.bytesOf e ≤ reachBytes ∧ ∀ x ∈ es, Typ P n e x
    | some (.struct fs) => avs.length = P.cellsOf t ∧ ∀ (i : Nat) (f : Field), fs[i]? = some f → Typ P n f.type ((avs.drop f.offset).take (P.cellsOf f.type))
    | some (.array k e) => avs.length = P.cellsOf t ∧ ∀ i, i < k → Typ P n e ((avs.drop (i * P.cellsOf e)).take (P.cellsOf e))
    | _ => False

/-- a struct's fields lie one behind the other -/
def layB (P : Program) : List Field → Nat → Nat → Bool
  | [], off, n => Nat.beq off n
  | f :: fs, off, n => Nat.beq f.offset off && layB P fs (off + P.cellsOf f.type) n

/-- types that lead to none but these -/
def closedB (P : Program) (T : List TypeId) : Bool :=
  T.all fun t => match P.underlying t with
    | some .bool | some (.int _) | some .string => Nat.beq (P.cellsOf t) 1
    | some (.slice e) => T.any (Nat.beq e) && Nat.blt 0 (P.bytesOf e) && Nat.beq (P.cellsOf t) 1
    | some (.struct fs) => layB P fs.toList 0 (P.cellsOf t) && fs.toList.all fun f => T.any (Nat.beq f.type)
    | _ => false

theorem any_beq {T : List TypeId} {e : TypeId} (h : T.any (Nat.beq e) = true) : e ∈ T := by
  rw [List.any_eq_true] at h
  obtain ⟨x, hx, hb⟩ := h
  rw [Nat.eq_of_beq_eq_true hb]; exact hx

theorem RdIL.one {im : Nat → Prop} {w : World} {av : AV} {v : Value} (h : RdI im w av v) : RdIL im w [av] [v] := ⟨v, [], rfl, h, rfl⟩

section
variable {H : Type} {enc : TypeId × Value → H} {P : Program} {w : World} {held : Bool}

theorem weightsAll_mem {e : TypeId} : ∀ {l : List (DataW H)} {d : DataW H} {n : Nat}, d ∈ l → n ∈ d.weights P e → n ∈ DataW.weightsAll P e l
  | [], d, n, h, _ => by cases h
  | a :: l, d, n, h, hn => by
    simp only [DataW.weightsAll, List.mem_append]
    rcases List.mem_cons.1 h with rfl | h
    · exact .inl hn
    · exact .inr (weightsAll_mem h hn)

theorem weightsEach_mem : ∀ {ts : List TypeId} {l : List (DataW H)} {i : Nat} {t : TypeId} {d : DataW H} {n : Nat}, ts[i]? = some t → l[i]? = some d → n ∈ d.weights P t → n ∈ DataW.weightsEach P ts l
  | [], _, i, t, d, n, h, _, _ => by simp at h
  | _ :: _, [], i, t, d, n, _, h, _ => by simp at h
  | t0 :: ts, d0 :: l, 0, t, d, n, h, h', hn => by
    simp only [List.getElem?_cons_zero, Option.some.injEq] at h h'
    subst h; subst h'
    simp only [DataW.weightsEach, List.mem_append]; exact .inl hn
  | t0 :: ts, d0 :: l, i + 1, t, d, n, h, h', hn => by
    simp only [DataW.weightsEach, List.mem_append]; exact .inr (weightsEach_mem (by simpa using h) (by simpa using h') hn)

/-- the parts of a struct or array, put together -/
theorem lay_rd {im : Nat → Prop} {cs : List Value} {R : Field → List AV → Prop} : ∀ (fs : List Field) (off n : Nat), layB P fs off n = true → off ≤ n → n = cs.length →
    (∀ f ∈ fs, ∃ avs, RdIL im w avs ((cs.drop f.offset).take (P.cellsOf f.type)) ∧ R f avs) → ∃ avs, RdIL im w avs (cs.drop off) ∧ ∀ f ∈ fs, R f ((avs.drop (f.offset - off)).take (P.cellsOf f.type)) ∧ off ≤ f.offset
  | [], off, n, h, hle, hn, _ => by
    have := Nat.eq_of_beq_eq_true h
    refine ⟨[], ?_, fun f hf => by cases hf⟩
    rw [List.drop_eq_nil_of_le (by omega)]; rfl
  | f :: fs, off, n, h, hle, hn, hf => by
    simp only [layB, Bool.and_eq_true] at h
    have ho := Nat.eq_of_beq_eq_true h.1
    obtain ⟨a1, h1, h2⟩ := hf f (by simp)
    have hge : off + P.cellsOf f.type ≤ n := by
      have : ∀ (fs : List Field) (o n : Nat), layB P fs o n = true → o ≤ n := by
        intro fs; induction fs with
        | nil => intro o n h; have := Nat.eq_of_beq_eq_true h; omega
        | cons f fs ih => intro o n h; simp only [layB, Bool.and_eq_true] at h; have := ih _ _ h.2; omega
      exact this _ _ _ h.2
    obtain ⟨a2, h3, h4⟩ := lay_rd fs (off + P.cellsOf f.type) n h.2 hge hn (fun f hf' => hf f (by simp [hf']))
    rw [ho] at h1
    have hl1 : a1.length = P.cellsOf f.type := by
      have := (RdIL.length h1)
      rw [List.length_take, List.length_drop] at this; omega
    refine ⟨a1 ++ a2, ?_, ?_⟩
    · have e : cs.drop off = (cs.drop off).take (P.cellsOf f.type) ++ cs.drop (off + P.cellsOf f.type) := by
        rw [← List.drop_drop, List.take_append_drop]
      rw [e]; exact h1.append h3
    · intro f' hf'
      rcases List.mem_cons.1 hf' with rfl | hf'
      · rw [ho, Nat.sub_self, List.drop_zero, ← hl1, List.take_left]
        exact ⟨h2, Nat.le_refl _⟩
      · obtain ⟨k1, k2⟩ := h4 f' hf'
        refine ⟨?_, by omega⟩
        rw [show f'.offset - off = a1.length + (f'.offset - (off + P.cellsOf f.type)) from by omega, List.drop_length_add_append]
        exact k1

theorem reach_max {n : Nat} (h : n ≤ reachBytes) : n ≤ maxN := by
  have : reachBytes = 140737488351232 := by decide
  unfold maxN; omega

/-- AN ARGUMENT, OPENED: what the form reads of it, as data -/
theorem trod_typ {T : List TypeId} (hT : closedB P T = true) : ∀ (n : Nat) (t : TypeId) (cs : List Value) (x : DataW H × List MemPlace), t ∈ T → DataW.trod enc P w 0 (fun _ => true) held n t cs = some x → (∀ k ∈ x.1.weights P t, k ≤ reachBytes) →
    ∃ avs, RdIL (fun b => b < w.heap.size) w avs cs ∧ Ones cs ∧ cs.length = P.cellsOf t ∧ Typ P n t avs := by
  intro n
  induction n with
  | zero => intro t cs x _ h; simp [DataW.trod] at h
  | succ n ih =>
    intro t cs x ht h hw
    have hc := List.all_eq_true.1 hT t ht
    cases hu : P.underlying t with
    | none => simp [hu] at hc
    | some d =>
      rw [hu] at hc
      cases d <;> simp only [Bool.false_eq_true] at hc
      case bool =>
        unfold DataW.trod at h
        rw [hu] at h
        have hc1 := Nat.eq_of_beq_eq_true hc
        split at h <;> simp_all
        rename_i b
        refine ⟨[.lit (.bool b)], RdIL.one rfl, fun u hu => by simp at hu; subst hu; rfl, ?_⟩
        simp only [Typ, hu]
        exact ⟨b, rfl⟩
      case int k =>
        unfold DataW.trod at h
        rw [hu] at h
        have hc1 := Nat.eq_of_beq_eq_true hc
        split at h <;> simp_all
        rename_i k2 z e
        subst e
        refine ⟨[.lit (.int k z)], RdIL.one rfl, fun u hu => by simp at hu; subst hu; rfl, ?_⟩
        simp only [Typ, hu]
        exact ⟨z, rfl, h.1.2⟩
      case string =>
        unfold DataW.trod at h
        rw [hu] at h
        have hc1 := Nat.eq_of_beq_eq_true hc
        split at h <;> simp_all
        rename_i s
        obtain ⟨h1, rfl⟩ := h
        refine ⟨[.lit (.string s)], RdIL.one rfl, fun u hu => by simp at hu; subst hu; rfl, ?_⟩
        simp only [Typ, hu]
        exact ⟨s, rfl, by have := hw s.data.toList.length (by simp [DataW.weights]); simpa using this⟩
      case slice e =>
        simp only [Bool.and_eq_true] at hc
        have heT := any_beq hc.1.1
        have hby : 0 < P.bytesOf e := by simpa [Nat.blt_eq] using hc.1.2
        have hc1 := Nat.eq_of_beq_eq_true hc.2
        rcases DataW.trod_slice hu h with ⟨rfl, rfl⟩ | ⟨a, len, cap, elems, rest, m, hm, rfl, rfl, _, hlc, hcm, hlen, hel, hsp, _⟩
        · refine ⟨[.sl (P.cellsOf e) []], RdIL.one ⟨none, 0, [], rfl, Nat.le_refl _, fun _ => rfl, Nat.zero_le _, fun i v h => (by simp at h), fun u hu => (by cases hu), rfl⟩, fun u hu => by simp at hu; subst hu; rfl, by simpa using hc1.symm, ?_⟩
          simp only [Typ, hu]
          exact ⟨[], rfl, by simp, fun x hx => by cases hx⟩
        · obtain rfl : n = m := by omega
          have hwt : ∀ k ∈ (DataW.slice (elems.map (·.1)) (rest.map (·.1)) : DataW H).weights P t, k ≤ reachBytes := hw
          have hrl : rest.length = cap - len := (hsp rfl).1
          have hb : cap * P.bytesOf e ≤ reachBytes := by
            refine hwt _ ?_
            simp only [DataW.weights, hu, List.length_map, hlen, hrl]
            rw [show len + (cap - len) = cap from by omega]
            exact List.mem_cons_self
          have hcap : cap ≤ reachBytes := Nat.le_trans (Nat.le_mul_of_pos_right _ hby) hb
          have key : ∀ k, k ≤ len → ∃ es vs, es.length = k ∧ RdIE (fun b => b < w.heap.size) w (P.cellsOf e) es vs ∧ Ones vs ∧ (∀ j u, vs[j]? = some u → w.cell? (a.add j) = some u) ∧ ∀ x ∈ es, Typ P n e x := by
            intro k
            induction k with
            | zero => intro _; exact ⟨[], [], rfl, rfl, (fun u hu => by cases hu), (fun j u hj => by simp at hj), (fun x hx => by cases hx)⟩
            | succ k ihk =>
              intro hk
              obtain ⟨es, vs, h1, h2, h3, h4, h5⟩ := ihk (by omega)
              have hk' := hel k (by omega)
              obtain ⟨x, hx⟩ : ∃ x, elems[k]? = some x := ⟨elems[k]'(by omega), by simp⟩
              rw [hx] at hk'
              obtain ⟨cs', hcells, htr⟩ := Option.bind_eq_some_iff.1 hk'
              obtain ⟨_, hlcs, hcell⟩ := World.cells?_some hcells
              obtain ⟨avs, q1, q2, q3, q4⟩ := ih e cs' x heT htr (fun q hq => hwt q (by
                simp only [DataW.weights, hu]
                refine List.mem_cons_of_mem _ (List.mem_append.2 (.inl ?_))
                exact weightsAll_mem (List.mem_map.2 ⟨x, List.mem_of_getElem? hx, rfl⟩) hq))
              have hvl : vs.length = k * P.cellsOf e := by rw [h2.length, h1]
              refine ⟨es ++ [avs], vs ++ cs', by simp [h1], h2.append ⟨cs', [], by simp, by omega, q1, rfl⟩, ?_, ?_, ?_⟩
              · intro u hu
                rcases List.mem_append.1 hu with h | h
                · exact h3 u h
                · exact q2 u h
              · intro j u hj
                by_cases hjl : j < vs.length
                · rw [List.getElem?_append_left hjl] at hj; exact h4 j u hj
                · rw [List.getElem?_append_right (by omega)] at hj
                  have hlt := (List.getElem?_eq_some_iff.1 hj).1
                  have := hcell (j - vs.length) (by omega)
                  rw [hj] at this
                  have e1 : (a.add (k * P.cellsOf e)).add (j - vs.length) = a.add j := by
                    rw [Addr.add_add]; congr 1; omega
                  rw [e1] at this; exact this
              · intro x hx
                rcases List.mem_append.1 hx with h | h
                · exact h5 x h
                · simp at h; subst h; exact q4
          obtain ⟨es, vs, h1, h2, h3, h4, h5⟩ := key len (Nat.le_refl _)
          have hat : AtA (fun b => b < w.heap.size) w (some a) vs := fun i v hv => by
            have h0 := h4 i v hv
            obtain ⟨b, off, spot⟩ := a
            have hvl : 0 < vs.length := by have := (List.getElem?_eq_some_iff.1 hv).1; omega
            have h00 := h4 0 vs[0] (by simp [hvl])
            have hspot : spot = none := by simpa [Addr.add] using World.cell?_spot h00
            subst hspot
            rw [addr_add] at h0
            exact ⟨b, off, rfl, World.block_lt_of_cell? w _ h0, h0⟩
          refine ⟨[.sl (P.cellsOf e) es], RdIL.one ⟨some a, cap, vs, by rw [h1], by omega, fun h => (by cases h), reach_max (by omega), hat, h3, h2⟩, fun u hu => by simp at hu; subst hu; rfl, by simpa using hc1.symm, ?_⟩
          simp only [Typ, hu]
          exact ⟨es, rfl, Nat.le_trans (Nat.mul_le_mul_right _ (by omega)) hb, h5⟩
      case struct fs =>
        simp only [Bool.and_eq_true, List.all_eq_true] at hc
        obtain ⟨xs, m, hm, rfl, hl, hlen, hf⟩ := DataW.trod_struct hu h
        obtain rfl : n = m := by omega
        have hwt : ∀ k ∈ (DataW.agg (xs.map (·.1)) : DataW H).weights P t, k ≤ reachBytes := hw
        have hall : ∀ f ∈ fs.toList, ∃ avs, RdIL (fun b => b < w.heap.size) w avs ((cs.drop f.offset).take (P.cellsOf f.type)) ∧ (Ones ((cs.drop f.offset).take (P.cellsOf f.type)) ∧ Typ P n f.type avs) := by
          intro f hfm
          obtain ⟨i, hi⟩ := List.getElem?_of_mem hfm
          have hi' : fs[i]? = some f := by simpa using hi
          have hlt := (Array.getElem?_eq_some_iff.1 hi').1
          obtain ⟨x, hx⟩ : ∃ x, xs[i]? = some x := ⟨xs[i]'(by omega), by simp [hlen, hlt]⟩
          have htr := hf i f hi'
          rw [hx] at htr
          obtain ⟨avs, q1, q2, q3, q4⟩ := ih f.type _ x (any_beq (hc.2 f hfm)) htr (fun q hq => hwt q (by
            simp only [DataW.weights, hu]
            exact weightsEach_mem (i := i) (t := f.type) (d := x.1) (by simp [hi]) (by simp [hx]) hq))
          exact ⟨avs, q1, q2, q4⟩
        obtain ⟨avs, k1, k2⟩ := lay_rd (P := P) (R := fun f a => Ones ((cs.drop f.offset).take (P.cellsOf f.type)) ∧ Typ P n f.type a) fs.toList 0 (P.cellsOf t) hc.1 (Nat.zero_le _) hl.symm hall
        rw [List.drop_zero] at k1
        refine ⟨avs, k1, ?_, hl, ?_⟩
        · intro u hu'
          obtain ⟨i, hi⟩ := List.getElem?_of_mem hu'
          have hilt := (List.getElem?_eq_some_iff.1 hi).1
          -- the field in which it lies
          have find : ∀ (fs : List Field) (off : Nat), layB P fs off (P.cellsOf t) = true → off ≤ i → ∃ f ∈ fs, f.offset ≤ i ∧ i < f.offset + P.cellsOf f.type := by
            intro fs
            induction fs with
            | nil => intro off h hle; have := Nat.eq_of_beq_eq_true h; omega
            | cons f fs ihf =>
              intro off h hle
              simp only [layB, Bool.and_eq_true] at h
              have ho := Nat.eq_of_beq_eq_true h.1
              by_cases hlt : i < off + P.cellsOf f.type
              · exact ⟨f, by simp, by omega, by omega⟩
              · obtain ⟨f', h1, h2⟩ := ihf _ h.2 (by omega)
                exact ⟨f', by simp [h1], h2⟩
          obtain ⟨f, hfm, h1, h2⟩ := find fs.toList 0 hc.1 (Nat.zero_le _)
          have := (k2 f hfm).1.1 u
          refine this (List.mem_of_getElem? (i := i - f.offset) ?_)
          rw [List.getElem?_take, if_pos (by omega), List.getElem?_drop, show f.offset + (i - f.offset) = i from by omega]
          exact hi
        · simp only [Typ, hu]
          refine ⟨by have := RdIL.length k1; omega, fun i f hi => ?_⟩
          have := (k2 f (by rw [← Array.getElem?_toList] at hi; exact List.mem_of_getElem? hi)).1.2
          simpa using this
end
end Go.Proofs.Ytkgnnnehmnoleaa
