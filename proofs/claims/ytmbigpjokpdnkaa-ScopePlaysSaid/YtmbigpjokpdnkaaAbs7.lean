/- An abstract layer over the walk, part 8: calls by contracts out of the context; loops whose state is told by what changes. -/
import Derived.Test.YtmbigpjokpdnkaaAbsT
import Derived.Test.YtmbigpjokpdnkaaLabP
import Derived.Laws.Small
import Derived.Laws.Cover1
namespace Go.Proofs.Ytmbigpjokpdnkaa
set_option linter.unusedVariables false
open Go.RowKit

theorem u32_in (z : Int) (h1 : 0 ≤ z) (h2 : z ≤ 4294967295) : IntKind.u32.wrap z = z := by
  simp only [IntKind.wrap, IntKind.bits, IntKind.signed]
  simp only [Bool.false_and, Bool.false_eq_true, if_false]
  exact Int.emod_eq_of_lt h1 (by omega)


/-- a part of a list, told ahead -/
structure Cut (es : List (List AV)) (a b : Nat) (es' : List (List AV)) : Prop where
  le : a ≤ b
  len : b ≤ es.length
  eq : (es.drop a).take (b - a) = es'

theorem Cut.ints {k : IntKind} {s : List Int} {a b : Nat} (h1 : a ≤ b) (h2 : b ≤ s.length) : Cut (intsA k s) a b (intsA k ((s.drop a).take (b - a))) :=
  ⟨h1, by simpa [intsA] using h2, by simp [intsA, List.map_take, List.map_drop]⟩
theorem Cut.upto {k : IntKind} {s : List Int} {b : Nat} (h2 : b ≤ s.length) : Cut (intsA k s) 0 b (intsA k (s.take b)) :=
  ⟨Nat.zero_le _, by simpa [intsA] using h2, by simp [intsA, List.map_take]⟩
theorem Cut.from {k : IntKind} {s : List Int} {a : Nat} (h2 : a ≤ s.length) : Cut (intsA k s) a (intsA k s).length (intsA k (s.drop a)) :=
  ⟨by simpa [intsA] using h2, Nat.le_refl _, by
    rw [List.take_of_length_le (by simp)]; simp [intsA, List.map_drop]⟩
theorem Cut.map {α : Type} {f : α → List AV} {s : List α} {a b : Nat} (h1 : a ≤ b) (h2 : b ≤ s.length) : Cut (s.map f) a b (((s.drop a).take (b - a)).map f) :=
  ⟨h1, by simpa using h2, by simp [List.map_take, List.map_drop]⟩

section
variable {P : Program} {tt : List (Nat × AV)} {hh : Hp} {nn dd : Nat} {g : Option (Nat × Bool)} {l : List AInst} {acc acc' : List SD} {l' : List AInst} {st' : St}
theorem s_sliceC {sz : Nat} {x : Operand} {lo hi : Option Operand} {es es' : List (List AV)} {a b : Nat} (hg : gOK ⟨tt, hh, nn⟩ g) (hx : ev ⟨tt, hh, nn⟩ x = .sl sz es) (hl : bndA ⟨tt, hh, nn⟩ lo 0 a) (hh' : bndA ⟨tt, hh, nn⟩ hi es.length b) (hc : Cut es a b es')
    (h : Runs P (⟨⟨some dd, g, .slice sz x lo hi none⟩, .sl sz es', [], [], 0⟩ :: acc) l ⟨(dd, .sl sz es') :: tt, hh, nn⟩ acc' l' st') : Runs P acc (⟨some dd, g, .slice sz x lo hi none⟩ :: l) ⟨tt, hh, nn⟩ acc' l' st' := Runs.step' ((q_slice hg hx hl hh' (.inl rfl) hc.le hc.len).cast (by rw [hc.eq])) h
end


/-- a list with elements is not nil -/
theorem q_eqvL {P : Program} {st : St} {d : Option Nat} {g : Option (Nat × Bool)} {t e : TypeId} {x y : Operand} {sz : Nat} {es : List (List AV)} (hu : P.underlying t = some (.slice e)) (hg : gOK st g) (hx : ev st x = .sl sz es) (hn : 0 < es.length) (hy : ev st y = .lit (.slice none 0 0)) : Step P st ⟨⟨d, g, .eqv t false x y⟩, .lit (.bool false), [], [], 0⟩ :=
  step_val [] hg fun o C E ac w sx hlow R hr hh => by
    have h1 := hr x (by simp [AOp.opds])
    rw [hx] at h1
    obtain ⟨a, cap, vs, h1, hle, hnil, _⟩ := h1
    have h2 := lit_eval (hr y (by simp [AOp.opds])) hy
    have ha : a.isNone = false := by
      cases a with
      | none => have := hnil rfl; omega
      | some a => rfl
    obtain ⟨dst, o, ty, pos, after, guard⟩ := o
    obtain ⟨t2, rfl⟩ := low_spec hlow
    refine ⟨.bool a.isNone, ?_, by rw [ha]; rfl⟩
    have hq : (eqGuard .eql t x y (.slice a es.length cap) (.slice none 0 0)).run P w = .ok () w := rfl
    simp only [execOp, h1, h2, Sem.run_bind, cond_false, hq, Result.andThen_ok, eqvS_run hu, Sem.run_pure]
section
variable {P : Program} {tt : List (Nat × AV)} {hh : Hp} {nn dd : Nat} {g : Option (Nat × Bool)} {l : List AInst} {acc acc' : List SD} {l' : List AInst} {st' : St}
theorem s_eqvL {t e : TypeId} {x y : Operand} {sz : Nat} {es : List (List AV)} (hg : gOK ⟨tt, hh, nn⟩ g) (hx : ev ⟨tt, hh, nn⟩ x = .sl sz es) (hy : ev ⟨tt, hh, nn⟩ y = .lit (.slice none 0 0)) (hu : P.underlying t = some (.slice e)) (hn : 0 < es.length) (h : Runs P (⟨⟨some dd, g, .eqv t false x y⟩, .lit (.bool false), [], [], 0⟩ :: acc) l ⟨(dd, .lit (.bool false)) :: tt, hh, nn⟩ acc' l' st') : Runs P acc (⟨some dd, g, .eqv t false x y⟩ :: l) ⟨tt, hh, nn⟩ acc' l' st' := Runs.step' (q_eqvL hu hg hx hn hy) h
end

/-- an operation whose guard says no hands back nothing -/
def gUn (st : St) : Option (Nat × Bool) → Prop
  | none => False
  | some (t, b) => st.get t = .lit undef
theorem yielded_undef {ops : Array Oper} {tmps : Array Value} {j t : Nat} (h : (ops[j]?).bind (·.dst) = some t) (hb : tmps.getD t undef = undef) : yielded ops tmps j = none := by
  unfold yielded
  rw [h]
  simp only [Option.bind_some]
  rw [Array.getD_eq_getD_getElem?] at hb
  cases ht : tmps[t]? with
  | none => rfl
  | some v => rw [ht] at hb; simp at hb; subst hb; rfl
theorem step_noU {P : Program} {st : St} {i : AInst} (hg : gNo st i.g ∨ gUn st i.g) : Step P st ⟨i, .lit undef, [], [], 0⟩ := by
  intro N ops o hlow C E a w sx hN R hag hh hnw K Q hK
  have hw : Region.wanted o (yielded ops a.tmps) = false := by
    rcases hg with hg | hg
    · exact unwanted_of hlow R hag hg
    · obtain ⟨h1, h2, h3, h4⟩ := lower_parts hlow
      unfold Region.wanted
      cases ho : o.guard with
      | none => rw [ho] at h4; rw [show i.g = none from h4] at hg; exact hg.elim
      | some p =>
        obtain ⟨j, b⟩ := p
        rw [ho] at h4
        obtain ⟨t, ht, e⟩ := h4
        rw [e] at hg
        have := R.tm t
        rw [hag t (mem_reads_g e), show st.get t = .lit undef from hg] at this
        simp only [yielded_undef ht this]
        cases b <;> rfl
  rw [if_neg (by rw [hw]; exact Bool.false_ne_true)]
  obtain ⟨h1, h2, h3, h4⟩ := lower_parts hlow
  refine hK undef w E ?_ (fun id h => .inl h)
  have := R.put (d := o.dst) (fun k hk => by rw [hN]; exact h2 k hk) (v := .lit undef) (u := undef) rfl
  simp only [St.appx, List.nil_append]
  rw [h1]
  exact this

section
variable {P : Program} {tt : List (Nat × AV)} {hh : Hp} {nn dd : Nat} {g : Option (Nat × Bool)} {l : List AInst} {acc acc' : List SD} {l' : List AInst} {st' : St}
theorem s_noA {o : AOp} (hg : gNo ⟨tt, hh, nn⟩ g) (h : Runs P (⟨⟨some dd, g, o⟩, .lit undef, [], [], 0⟩ :: acc) l ⟨(dd, .lit undef) :: tt, hh, nn⟩ acc' l' st') : Runs P acc (⟨some dd, g, o⟩ :: l) ⟨tt, hh, nn⟩ acc' l' st' := Runs.step' (step_noU (.inl hg)) h
theorem s_noB {o : AOp} (hg : gUn ⟨tt, hh, nn⟩ g) (h : Runs P (⟨⟨some dd, g, o⟩, .lit undef, [], [], 0⟩ :: acc) l ⟨(dd, .lit undef) :: tt, hh, nn⟩ acc' l' st') : Runs P acc (⟨some dd, g, o⟩ :: l) ⟨tt, hh, nn⟩ acc' l' st' := Runs.step' (step_noU (.inr hg)) h
theorem s_noC {o : AOp} (hg : gUn ⟨tt, hh, nn⟩ g) (h : Runs P (⟨⟨none, g, o⟩, .lit undef, [], [], 0⟩ :: acc) l ⟨tt, hh, nn⟩ acc' l' st') : Runs P acc (⟨none, g, o⟩ :: l) ⟨tt, hh, nn⟩ acc' l' st' := Runs.step' (step_noU (.inr hg)) h
end

def refsA (h : Hp) (avs : List AV) : List Nat := avs.flatMap (refsN h 4)


/-- the least, the greatest of some numbers -/
theorem mm_run {P : Program} {w : World} {ρ : Operand → Value} {mx : Bool} {x y : Operand} {ts : Array TypeId} {dst : Option Tmp} {ty : TypeId} {pos : String} {after : Array Edge} {guard : Option (Nat × Bool)} {k : IntKind} {a b : Int} (hx : ρ x = .int k a) (hy : ρ y = .int k b) :
    (execOp ρ ⟨dst, .call { callee := .builtin (bif mx then .max else .min), args := #[x, y], argTypes := ts }, ty, pos, after, guard⟩).run P w = .ok (.value (.int k (bif mx then (if b > a then b else a) else (if b < a then b else a)))) w := by
  have h1 := Go.run_max_int2 (P := P) (w := w) ts ty k k a b
  have h2 := Go.run_min_int2 (P := P) (w := w) ts ty k k a b
  cases mx <;> simp only [execOp, resolve, Sem.run_bind, Sem.run_pure, Result.andThen_ok, invoke, builtin, List.map_toArray, List.map_cons, List.map_nil, hx, hy, cond_true, cond_false, h1, h2]
theorem q_mm {P : Program} {st : St} {d : Option Nat} {g : Option (Nat × Bool)} {mx : Bool} {x y : Operand} {k : IntKind} {a b : Int} (hg : gOK st g) (hx : ev st x = .lit (.int k a)) (hy : ev st y = .lit (.int k b)) : Step P st ⟨⟨d, g, .mm mx x y⟩, .lit (.int k (bif mx then (if b > a then b else a) else (if b < a then b else a))), [], [], 0⟩ :=
  step_val [] hg fun o C E ac w sx hlow R hr hh => by
    have h1 := lit_eval (hr x (by simp [AOp.opds])) hx
    have h2 := lit_eval (hr y (by simp [AOp.opds])) hy
    obtain ⟨dst, o, ty, pos, after, guard⟩ := o
    obtain ⟨t, rfl⟩ := low_spec hlow
    exact ⟨_, mm_run h1 h2, rfl⟩
theorem q_mx3 {P : Program} {st : St} {d : Option Nat} {g : Option (Nat × Bool)} {x y z : Operand} {k : IntKind} {a b c : Int} (hg : gOK st g) (hx : ev st x = .lit (.int k a)) (hy : ev st y = .lit (.int k b)) (hz : ev st z = .lit (.int k c)) : Step P st ⟨⟨d, g, .mx3 x y z⟩, .lit (.int k (if c > (if b > a then b else a) then c else (if b > a then b else a))), [], [], 0⟩ :=
  step_val [] hg fun o C E ac w sx hlow R hr hh => by
    have h1 := lit_eval (hr x (by simp [AOp.opds])) hx
    have h2 := lit_eval (hr y (by simp [AOp.opds])) hy
    have h3 := lit_eval (hr z (by simp [AOp.opds])) hz
    obtain ⟨dst, o, ty, pos, after, guard⟩ := o
    obtain ⟨t, rfl⟩ := low_spec hlow
    have h4 := Go.run_max_int3 (P := P) (w := w) t ty k k k a b c
    exact ⟨_, by simp only [execOp, resolve, Sem.run_bind, Sem.run_pure, Result.andThen_ok, invoke, builtin, List.map_toArray, List.map_cons, List.map_nil, h1, h2, h3, h4], rfl⟩
section
variable {P : Program} {tt : List (Nat × AV)} {hh : Hp} {nn dd : Nat} {g : Option (Nat × Bool)} {l : List AInst} {acc acc' : List SD} {l' : List AInst} {st' : St}
theorem s_min {x y : Operand} {k : IntKind} {a b v : Int} (hg : gOK ⟨tt, hh, nn⟩ g) (hx : ev ⟨tt, hh, nn⟩ x = .lit (.int k a)) (hy : ev ⟨tt, hh, nn⟩ y = .lit (.int k b)) (hv : (a ≤ b ∧ v = a) ∨ (b < a ∧ v = b)) (h : Runs P (⟨⟨some dd, g, .mm false x y⟩, .lit (.int k v), [], [], 0⟩ :: acc) l ⟨(dd, .lit (.int k v)) :: tt, hh, nn⟩ acc' l' st') : Runs P acc (⟨some dd, g, .mm false x y⟩ :: l) ⟨tt, hh, nn⟩ acc' l' st' :=
  Runs.step' ((q_mm hg hx hy).cast (by simp only [cond_false]; rcases hv with ⟨h1, rfl⟩ | ⟨h1, rfl⟩; rw [if_neg (by omega)]; rw [if_pos h1])) h
theorem s_max {x y : Operand} {k : IntKind} {a b v : Int} (hg : gOK ⟨tt, hh, nn⟩ g) (hx : ev ⟨tt, hh, nn⟩ x = .lit (.int k a)) (hy : ev ⟨tt, hh, nn⟩ y = .lit (.int k b)) (hv : (b ≤ a ∧ v = a) ∨ (a < b ∧ v = b)) (h : Runs P (⟨⟨some dd, g, .mm true x y⟩, .lit (.int k v), [], [], 0⟩ :: acc) l ⟨(dd, .lit (.int k v)) :: tt, hh, nn⟩ acc' l' st') : Runs P acc (⟨some dd, g, .mm true x y⟩ :: l) ⟨tt, hh, nn⟩ acc' l' st' :=
  Runs.step' ((q_mm hg hx hy).cast (by simp only [cond_true]; rcases hv with ⟨h1, rfl⟩ | ⟨h1, rfl⟩; rw [if_neg (by omega)]; rw [if_pos h1])) h
theorem s_cap {x : Operand} {a : Option Addr} {n c : Nat} (hg : gOK ⟨tt, hh, nn⟩ g) (hx : ev ⟨tt, hh, nn⟩ x = .lit (.slice a n c)) (h : Runs P (⟨⟨some dd, g, .cap x⟩, .lit (.int .i64 c), [], [], 0⟩ :: acc) l ⟨(dd, .lit (.int .i64 c)) :: tt, hh, nn⟩ acc' l' st') : Runs P acc (⟨some dd, g, .cap x⟩ :: l) ⟨tt, hh, nn⟩ acc' l' st' :=
  Runs.step' (q_capN hg hx) h
theorem s_mx3 {x y z : Operand} {k : IntKind} {a b c v : Int} (hg : gOK ⟨tt, hh, nn⟩ g) (hx : ev ⟨tt, hh, nn⟩ x = .lit (.int k a)) (hy : ev ⟨tt, hh, nn⟩ y = .lit (.int k b)) (hz : ev ⟨tt, hh, nn⟩ z = .lit (.int k c)) (hv : max (max a b) c = v) (h : Runs P (⟨⟨some dd, g, .mx3 x y z⟩, .lit (.int k v), [], [], 0⟩ :: acc) l ⟨(dd, .lit (.int k v)) :: tt, hh, nn⟩ acc' l' st') : Runs P acc (⟨some dd, g, .mx3 x y z⟩ :: l) ⟨tt, hh, nn⟩ acc' l' st' :=
  Runs.step' ((q_mx3 hg hx hy hz).cast (by subst hv; congr 2; (repeat' split) <;> omega)) h
/-- a block of one's own is given away -/
theorem s_callF {fo : Operand} {args : List Operand} {f : FuncId} {fi ca avs avs' : List AV} {r : AV} {id : Nat} {o : OB} (hg : gOK ⟨tt, hh, nn⟩ g) (hf : ev ⟨tt, hh, nn⟩ fo = .fn f fi ca) (hid : refsA hh (args.map (ev ⟨tt, hh, nn⟩)) = [id]) (ho : hl hh id = some o)
    (hv : optAll (viewN true (restr [id] ((id, some { o with ro := true }) :: hh)) 4) (fi ++ (args.map (ev ⟨tt, hh, nn⟩) ++ ca)) = some avs) (hc : ACalls P f avs' r) (hs : SubL avs avs') (h : Runs P (⟨⟨some dd, g, .call fo args⟩, r, [id], [(id, some { o with ro := true })], 0⟩ :: acc) l ⟨(dd, r) :: tt, (id, some { o with ro := true }) :: hh, nn⟩ acc' l' st') : Runs P acc (⟨some dd, g, .call fo args⟩ :: l) ⟨tt, hh, nn⟩ acc' l' st' :=
  Runs.step' (Step.freeze (upd := []) id ho (q_call (st := ⟨tt, (id, some { o with ro := true }) :: hh, nn⟩) true [id] hg hf hv hs hc rfl)) h
end
section
variable {P : Program} {tt : List (Nat × AV)} {hh : Hp} {nn dd : Nat} {g : Option (Nat × Bool)} {l : List AInst} {acc acc' : List SD} {l' : List AInst} {st' : St}
theorem s_callA {fo : Operand} {args : List Operand} {f : FuncId} {fi ca avs : List AV} {r : AV} (hg : gOK ⟨tt, hh, nn⟩ g) (hf : ev ⟨tt, hh, nn⟩ fo = .fn f fi ca) (hv : optAll (viewN true (restr [] hh) 4) (fi ++ (args.map (ev ⟨tt, hh, nn⟩) ++ ca)) = some avs) (hc : ACalls P f avs r) (h : Runs P (⟨⟨some dd, g, .call fo args⟩, r, [], [], 0⟩ :: acc) l ⟨(dd, r) :: tt, hh, nn⟩ acc' l' st') : Runs P acc (⟨some dd, g, .call fo args⟩ :: l) ⟨tt, hh, nn⟩ acc' l' st' := s_call true [] hg hf hv hc (SubL.refl _) rfl h
theorem s_callS {fo : Operand} {args : List Operand} {f : FuncId} {fi ca avs avs' : List AV} {r : AV} (hg : gOK ⟨tt, hh, nn⟩ g) (hf : ev ⟨tt, hh, nn⟩ fo = .fn f fi ca) (hv : optAll (viewN true (restr [] hh) 4) (fi ++ (args.map (ev ⟨tt, hh, nn⟩) ++ ca)) = some avs) (hc : ACalls P f avs' r) (hs : SubL avs avs') (h : Runs P (⟨⟨some dd, g, .call fo args⟩, r, [], [], 0⟩ :: acc) l ⟨(dd, r) :: tt, hh, nn⟩ acc' l' st') : Runs P acc (⟨some dd, g, .call fo args⟩ :: l) ⟨tt, hh, nn⟩ acc' l' st' := s_call true [] hg hf hv hc hs rfl h
theorem s_callB {fo : Operand} {args : List Operand} {f : FuncId} {fi ca avs : List AV} {r : AV} (hg : gOK ⟨tt, hh, nn⟩ g) (hf : ev ⟨tt, hh, nn⟩ fo = .fn f fi ca) (hv : optAll (viewN false (restr (refsA hh (args.map (ev ⟨tt, hh, nn⟩))) hh) 4) (fi ++ (args.map (ev ⟨tt, hh, nn⟩) ++ ca)) = some avs) (hc : ACalls P f avs r) (hr : scal r = true) (h : Runs P (⟨⟨some dd, g, .call fo args⟩, r, refsA hh (args.map (ev ⟨tt, hh, nn⟩)), [], 0⟩ :: acc) l ⟨(dd, r) :: tt, hh, nn⟩ acc' l' st') : Runs P acc (⟨some dd, g, .call fo args⟩ :: l) ⟨tt, hh, nn⟩ acc' l' st' := s_call false _ hg hf hv hc (SubL.refl _) hr h
theorem s_callR {fo : Operand} {args : List Operand} {f : FuncId} {fi ca avs : List AV} {r : AV} (hg : gOK ⟨tt, hh, nn⟩ g) (hf : ev ⟨tt, hh, nn⟩ fo = .fn f fi ca) (hv : optAll (viewN true (restr (refsA hh (args.map (ev ⟨tt, hh, nn⟩))) hh) 4) (fi ++ (args.map (ev ⟨tt, hh, nn⟩) ++ ca)) = some avs) (hc : ACalls P f avs r) (h : Runs P (⟨⟨some dd, g, .call fo args⟩, r, refsA hh (args.map (ev ⟨tt, hh, nn⟩)), [], 0⟩ :: acc) l ⟨(dd, r) :: tt, hh, nn⟩ acc' l' st') : Runs P acc (⟨some dd, g, .call fo args⟩ :: l) ⟨tt, hh, nn⟩ acc' l' st' := s_call true _ hg hf hv hc (SubL.refl _) rfl h

theorem s_addU64 {x y : Operand} {a b : Int} (hg : gOK ⟨tt, hh, nn⟩ g) (hx : ev ⟨tt, hh, nn⟩ x = .lit (.int .u64 a)) (hy : ev ⟨tt, hh, nn⟩ y = .lit (.int .u64 b)) (h1 : 0 ≤ a + b) (h2 : a + b ≤ 18446744073709551615) (h : Runs P (⟨⟨some dd, g, .bin .add x y⟩, .lit (.int .u64 (a + b)), [], [], 0⟩ :: acc) l ⟨(dd, .lit (.int .u64 (a + b))) :: tt, hh, nn⟩ acc' l' st') : Runs P acc (⟨some dd, g, .bin .add x y⟩ :: l) ⟨tt, hh, nn⟩ acc' l' st' := Runs.step' ((q_int hg hx hy rfl).cast (congrArg (fun n => AV.lit (.int .u64 n)) (IntWalk.u64_in _ (by omega)))) h
theorem s_subU64 {x y : Operand} {a b : Int} (hg : gOK ⟨tt, hh, nn⟩ g) (hx : ev ⟨tt, hh, nn⟩ x = .lit (.int .u64 a)) (hy : ev ⟨tt, hh, nn⟩ y = .lit (.int .u64 b)) (h1 : 0 ≤ a - b) (h2 : a - b ≤ 18446744073709551615) (h : Runs P (⟨⟨some dd, g, .bin .sub x y⟩, .lit (.int .u64 (a - b)), [], [], 0⟩ :: acc) l ⟨(dd, .lit (.int .u64 (a - b))) :: tt, hh, nn⟩ acc' l' st') : Runs P acc (⟨some dd, g, .bin .sub x y⟩ :: l) ⟨tt, hh, nn⟩ acc' l' st' := Runs.step' ((q_int hg hx hy rfl).cast (congrArg (fun n => AV.lit (.int .u64 n)) (IntWalk.u64_in _ (by omega)))) h
theorem s_mulU64 {x y : Operand} {a b : Int} (hg : gOK ⟨tt, hh, nn⟩ g) (hx : ev ⟨tt, hh, nn⟩ x = .lit (.int .u64 a)) (hy : ev ⟨tt, hh, nn⟩ y = .lit (.int .u64 b)) (h1 : 0 ≤ a * b) (h2 : a * b ≤ 18446744073709551615) (h : Runs P (⟨⟨some dd, g, .bin .mul x y⟩, .lit (.int .u64 (a * b)), [], [], 0⟩ :: acc) l ⟨(dd, .lit (.int .u64 (a * b))) :: tt, hh, nn⟩ acc' l' st') : Runs P acc (⟨some dd, g, .bin .mul x y⟩ :: l) ⟨tt, hh, nn⟩ acc' l' st' := Runs.step' ((q_int hg hx hy rfl).cast (congrArg (fun n => AV.lit (.int .u64 n)) (IntWalk.u64_in _ ⟨h1, h2⟩))) h
theorem s_divU64 {x y : Operand} {a b : Int} (hg : gOK ⟨tt, hh, nn⟩ g) (hx : ev ⟨tt, hh, nn⟩ x = .lit (.int .u64 a)) (hy : ev ⟨tt, hh, nn⟩ y = .lit (.int .u64 b)) (h0 : 0 ≤ a) (h1 : a ≤ 18446744073709551615) (h2 : 0 < b) (h : Runs P (⟨⟨some dd, g, .bin .quo x y⟩, .lit (.int .u64 (a / b)), [], [], 0⟩ :: acc) l ⟨(dd, .lit (.int .u64 (a / b))) :: tt, hh, nn⟩ acc' l' st') : Runs P acc (⟨some dd, g, .bin .quo x y⟩ :: l) ⟨tt, hh, nn⟩ acc' l' st' := Runs.step' ((q_div hg hx hy (by omega)).cast (congrArg (fun n => AV.lit (.int .u64 n)) (by rw [Int.tdiv_eq_ediv_of_nonneg h0]; exact IntWalk.u64_in _ ⟨Int.ediv_nonneg h0 (by omega), Int.le_trans (Int.ediv_le_self _ h0) h1⟩))) h
theorem s_divI64 {x y : Operand} {a b : Int} (hg : gOK ⟨tt, hh, nn⟩ g) (hx : ev ⟨tt, hh, nn⟩ x = .lit (.int .i64 a)) (hy : ev ⟨tt, hh, nn⟩ y = .lit (.int .i64 b)) (h0 : 0 ≤ a) (h1 : a ≤ 9223372036854775807) (h2 : 0 < b) (h : Runs P (⟨⟨some dd, g, .bin .quo x y⟩, .lit (.int .i64 (a / b)), [], [], 0⟩ :: acc) l ⟨(dd, .lit (.int .i64 (a / b))) :: tt, hh, nn⟩ acc' l' st') : Runs P acc (⟨some dd, g, .bin .quo x y⟩ :: l) ⟨tt, hh, nn⟩ acc' l' st' := Runs.step' ((q_div hg hx hy (by omega)).cast (congrArg (fun n => AV.lit (.int .i64 n)) (by rw [Int.tdiv_eq_ediv_of_nonneg h0]; exact IntWalk.i64_in _ ⟨Int.le_trans (by omega) (Int.ediv_nonneg h0 (by omega)), Int.le_trans (Int.ediv_le_self _ h0) h1⟩))) h
theorem s_remP {x y : Operand} {k : IntKind} {a b : Int} (hg : gOK ⟨tt, hh, nn⟩ g) (hx : ev ⟨tt, hh, nn⟩ x = .lit (.int k a)) (hy : ev ⟨tt, hh, nn⟩ y = .lit (.int k b)) (h0 : 0 ≤ a) (h2 : 0 < b) (h : Runs P (⟨⟨some dd, g, .bin .rem x y⟩, .lit (.int k (a % b)), [], [], 0⟩ :: acc) l ⟨(dd, .lit (.int k (a % b))) :: tt, hh, nn⟩ acc' l' st') : Runs P acc (⟨some dd, g, .bin .rem x y⟩ :: l) ⟨tt, hh, nn⟩ acc' l' st' := Runs.step' ((q_rem hg hx hy (by omega)).cast (congrArg (fun n => AV.lit (.int k n)) (Int.tmod_eq_emod_of_nonneg h0))) h
theorem s_addU32 {x y : Operand} {a b : Int} (hg : gOK ⟨tt, hh, nn⟩ g) (hx : ev ⟨tt, hh, nn⟩ x = .lit (.int .u32 a)) (hy : ev ⟨tt, hh, nn⟩ y = .lit (.int .u32 b)) (h1 : 0 ≤ a + b) (h2 : a + b ≤ 4294967295) (h : Runs P (⟨⟨some dd, g, .bin .add x y⟩, .lit (.int .u32 (a + b)), [], [], 0⟩ :: acc) l ⟨(dd, .lit (.int .u32 (a + b))) :: tt, hh, nn⟩ acc' l' st') : Runs P acc (⟨some dd, g, .bin .add x y⟩ :: l) ⟨tt, hh, nn⟩ acc' l' st' := Runs.step' ((q_int hg hx hy rfl).cast (congrArg (fun n => AV.lit (.int .u32 n)) (u32_in _ h1 h2))) h
theorem s_convU64 {x : Operand} {k0 : IntKind} {a : Int} (hg : gOK ⟨tt, hh, nn⟩ g) (hx : ev ⟨tt, hh, nn⟩ x = .lit (.int k0 a)) (h1 : 0 ≤ a) (h2 : a ≤ 18446744073709551615) (h : Runs P (⟨⟨some dd, g, .conv .u64 x⟩, .lit (.int .u64 a), [], [], 0⟩ :: acc) l ⟨(dd, .lit (.int .u64 a)) :: tt, hh, nn⟩ acc' l' st') : Runs P acc (⟨some dd, g, .conv .u64 x⟩ :: l) ⟨tt, hh, nn⟩ acc' l' st' := Runs.step' ((q_conv hg hx).cast (congrArg (fun n => AV.lit (.int .u64 n)) (IntWalk.u64_in _ ⟨h1, h2⟩))) h
theorem s_convU32 {x : Operand} {k0 : IntKind} {a : Int} (hg : gOK ⟨tt, hh, nn⟩ g) (hx : ev ⟨tt, hh, nn⟩ x = .lit (.int k0 a)) (h1 : 0 ≤ a) (h2 : a ≤ 4294967295) (h : Runs P (⟨⟨some dd, g, .conv .u32 x⟩, .lit (.int .u32 a), [], [], 0⟩ :: acc) l ⟨(dd, .lit (.int .u32 a)) :: tt, hh, nn⟩ acc' l' st') : Runs P acc (⟨some dd, g, .conv .u32 x⟩ :: l) ⟨tt, hh, nn⟩ acc' l' st' := Runs.step' ((q_conv hg hx).cast (congrArg (fun n => AV.lit (.int .u32 n)) (u32_in _ h1 h2))) h
theorem s_storeRR {n id i off : Nat} {p x : Operand} {ob : OB} {av av' : AV} {e cs cs' : List AV} (hg : gOK ⟨tt, hh, nn⟩ g) (hp : ev ⟨tt, hh, nn⟩ p = .optr id i off) (ho : hl hh id = some ob) (hrow : ob.row = true) (hro : ob.ro = false) (he : ob.es[i]? = some e) (hx : ev ⟨tt, hh, nn⟩ x = av) (hv : viewN true (restr (refsA hh [av]) hh) 4 av = some av') (hc : cellsA av' = some cs) (hpu : mapL (fun _ => none) cs = some cs') (hn : cs.length = n) (hle : Nat.ble (off + n) e.length = true) (h : Runs P (⟨⟨none, g, .store n p x⟩, .any, refsA hh [av], [(id, some { ob with es := ob.es.set i (e.take off ++ (cs' ++ e.drop (off + n))) })], 0⟩ :: acc) l ⟨tt, (id, some { ob with es := ob.es.set i (e.take off ++ (cs' ++ e.drop (off + n))) }) :: hh, nn⟩ acc' l' st') : Runs P acc (⟨none, g, .store n p x⟩ :: l) ⟨tt, hh, nn⟩ acc' l' st' := s_storeR _ hg hp ho hrow hro he hx hv hc hpu hn hle h
theorem s_rowlitR {e : TypeId} {sz len : Nat} {z : List Value} {ps : List (Nat × Operand)} {avs cs cs' : List AV} {es : List (List AV)} (hg : gOK ⟨tt, hh, nn⟩ g) (hv : optAll (viewN true (restr (refsA hh (ps.map fun p => ev ⟨tt, hh, nn⟩ p.2)) hh) 4) (ps.map fun p => ev ⟨tt, hh, nn⟩ p.2) = some avs) (hf : fillA (List.replicate len (z.map .lit)).flatten ((ps.zip avs).map fun p => (p.1.1 * sz, sz, p.2)) = some cs) (hp : mapL (fun _ => none) cs = some cs') (he : chunk sz len cs' = es) (h : Runs P (⟨⟨some dd, g, .rowlit e sz len z ps⟩, .own nn, refsA hh (ps.map fun p => ev ⟨tt, hh, nn⟩ p.2), [(nn, some ⟨true, false, e, sz, es⟩)], 1⟩ :: acc) l ⟨(dd, .own nn) :: tt, (nn, some ⟨true, false, e, sz, es⟩) :: hh, nn + 1⟩ acc' l' st') : Runs P acc (⟨some dd, g, .rowlit e sz len z ps⟩ :: l) ⟨tt, hh, nn⟩ acc' l' st' := s_rowlit _ hg hv hf hp he h
theorem s_appendR {e : TypeId} {sz by_ id : Nat} {z : List Value} {s x : Operand} {ob : OB} {av : AV} {news : List (List AV)} (hg : gOK ⟨tt, hh, nn⟩ g) (hs : ev ⟨tt, hh, nn⟩ s = .own id) (ho : hl hh id = some ob) (hr : ob.row = true) (hro : ob.ro = false) (hsz : ob.sz = sz) (he : ob.e = e) (hx : ev ⟨tt, hh, nn⟩ x = av) (hn : srcA (restr (refsA hh [av]) hh) sz av = some news) (hb : (ob.es.length + news.length) * by_ ≤ 140737488355328) (h : Runs P (⟨⟨some dd, g, .append e sz by_ z s x⟩, .own nn, refsA hh [av], [(nn, some ⟨true, false, e, sz, ob.es ++ news⟩), (id, none)], 1⟩ :: acc) l ⟨(dd, .own nn) :: tt, (nn, some ⟨true, false, e, sz, ob.es ++ news⟩) :: (id, none) :: hh, nn + 1⟩ acc' l' st') : Runs P acc (⟨some dd, g, .append e sz by_ z s x⟩ :: l) ⟨tt, hh, nn⟩ acc' l' st' := s_append _ hg hs ho hr hro hsz he hx hn hb h
theorem s_appendNR {e : TypeId} {sz by_ : Nat} {z : List Value} {s x : Operand} {av : AV} {news : List (List AV)} (hg : gOK ⟨tt, hh, nn⟩ g) (hs : ev ⟨tt, hh, nn⟩ s = .lit (.slice none 0 0)) (hx : ev ⟨tt, hh, nn⟩ x = av) (hn : srcA (restr (refsA hh [av]) hh) sz av = some news) (hb : news.length * by_ ≤ 140737488355328) (h : Runs P (⟨⟨some dd, g, .append e sz by_ z s x⟩, .own nn, refsA hh [av], [(nn, some ⟨true, false, e, sz, news⟩)], 1⟩ :: acc) l ⟨(dd, .own nn) :: tt, (nn, some ⟨true, false, e, sz, news⟩) :: hh, nn + 1⟩ acc' l' st') : Runs P acc (⟨some dd, g, .append e sz by_ z s x⟩ :: l) ⟨tt, hh, nn⟩ acc' l' st' := s_appendN _ hg hs hx hn hb h
end

/-- as far as it goes, with contracts out of the context -/
theorem rrun2 {P : Program} {acc : List SD} {l : List AInst} {st : St} {acc' : List SD} {l' : List AInst} {st' : St} {K : List SD → St → Prop} (h : RG P acc' l' st' K) (hR : Runs P acc l st acc' l' st' := by
  ((repeat (first
    | apply s_movL (by first | exact True.intro | rfl) (by exact rfl)
    | apply s_movS (by first | exact True.intro | rfl) (by exact rfl)
    | apply s_movA (by first | exact True.intro | rfl) (by exact rfl)
    | apply s_movO (by first | exact True.intro | rfl) (by exact rfl)
    | apply s_movP (by first | exact True.intro | rfl) (by exact rfl)
    | apply s_movE (by first | exact True.intro | rfl) (by exact rfl)
    | apply s_movT (by first | exact True.intro | rfl) (by exact rfl)
    | apply s_movF (by first | exact True.intro | rfl) (by exact rfl)
    | apply s_movX (by first | exact True.intro | rfl) (by exact rfl)
    | apply s_noA (by exact rfl)
    | apply s_noB (by exact rfl)
    | apply s_noC (by exact rfl)
    | apply s_no (by exact rfl)
    | apply s_noN (by exact rfl)
    | apply s_add64 (by first | exact True.intro | rfl) (by exact rfl) (by exact rfl) (by omega) (by omega)
    | apply s_sub64 (by first | exact True.intro | rfl) (by exact rfl) (by exact rfl) (by omega) (by omega)
    | apply s_ltT (by first | exact True.intro | rfl) (by exact rfl) (by exact rfl) (by omega)
    | apply s_ltF (by first | exact True.intro | rfl) (by exact rfl) (by exact rfl) (by omega)
    | apply s_leT (by first | exact True.intro | rfl) (by exact rfl) (by exact rfl) (by omega)
    | apply s_leF (by first | exact True.intro | rfl) (by exact rfl) (by exact rfl) (by omega)
    | apply s_gtT (by first | exact True.intro | rfl) (by exact rfl) (by exact rfl) (by omega)
    | apply s_gtF (by first | exact True.intro | rfl) (by exact rfl) (by exact rfl) (by omega)
    | apply s_geT (by first | exact True.intro | rfl) (by exact rfl) (by exact rfl) (by omega)
    | apply s_geF (by first | exact True.intro | rfl) (by exact rfl) (by exact rfl) (by omega)
    | apply s_eqT (by first | exact True.intro | rfl) (by exact rfl) (by exact rfl) (by omega)
    | apply s_eqF (by first | exact True.intro | rfl) (by exact rfl) (by exact rfl) (by omega)
    | apply s_neT (by first | exact True.intro | rfl) (by exact rfl) (by exact rfl) (by omega)
    | apply s_neF (by first | exact True.intro | rfl) (by exact rfl) (by exact rfl) (by omega)
    | apply s_addU64 (by first | exact True.intro | rfl) (by exact rfl) (by exact rfl) (by omega) (by omega)
    | apply s_subU64 (by first | exact True.intro | rfl) (by exact rfl) (by exact rfl) (by omega) (by omega)
    | apply s_mulU64 (by first | exact True.intro | rfl) (by exact rfl) (by exact rfl) (by omega) (by omega)
    | apply s_divU64 (by first | exact True.intro | rfl) (by exact rfl) (by exact rfl) (by omega) (by omega) (by omega)
    | apply s_addU32 (by first | exact True.intro | rfl) (by exact rfl) (by exact rfl) (by omega) (by omega)
    | apply s_divI64 (by first | exact True.intro | rfl) (by exact rfl) (by exact rfl) (by omega) (by omega) (by omega)
    | apply s_remP (by first | exact True.intro | rfl) (by exact rfl) (by exact rfl) (by omega) (by omega)
    | apply s_mul64 (by first | exact True.intro | rfl) (by exact rfl) (by exact rfl) (by first | assumption | omega)
    | apply s_convU64 (by first | exact True.intro | rfl) (by exact rfl) (by omega) (by omega)
    | apply s_convU32 (by first | exact True.intro | rfl) (by exact rfl) (by omega) (by omega)
    | apply s_int (by first | exact True.intro | rfl) (by exact rfl) (by exact rfl) (by exact rfl)
    | apply s_div (by first | exact True.intro | rfl) (by exact rfl) (by exact rfl) (by omega)
    | apply s_rem (by first | exact True.intro | rfl) (by exact rfl) (by exact rfl) (by omega)
    | apply s_bool (by first | exact True.intro | rfl) (by exact rfl) (by exact rfl) (by exact rfl)
    | apply s_notT (by first | exact True.intro | rfl) (by exact rfl)
    | apply s_notF (by first | exact True.intro | rfl) (by exact rfl)
    | apply s_not (by first | exact True.intro | rfl) (by exact rfl)
    | apply s_pickTL (by first | exact True.intro | rfl) (by exact rfl) (by exact rfl)
    | apply s_pickFL (by first | exact True.intro | rfl) (by exact rfl) (by exact rfl)
    | apply s_pickTS (by first | exact True.intro | rfl) (by exact rfl) (by exact rfl)
    | apply s_pickFS (by first | exact True.intro | rfl) (by exact rfl) (by exact rfl)
    | apply s_pickTA (by first | exact True.intro | rfl) (by exact rfl) (by exact rfl)
    | apply s_pickFA (by first | exact True.intro | rfl) (by exact rfl) (by exact rfl)
    | apply s_pickTO (by first | exact True.intro | rfl) (by exact rfl) (by exact rfl)
    | apply s_pickFO (by first | exact True.intro | rfl) (by exact rfl) (by exact rfl)
    | apply s_pickTP (by first | exact True.intro | rfl) (by exact rfl) (by exact rfl)
    | apply s_pickFP (by first | exact True.intro | rfl) (by exact rfl) (by exact rfl)
    | apply s_pickTE (by first | exact True.intro | rfl) (by exact rfl) (by exact rfl)
    | apply s_pickFE (by first | exact True.intro | rfl) (by exact rfl) (by exact rfl)
    | apply s_pickTT (by first | exact True.intro | rfl) (by exact rfl) (by exact rfl)
    | apply s_pickFT (by first | exact True.intro | rfl) (by exact rfl) (by exact rfl)
    | apply s_pickTF (by first | exact True.intro | rfl) (by exact rfl) (by exact rfl)
    | apply s_pickFF (by first | exact True.intro | rfl) (by exact rfl) (by exact rfl)
    | apply s_pickTX (by first | exact True.intro | rfl) (by exact rfl) (by exact rfl)
    | apply s_pickFX (by first | exact True.intro | rfl) (by exact rfl) (by exact rfl)
    | apply s_pickB (by first | exact True.intro | rfl) (by exact rfl) (by exact rfl) (by exact rfl)
    | apply s_conv64 (by first | exact True.intro | rfl) (by exact rfl) (by omega) (by omega)
    | apply s_conv (by first | exact True.intro | rfl) (by exact rfl)
    | apply s_faddr (by first | exact True.intro | rfl) (by exact rfl)
    | apply s_faddrE (by first | exact True.intro | rfl) (by exact rfl)
    | apply s_load1 (by first | exact True.intro | rfl) (by exact rfl) (by exact rfl) (by exact rfl) (by exact rfl)
    | apply s_loadA (by first | exact True.intro | rfl) (by exact rfl) (by exact rfl) (by exact rfl) (by exact rfl)
    | apply s_loadG (by first | exact True.intro | rfl) (by exact rfl) (by exact rfl) (by exact rfl) (by exact rfl)
    | apply s_loadE1 (by first | exact True.intro | rfl) (by exact rfl) (by first | assumption | rfl) (by exact rfl)
    | apply s_loadEA (by first | exact True.intro | rfl) (by exact rfl) (by first | assumption | rfl) (by exact rfl)
    | apply s_loadEG (by first | exact True.intro | rfl) (by exact rfl) (by first | assumption | rfl) (by exact rfl)
    | apply s_extract (by first | exact True.intro | rfl) (by exact rfl) (by exact rfl)
    | apply s_field1 (by first | exact True.intro | rfl) (by exact rfl) (by exact rfl)
    | apply s_fieldG (by first | exact True.intro | rfl) (by exact rfl) (by exact rfl)
    | apply s_len (by first | exact True.intro | rfl) (by exact rfl) (by first | assumption | rfl)
    | apply s_lenN (by first | exact True.intro | rfl) (by exact rfl)
    | apply s_lenO (by first | exact True.intro | rfl) (by exact rfl) (by exact rfl) (by exact rfl) (by first | assumption | rfl)
    | apply s_slen (by first | exact True.intro | rfl) (by exact rfl)
    | apply s_iaddr (by first | exact True.intro | rfl) (by exact rfl) (by exact rfl) (by omega) (by first | omega | assumption)
    | apply s_iaddrO (by first | exact True.intro | rfl) (by exact rfl) (by exact rfl) (by exact rfl) (by exact rfl) (by exact rfl) (by omega) (by first | omega | (dsimp only; omega))
    | apply s_nilckP (by first | exact True.intro | rfl) (by exact rfl)
    | apply s_nilckE (by first | exact True.intro | rfl) (by exact rfl)
    | apply s_nilckF (by first | exact True.intro | rfl) (by exact rfl)
    | apply s_mkfn (by first | exact True.intro | rfl)
    | apply s_alloc (by first | exact True.intro | rfl)
    | apply s_box (by first | exact True.intro | rfl) (by exact rfl) (by exact rfl) (by exact rfl)
    | apply s_build (by first | exact True.intro | rfl) (by exact rfl)
    | apply s_storeB (by first | exact True.intro | rfl) (by exact rfl) (by exact rfl) (by exact rfl) (by exact rfl) (by exact rfl) (by exact rfl) (by exact rfl) (by exact rfl) (by exact rfl) (by exact rfl)
    | apply s_callA (by first | exact True.intro | rfl) (by exact rfl) (by exact rfl) (by assumption)
    | apply s_callS (by first | exact True.intro | rfl) (by exact rfl) (by exact rfl) (by assumption) (by (repeat (first | exact SubL.nil | refine SubL.cons (by first | exact Sub.refl _ | exact Sub.nil _ | exact Sub.any _ | (refine Sub.agg ?_; repeat (first | exact SubL.nil | refine SubL.cons (by first | exact Sub.refl _ | exact Sub.nil _) ?_))) ?_)))
    | apply s_callB (by first | exact True.intro | rfl) (by exact rfl) (by exact rfl) (by assumption) (by exact rfl)
    | apply s_callR (by first | exact True.intro | rfl) (by exact rfl) (by exact rfl) (by assumption)
    | apply s_callF (by first | exact True.intro | rfl) (by exact rfl) (by exact rfl) (by exact rfl) (by exact rfl) (by assumption) (by (repeat (first | exact SubL.nil | refine SubL.cons (by first | exact Sub.refl _ | exact Sub.nil _ | exact Sub.any _ | (refine Sub.agg ?_; repeat (first | exact SubL.nil | refine SubL.cons (by first | exact Sub.refl _ | exact Sub.nil _) ?_))) ?_)))
    | apply s_min (by first | exact True.intro | rfl) (by exact rfl) (by exact rfl) (by first | exact .inl ⟨by omega, Eq.refl _⟩ | exact .inr ⟨by omega, Eq.refl _⟩)
    | apply s_max (by first | exact True.intro | rfl) (by exact rfl) (by exact rfl) (by first | exact .inl ⟨by omega, Eq.refl _⟩ | exact .inr ⟨by omega, Eq.refl _⟩)
    | apply s_cap (by first | exact True.intro | rfl) (by exact rfl)
    | apply s_mx3 (by first | exact True.intro | rfl) (by exact rfl) (by exact rfl) (by exact rfl) (by first | assumption | exact Eq.refl _)
    | apply s_storeR [] (by first | exact True.intro | rfl) (by exact rfl) (by exact rfl) (by exact rfl) (by exact rfl) (by first | assumption | rfl) (by exact rfl) (by exact rfl) (by exact rfl) (by exact rfl) (by exact rfl) (by exact rfl)
    | apply s_rowlit [] (by first | exact True.intro | rfl) (by exact rfl) (by exact rfl) (by exact rfl) (by exact rfl)
    | apply s_append [] (by first | exact True.intro | rfl) (by exact rfl) (by exact rfl) (by exact rfl) (by exact rfl) (by exact rfl) (by exact rfl) (by exact rfl) (by exact rfl) (by first | omega | assumption | (dsimp only; omega) | (simp only [List.length_append, List.length_cons, List.length_nil, List.length_map, List.length_replicate, List.length_take, List.length_drop, chunk, intsA]; omega))
    | apply s_appendN [] (by first | exact True.intro | rfl) (by exact rfl) (by exact rfl) (by exact rfl) (by first | omega | assumption | (dsimp only; omega) | (simp only [List.length_append, List.length_cons, List.length_nil, List.length_map, List.length_replicate, List.length_take, List.length_drop, chunk, intsA]; omega))
    | apply s_storeRR (by first | exact True.intro | rfl) (by exact rfl) (by exact rfl) (by exact rfl) (by exact rfl) (by first | assumption | rfl) (by exact rfl) (by exact rfl) (by exact rfl) (by exact rfl) (by exact rfl) (by exact rfl)
    | apply s_rowlitR (by first | exact True.intro | rfl) (by exact rfl) (by exact rfl) (by exact rfl) (by exact rfl)
    | apply s_appendR (by first | exact True.intro | rfl) (by exact rfl) (by exact rfl) (by exact rfl) (by exact rfl) (by exact rfl) (by exact rfl) (by exact rfl) (by exact rfl) (by first | omega | assumption | (dsimp only; omega) | (simp only [List.length_append, List.length_cons, List.length_nil, List.length_map, List.length_replicate, List.length_take, List.length_drop, chunk, intsA]; omega))
    | apply s_appendNR (by first | exact True.intro | rfl) (by exact rfl) (by exact rfl) (by exact rfl) (by first | omega | assumption | (dsimp only; omega) | (simp only [List.length_append, List.length_cons, List.length_nil, List.length_map, List.length_replicate, List.length_take, List.length_drop, chunk, intsA]; omega))
    | apply s_sliceC (by first | exact True.intro | rfl) (by exact rfl) (by first | exact Eq.refl _ | exact ⟨_, Eq.refl _⟩) (by first | exact Eq.refl _ | exact ⟨_, Eq.refl _⟩) (by assumption)
    | apply s_iaddrO (by first | exact True.intro | rfl) (by exact rfl) (by exact rfl) (by exact rfl) (by exact rfl) (by exact rfl) (by omega) (by simp only [List.length_set, List.length_append, List.length_cons, List.length_nil, List.length_replicate]; omega)
    | apply s_load1 (by first | exact True.intro | rfl) (by exact rfl) (by exact rfl) (by assumption) (by exact rfl)
    | apply s_loadA (by first | exact True.intro | rfl) (by exact rfl) (by exact rfl) (by assumption) (by exact rfl)
    | apply s_loadG (by first | exact True.intro | rfl) (by exact rfl) (by exact rfl) (by assumption) (by exact rfl)
    | apply s_eqvL (by first | exact True.intro | rfl) (by exact rfl) (by exact rfl) (by assumption) (by first | assumption | omega)
    | apply s_make (by first | exact True.intro | rfl) (by exact rfl) (by exact rfl) (by omega) (by omega) (by omega))); exact Runs.refl _ _ _)) : RG P acc l st K := rg_runs hR h

theorem aw_R2 {P : Program} {C : Ctx} {Q : Exit → St → Prop} {st : St} {d : Bool} {l : List AInst} {free : List (Nat × Nat)} {acc : List SD} {st' : St} (hQ : Q .normal st') (hR : Runs P [] l st acc [] st' := by
  ((repeat (first
    | apply s_movL (by first | exact True.intro | rfl) (by exact rfl)
    | apply s_movS (by first | exact True.intro | rfl) (by exact rfl)
    | apply s_movA (by first | exact True.intro | rfl) (by exact rfl)
    | apply s_movO (by first | exact True.intro | rfl) (by exact rfl)
    | apply s_movP (by first | exact True.intro | rfl) (by exact rfl)
    | apply s_movE (by first | exact True.intro | rfl) (by exact rfl)
    | apply s_movT (by first | exact True.intro | rfl) (by exact rfl)
    | apply s_movF (by first | exact True.intro | rfl) (by exact rfl)
    | apply s_movX (by first | exact True.intro | rfl) (by exact rfl)
    | apply s_noA (by exact rfl)
    | apply s_noB (by exact rfl)
    | apply s_noC (by exact rfl)
    | apply s_no (by exact rfl)
    | apply s_noN (by exact rfl)
    | apply s_add64 (by first | exact True.intro | rfl) (by exact rfl) (by exact rfl) (by omega) (by omega)
    | apply s_sub64 (by first | exact True.intro | rfl) (by exact rfl) (by exact rfl) (by omega) (by omega)
    | apply s_ltT (by first | exact True.intro | rfl) (by exact rfl) (by exact rfl) (by omega)
    | apply s_ltF (by first | exact True.intro | rfl) (by exact rfl) (by exact rfl) (by omega)
    | apply s_leT (by first | exact True.intro | rfl) (by exact rfl) (by exact rfl) (by omega)
    | apply s_leF (by first | exact True.intro | rfl) (by exact rfl) (by exact rfl) (by omega)
    | apply s_gtT (by first | exact True.intro | rfl) (by exact rfl) (by exact rfl) (by omega)
    | apply s_gtF (by first | exact True.intro | rfl) (by exact rfl) (by exact rfl) (by omega)
    | apply s_geT (by first | exact True.intro | rfl) (by exact rfl) (by exact rfl) (by omega)
    | apply s_geF (by first | exact True.intro | rfl) (by exact rfl) (by exact rfl) (by omega)
    | apply s_eqT (by first | exact True.intro | rfl) (by exact rfl) (by exact rfl) (by omega)
    | apply s_eqF (by first | exact True.intro | rfl) (by exact rfl) (by exact rfl) (by omega)
    | apply s_neT (by first | exact True.intro | rfl) (by exact rfl) (by exact rfl) (by omega)
    | apply s_neF (by first | exact True.intro | rfl) (by exact rfl) (by exact rfl) (by omega)
    | apply s_addU64 (by first | exact True.intro | rfl) (by exact rfl) (by exact rfl) (by omega) (by omega)
    | apply s_subU64 (by first | exact True.intro | rfl) (by exact rfl) (by exact rfl) (by omega) (by omega)
    | apply s_mulU64 (by first | exact True.intro | rfl) (by exact rfl) (by exact rfl) (by omega) (by omega)
    | apply s_divU64 (by first | exact True.intro | rfl) (by exact rfl) (by exact rfl) (by omega) (by omega) (by omega)
    | apply s_addU32 (by first | exact True.intro | rfl) (by exact rfl) (by exact rfl) (by omega) (by omega)
    | apply s_divI64 (by first | exact True.intro | rfl) (by exact rfl) (by exact rfl) (by omega) (by omega) (by omega)
    | apply s_remP (by first | exact True.intro | rfl) (by exact rfl) (by exact rfl) (by omega) (by omega)
    | apply s_mul64 (by first | exact True.intro | rfl) (by exact rfl) (by exact rfl) (by first | assumption | omega)
    | apply s_convU64 (by first | exact True.intro | rfl) (by exact rfl) (by omega) (by omega)
    | apply s_convU32 (by first | exact True.intro | rfl) (by exact rfl) (by omega) (by omega)
    | apply s_int (by first | exact True.intro | rfl) (by exact rfl) (by exact rfl) (by exact rfl)
    | apply s_div (by first | exact True.intro | rfl) (by exact rfl) (by exact rfl) (by omega)
    | apply s_rem (by first | exact True.intro | rfl) (by exact rfl) (by exact rfl) (by omega)
    | apply s_bool (by first | exact True.intro | rfl) (by exact rfl) (by exact rfl) (by exact rfl)
    | apply s_notT (by first | exact True.intro | rfl) (by exact rfl)
    | apply s_notF (by first | exact True.intro | rfl) (by exact rfl)
    | apply s_not (by first | exact True.intro | rfl) (by exact rfl)
    | apply s_pickTL (by first | exact True.intro | rfl) (by exact rfl) (by exact rfl)
    | apply s_pickFL (by first | exact True.intro | rfl) (by exact rfl) (by exact rfl)
    | apply s_pickTS (by first | exact True.intro | rfl) (by exact rfl) (by exact rfl)
    | apply s_pickFS (by first | exact True.intro | rfl) (by exact rfl) (by exact rfl)
    | apply s_pickTA (by first | exact True.intro | rfl) (by exact rfl) (by exact rfl)
    | apply s_pickFA (by first | exact True.intro | rfl) (by exact rfl) (by exact rfl)
    | apply s_pickTO (by first | exact True.intro | rfl) (by exact rfl) (by exact rfl)
    | apply s_pickFO (by first | exact True.intro | rfl) (by exact rfl) (by exact rfl)
    | apply s_pickTP (by first | exact True.intro | rfl) (by exact rfl) (by exact rfl)
    | apply s_pickFP (by first | exact True.intro | rfl) (by exact rfl) (by exact rfl)
    | apply s_pickTE (by first | exact True.intro | rfl) (by exact rfl) (by exact rfl)
    | apply s_pickFE (by first | exact True.intro | rfl) (by exact rfl) (by exact rfl)
    | apply s_pickTT (by first | exact True.intro | rfl) (by exact rfl) (by exact rfl)
    | apply s_pickFT (by first | exact True.intro | rfl) (by exact rfl) (by exact rfl)
    | apply s_pickTF (by first | exact True.intro | rfl) (by exact rfl) (by exact rfl)
    | apply s_pickFF (by first | exact True.intro | rfl) (by exact rfl) (by exact rfl)
    | apply s_pickTX (by first | exact True.intro | rfl) (by exact rfl) (by exact rfl)
    | apply s_pickFX (by first | exact True.intro | rfl) (by exact rfl) (by exact rfl)
    | apply s_pickB (by first | exact True.intro | rfl) (by exact rfl) (by exact rfl) (by exact rfl)
    | apply s_conv64 (by first | exact True.intro | rfl) (by exact rfl) (by omega) (by omega)
    | apply s_conv (by first | exact True.intro | rfl) (by exact rfl)
    | apply s_faddr (by first | exact True.intro | rfl) (by exact rfl)
    | apply s_faddrE (by first | exact True.intro | rfl) (by exact rfl)
    | apply s_load1 (by first | exact True.intro | rfl) (by exact rfl) (by exact rfl) (by exact rfl) (by exact rfl)
    | apply s_loadA (by first | exact True.intro | rfl) (by exact rfl) (by exact rfl) (by exact rfl) (by exact rfl)
    | apply s_loadG (by first | exact True.intro | rfl) (by exact rfl) (by exact rfl) (by exact rfl) (by exact rfl)
    | apply s_loadE1 (by first | exact True.intro | rfl) (by exact rfl) (by first | assumption | rfl) (by exact rfl)
    | apply s_loadEA (by first | exact True.intro | rfl) (by exact rfl) (by first | assumption | rfl) (by exact rfl)
    | apply s_loadEG (by first | exact True.intro | rfl) (by exact rfl) (by first | assumption | rfl) (by exact rfl)
    | apply s_extract (by first | exact True.intro | rfl) (by exact rfl) (by exact rfl)
    | apply s_field1 (by first | exact True.intro | rfl) (by exact rfl) (by exact rfl)
    | apply s_fieldG (by first | exact True.intro | rfl) (by exact rfl) (by exact rfl)
    | apply s_len (by first | exact True.intro | rfl) (by exact rfl) (by first | assumption | rfl)
    | apply s_lenN (by first | exact True.intro | rfl) (by exact rfl)
    | apply s_lenO (by first | exact True.intro | rfl) (by exact rfl) (by exact rfl) (by exact rfl) (by first | assumption | rfl)
    | apply s_slen (by first | exact True.intro | rfl) (by exact rfl)
    | apply s_iaddr (by first | exact True.intro | rfl) (by exact rfl) (by exact rfl) (by omega) (by first | omega | assumption)
    | apply s_iaddrO (by first | exact True.intro | rfl) (by exact rfl) (by exact rfl) (by exact rfl) (by exact rfl) (by exact rfl) (by omega) (by first | omega | (dsimp only; omega))
    | apply s_nilckP (by first | exact True.intro | rfl) (by exact rfl)
    | apply s_nilckE (by first | exact True.intro | rfl) (by exact rfl)
    | apply s_nilckF (by first | exact True.intro | rfl) (by exact rfl)
    | apply s_mkfn (by first | exact True.intro | rfl)
    | apply s_alloc (by first | exact True.intro | rfl)
    | apply s_box (by first | exact True.intro | rfl) (by exact rfl) (by exact rfl) (by exact rfl)
    | apply s_build (by first | exact True.intro | rfl) (by exact rfl)
    | apply s_storeB (by first | exact True.intro | rfl) (by exact rfl) (by exact rfl) (by exact rfl) (by exact rfl) (by exact rfl) (by exact rfl) (by exact rfl) (by exact rfl) (by exact rfl) (by exact rfl)
    | apply s_callA (by first | exact True.intro | rfl) (by exact rfl) (by exact rfl) (by assumption)
    | apply s_callS (by first | exact True.intro | rfl) (by exact rfl) (by exact rfl) (by assumption) (by (repeat (first | exact SubL.nil | refine SubL.cons (by first | exact Sub.refl _ | exact Sub.nil _ | exact Sub.any _ | (refine Sub.agg ?_; repeat (first | exact SubL.nil | refine SubL.cons (by first | exact Sub.refl _ | exact Sub.nil _) ?_))) ?_)))
    | apply s_callB (by first | exact True.intro | rfl) (by exact rfl) (by exact rfl) (by assumption) (by exact rfl)
    | apply s_callR (by first | exact True.intro | rfl) (by exact rfl) (by exact rfl) (by assumption)
    | apply s_callF (by first | exact True.intro | rfl) (by exact rfl) (by exact rfl) (by exact rfl) (by exact rfl) (by assumption) (by (repeat (first | exact SubL.nil | refine SubL.cons (by first | exact Sub.refl _ | exact Sub.nil _ | exact Sub.any _ | (refine Sub.agg ?_; repeat (first | exact SubL.nil | refine SubL.cons (by first | exact Sub.refl _ | exact Sub.nil _) ?_))) ?_)))
    | apply s_min (by first | exact True.intro | rfl) (by exact rfl) (by exact rfl) (by first | exact .inl ⟨by omega, Eq.refl _⟩ | exact .inr ⟨by omega, Eq.refl _⟩)
    | apply s_max (by first | exact True.intro | rfl) (by exact rfl) (by exact rfl) (by first | exact .inl ⟨by omega, Eq.refl _⟩ | exact .inr ⟨by omega, Eq.refl _⟩)
    | apply s_cap (by first | exact True.intro | rfl) (by exact rfl)
    | apply s_mx3 (by first | exact True.intro | rfl) (by exact rfl) (by exact rfl) (by exact rfl) (by first | assumption | exact Eq.refl _)
    | apply s_storeR [] (by first | exact True.intro | rfl) (by exact rfl) (by exact rfl) (by exact rfl) (by exact rfl) (by first | assumption | rfl) (by exact rfl) (by exact rfl) (by exact rfl) (by exact rfl) (by exact rfl) (by exact rfl)
    | apply s_rowlit [] (by first | exact True.intro | rfl) (by exact rfl) (by exact rfl) (by exact rfl) (by exact rfl)
    | apply s_append [] (by first | exact True.intro | rfl) (by exact rfl) (by exact rfl) (by exact rfl) (by exact rfl) (by exact rfl) (by exact rfl) (by exact rfl) (by exact rfl) (by first | omega | assumption | (dsimp only; omega) | (simp only [List.length_append, List.length_cons, List.length_nil, List.length_map, List.length_replicate, List.length_take, List.length_drop, chunk, intsA]; omega))
    | apply s_appendN [] (by first | exact True.intro | rfl) (by exact rfl) (by exact rfl) (by exact rfl) (by first | omega | assumption | (dsimp only; omega) | (simp only [List.length_append, List.length_cons, List.length_nil, List.length_map, List.length_replicate, List.length_take, List.length_drop, chunk, intsA]; omega))
    | apply s_storeRR (by first | exact True.intro | rfl) (by exact rfl) (by exact rfl) (by exact rfl) (by exact rfl) (by first | assumption | rfl) (by exact rfl) (by exact rfl) (by exact rfl) (by exact rfl) (by exact rfl) (by exact rfl)
    | apply s_rowlitR (by first | exact True.intro | rfl) (by exact rfl) (by exact rfl) (by exact rfl) (by exact rfl)
    | apply s_appendR (by first | exact True.intro | rfl) (by exact rfl) (by exact rfl) (by exact rfl) (by exact rfl) (by exact rfl) (by exact rfl) (by exact rfl) (by exact rfl) (by first | omega | assumption | (dsimp only; omega) | (simp only [List.length_append, List.length_cons, List.length_nil, List.length_map, List.length_replicate, List.length_take, List.length_drop, chunk, intsA]; omega))
    | apply s_appendNR (by first | exact True.intro | rfl) (by exact rfl) (by exact rfl) (by exact rfl) (by first | omega | assumption | (dsimp only; omega) | (simp only [List.length_append, List.length_cons, List.length_nil, List.length_map, List.length_replicate, List.length_take, List.length_drop, chunk, intsA]; omega))
    | apply s_sliceC (by first | exact True.intro | rfl) (by exact rfl) (by first | exact Eq.refl _ | exact ⟨_, Eq.refl _⟩) (by first | exact Eq.refl _ | exact ⟨_, Eq.refl _⟩) (by assumption)
    | apply s_iaddrO (by first | exact True.intro | rfl) (by exact rfl) (by exact rfl) (by exact rfl) (by exact rfl) (by exact rfl) (by omega) (by simp only [List.length_set, List.length_append, List.length_cons, List.length_nil, List.length_replicate]; omega)
    | apply s_load1 (by first | exact True.intro | rfl) (by exact rfl) (by exact rfl) (by assumption) (by exact rfl)
    | apply s_loadA (by first | exact True.intro | rfl) (by exact rfl) (by exact rfl) (by assumption) (by exact rfl)
    | apply s_loadG (by first | exact True.intro | rfl) (by exact rfl) (by exact rfl) (by assumption) (by exact rfl)
    | apply s_eqvL (by first | exact True.intro | rfl) (by exact rfl) (by exact rfl) (by assumption) (by first | assumption | omega)
    | apply s_make (by first | exact True.intro | rfl) (by exact rfl) (by exact rfl) (by omega) (by omega) (by omega))); exact Runs.refl _ _ _)) (hi : (bif d then indepOK acc.reverse free else true) = true := by rfl) : AW P C (.ops d l free) Q st := aw_reg (rg_runs hR (rg_nil ⟨hi, hQ⟩))

/-- all that needs no hint -/
theorem walk2 {P : Program} {C : Ctx} {Q : Exit → St → Prop} {st : St} {c : ACode} {G : Prop} (hG : G) (h : Left G → AW P C c Q st := by
  (intro hG; repeat (first | refine aw_seq ?_ | refine aw_block ?_ | refine aw_skip ?_ | refine aw_exit ?_ | refine aw_ret ?_ | refine aw_cond_t rfl ?_ | refine aw_cond_f rfl ?_ | refine aw_condF rfl ?_ | refine aw_condT rfl ?_ | refine aw_R2 ?_)
   exact hG.out)) : AW P C c Q st := h ⟨hG⟩


section
variable {P : Program} {C : Ctx} {Q : Exit → St → Prop} {st : St}

/-- which names stand for which: each its own, but those told (new, old) -/
def sigR (ren : List (Nat × Nat)) (h : Hp) : List (Nat × Nat) := h.map fun p => ((match look ren p.1 with | some o => o | none => p.1), p.1)

/-- less is said: the slots and blocks that s' has -/
def keepB (m : Nat) (σ : List (Nat × Nat)) : Bool := (List.range m).all fun i => σ.any fun p => Nat.beq p.1 i && Nat.beq p.2 i
theorem keepB_mem {m : Nat} {σ : List (Nat × Nat)} (h : keepB m σ = true) {i : Nat} (hi : i < m) : (i, i) ∈ σ := by
  simp only [keepB, List.all_eq_true, List.mem_range, List.any_eq_true, Bool.and_eq_true] at h
  obtain ⟨p, hp, h1, h2⟩ := h i hi
  obtain ⟨a, b⟩ := p
  have h1 := Nat.eq_of_beq_eq_true h1
  have h2 := Nat.eq_of_beq_eq_true h2
  simp only at h1 h2
  subst h1; subst h2; exact hp
theorem wkR {m : Nat} {s s' : St} (hm : C.m = m) (ren : List (Nat × Nat)) (e : canonWith (sigR ren s'.h) (s'.t.map (·.1)) s'.nx s = s' := by rfl) (h : okR s'.nx (sigR ren s'.h) = true := by rfl) (hk : keepB m (sigR ren s'.h) = true := by rfl) : Weak C s s' := weak_canon _ _ _ h (fun i hi => keepB_mem hk (by rw [← hm]; exact hi)) e

/-- the first that is told of a slot, of a block -/
def pickT : List (Nat × AV) → Nat → AV
  | [], _ => .any
  | p :: r, n => if p.1 = n then p.2 else pickT r n
def pickH : Hp → Nat → Option OB
  | [], _ => none
  | p :: r, n => if p.1 = n then p.2 else pickH r n
theorem pickT_eq : ∀ (t : List (Nat × AV)) (n : Nat), pickT t n = getT t n
  | [], n => rfl
  | (k, v) :: r, n => by
    have ih := pickT_eq r n
    simp only [pickT, getT, look]
    by_cases h : k = n
    · subst h; simp
    · have hb : Nat.beq k n = false := beq_ne h
      rw [if_neg h, hb]; exact ih
theorem pickH_eq : ∀ (t : Hp) (n : Nat), pickH t n = hl t n
  | [], n => rfl
  | (k, v) :: r, n => by
    have ih := pickH_eq r n
    simp only [pickH, hl, look]
    by_cases h : k = n
    · subst h; cases v <;> simp
    · have hb : Nat.beq k n = false := beq_ne h
      rw [if_neg h, hb]; exact ih

/-- what is told of some slots and blocks is told, and no more -/
theorem weak_keep {C : Ctx} {s : St} (L H : List Nat) (n : Nat) (hn : s.nx ≤ n) : Weak C s ⟨L.map fun k => (k, getT s.t k), H.map fun k => (k, hl s.h k), n⟩ := fun E a w R => by
  refine ⟨E, R.defers, R.size, fun k => ?_, ⟨?_, ?_, ?_, R.heap.lt⟩, fun id h => Nat.lt_of_lt_of_le (R.nx id h) hn, ?_, R.ext, R.imx, R.imn, R.frm⟩
  · show Rd E w (getT (L.map fun k => (k, getT s.t k)) k) _
    rw [getT_map]
    split
    · exact R.tm k
    · trivial
  all_goals
    have key : ∀ id o, hl (H.map fun k => (k, hl s.h k)) id = some o → hl s.h id = some o := fun id o ho => by
      obtain ⟨x, hx, hxo⟩ : ∃ x, look (H.map fun k => (k, hl s.h k)) id = some x ∧ x = some o := by
        simp only [hl] at ho
        split at ho
        · rename_i x' hx'
          cases ho; exact ⟨_, hx', rfl⟩
        · cases ho
      have := look_mem hx
      rw [List.mem_map] at this
      obtain ⟨k, _, e⟩ := this
      simp only [Prod.mk.injEq] at e
      obtain ⟨rfl, e⟩ := e
      rw [e, hxo]
  · exact fun id o h1 h2 => R.heap.ob id o h1 (key id o h2)
  · exact fun id id' o o' b h1 h2 h3 h4 => R.heap.apart id id' o o' b h1 h2 (key _ _ h3) (key _ _ h4)
  · exact fun id o b h1 h2 => R.heap.im id o b h1 (key _ _ h2)
  · exact fun id o b h1 h2 => R.own id o b h1 (key _ _ h2)

/-- slots said with less -/
theorem weak_sub {C : Ctx} {s s' : St} (ht : ∀ n, ∀ E w v, Rd E w (s.get n) v → Rd E w (s'.get n) v) (hh : s'.h = s.h) (hn : s.nx ≤ s'.nx) : Weak C s s' := fun E a w R =>
  ⟨E, R.defers, R.size, fun n => ht n E w _ (R.tm n), by rw [hh]; exact R.heap, fun id h => Nat.lt_of_lt_of_le (R.nx id h) hn, by rw [hh]; exact R.own, R.ext, R.imx, R.imn, R.frm⟩
/-- a slot's value said with less -/
theorem aw_say {c : ACode} (n : Nat) {a b : AV} (ha : st.get n = a) (hs : ∀ E w v, Rd E w a v → Rd E w b v) (h : AW P C c Q ⟨(n, b) :: st.t, st.h, st.nx⟩) : AW P C c Q st := by
  refine aw_weak (s' := ⟨(n, b) :: st.t, st.h, st.nx⟩) (weak_sub (fun k E w v hk => ?_) rfl (Nat.le_refl _)) h
  by_cases hkn : k = n
  · subst hkn
    have e : St.get ⟨(k, b) :: st.t, st.h, st.nx⟩ k = b := getT_same st.t k b
    rw [e]; rw [ha] at hk; exact hs E w v hk
  · have e : St.get ⟨(n, b) :: st.t, st.h, st.nx⟩ k = st.get k := getT_ne st.t (some n) b k (by simpa using fun h => hkn h.symm)
    rw [e]; exact hk
/-- what nobody writes any more, read as data -/
theorem aw_view {c : ACode} (n : Nat) {a b : AV} (ha : st.get n = a) (hv : viewN true st.h 4 a = some b) (h : AW P C c Q ⟨(n, b) :: st.t, st.h, st.nx⟩) : AW P C c Q st := by
  refine aw_weak (s' := ⟨(n, b) :: st.t, st.h, st.nx⟩) (fun E a' w R => ⟨E, R.defers, R.size, fun k => ?_, R.heap, R.nx, R.own, R.ext, R.imx, R.imn, R.frm⟩) h
  by_cases hkn : k = n
  · subst hkn
    have e : St.get ⟨(k, b) :: st.t, st.h, st.nx⟩ k = b := getT_same st.t k b
    rw [e]
    have hk := R.tm k
    rw [ha] at hk
    refine RdI.rd _ _ (RdI.mono (fun i hi => ?_) (fun _ _ => rfl) _ _ (view_rd R.heap 4 a _ b hk hv))
    rcases hi with hi | ⟨id, o, k1, k2, k3, k4⟩
    · exact hi
    · exact (R.heap.im id o i k1 k2 k3).2 (k4 rfl)
  · have e : St.get ⟨(n, b) :: st.t, st.h, st.nx⟩ k = st.get k := getT_ne st.t (some n) b k (by simpa using fun h => hkn h.symm)
    rw [e]; exact R.tm k
/-- nothing is an empty list -/
theorem aw_nilS {c : ACode} (n sz : Nat) (ha : st.get n = .lit (.slice none 0 0)) (h : AW P C c Q ⟨(n, .sl sz []) :: st.t, st.h, st.nx⟩) : AW P C c Q st :=
  aw_say (b := .sl sz []) n ha (fun E w v hv => Sub.nil sz E.im w v hv) h

theorem look_if {α : Type} (k : Nat) (v : α) (r : List (Nat × α)) (n : Nat) : look ((k, v) :: r) n = if k = n then some v else look r n := by
  by_cases h : k = n
  · subst h; simp [look]
  · simp [look, beq_ne h, h]
theorem look_nil {α : Type} (n : Nat) : look ([] : List (Nat × α)) n = none := rfl

theorem Weak.trans {C : Ctx} {s s' s'' : St} (h : Weak C s s') (k : Weak C s' s'') : Weak C s s'' := fun E a w R => let ⟨E', R'⟩ := h E a w R; k E' a w R'

/-- the state, told anew: the slots L and the blocks H -/
theorem aw_keep {c : ACode} (L H : List Nat) {kt : List (Nat × AV)} {kh : Hp} (h : AW P C c Q ⟨kt, kh, st.nx⟩)
    (et : (L.map fun k => (k, pickT st.t k)) = kt := by (simp only [List.map_cons, List.map_nil, pickT, pickH, argT, ↓reduceIte, Nat.reduceEqDiff, Nat.reduceAdd, List.length_cons, List.length_nil, List.take_zero, List.take_succ_cons, List.take_nil, List.drop_zero, List.drop_succ_cons, List.drop_nil, List.nil_append, List.cons_append, List.append_nil]; exact rfl))
    (eh : (H.map fun k => (k, pickH st.h k)) = kh := by (simp only [List.map_cons, List.map_nil, pickT, pickH, argT, ↓reduceIte, Nat.reduceEqDiff, Nat.reduceAdd, List.length_cons, List.length_nil, List.take_zero, List.take_succ_cons, List.take_nil, List.drop_zero, List.drop_succ_cons, List.drop_nil, List.nil_append, List.cons_append, List.append_nil]; exact rfl)) : AW P C c Q st := by
  simp only [pickT_eq] at et
  simp only [pickH_eq] at eh
  subst et eh
  exact aw_weak (weak_keep L H st.nx (Nat.le_refl _)) h

/-- a loop: the slots L and the blocks H stay, ov and oh tell the others -/
theorem aw_loopA {X : Type} {c : ACode} (L H : List Nat) (ov : X → List (Nat × AV)) (oh : X → Hp) (n : Nat) (I : X → Prop) (μ : X → Nat) (x0 : X) {kt : List (Nat × AV)} {kh : Hp}
    (et : (L.map fun k => (k, pickT st.t k)) = kt) (eh : (H.map fun k => (k, pickH st.h k)) = kh)
    (h0 : Weak C st ⟨ov x0 ++ kt, oh x0 ++ kh, n⟩) (hI : I x0)
    (round : ∀ x, I x → AW P C c (thenQ (fun s' => ∃ x', μ x' < μ x ∧ I x' ∧ Weak C s' ⟨ov x' ++ kt, oh x' ++ kh, n⟩) Q) ⟨ov x ++ kt, oh x ++ kh, n⟩) : AW P C (.loop c) Q st :=
  aw_loop (fun x => ⟨ov x ++ kt, oh x ++ kh, n⟩) I μ x0 h0 hI round

/-- likewise: the entry told in full -/
theorem aw_loopB {X : Type} {c : ACode} (L H : List Nat) (ov : X → List (Nat × AV)) (oh : X → Hp) (n : Nat) (I : X → Prop) (μ : X → Nat) (x0 : X) {kt : List (Nat × AV)} {kh : Hp}
    (hI : I x0)
    (round : ∀ x, I x → AW P C c (thenQ (fun s' => ∃ x', μ x' < μ x ∧ I x' ∧ Weak C s' ⟨ov x' ++ kt, oh x' ++ kh, n⟩) Q) ⟨ov x ++ kt, oh x ++ kh, n⟩)
    (et : (L.map fun k => (k, pickT st.t k)) = kt := by (simp only [List.map_cons, List.map_nil, pickT, pickH, argT, ↓reduceIte, Nat.reduceEqDiff, Nat.reduceAdd, List.length_cons, List.length_nil, List.take_zero, List.take_succ_cons, List.take_nil, List.drop_zero, List.drop_succ_cons, List.drop_nil, List.nil_append, List.cons_append, List.append_nil]; exact rfl))
    (eh : (H.map fun k => (k, pickH st.h k)) = kh := by (simp only [List.map_cons, List.map_nil, pickT, pickH, argT, ↓reduceIte, Nat.reduceEqDiff, Nat.reduceAdd, List.length_cons, List.length_nil, List.take_zero, List.take_succ_cons, List.take_nil, List.drop_zero, List.drop_succ_cons, List.drop_nil, List.nil_append, List.cons_append, List.append_nil]; exact rfl))
    (ht : (ov x0 ++ kt).map (fun p => (p.1, st.get p.1)) = ov x0 ++ kt := by rfl)
    (hh : (oh x0 ++ kh).map (fun p => (p.1, hl st.h p.1)) = oh x0 ++ kh := by rfl)
    (hn : Nat.ble st.nx n = true := by rfl) : AW P C (.loop c) Q st := by
  refine aw_loop (fun x => ⟨ov x ++ kt, oh x ++ kh, n⟩) I μ x0 ?_ hI round
  have := weak_keep (C := C) (s := st) ((ov x0 ++ kt).map (·.1)) ((oh x0 ++ kh).map (·.1)) n (Nat.ble_eq ▸ hn)
  rw [List.map_map, List.map_map] at this
  have e1 : (ov x0 ++ kt).map ((fun k => (k, getT st.t k)) ∘ (·.1)) = ov x0 ++ kt := ht
  have e2 : (oh x0 ++ kh).map ((fun k => (k, hl st.h k)) ∘ (·.1)) = oh x0 ++ kh := hh
  rw [e1, e2] at this
  exact this

theorem fin {res : List ARes} {r : AV} {s : St} {r0 r1 : AV} (h1 : resAV s res = some r0 := by rfl) (h2 : viewN false s.h 4 r0 = some r1 := by rfl)
    (h3 : Sub r1 r := by (repeat (first | exact SubL.nil | refine SubL.cons ?_ ?_ | exact Sub.nil _ | exact Sub.refl _ | exact Sub.any _ | refine Sub.agg ?_ | refine Sub.tup ?_))) : Ret res r s := ⟨r0, r1, h1, h2, h3⟩

/-- an empty list that nobody has made yet is a block of one's own -/
theorem aw_nil {c : ACode} (n : Nat) (e : TypeId) (sz : Nat) (hn : st.get n = .lit (.slice none 0 0)) (h : AW P C c Q ⟨(n, .own st.nx) :: st.t, (st.nx, some ⟨true, false, e, sz, []⟩) :: st.h, st.nx + 1⟩) : AW P C c Q st := by
  refine aw_weak (fun E a w R => ?_) h
  have hid : ¬ E.live st.nx := fun hl => absurd (R.nx _ hl) (Nat.lt_irrefl _)
  have hl0 := newE_live (V := .slice none 0 0) (sz := sz) hid
  have hval : (newE E st.nx (.slice none 0 0) sz).val st.nx = .slice none 0 0 := by simp [newE]
  have hsz : (newE E st.nx (.slice none 0 0) sz).sz st.nx = sz := by simp [newE]
  have hne : ∀ k, E.live k → k ≠ st.nx := fun k hk e => hid (e ▸ hk)
  have hlv : ∀ k, (newE E st.nx (.slice none 0 0) sz).live k → k ≠ st.nx → E.live k := fun k hk h => by
    rcases hk with hk | hk
    · exact hk
    · exact absurd hk h
  refine ⟨newE E st.nx (.slice none 0 0) sz, R.defers, R.size, fun k => ?_, ⟨?_, ?_, ?_, R.heap.lt⟩, ?_, ?_, ?_, R.imx, R.imn, R.frm⟩
  · by_cases hk : k = n
    · subst hk
      have h1 : a.tmps.getD k undef = .slice none 0 0 := by have := R.tm k; rw [hn] at this; exact this
      have e1 : St.get ⟨(k, .own st.nx) :: st.t, (st.nx, some ⟨true, false, e, sz, []⟩) :: st.h, st.nx + 1⟩ k = .own st.nx := getT_same st.t k _
      rw [h1, e1]
      exact ⟨.inr rfl, rfl, hval.symm⟩
    · have e1 : St.get ⟨(n, .own st.nx) :: st.t, (st.nx, some ⟨true, false, e, sz, []⟩) :: st.h, st.nx + 1⟩ k = st.get k := getT_ne st.t (some n) _ k (by simpa using fun h => hk h.symm)
      rw [e1]
      exact Rd.mono hl0 (fun b hb => hb) (fun b _ => rfl) _ _ (R.tm k)
  · intro k o hk ho
    rcases hl_new ho with ⟨rfl, e1⟩ | ⟨hkn, e1⟩
    · simp only [Option.some.injEq] at e1
      subst e1
      refine ⟨hsz, [], none, 0, hval, ?_, rfl, (fun u hu => by cases hu), Nat.zero_le _⟩
      rw [hval]
      exact ⟨by simp, .inl ⟨rfl, rfl⟩⟩
    · have hlk := hlv k hk hkn
      obtain ⟨k1, k2, k3⟩ := hl0 k hlk
      exact (R.heap.ob k o hlk e1).mono ⟨k2, k3⟩ hl0 (fun b hb => hb) (fun b _ => rfl) (fun b _ => rfl)
  · intro k k' o o' b hk hk' ho ho' hb hb'
    by_cases h1 : k = st.nx
    · subst h1; rw [hval] at hb; cases hb
    by_cases h2 : k' = st.nx
    · subst h2; rw [hval] at hb'; cases hb'
    have l1 := hlv k hk h1
    have l2 := hlv k' hk' h2
    rw [(hl0 k l1).2.1] at hb
    rw [(hl0 k' l2).2.1] at hb'
    rcases hl_new ho with ⟨e1, _⟩ | ⟨_, e1⟩
    · exact absurd e1 h1
    rcases hl_new ho' with ⟨e2, _⟩ | ⟨_, e2⟩
    · exact absurd e2 h2
    exact R.heap.apart k k' o o' b l1 l2 e1 e2 hb hb'
  · intro k o b hk ho hb
    by_cases h1 : k = st.nx
    · subst h1; rw [hval] at hb; cases hb
    have l1 := hlv k hk h1
    rw [(hl0 k l1).2.1] at hb
    rcases hl_new ho with ⟨e1, _⟩ | ⟨_, e1⟩
    · exact absurd e1 h1
    exact R.heap.im k o b l1 e1 hb
  · intro k hk
    by_cases h1 : k = st.nx
    · subst h1; exact Nat.lt_succ_self _
    · exact Nat.lt_succ_of_lt (R.nx k (hlv k hk h1))
  · intro k o b hk ho hb
    by_cases h1 : k = st.nx
    · subst h1; rw [hval] at hb; cases hb
    have l1 := hlv k hk h1
    rw [(hl0 k l1).2.1] at hb
    rcases hl_new ho with ⟨e1, _⟩ | ⟨_, e1⟩
    · exact absurd e1 h1
    exact R.own k o b l1 e1 hb
  · intro k hk
    obtain ⟨k1, k2, k3⟩ := R.ext k hk
    obtain ⟨j1, j2, j3⟩ := hl0 k k1
    exact ⟨j1, by rw [j2]; exact k2, by rw [j3]; exact k3⟩
end
end Go.Proofs.Ytmbigpjokpdnkaa
