/- An abstract layer over the walk, part 7: own blocks handed to a callee for good. -/
import Derived.Test.YtkgnnnehmnoleaaAbsS
namespace Go.Proofs.Ytkgnnnehmnoleaa
set_option linter.unusedVariables false
open Go.RowKit

theorem freeze_rel {C : Ctx} {E : Env} {st : St} {a : Act} {w : World} (R : Rel C E st a w) (id : Nat) {o : OB} (ho : hl st.h id = some o) :
    ∃ E', Rel C E' { st with h := (id, some { o with ro := true }) :: st.h } a w ∧ ∀ k, E'.live k ↔ E.live k := by
  let E' : Env := { E with im := fun b => E.im b ∨ (E.live id ∧ blkOf (E.val id) = some b) }
  have hlv : ∀ k, E.live k → E'.live k ∧ E'.val k = E.val k ∧ E'.sz k = E.sz k := fun k h => ⟨h, rfl, rfl⟩
  have him : ∀ b, E.im b → E'.im b := fun b h => .inl h
  have hw : ∀ b, E.im b → w.heap[b]? = w.heap[b]? := fun _ _ => rfl
  refine ⟨E', ⟨R.defers, R.size, fun n => Rd.mono hlv him hw _ _ (R.tm n), ⟨?_, ?_, ?_, ?_⟩, R.nx, ?_, R.ext, fun b hb => .inl (R.imx b hb), ?_, R.frm⟩, fun k => Iff.rfl⟩
  · intro k ob hk hh
    have old : ∀ o', hl st.h k = some o' → obOK E' w k o' := fun o' ho' => (R.heap.ob k o' hk ho').mono ⟨rfl, rfl⟩ hlv him hw (fun _ _ => rfl)
    rcases hl_new hh with ⟨rfl, e⟩ | ⟨hne, p1⟩
    · simp only [Option.some.injEq] at e; subst e
      exact old o ho
    · exact old ob p1
  · intro k k' ob ob' b hk hk' hh hh' hb hb'
    have e : ∀ j oj, hl ((id, some { o with ro := true }) :: st.h) j = some oj → ∃ oj', hl st.h j = some oj' := fun j oj hj => by
      rcases hl_new hj with ⟨rfl, _⟩ | ⟨_, p⟩
      · exact ⟨o, ho⟩
      · exact ⟨oj, p⟩
    obtain ⟨q1, e1⟩ := e k ob hh
    obtain ⟨q2, e2⟩ := e k' ob' hh'
    exact R.heap.apart k k' q1 q2 b hk hk' e1 e2 hb hb'
  · intro k ob b hk hh hb
    rcases hl_new hh with ⟨rfl, e⟩ | ⟨hne, p1⟩
    · simp only [Option.some.injEq] at e; subst e
      exact ⟨fun _ => rfl, fun _ => .inr ⟨hk, hb⟩⟩
    · rw [← R.heap.im k ob b hk p1 hb]
      constructor
      · rintro (h | ⟨h1, h2⟩)
        · exact h
        · exact absurd (R.heap.apart k id ob o b hk h1 p1 ho hb h2) hne
      · exact fun h => .inl h
  · rintro b (h | ⟨h1, h2⟩)
    · exact R.heap.lt b h
    · exact R.heap.blk_lt h1 ho h2
  · intro k ob b hk hh hb
    rcases hl_new hh with ⟨rfl, e⟩ | ⟨hne, p1⟩
    · exact R.own k o b hk ho hb
    · exact R.own k ob b hk p1 hb
  · rintro b (h | ⟨h1, h2⟩)
    · exact R.imn b h
    · exact .inr (R.own id o b h1 ho h2)

theorem Step.freeze {P : Program} {st : St} {i : AInst} {v : AV} {rd : List Nat} {upd : Hp} (id : Nat) {o : OB} (ho : hl st.h id = some o) (h : Step P { st with h := (id, some { o with ro := true }) :: st.h } ⟨i, v, rd, upd, false⟩) :
    Step P st ⟨i, v, rd, upd ++ [(id, some { o with ro := true })], false⟩ := by
  intro N ops op hlow C E a w sx hN R hag hh hnw K Q hK
  have ho' : hl sx.h id = some o := by rw [hh id (.inr (by simp))]; exact ho
  obtain ⟨E1, R1, hlv⟩ := freeze_rel R id ho'
  have hcons : ∀ j, (hl sx.h j = hl st.h j) → hl ((id, some { o with ro := true }) :: sx.h) j = hl ((id, some { o with ro := true }) :: st.h) j := fun j hj => by
    have e1 : ∀ h : Hp, hl ((id, some { o with ro := true }) :: h) j = if id = j then some { o with ro := true } else hl h j := fun h => by
      by_cases hj' : id = j
      · subst hj'; simp [hl, look]
      · have : Nat.beq id j = false := by cases hb : Nat.beq id j; rfl; exact absurd (Nat.eq_of_beq_eq_true hb) hj'
        simp [hl, look, this, hj']
    rw [e1, e1, hj]
  refine h N ops op hlow C E1 a w { sx with h := (id, some { o with ro := true }) :: sx.h } hN R1 hag (fun j hj => ?_) (fun hf => by cases hf) K Q (fun v' w' E' hR' hl' => hK v' w' E' ?_ (fun k hk => ?_))
  · by_cases hid : j = id
    · subst hid; simp [hl, look]
    · refine hcons j (hh j ?_)
      rcases hj with hj | hj
      · exact .inl hj
      · exact .inr (by simp only [List.map_append, List.mem_append]; exact .inl hj)
  · simp only [St.appx, List.append_assoc, List.singleton_append] at hR' ⊢
    exact hR'
  · rcases hl' k hk with h | h
    · exact .inl ((hlv k).1 h)
    · exact .inr h

section
variable {P : Program} {st : St} {d : Option Nat} {g : Option (Nat × Bool)}
/-- x[lo:hi:max], max as hi is -/
theorem q_slice3 {sz : Nat} {x : Operand} {lo hi mx : Option Operand} {es : List (List AV)} {l h : Nat} (hg : gOK st g) (hx : ev st x = .sl sz es) (hl : bndA st lo 0 l) (hh : bndA st hi es.length h) (hm : bndA st mx 0 h ∧ mx.isSome = true ∧ hi.isSome = true) (h1 : l ≤ h) (h2 : h ≤ es.length) :
    Step P st ⟨⟨d, g, .slice sz x lo hi mx⟩, .sl sz ((es.drop l).take (h - l)), [], [], false⟩ :=
  step_val [] hg fun o C E ac w sx hlow R hr hh' => by
    have hv := hr x (by simp [AOp.opds])
    rw [hx] at hv
    obtain ⟨a, cap, vs, hv, hle, hnil, hmax, hat, h1s, hrd⟩ := hv
    have vint : ∀ {y : Option Operand} {dflt z : Int}, (∀ o, y = some o → o ∈ (AOp.slice sz x lo hi mx).opds) → bndA st y dflt z → (y = none ∧ z = dflt) ∨ (∃ k, y.map ac.eval = some (.int k z)) := fun {y dflt z} hy hb => by
      cases y with
      | none => exact .inl ⟨rfl, hb⟩
      | some o =>
        obtain ⟨k, hk⟩ := hb
        exact .inr ⟨k, by simp only [Option.map_some]; rw [lit_eval (hr o (hy o rfl)) hk]⟩
    obtain ⟨dst, o, ty, pos, after, guard⟩ := o
    obtain ⟨t, e, gg, rfl, het, hs⟩ := low_spec hlow
    have hlo := vint (y := lo) (fun o ho => by subst ho; simp [AOp.opds, oL]) hl
    have hhi := vint (y := hi) (fun o ho => by subst ho; simp [AOp.opds, oL]) hh
    -- the third bound
    obtain ⟨m, hmm, hhm, hmc, hmcap, hiso⟩ : ∃ m : Nat, (match mx.map ac.eval with | none => m = cap | some v => ∃ k, v = .int k m ∧ m ≤ cap) ∧ h ≤ m ∧ (m = l → h = l) ∧ m ≤ cap ∧ ((mx.map ac.eval).isSome = true → (hi.map ac.eval).isSome = true) := by
      obtain ⟨hb, h1', h2'⟩ := hm
      rcases vint (y := mx) (fun o ho => by subst ho; simp [AOp.opds, oL]) hb with ⟨h0, _⟩ | ⟨k, hk⟩
      · rw [h0] at h1'; cases h1'
      · exact ⟨h, by rw [hk]; exact ⟨k, rfl, by omega⟩, Nat.le_refl _, fun e => e, by omega, fun _ => by simpa using h2'⟩
    have hrun := sliceAt_run (P := P) (w := w) (a := a) (len := es.length) (cap := cap) (lo := lo.map ac.eval) (hi := hi.map ac.eval) (mx := mx.map ac.eval) (l := l) (h := h) (m := m) (elemsOf_spec het) hs hmm
      (by rcases hhi with ⟨h0, e⟩ | ⟨k, hk⟩
          · rw [h0]; simp only [Option.map_none]; omega
          · rw [hk]; exact ⟨k, rfl⟩)
      (by rcases hlo with ⟨h0, e⟩ | ⟨k, hk⟩
          · rw [h0]; simp only [Option.map_none]; omega
          · rw [hk]; exact ⟨k, rfl⟩) h1 hhm (by omega) hiso
    have hlen : ((es.drop l).take (h - l)).length = h - l := by simp; omega
    refine ⟨.slice (if m = l then a else a.map (·.add (l * sz))) (h - l) (m - l), by simp only [execOp, hv, Sem.run_bind, hrun, Result.andThen_ok, Sem.run_pure], _, _, _, by rw [hlen], by omega, ?_, by omega, hat.part hrd l h h1 h2 (fun e => (hmc e.symm)), fun u hu => h1s u (List.mem_of_mem_drop (List.mem_of_mem_take hu)), (hrd.drop l).take (h - l)⟩
    intro hn
    by_cases hml : m = l
    · omega
    · rw [if_neg hml] at hn
      have ha : a = none := by cases a <;> simp at hn ⊢
      have := hnil ha
      omega
end

section
variable {P : Program} {st : St} {d : Option Nat} {g : Option (Nat × Bool)}
theorem q_shr {x y : Operand} {k yk : IntKind} {a b : Int} (hg : gOK st g) (hx : ev st x = .lit (.int k a)) (hy : ev st y = .lit (.int yk b)) (h0 : 0 ≤ b) : Step P st ⟨⟨d, g, .bin .shr x y⟩, .lit (.int k (a.fdiv (2 ^ (min b.toNat k.bits)))), [], [], false⟩ :=
  step_val [] hg fun o C E ac w sx hlow R hr hh => by
    have h1 := lit_eval (hr x (by simp [AOp.opds])) hx
    have h2 := lit_eval (hr y (by simp [AOp.opds])) hy
    obtain ⟨dst, o, ty, pos, after, guard⟩ := o
    obtain ⟨t, t2, rfl⟩ := low_spec hlow
    refine ⟨_, ?_, rfl⟩
    have hb : (binOp .shr t (.int k a) (.int yk b)).run P w = .ok (.int k (a.fdiv (2 ^ (min b.toNat k.bits)))) w := by
      simp [binOp, Op.shift, Int.not_lt.2 h0]
    simp only [execOp, h1, h2, Sem.run_bind, eqGuard_run, Result.andThen_ok, hb, Sem.run_pure]
theorem q_shl {x y : Operand} {k yk : IntKind} {a b : Int} (hg : gOK st g) (hx : ev st x = .lit (.int k a)) (hy : ev st y = .lit (.int yk b)) (h0 : 0 ≤ b) : Step P st ⟨⟨d, g, .bin .shl x y⟩, .lit (.int k (k.wrap (a * 2 ^ (min b.toNat k.bits)))), [], [], false⟩ :=
  step_val [] hg fun o C E ac w sx hlow R hr hh => by
    have h1 := lit_eval (hr x (by simp [AOp.opds])) hx
    have h2 := lit_eval (hr y (by simp [AOp.opds])) hy
    obtain ⟨dst, o, ty, pos, after, guard⟩ := o
    obtain ⟨t, t2, rfl⟩ := low_spec hlow
    refine ⟨_, ?_, rfl⟩
    have hb : (binOp .shl t (.int k a) (.int yk b)).run P w = .ok (.int k (k.wrap (a * 2 ^ (min b.toNat k.bits)))) w := by
      simp [binOp, Op.shift, Int.not_lt.2 h0]
    simp only [execOp, h1, h2, Sem.run_bind, eqGuard_run, Result.andThen_ok, hb, Sem.run_pure]
end

section
variable {P : Program} {tt : List (Nat × AV)} {hh : Hp} {nn dd : Nat} {g : Option (Nat × Bool)} {l : List AInst} {acc : List SD} {K : List SD → St → Prop}
theorem r_callF {fo : Operand} {args : List Operand} {f : FuncId} {fi ca avs avs' : List AV} {r : AV} (id : Nat) {o : OB} (rd : List Nat) (hc : ACalls P f avs' r) (h : RG P (⟨⟨some dd, g, .call fo args⟩, r, rd, [(id, some { o with ro := true })], false⟩ :: acc) l ⟨(dd, r) :: tt, (id, some { o with ro := true }) :: hh, nn⟩ K) (hg : gOK ⟨tt, hh, nn⟩ g := by first | exact True.intro | rfl) (hf : ev ⟨tt, hh, nn⟩ fo = .fn f fi ca := by rfl) (ho : hl hh id = some o := by rfl) (hv : optAll (viewN true (restr rd ((id, some { o with ro := true }) :: hh)) 4) (fi ++ (args.map (ev ⟨tt, hh, nn⟩) ++ ca)) = some avs := by rfl) (hs : SubL avs avs' := by (repeat (first | exact SubL.nil | refine SubL.cons (by first | exact Sub.refl _ | exact Sub.nil _ | exact Sub.any _ | (refine Sub.agg ?_; repeat (first | exact SubL.nil | refine SubL.cons (by first | exact Sub.refl _ | exact Sub.nil _) ?_))) ?_))) : RG P acc (⟨some dd, g, .call fo args⟩ :: l) ⟨tt, hh, nn⟩ K := RG.step (Step.freeze (upd := []) id ho (q_call (st := ⟨tt, (id, some { o with ro := true }) :: hh, nn⟩) true rd hg hf hv hs hc rfl)) h
theorem r_slice3 {sz : Nat} {x : Operand} {lo hi mx : Option Operand} {es : List (List AV)} (a b : Nat) (h1 : a ≤ b) (h2 : b ≤ es.length) (h : RG P (⟨⟨some dd, g, .slice sz x lo hi mx⟩, .sl sz ((es.drop a).take (b - a)), [], [], false⟩ :: acc) l ⟨(dd, .sl sz ((es.drop a).take (b - a))) :: tt, hh, nn⟩ K)
    (hg : gOK ⟨tt, hh, nn⟩ g := by first | exact True.intro | rfl) (hx : ev ⟨tt, hh, nn⟩ x = .sl sz es := by rfl) (hl : bndA ⟨tt, hh, nn⟩ lo 0 a := by first | rfl | exact ⟨_, rfl⟩) (hh' : bndA ⟨tt, hh, nn⟩ hi es.length b := by first | rfl | exact ⟨_, rfl⟩) (hm : bndA ⟨tt, hh, nn⟩ mx 0 b ∧ mx.isSome = true ∧ hi.isSome = true := by exact ⟨⟨_, rfl⟩, rfl, rfl⟩) :
    RG P acc (⟨some dd, g, .slice sz x lo hi mx⟩ :: l) ⟨tt, hh, nn⟩ K := RG.step (q_slice3 hg hx hl hh' hm h1 h2) h
theorem r_shr {x y : Operand} {k yk : IntKind} {a b : Int} (v : Int) (h : RG P (⟨⟨some dd, g, .bin .shr x y⟩, .lit (.int k v), [], [], false⟩ :: acc) l ⟨(dd, .lit (.int k v)) :: tt, hh, nn⟩ K)
    (hg : gOK ⟨tt, hh, nn⟩ g := by first | exact True.intro | rfl) (hx : ev ⟨tt, hh, nn⟩ x = .lit (.int k a) := by rfl) (hy : ev ⟨tt, hh, nn⟩ y = .lit (.int yk b) := by rfl) (h0 : 0 ≤ b := by omega) (hv : a.fdiv (2 ^ (min b.toNat k.bits)) = v := by rfl) :
    RG P acc (⟨some dd, g, .bin .shr x y⟩ :: l) ⟨tt, hh, nn⟩ K := by subst hv; exact RG.step (q_shr hg hx hy h0) h
theorem r_shl {x y : Operand} {k yk : IntKind} {a b : Int} (v : Int) (h : RG P (⟨⟨some dd, g, .bin .shl x y⟩, .lit (.int k v), [], [], false⟩ :: acc) l ⟨(dd, .lit (.int k v)) :: tt, hh, nn⟩ K)
    (hg : gOK ⟨tt, hh, nn⟩ g := by first | exact True.intro | rfl) (hx : ev ⟨tt, hh, nn⟩ x = .lit (.int k a) := by rfl) (hy : ev ⟨tt, hh, nn⟩ y = .lit (.int yk b) := by rfl) (h0 : 0 ≤ b := by omega) (hv : k.wrap (a * 2 ^ (min b.toNat k.bits)) = v := by rfl) :
    RG P acc (⟨some dd, g, .bin .shl x y⟩ :: l) ⟨tt, hh, nn⟩ K := by subst hv; exact RG.step (q_shl hg hx hy h0) h
end
end Go.Proofs.Ytkgnnnehmnoleaa
