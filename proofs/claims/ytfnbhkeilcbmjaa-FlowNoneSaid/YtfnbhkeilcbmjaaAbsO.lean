/- Rows of one's own against nil; ends told with less. -/
import Derived.Test.YtfnbhkeilcbmjaaAbsG
namespace Go.Proofs.Ytfnbhkeilcbmjaa
set_option linter.unusedVariables false
open Go.RowKit

/-- a row of one's own that is not empty is not nil -/
theorem q_eqvO {P : Program} {st : St} {d : Option Nat} {g : Option (Nat × Bool)} {t e : TypeId} {x y : Operand} {id : Nat} {ob : OB} (hu : P.underlying t = some (.slice e)) (hg : gOK st g) (hx : ev st x = .own id) (ho : hl st.h id = some ob) (hrow : ob.row = true) (hn : 0 < ob.es.length) (hy : ev st y = .lit (.slice none 0 0)) : Step P st ⟨⟨d, g, .eqv t false x y⟩, .lit (.bool false), [id], [], 0⟩ :=
  step_val [id] hg fun o C E ac w sx hlow R hr hh => by
    have h1 := hr x (by simp [AOp.opds])
    rw [hx] at h1
    obtain ⟨hl1, _, hv⟩ := h1
    have h2 := lit_eval (hr y (by simp [AOp.opds])) hy
    obtain ⟨k1, k2⟩ := R.heap.ob id ob hl1 (by rw [hh id (by simp)]; exact ho)
    rw [hrow] at k2
    obtain ⟨vs, a, cap, j1, j2, _⟩ := k2
    have ha : a.isNone = false := by
      rcases j2.2 with ⟨q1, q2⟩ | ⟨g', c', cur, q1, _⟩
      · omega
      · rw [j1] at q1; simp only [Value.slice.injEq] at q1; rw [q1.1]; rfl
    obtain ⟨dst, o, ty, pos, after, guard⟩ := o
    obtain ⟨t2, rfl⟩ := low_spec hlow
    refine ⟨.bool a.isNone, ?_, by rw [ha]; rfl⟩
    have hq : (eqGuard .eql t x y (.slice a ob.es.length cap) (.slice none 0 0)).run P w = .ok () w := rfl
    simp only [execOp, hv.trans j1, h2, Sem.run_bind, cond_false, hq, Result.andThen_ok, eqvS_run hu, Sem.run_pure]

section
variable {P : Program} {tt : List (Nat × AV)} {hh : Hp} {nn dd : Nat} {g : Option (Nat × Bool)} {l : List AInst} {acc : List SD} {K : List SD → St → Prop}
theorem r_eqvO {t e : TypeId} {x y : Operand} {id : Nat} {ob : OB} (hu : P.underlying t = some (.slice e)) (hn : 0 < ob.es.length) (h : RG P (⟨⟨some dd, g, .eqv t false x y⟩, .lit (.bool false), [id], [], 0⟩ :: acc) l ⟨(dd, .lit (.bool false)) :: tt, hh, nn⟩ K)
    (hg : gOK ⟨tt, hh, nn⟩ g := by first | exact True.intro | rfl) (hx : ev ⟨tt, hh, nn⟩ x = .own id := by rfl) (ho : hl hh id = some ob := by rfl) (hrow : ob.row = true := by rfl) (hy : ev ⟨tt, hh, nn⟩ y = .lit (.slice none 0 0) := by rfl) :
    RG P acc (⟨some dd, g, .eqv t false x y⟩ :: l) ⟨tt, hh, nn⟩ K := RG.step (q_eqvO hu hg hx ho hrow hn hy) h
end

/-- an empty row of one's own: as the value that it is -/
theorem aw_valO {P : Program} {C : Ctx} {Q : Exit → St → Prop} {st : St} {c : ACode} (n id : Nat) {o : OB} (hn : st.get n = .own id) (ho : hl st.h id = some o) (hrow : o.row = true)
    (h : ∀ a cap, AW P C c Q ⟨(n, .lit (.slice a o.es.length cap)) :: st.t, st.h, st.nx⟩) : AW P C c Q st := by
  intro code hc E ac w R
  have hv := R.tm n
  rw [hn] at hv
  obtain ⟨hl1, _, hv⟩ := hv
  obtain ⟨k1, k2⟩ := R.heap.ob id o hl1 ho
  rw [hrow] at k2
  obtain ⟨vs, a, cap, j1, _⟩ := k2
  refine h a cap code hc E ac w ⟨R.defers, R.size, fun k => ?_, R.heap, R.nx, R.own, R.ext, R.imx, R.imn, R.frm⟩
  by_cases hk : k = n
  · subst hk
    have e1 : St.get ⟨(k, .lit (.slice a o.es.length cap)) :: st.t, st.h, st.nx⟩ k = .lit (.slice a o.es.length cap) := getT_same st.t k _
    rw [e1]
    exact hv.trans j1
  · have e1 : St.get ⟨(n, .lit (.slice a o.es.length cap)) :: st.t, st.h, st.nx⟩ k = st.get k := getT_ne st.t (some n) _ k (by simpa using fun h => hk h.symm)
    rw [e1]
    exact R.tm k

theorem aw_postW {P : Program} {C : Ctx} {Q : Exit → St → Prop} {st : St} {c : ACode} (h : AW P C c (fun e s => ∃ s', Weak C s s' ∧ Q e s') st) : AW P C c Q st := by
  intro code hc E ac w R
  refine wp_mono (h code hc E ac w R) ?_
  rintro e a' w' ⟨E', s, ⟨s', hw, hq⟩, R'⟩
  obtain ⟨E2, R2⟩ := hw E' a' w' R'
  exact ⟨E2, s', hq, R2⟩

theorem weak_any {C : Ctx} {s : St} (n : Nat) : Weak C s ⟨(n, .any) :: s.t, s.h, s.nx⟩ := weak_sub (fun k E w v h => by
  by_cases hk : k = n
  · subst hk
    have e1 : St.get ⟨(k, .any) :: s.t, s.h, s.nx⟩ k = .any := getT_same s.t k _
    rw [e1]; trivial
  · have e1 : St.get ⟨(n, .any) :: s.t, s.h, s.nx⟩ k = s.get k := getT_ne s.t (some n) _ k (by simpa using fun h => hk h.symm)
    rw [e1]; exact h) rfl (Nat.le_refl _)

theorem weak_say {C : Ctx} {st : St} (n : Nat) {a b : AV} (ha : st.get n = a) (hs : ∀ E w v, Rd E w a v → Rd E w b v) : Weak C st ⟨(n, b) :: st.t, st.h, st.nx⟩ :=
  weak_sub (fun k E w v hk => by
    by_cases hkn : k = n
    · subst hkn
      have e : St.get ⟨(k, b) :: st.t, st.h, st.nx⟩ k = b := getT_same st.t k b
      rw [e]; rw [ha] at hk; exact hs E w v hk
    · have e : St.get ⟨(n, b) :: st.t, st.h, st.nx⟩ k = st.get k := getT_ne st.t (some n) b k (by simpa using fun h => hkn h.symm)
      rw [e]; exact hk) rfl (Nat.le_refl _)
theorem weak_nilS {C : Ctx} {st : St} (n sz : Nat) (ha : st.get n = .lit (.slice none 0 0)) : Weak C st ⟨(n, .sl sz []) :: st.t, st.h, st.nx⟩ := weak_say n ha (fun E w v hv => Sub.nil sz E.im w v hv)
/-- nobody writes it any more -/
theorem weak_freeze {C : Ctx} {st : St} (id : Nat) {o : OB} (ho : hl st.h id = some o) : Weak C st { st with h := (id, some { o with ro := true }) :: st.h } :=
  fun E a w R => let ⟨E', R', _⟩ := freeze_rel R id ho; ⟨E', R'⟩
theorem weak_view {C : Ctx} {st : St} (n : Nat) {a b : AV} (ha : st.get n = a) (hv : viewN true st.h 4 a = some b) : Weak C st ⟨(n, b) :: st.t, st.h, st.nx⟩ :=
  fun E a' w R => ⟨E, R.defers, R.size, fun k => by
    by_cases hkn : k = n
    · subst hkn
      have e : St.get ⟨(k, b) :: st.t, st.h, st.nx⟩ k = b := getT_same st.t k b
      rw [e]
      have hk := R.tm k
      rw [ha] at hk
      refine RdI.rd _ _ (RdI.mono (fun i hi => ?_) (fun _ _ => rfl) _ _ (view_rd R.heap 4 a _ b hk hv))
      rcases hi with hi | ⟨id, o, k1, k2, k3, k4⟩
      · exact hi
      · exact (R.heap.im id o i k1 k2 k3).2 (k4 rfl)
    · have e : St.get ⟨(n, b) :: st.t, st.h, st.nx⟩ k = st.get k := getT_ne st.t (some n) b k (by simpa using fun h => hkn h.symm)
      rw [e]; exact R.tm k, R.heap, R.nx, R.own, R.ext, R.imx, R.imn, R.frm⟩


/-- a row of one's own told with less -/
theorem weak_row {C : Ctx} {st : St} (id : Nat) {o : OB} {es' : List (List AV)} (ho : hl st.h id = some o) (hrow : o.row = true) (hlen : es'.length = o.es.length)
    (hs : ∀ (im : Nat → Prop) (w : World) (vs : List Value), RdIE im w o.sz o.es vs → RdIE im w o.sz es' vs) : Weak C st { st with h := (id, some { o with es := es' }) :: st.h } := fun E a w R => by
  have key : ∀ k o', hl ((id, some { o with es := es' }) :: st.h) k = some o' → (k = id ∧ o' = { o with es := es' }) ∨ hl st.h k = some o' := fun k o' h => by
    rcases hl_new h with ⟨h1, h2⟩ | ⟨_, h2⟩
    · exact .inl ⟨h1, (Option.some.inj h2).symm⟩
    · exact .inr h2
  refine ⟨E, R.defers, R.size, R.tm, ⟨?_, ?_, ?_, R.heap.lt⟩, R.nx, ?_, R.ext, R.imx, R.imn, R.frm⟩
  · intro k o' h1 h2
    rcases key k o' h2 with ⟨rfl, rfl⟩ | h2
    · obtain ⟨k1, k2⟩ := R.heap.ob k o h1 ho
      refine ⟨k1, ?_⟩
      rw [hrow] at k2
      show (bif o.row then _ else _)
      rw [hrow]
      obtain ⟨vs, x, cap, j1, j2, j3, j4, j5⟩ := k2
      exact ⟨vs, x, cap, by rw [show es'.length = o.es.length from hlen]; exact j1, by rw [show es'.length = o.es.length from hlen]; exact j2, hs _ _ _ j3, j4, by rw [show es'.length = o.es.length from hlen]; exact j5⟩
    · exact R.heap.ob k o' h1 h2
  · intro k k' o1 o2 b h1 h2 h3 h4 h5 h6
    have g : ∀ k o1, hl ((id, some { o with es := es' }) :: st.h) k = some o1 → ∃ o3, hl st.h k = some o3 := fun k o1 h => by
      rcases key k o1 h with ⟨rfl, _⟩ | h
      · exact ⟨o, ho⟩
      · exact ⟨o1, h⟩
    obtain ⟨p1, q1⟩ := g k o1 h3
    obtain ⟨p2, q2⟩ := g k' o2 h4
    exact R.heap.apart k k' p1 p2 b h1 h2 q1 q2 h5 h6
  · intro k o' b h1 h2 h3
    rcases key k o' h2 with ⟨rfl, rfl⟩ | h2
    · exact R.heap.im k o b h1 ho h3
    · exact R.heap.im k o' b h1 h2 h3
  · intro k o' b h1 h2 h3
    rcases key k o' h2 with ⟨rfl, rfl⟩ | h2
    · exact R.own k o b h1 ho h3
    · exact R.own k o' b h1 h2 h3

theorem RdIE.appL {im : Nat → Prop} {w : World} {sz : Nat} : ∀ {l : List (List AV)} {a b : List (List AV)} {vs : List Value}, (∀ vs, RdIE im w sz a vs → RdIE im w sz b vs) → RdIE im w sz (l ++ a) vs → RdIE im w sz (l ++ b) vs
  | [], _, _, _, hs, h => hs _ h
  | e :: l, _, _, _, hs, h => by
    obtain ⟨x, rest, h1, h2, h3, h4⟩ := h
    exact ⟨x, rest, h1, h2, h3, RdIE.appL hs h4⟩
theorem RdIE.one {im : Nat → Prop} {w : World} {sz : Nat} {e e' : List AV} (hs : ∀ vs, RdIL im w e vs → RdIL im w e' vs) (vs : List Value) (h : RdIE im w sz [e] vs) : RdIE im w sz [e'] vs := by
  obtain ⟨x, rest, h1, h2, h3, h4⟩ := h
  exact ⟨x, rest, h1, h2, hs _ h3, h4⟩
theorem RdIL.ofSub {im : Nat → Prop} {w : World} : ∀ {l r : List AV} (vs : List Value), SubL l r → RdIL im w l vs → RdIL im w r vs := fun vs hs h => hs _ _ _ h
end Go.Proofs.Ytfnbhkeilcbmjaa
