/- An empty list within a block of one's own. -/
import Derived.Test.YtmbigpjokpdnkaaAbs9
namespace Go.Proofs.Ytmbigpjokpdnkaa
set_option linter.unusedVariables false
open Go.RowKit

theorem RdL.setAt {E : Env} {w : World} {b : AV} : ∀ {cs : List AV} {vs : List Value} {i : Nat} {a : AV}, RdL E w cs vs → cs[i]? = some a → (∀ v, Rd E w a v → Rd E w b v) → RdL E w (cs.set i b) vs
  | [], _, _, _, _, h, _ => by simp at h
  | x :: cs, vs, 0, a, ⟨v, rest, e, h1, h2⟩, h, hb => by
    simp only [List.getElem?_cons_zero, Option.some.injEq] at h
    subst h
    exact ⟨v, rest, e, hb v h1, h2⟩
  | x :: cs, vs, i + 1, a, ⟨v, rest, e, h1, h2⟩, h, hb => ⟨v, rest, e, h1, RdL.setAt h2 (by simpa using h) hb⟩

section
variable {P : Program} {C : Ctx} {Q : Exit → St → Prop} {st : St}
theorem aw_nilF {c : ACode} (j i : Nat) (e : TypeId) (sz : Nat) {o : OB} {row : List AV} (hj : hl st.h j = some o) (hr : o.row = false) (hes : o.es = [row]) (hi : row[i]? = some (.lit (.slice none 0 0)))
    (h : AW P C c Q ⟨st.t, (st.nx, some ⟨true, false, e, sz, []⟩) :: (j, some { o with es := [row.set i (.own st.nx)] }) :: st.h, st.nx + 1⟩) (hz : Nat.blt 0 o.sz = true := by rfl) : AW P C c Q st := by
  refine aw_weak (fun E a w R => ?_) h
  have hid : ¬ E.live st.nx := fun hl => absurd (R.nx _ hl) (Nat.lt_irrefl _)
  have hl0 := newE_live (V := .slice none 0 0) (sz := sz) hid
  have hval : (newE E st.nx (.slice none 0 0) sz).val st.nx = .slice none 0 0 := by simp [newE]
  have hsz : (newE E st.nx (.slice none 0 0) sz).sz st.nx = sz := by simp [newE]
  have hne : ∀ k, E.live k → k ≠ st.nx := fun k hk e => hid (e ▸ hk)
  have hlv : ∀ k, (newE E st.nx (.slice none 0 0) sz).live k → k ≠ st.nx → E.live k := fun k hk h => by
    rcases hk with hk | hk
    · exact hk
    · exact absurd hk h
  -- what a block was before
  have hold : ∀ k o', hl ((j, some { o with es := [row.set i (.own st.nx)] }) :: st.h) k = some o' → ∃ o0, hl st.h k = some o0 ∧ o0.ro = o'.ro := fun k o' hk => by
    rcases hl_new hk with ⟨rfl, e1⟩ | ⟨_, e1⟩
    · simp only [Option.some.injEq] at e1
      subst e1
      exact ⟨o, hj, rfl⟩
    · exact ⟨o', e1, rfl⟩
  refine ⟨newE E st.nx (.slice none 0 0) sz, R.defers, R.size, fun k => ?_, ⟨?_, ?_, ?_, R.heap.lt⟩, ?_, ?_, ?_, R.imx, R.imn, R.frm⟩
  · exact Rd.mono hl0 (fun b hb => hb) (fun b _ => rfl) _ _ (R.tm k)
  · intro k o' hk ho
    rcases hl_new ho with ⟨rfl, e1⟩ | ⟨hkn, e1⟩
    · simp only [Option.some.injEq] at e1
      subst e1
      refine ⟨hsz, [], none, 0, hval, ?_, rfl, (fun u hu => by cases hu), Nat.zero_le _⟩
      rw [hval]
      exact ⟨by simp, .inl ⟨rfl, rfl⟩⟩
    · have hlk := hlv k hk hkn
      obtain ⟨k1, k2, k3⟩ := hl0 k hlk
      rcases hl_new e1 with ⟨rfl, e2⟩ | ⟨_, e2⟩
      · simp only [Option.some.injEq] at e2
        subst e2
        have hob := (R.heap.ob k o hlk hj).mono ⟨k2, k3⟩ hl0 (fun b hb => hb) (fun b _ => rfl) (fun b _ => rfl)
        obtain ⟨m1, m2⟩ := hob
        rw [hr] at m2
        have hpos : 0 < o.sz := by simpa [Nat.blt_eq] using hz
        obtain ⟨g, vs, cs, p1, p2, p3, p4, p5, p6⟩ : obBox0 _ _ _ _ := m2.elim (fun h => h.2) (fun h => absurd h.1 (by omega))
        rw [hes] at p3
        simp only [List.cons.injEq, and_true] at p3
        subst p3
        refine ⟨m1, ?_⟩
        show cond o.row _ _
        rw [hr]
        refine .inl ⟨hpos, g, vs, _, p1, p2, rfl, p4, RdL.setAt p5 hi (fun v hv => ?_), p6⟩
        have hv' : v = .slice none 0 0 := hv
        subst hv'
        exact ⟨.inr rfl, rfl, hval.symm⟩
      · exact (R.heap.ob k o' hlk e2).mono ⟨k2, k3⟩ hl0 (fun b hb => hb) (fun b _ => rfl) (fun b _ => rfl)
  · intro k k' o o' b hk hk' ho ho' hb hb'
    by_cases h1 : k = st.nx
    · subst h1; rw [hval] at hb; cases hb
    by_cases h2 : k' = st.nx
    · subst h2; rw [hval] at hb'; cases hb'
    have l1 := hlv k hk h1
    have l2 := hlv k' hk' h2
    rw [(hl0 k l1).2.1] at hb
    rw [(hl0 k' l2).2.1] at hb'
    rcases hl_new ho with ⟨e1, _⟩ | ⟨_, e1⟩
    · exact absurd e1 h1
    rcases hl_new ho' with ⟨e2, _⟩ | ⟨_, e2⟩
    · exact absurd e2 h2
    obtain ⟨o0, f1, _⟩ := hold k _ e1
    obtain ⟨o1, f2, _⟩ := hold k' _ e2
    exact R.heap.apart k k' o0 o1 b l1 l2 f1 f2 hb hb'
  · intro k o b hk ho hb
    by_cases h1 : k = st.nx
    · subst h1; rw [hval] at hb; cases hb
    have l1 := hlv k hk h1
    rw [(hl0 k l1).2.1] at hb
    rcases hl_new ho with ⟨e1, _⟩ | ⟨_, e1⟩
    · exact absurd e1 h1
    obtain ⟨o0, f1, f2⟩ := hold k _ e1
    rw [← f2]
    exact R.heap.im k o0 b l1 f1 hb
  · intro k hk
    by_cases h1 : k = st.nx
    · subst h1; exact Nat.lt_succ_self _
    · exact Nat.lt_succ_of_lt (R.nx k (hlv k hk h1))
  · intro k o b hk ho hb
    by_cases h1 : k = st.nx
    · subst h1; rw [hval] at hb; cases hb
    have l1 := hlv k hk h1
    rw [(hl0 k l1).2.1] at hb
    rcases hl_new ho with ⟨e1, _⟩ | ⟨_, e1⟩
    · exact absurd e1 h1
    obtain ⟨o0, f1, _⟩ := hold k _ e1
    exact R.own k o0 b l1 f1 hb
  · intro k hk
    obtain ⟨k1, k2, k3⟩ := R.ext k hk
    obtain ⟨j1, j2, j3⟩ := hl0 k k1
    exact ⟨j1, by rw [j2]; exact k2, by rw [j3]; exact k3⟩
end
end Go.Proofs.Ytmbigpjokpdnkaa
