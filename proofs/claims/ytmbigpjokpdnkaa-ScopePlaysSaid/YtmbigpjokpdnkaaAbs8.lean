/- An abstract layer over the walk, part 9: callees that write to blocks that they are given, or hand back blocks of their own. -/
import Derived.Test.YtmbigpjokpdnkaaAbs7
namespace Go.Proofs.Ytmbigpjokpdnkaa
set_option linter.unusedVariables false
open Go.RowKit

/-- the contexts of calls that may change m blocks -/
structure CtxM (C : Ctx) (N m : Nat) : Prop where
  N : C.N = N
  m : C.m = m
  ds : C.ds = []

/-- the blocks that the names stand for -/
def blksOf (E : Env) (h : Hp) (b : Nat) : Prop := ∃ id o, E.live id ∧ hl h id = some o ∧ blkOf (E.val id) = some b

/-- a function, given these values and these blocks (their names: 0 .. m - 1), hands back r and leaves these blocks (names below m'; the new one has the name m) -/
structure AMut (P : Program) (f : FuncId) (args : List AV) (h : Hp) (m : Nat) (r : AV) (h' : Hp) (m' : Nat) : Prop where
  able : Callable P f
  calls : ∀ (E0 : Env) (w : World) (vs : List Value), RdL E0 w args vs → HeapOK E0 w h → (∀ id, E0.live id ↔ id < m) →
    Calls P f vs.toArray w fun e w' => ∃ v E1, e = .returned v ∧ Rd E1 w' r v ∧ HeapOK E1 w' h' ∧ (∀ id, E1.live id → id < m') ∧
      (∀ id, id < m → E1.live id ∧ E1.val id = E0.val id ∧ E1.sz id = E0.sz id) ∧ (∀ b, E0.im b → E1.im b) ∧ (∀ b, E1.im b → E0.im b ∨ w.heap.size ≤ b ∨ blksOf E0 h b) ∧
      (∀ id o b, E1.live id → hl h' id = some o → blkOf (E1.val id) = some b → w.heap.size ≤ b ∨ blksOf E0 h b) ∧ Frm (blksOf E0 h) w w'

/-- the end of such a function -/
def RetM (m : Nat) (res : List ARes) (r : AV) (h' : Hp) (m' : Nat) (s : St) : Prop :=
  ∃ r0 σ, resAV s res = some r0 ∧ okR m' σ = true ∧ keepB m σ = true ∧ renAV σ r0 = r ∧ (σ.map fun p => (p.2, (hl s.h p.1).map (renOB σ))) = h'
def retM (m : Nat) (res : List ARes) (r : AV) (h' : Hp) (m' : Nat) : Exit → St → Prop
  | .normal, s => RetM m res r h' m' s
  | .ret, s => RetM m res r h' m' s
  | _, _ => False

theorem fin_m {m : Nat} {res : List ARes} {r : AV} {h' : Hp} {m' : Nat} {s : St} (ren : List (Nat × Nat)) {r0 : AV} (hr : resAV s res = some r0 := by rfl) (ho : okR m' (sigR ren h') = true := by rfl) (hk : keepB m (sigR ren h') = true := by rfl)
    (hs : renAV (sigR ren h') r0 = r := by rfl) (hh : ((sigR ren h').map fun p => (p.2, (hl s.h p.1).map (renOB (sigR ren h')))) = h' := by rfl) : RetM m res r h' m' s := ⟨r0, _, hr, ho, hk, hs, hh⟩

theorem amut_of {P : Program} {f : FuncId} {F : AFn} {args : List AV} {h : Hp} {m : Nat} {r : AV} {h' : Hp} {m' : Nat} (hF : lowerF P f = some F) (hlen : args.length ≤ F.N)
    (hw : ∀ C : Ctx, CtxM C F.N m → AW P C F.body (retM m F.res r h' m') ⟨argT 0 args, h, m⟩) : AMut P f args h m r h' m' := by
  simp only [lowerF] at hF
  split at hF
  · rename_i fn hfn
    split at hF
    · rename_i b hb
      cases hnm : (fn.name == "runtime.NumGoroutine") with
      | true => rw [hnm] at hF; cases hF
      | false =>
      rw [hnm, cond_false] at hF
      refine ⟨⟨fn, hfn, hnm, by rw [hb]; rfl⟩, ?_⟩
      intro E0 w vs hrd H0 hlv
      split at hF
      · rename_i c res hc hres
        simp only [Option.some.injEq] at hF
        subst hF
        let C : Ctx := ⟨blksOf E0 h, w, fn.ntmps, E0, m, []⟩
        have hC : CtxM C fn.ntmps m := ⟨rfl, rfl, rfl⟩
        have hvl : vs.length = args.length := hrd.length
        simp only at hlen
        have hR : Rel C E0 ⟨argT 0 args, h, m⟩ { tmps := vs.toArray ++ Array.replicate (fn.ntmps - vs.toArray.size) undef, defers := [] } w := by
          refine ⟨rfl, ?_, fun n => ?_, H0, fun id h => (hlv id).1 h, fun id o b h1 h2 h3 => .inr ⟨id, o, h1, h2, h3⟩, fun id hid => ⟨(hlv id).2 hid, rfl, rfl⟩, fun b h => h, fun b h => .inl h, ⟨rfl, rfl, rfl, Nat.le_refl _, fun _ _ _ => rfl⟩⟩
          · show (vs.toArray ++ Array.replicate (fn.ntmps - vs.toArray.size) undef).size = fn.ntmps
            simp; omega
          · have := getT_args (E := E0) (w := w) args vs 0 n hrd
            rw [if_pos (Nat.zero_le _), Nat.sub_zero] at this
            have e : (vs.toArray ++ Array.replicate (fn.ntmps - vs.toArray.size) undef).getD n undef = vs.getD n undef := by
              simp only [Array.getD_eq_getD_getElem?, List.getD_eq_getElem?_getD, Array.getElem?_append]
              by_cases hn : n < vs.length
              · simp [hn]
              · rw [if_neg (by simpa using hn)]
                rw [List.getElem?_eq_none (by omega)]
                simp only [Array.getElem?_replicate]
                split <;> rfl
            show Rd E0 w (getT (argT 0 args) n) ((vs.toArray ++ Array.replicate (fn.ntmps - vs.toArray.size) undef).getD n undef)
            rw [e]; exact this
        refine calls_of_wp hfn hb (wp_mono (hw C hC b hc E0 _ w hR) ?_)
        rintro e a' w' ⟨E', s, hq, hR'⟩
        have fin : RetM m res r h' m' s → a'.defers = [] ∧ ∃ v, (results fn a'.tmps).run P w' = .ok v w' ∧ ∃ v_1 E1, Ending.returned v = .returned v_1 ∧ Rd E1 w' r v_1 ∧ HeapOK E1 w' h' ∧ (∀ id, E1.live id → id < m') ∧
      (∀ id, id < m → E1.live id ∧ E1.val id = E0.val id ∧ E1.sz id = E0.sz id) ∧ (∀ b, E0.im b → E1.im b) ∧ (∀ b, E1.im b → E0.im b ∨ w.heap.size ≤ b ∨ blksOf E0 h b) ∧
      (∀ id o b, E1.live id → hl h' id = some o → blkOf (E1.val id) = some b → w.heap.size ≤ b ∨ blksOf E0 h b) ∧ Frm (blksOf E0 h) w w' := by
          rintro ⟨r0, σ, h1, h2, h3, h4, h5⟩
          obtain ⟨v, hv, hr⟩ := run_results hR' hres h1
          have hmm : ∀ i, i < C.m → (i, i) ∈ σ := fun i hi => keepB_mem h3 hi
          have hren := Rd.ren h2 r0 v hr
          rw [h4] at hren
          have hcan : canonWith σ [] m' s = ⟨[], h', m'⟩ := by simp only [canonWith, List.map_nil, h5]
          have R' := canon_rel σ [] m' h2 hmm hcan hR'
          exact ⟨hR'.defers, v, hv, v, renE σ E', rfl, hren, R'.heap, R'.nx, R'.ext, R'.imx, R'.imn, R'.own, R'.frm⟩
        cases e with
        | normal => exact fin hq
        | ret => exact fin hq
        | _ => exact hq.elim
      · cases hF
    · cases hF
  · cases hF

/-! ### such a call, in a caller's state -/

mutual
theorem refAV_mem {E : Env} {w : World} {k : Nat → List Nat} {Q : Nat → Prop} (hk : ∀ id, E.live id → ∀ j ∈ k id, Q j) : ∀ (av : AV) (v : Value), Rd E w av v → ∀ j ∈ refAV k av, Q j
  | .own id, v, h, j, hj => by simp only [refAV] at hj; simp only [Rd] at h; exact hk id h.1 j hj
  | .optr id _ _, v, h, j, hj => by simp only [refAV] at hj; simp only [Rd] at h; exact hk id h.1 j hj
  | .agg cs, v, h, j, hj => by
    simp only [refAV] at hj; simp only [Rd] at h
    obtain ⟨vs, _, _, h2⟩ := h
    exact refL_mem hk cs vs h2 j hj
  | .tup cs, v, h, j, hj => by
    simp only [refAV] at hj; simp only [Rd] at h
    obtain ⟨vs, _, h2⟩ := h
    exact refL_mem hk cs vs h2 j hj
  | .fn f fi ca, v, h, j, hj => by
    simp only [refAV, List.mem_append] at hj; simp only [Rd] at h
    obtain ⟨vs, us, _, h2, h3⟩ := h
    rcases hj with hj | hj
    · exact refL_mem hk fi vs h2 j hj
    · exact refL_mem hk ca us h3 j hj
  | .any, _, _, j, hj => by simp [refAV] at hj
  | .lit _, _, _, j, hj => by simp [refAV] at hj
  | .sl _ _, _, _, j, hj => by simp [refAV] at hj
  | .ep _ _ _ _, _, _, j, hj => by simp [refAV] at hj
theorem refL_mem {E : Env} {w : World} {k : Nat → List Nat} {Q : Nat → Prop} (hk : ∀ id, E.live id → ∀ j ∈ k id, Q j) : ∀ (l : List AV) (vs : List Value), RdL E w l vs → ∀ j ∈ refL k l, Q j
  | [], _, _, j, hj => by simp [refL] at hj
  | a :: l, vs, h, j, hj => by
    simp only [refL, List.mem_append] at hj; simp only [RdL] at h
    obtain ⟨v, rest, _, h1, h2⟩ := h
    rcases hj with hj | hj
    · exact refAV_mem hk a v h1 j hj
    · exact refL_mem hk l rest h2 j hj
end

theorem refs_own {E : Env} {w : World} {h : Hp} (H : HeapOK E w h) : ∀ (n : Nat) (id : Nat), E.live id → ∀ j ∈ refsN h n (.own id), E.live j
  | 0, id, _, j, hj => by simp [refsN] at hj
  | n + 1, id, hl1, j, hj => by
    simp only [refsN, refAV, List.mem_cons] at hj
    rcases hj with rfl | hj
    · exact hl1
    · cases ho : hl h id with
      | none => simp [ho] at hj
      | some o =>
        simp only [ho] at hj
        obtain ⟨_, k2⟩ := H.ob id o hl1 ho
        cases hr : o.row with
        | true => simp [hr] at hj
        | false =>
          rw [hr, cond_false] at k2
          rcases k2 with ⟨hz, g, vs, cs, j1, j2, j3, j4, j5, j6⟩ | ⟨hz, g, es, clock, j1, j2, j3, j4⟩
          · have hb : Nat.beq o.sz 0 = false := beq_ne (by omega)
            simp only [hr, hb, Bool.or_self, cond_false, j3] at hj
            exact refL_mem (fun i hi => refs_own H n i hi) cs vs j5 j hj
          · simp [hr, hz] at hj

theorem refs_live {E : Env} {w : World} {h : Hp} (H : HeapOK E w h) (n : Nat) (av : AV) (v : Value) (hr : Rd E w av v) : ∀ j ∈ refsN h n av, E.live j := by
  cases n with
  | zero => intro j hj; simp [refsN] at hj
  | succ n =>
    intro j hj
    unfold refsN at hj
    refine refAV_mem ?_ av v hr j hj
    intro id hid i hi
    refine refs_own H (n + 1) id hid i ?_
    unfold refsN
    simp only [refAV]
    exact hi

theorem refsA_live {E : Env} {w : World} {h : Hp} (H : HeapOK E w h) : ∀ (l : List AV) (vs : List Value), RdL E w l vs → ∀ j ∈ refsA h l, E.live j
  | [], _, _, j, hj => by simp [refsA] at hj
  | a :: l, vs, hr, j, hj => by
    simp only [refsA, List.flatMap_cons, List.mem_append] at hj
    simp only [RdL] at hr
    obtain ⟨v, rest, _, h1, h2⟩ := hr
    rcases hj with hj | hj
    · exact refs_live H 4 a v h1 j hj
    · exact refsA_live H l rest h2 j hj

/-- a value said with less -/
def SubR (a b : AV) : Prop := ∀ E w v, Rd E w a v → Rd E w b v
theorem SubR.refl (a : AV) : SubR a a := fun _ _ _ h => h
theorem SubR.any (a : AV) : SubR a .any := fun _ _ _ _ => trivial
theorem SubR.nil (sz : Nat) : SubR (.lit (.slice none 0 0)) (.sl sz []) := fun E w v h => Sub.nil sz E.im w v h
def SubRL (a b : List AV) : Prop := ∀ E w v, RdL E w a v → RdL E w b v
theorem SubRL.refl (a : List AV) : SubRL a a := fun _ _ _ h => h
theorem SubRL.nil : SubRL [] [] := fun _ _ _ h => h
theorem SubRL.cons {a b : AV} {l r : List AV} (h : SubR a b) (k : SubRL l r) : SubRL (a :: l) (b :: r) := fun E w v hv => by
  simp only [RdL] at hv ⊢
  obtain ⟨x, rest, h1, h2, h3⟩ := hv
  exact ⟨x, rest, h1, h E w x h2, k E w rest h3⟩
theorem SubR.agg {l r : List AV} (h : SubRL l r) : SubR (.agg l) (.agg r) := fun E w v hv => by
  simp only [Rd] at hv ⊢
  obtain ⟨vs, h1, h0, h2⟩ := hv
  exact ⟨vs, h1, h0, h E w vs h2⟩

def swapL (σ : List (Nat × Nat)) : List (Nat × Nat) := σ.map fun p => (p.2, p.1)
/-- a callee's names in the caller's words -/
def tauL (σ : List (Nat × Nat)) (m m' nx : Nat) : List (Nat × Nat) := (List.range (m' - m)).map (fun i => (m + i, nx + i)) ++ swapL σ

def coverB (m : Nat) (σ : List (Nat × Nat)) : Bool := (List.range m).all fun i => σ.any fun p => Nat.beq p.2 i

theorem coverB_mem {m : Nat} {σ : List (Nat × Nat)} (h : coverB m σ = true) {i : Nat} (hi : i < m) : ∃ p ∈ σ, p.2 = i := by
  simp only [coverB, List.all_eq_true, List.mem_range, List.any_eq_true] at h
  obtain ⟨p, hp, h1⟩ := h i hi
  exact ⟨p, hp, Nat.eq_of_beq_eq_true h1⟩

mutual
/-- a value, in other words -/
theorem Rd.map {E E' : Env} {w : World} {τ : List (Nat × Nat)} (hi : ∀ b, E.im b → E'.im b) (hτ : ∀ j, E.live j → ∃ k, look τ j = some k ∧ E'.live k ∧ E'.val k = E.val j ∧ E'.sz k = E.sz j) : ∀ (av : AV) (v : Value), Rd E w av v → Rd E' w (renAV τ av) v
  | .any, _, _ => trivial
  | .lit _, _, h => h
  | .sl sz es, v, h => RdI.mono hi (fun _ _ => rfl) (.sl sz es) v h
  | .ep sz es i off, v, h => RdI.mono hi (fun _ _ => rfl) (.ep sz es i off) v h
  | .agg cs, v, h => by
    simp only [renAV, Rd] at h ⊢
    obtain ⟨vs, h1, h0, h2⟩ := h
    exact ⟨vs, h1, h0, RdL.map hi hτ cs vs h2⟩
  | .tup cs, v, h => by
    simp only [renAV, Rd] at h ⊢
    obtain ⟨vs, h1, h2⟩ := h
    exact ⟨vs, h1, RdL.map hi hτ cs vs h2⟩
  | .own id, v, h => by
    simp only [renAV, Rd] at h ⊢
    obtain ⟨h1, h0, h2⟩ := h
    obtain ⟨k, e, k1, k2, k3⟩ := hτ id h1
    rw [e]
    exact ⟨k1, h0, by rw [k2]; exact h2⟩
  | .optr id i off, v, h => by
    simp only [renAV, Rd] at h ⊢
    obtain ⟨h1, b, h2, h3⟩ := h
    obtain ⟨k, e, k1, k2, k3⟩ := hτ id h1
    rw [e]
    exact ⟨k1, b, by rw [k2]; exact h2, by rw [k3]; exact h3⟩
  | .fn f fi ca, v, h => by
    simp only [renAV, Rd] at h ⊢
    obtain ⟨vs, us, h1, h2, h3⟩ := h
    exact ⟨vs, us, h1, RdL.map hi hτ fi vs h2, RdL.map hi hτ ca us h3⟩
theorem RdL.map {E E' : Env} {w : World} {τ : List (Nat × Nat)} (hi : ∀ b, E.im b → E'.im b) (hτ : ∀ j, E.live j → ∃ k, look τ j = some k ∧ E'.live k ∧ E'.val k = E.val j ∧ E'.sz k = E.sz j) : ∀ (l : List AV) (vs : List Value), RdL E w l vs → RdL E' w (renL τ l) vs
  | [], _, h => h
  | a :: l, vs, h => by
    simp only [renL, RdL] at h ⊢
    obtain ⟨v, rest, h1, h2, h3⟩ := h
    exact ⟨v, rest, h1, Rd.map hi hτ a v h2, RdL.map hi hτ l rest h3⟩
end

theorem obOK.map {E E' : Env} {w : World} {τ : List (Nat × Nat)} (hi : ∀ b, E.im b → E'.im b) (hτ : ∀ j, E.live j → ∃ k, look τ j = some k ∧ E'.live k ∧ E'.val k = E.val j ∧ E'.sz k = E.sz j) {j k : Nat} {o : OB} (h : obOK E w j o) (hv : E'.val k = E.val j) (hs : E'.sz k = E.sz j) : obOK E' w k (renOB τ o) := by
  obtain ⟨k1, k2⟩ := h
  cases hr : o.row with
  | true =>
    have ee : renOB τ o = o := by simp [renOB, hr]
    rw [ee]
    refine ⟨by rw [hs]; exact k1, ?_⟩
    rw [hr] at k2 ⊢
    obtain ⟨vs, a', cap, j1, j2, j3, j4, j5⟩ := k2
    exact ⟨vs, a', cap, by rw [hv]; exact j1, by rw [hv]; exact j2, RdIE.mono hi (fun _ _ => rfl) _ _ _ j3, j4, j5⟩
  | false =>
    rw [hr] at k2
    rcases k2 with ⟨hz, g, vs, cs, j1, j2, j3, j4, j5, j6⟩ | ⟨hz, g, es, clock, j1, j2, j3, j4⟩
    · have ee : renOB τ o = { o with es := o.es.map (renL τ) } := by
        have : (o.sz == 0) = false := by simp; omega
        simp [renOB, hr, this]
      rw [ee]
      refine ⟨by rw [hs]; exact k1, ?_⟩
      rw [hr]
      exact .inl ⟨hz, g, vs, renL τ cs, by rw [hv]; exact j1, j2, by simp [j3], j4, RdL.map hi hτ _ _ j5, j6⟩
    · have ee : renOB τ o = o := by simp [renOB, hr, hz]
      rw [ee]
      refine ⟨by rw [hs]; exact k1, ?_⟩
      rw [hr]
      exact .inr ⟨hz, g, es, clock, by rw [hv]; exact j1, j2, RdM.imp (fun cs vs => RdIL.mono hi (fun _ _ => rfl) cs vs) _ _ j3, j4⟩
end Go.Proofs.Ytmbigpjokpdnkaa
