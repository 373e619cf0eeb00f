/- An abstract layer over the walk, part 10: a call that changes the caller's blocks. -/
import Derived.Test.YtmbigpjokpdnkaaAbs8
namespace Go.Proofs.Ytmbigpjokpdnkaa
set_option linter.unusedVariables false
open Go.RowKit

theorem swap_look {n : Nat} {σ : List (Nat × Nat)} (h : okR n σ = true) {p : Nat × Nat} (hp : p ∈ σ) : look (swapL σ) p.2 = some p.1 := by
  have hm : p.2 ∈ (swapL σ).map (·.1) := by
    simp only [swapL, List.map_map]
    exact List.mem_map.2 ⟨p, hp, rfl⟩
  obtain ⟨x, hx⟩ := look_some hm
  have := look_mem hx
  simp only [swapL, List.mem_map] at this
  obtain ⟨q, hq, e⟩ := this
  simp only [Prod.mk.injEq] at e
  have := okR_inj h q p hq hp e.1
  subst this
  rw [hx, ← e.2]

/-- the blocks behind the call, in the caller's words -/
def updM (τ : List (Nat × Nat)) (h' : Hp) : Hp := h'.map fun p => ((match look τ p.1 with | some k => k | none => 0), p.2.map (renOB τ))

section
variable {P : Program} {st : St} {d : Option Nat} {g : Option (Nat × Bool)}

theorem hl_map {τ : List (Nat × Nat)} {h' : Hp} {j : Nat} {o : OB} (hj : hl h' j = some o) (hinj : ∀ i, i ∈ h'.map (·.1) → look τ i = look τ j → i = j) {k : Nat} (hk : look τ j = some k) (hall : ∀ i, i ∈ h'.map (·.1) → ∃ k, look τ i = some k) (rest : Hp) :
    hl (updM τ h' ++ rest) k = some (renOB τ o) := by
  have key : look (updM τ h') k = some (some (renOB τ o)) := by
    induction h' with
    | nil => simp [hl, look] at hj
    | cons p h' ih =>
      obtain ⟨i, x⟩ := p
      simp only [updM, List.map_cons, look]
      by_cases hij : i = j
      · subst hij
        simp only [hl, look, Nat.beq_refl, cond_true] at hj
        rw [hk]
        simp only [Nat.beq_refl, cond_true]
        cases x with
        | none => cases hj
        | some o' => simp only [Option.some.injEq] at hj; subst hj; rfl
      · obtain ⟨k', hk'⟩ := hall i (by simp)
        have hne : k' ≠ k := fun e => hij (hinj i (by simp) (by rw [hk', hk, e]))
        rw [hk']
        simp only [beq_ne hne, cond_false]
        have hj' : hl h' j = some o := by simpa only [hl, look, beq_ne hij, cond_false] using hj
        exact ih hj' (fun i' hi' => hinj i' (by simp only [List.map_cons, List.mem_cons]; exact .inr hi')) (fun i' hi' => hall i' (by simp only [List.map_cons, List.mem_cons]; exact .inr hi'))
  simp only [hl, look_append, key]

theorem updM_keys {τ : List (Nat × Nat)} {h' : Hp} {k : Nat} (hk : k ∈ (updM τ h').map (·.1)) : ∃ j, j ∈ h'.map (·.1) ∧ (match look τ j with | some k => k | none => 0) = k := by
  simp only [updM, List.map_map, List.mem_map] at hk
  obtain ⟨p, hp, e⟩ := hk
  exact ⟨p.1, List.mem_map.2 ⟨p, hp, rfl⟩, e⟩

theorem updM_none {τ : List (Nat × Nat)} {h' : Hp} {j k : Nat} (hm : j ∈ h'.map (·.1)) (hj : hl h' j = none) (hinj : ∀ i, i ∈ h'.map (·.1) → look τ i = look τ j → i = j) (hk : look τ j = some k) (hall : ∀ i, i ∈ h'.map (·.1) → ∃ k, look τ i = some k) (rest : Hp) :
    hl (updM τ h' ++ rest) k = none := by
  have key : look (updM τ h') k = some none := by
    induction h' with
    | nil => simp at hm
    | cons p h' ih =>
      obtain ⟨i, x⟩ := p
      simp only [updM, List.map_cons, look]
      by_cases hij : i = j
      · subst hij
        simp only [hl, look, Nat.beq_refl, cond_true] at hj
        rw [hk]
        simp only [Nat.beq_refl, cond_true]
        cases x with
        | none => rfl
        | some o' => cases hj
      · obtain ⟨k', hk'⟩ := hall i (by simp)
        have hne : k' ≠ k := fun e => hij (hinj i (by simp) (by rw [hk', hk, e]))
        rw [hk']
        simp only [beq_ne hne, cond_false]
        have hj' : hl h' j = none := by simpa only [hl, look, beq_ne hij, cond_false] using hj
        refine ih ?_ hj' (fun i' hi' => hinj i' (by simp only [List.map_cons, List.mem_cons]; exact .inr hi')) (fun i' hi' => hall i' (by simp only [List.map_cons, List.mem_cons]; exact .inr hi'))
        simp only [List.map_cons, List.mem_cons] at hm
        rcases hm with h | h
        · exact absurd h.symm hij
        · exact h
  simp only [hl, look_append, key]

theorem renL_map (σ : List (Nat × Nat)) : ∀ l : List AV, renL σ l = l.map (renAV σ)
  | [] => rfl
  | a :: l => by simp only [renL, List.map_cons, renL_map σ l]

theorem look_news {m nx : Nat} (l : List (Nat × Nat)) : ∀ (n j : Nat), look ((List.range n).map (fun i => (m + i, nx + i)) ++ l) j = if m ≤ j ∧ j < m + n then some (nx + (j - m)) else look l j := by
  intro n
  induction n generalizing l with
  | zero => intro j; rw [if_neg (by omega)]; rfl
  | succ n ih =>
    intro j
    rw [List.range_succ, List.map_append, List.append_assoc, ih]
    simp only [List.map_cons, List.map_nil, List.cons_append, List.nil_append, look_if]
    split
    · rw [if_pos (by omega)]
    · split
      · rename_i h1 h2; subst h2; rw [if_pos (by omega)]; congr 1; omega
      · rw [if_neg (by omega)]
theorem tauL_old {σ : List (Nat × Nat)} {m : Nat} (n nx : Nat) {j : Nat} (hj : j < m) : look (tauL σ m (m + n) nx) j = look (swapL σ) j := by
  unfold tauL
  rw [Nat.add_sub_cancel_left, look_news, if_neg (by omega)]
theorem tauL_new {σ : List (Nat × Nat)} {m n : Nat} (nx : Nat) {j : Nat} (hj : j < n) : look (tauL σ m (m + n) nx) (m + j) = some (nx + j) := by
  unfold tauL
  rw [Nat.add_sub_cancel_left, look_news, if_pos (by omega)]; congr 2; omega

/-- a call of a function that changes these blocks of the caller: σ tells their names (the caller's, the callee's) -/
theorem q_callM {fo : Operand} {args : List Operand} {f : FuncId} {fi ca argsA argsC : List AV} {hC h' : Hp} {m m' : Nat} {r : AV} (σ : List (Nat × Nat)) (hg : gOK st g) (hf : ev st fo = .fn f fi ca)
    (hσ : okR m σ = true) (hcov : coverB m σ = true) (hlive : (σ.all fun p => (refsA (restr (σ.map (·.1)) st.h) (fi ++ (args.map (ev st) ++ ca))).any (Nat.beq p.1)) = true)
    (hargs : (fi ++ (args.map (ev st) ++ ca)).map (renAV σ) = argsA) (hs : SubRL argsA argsC) (hh0 : (σ.map fun p => (p.2, (hl st.h p.1).map (renOB σ))) = hC) (hro : (σ.all fun p => match hl st.h p.1 with | some o => !o.ro | none => true) = true) (hc : AMut P f argsC hC m r h' m')
    (hkeys : ((h'.map (·.1)).all fun i => Nat.blt i m') = true) (hin : coverB m' (h'.map fun p => (p.1, p.1)) = true) (hm' : Nat.ble m m' = true) :
    Step P st ⟨⟨d, g, .call fo args⟩, renAV (tauL σ m m' st.nx) r, σ.map (·.1), updM (tauL σ m m' st.nx) h', m' - m⟩ := by
  intro N ops o hlow C E a w sx hN R hag hh hnw K Q hK
  rw [if_pos (wanted_of hlow R hag hg)]
  obtain ⟨h1, h2, h3, h4⟩ := lower_parts hlow
  have hr : ∀ x ∈ fo :: args, Rd E w (ev st x) (a.eval x) := fun x hx => eval_of R hag (by simpa [AOp.opds] using hx)
  have hfv := hr fo (by simp)
  rw [hf] at hfv
  obtain ⟨vs, us, hfv, hfi, hca⟩ := hfv
  have hargs0 : RdL E w (args.map (ev st)) (args.map a.eval) := rdL_evs (fun x hx => hr x (List.mem_cons_of_mem _ hx))
  have hall : RdL E w (fi ++ (args.map (ev st) ++ ca)) (vs ++ (args.map a.eval ++ us)) := hfi.append (hargs0.append hca)
  have hhx : ∀ id, id ∈ σ.map (·.1) → hl sx.h id = hl st.h id := fun id hid => hh id (.inl hid)
  -- the names are live
  have hrefs := refsA_live (R.heap.restr hhx) (fi ++ (args.map (ev st) ++ ca)) _ hall
  have hlv : ∀ p ∈ σ, E.live p.1 := fun p hp => by
    rw [List.all_eq_true] at hlive
    have := hlive p hp
    rw [List.any_eq_true] at this
    obtain ⟨j, hj, hb⟩ := this
    rw [Nat.eq_of_beq_eq_true hb]
    exact hrefs j hj
  have hroF : ∀ p ∈ σ, ∀ o0, hl sx.h p.1 = some o0 → o0.ro = false := fun p hp o0 ho => by
    rw [List.all_eq_true] at hro
    have := hro p hp
    rw [hhx p.1 (List.mem_map.2 ⟨p, hp, rfl⟩)] at ho
    rw [ho] at this
    simpa using this
  obtain ⟨⟨fn, hfn, hname, hbody⟩, hcall⟩ := hc
  -- the callee's Env
  have hargsR : RdL (renE σ E) w argsC (vs ++ (args.map a.eval ++ us)) := by
    refine hs _ _ _ ?_
    rw [← hargs]
    have := RdL.ren hσ _ _ hall
    rw [renL_map] at this
    exact this
  have hcan : (σ.map fun p => (p.2, (hl sx.h p.1).map (renOB σ))) = hC := by
    rw [← hh0]
    refine List.map_congr_left fun p hp => ?_
    rw [hhx p.1 (List.mem_map.2 ⟨p, hp, rfl⟩)]
  have hR0 : HeapOK (renE σ E) w hC := by
    have R' : Rel { C with m := 0 } E sx a w := ⟨R.defers, R.size, R.tm, R.heap, R.nx, R.own, fun id hid => absurd hid (Nat.not_lt_zero _), R.imx, R.imn, R.frm⟩
    have := (canon_rel σ [] m hσ (fun i hi => absurd hi (Nat.not_lt_zero _)) (rfl : canonWith σ [] m sx = canonWith σ [] m sx) R').heap
    rw [← hcan]
    exact this
  have hE0 : ∀ id, (renE σ E).live id ↔ id < m := fun id => by
    constructor
    · rintro ⟨p, hp, rfl, _⟩; exact okR_lt hσ p hp
    · intro hid
      obtain ⟨p, hp, e⟩ := coverB_mem hcov hid
      exact ⟨p, hp, e, hlv p hp⟩
  have hcc := hcall (renE σ E) w _ hargsR hR0 hE0
  have hrun : (execOp a.eval o).run P w = .ok (.enter f (vs ++ (args.map a.eval ++ us)).toArray) w := by
    obtain ⟨dst, op, ty, pos, after, guard⟩ := o
    obtain ⟨l, rfl⟩ := low_spec h3
    have hcf : (callFunc f (vs ++ (args.map a.eval ++ us)).toArray).run P w = .ok (.enter f (vs ++ (args.map a.eval ++ us)).toArray) w := callFunc_run hfn hname hbody
    simp only [execOp, resolve, Sem.run_bind, hfv, Deferred.ofValue, Sem.run_pure, Result.andThen_ok, invoke]
    simpa using hcf
  unfold Oper.wp
  rw [hrun, Oper.upon_enter]
  refine hcc.mono ?_
  rintro e w' ⟨v, E1, rfl, hrv, H1, hlt1, hext, him1, himn, hown1, hfrm⟩
  show K _ _
  -- the blocks that may have changed are the caller's own
  have hX : ∀ b, blksOf (renE σ E) hC b → ∃ p o0, p ∈ σ ∧ hl sx.h p.1 = some o0 ∧ blkOf (E.val p.1) = some b := by
    rintro b ⟨id, o0, ⟨p, hp, rfl, hl1⟩, ho, hb⟩
    rw [← hcan] at ho
    obtain ⟨q, o1, hq, e1, ho1, rfl⟩ := hl_canon (st := sx) hσ ho
    obtain rfl := okR_inj hσ q p hq hp e1
    simp only [renE, back_of hσ hp] at hb
    exact ⟨q, o1, hp, ho1, hb⟩
  obtain ⟨n, rfl⟩ : ∃ n, m' = m + n := Nat.exists_eq_add_of_le (by simpa [Nat.ble_eq] using hm')
  rw [Nat.add_sub_cancel_left] at hnw hK
  replace hnw : ∀ j, j < n → ¬ E.live (st.nx + j) ∧ st.nx + j < sx.nx := hnw
  generalize hτe : tauL σ m (m + n) st.nx = τ at hK ⊢
  let E2 : Env := ⟨E1.im, fun k => E.live k ∨ (∃ j, j < n ∧ k = st.nx + j ∧ E1.live (m + j)), fun k => if st.nx ≤ k ∧ k < st.nx + n then E1.val (m + (k - st.nx)) else E.val k, fun k => if st.nx ≤ k ∧ k < st.nx + n then E1.sz (m + (k - st.nx)) else E.sz k⟩
  have hne : ∀ k, E.live k → ¬ (st.nx ≤ k ∧ k < st.nx + n) := fun k hk h => by
    have h0 := (hnw (k - st.nx) (by omega)).1
    rw [show st.nx + (k - st.nx) = k from by omega] at h0
    exact h0 hk
  have hl2 : ∀ k, E.live k → E2.live k ∧ E2.val k = E.val k ∧ E2.sz k = E.sz k := fun k hk => ⟨.inl hk, by simp only [E2]; rw [if_neg (hne k hk)], by simp only [E2]; rw [if_neg (hne k hk)]⟩
  have hi2 : ∀ b, E.im b → E2.im b := fun b hb => him1 b hb
  have hXno : ∀ b, E.im b → ¬ blksOf (renE σ E) hC b := fun b hb hx => by
    obtain ⟨p, o0, hp, ho, hbb⟩ := hX b hx
    have k1 := (R.heap.im p.1 o0 b (hlv p hp) ho hbb).1 hb
    rw [hroF p hp o0 ho] at k1
    cases k1
  have hw : ∀ b, E.im b → w'.heap[b]? = w.heap[b]? := fun b hb => hfrm.block b (R.heap.lt b hb) (hXno b hb)
  have hXown : ∀ b, blksOf (renE σ E) hC b → C.w0.heap.size ≤ b ∨ C.X b := fun b hb => by
    obtain ⟨p, o0, hp, ho, hbb⟩ := hX b hb
    exact R.own p.1 o0 b (hlv p hp) ho hbb
  -- names
  have hlo : ∀ p ∈ σ, look τ p.2 = some p.1 := fun p hp => by
    rw [← hτe, tauL_old n st.nx (okR_lt hσ p hp)]
    exact swap_look hσ hp
  have hlom : ∀ j, j < n → look τ (m + j) = some (st.nx + j) := fun j hj => by
    rw [← hτe, tauL_new st.nx hj]
  have hlook : ∀ j, j < m + n → (∃ p ∈ σ, p.2 = j ∧ look τ j = some p.1) ∨ (∃ i, i < n ∧ j = m + i ∧ look τ j = some (st.nx + i)) := fun j hj => by
    by_cases hjm : j < m
    · obtain ⟨p, hp, e⟩ := coverB_mem hcov hjm
      exact .inl ⟨p, hp, e, e ▸ hlo p hp⟩
    · have e : j = m + (j - m) := by omega
      exact .inr ⟨j - m, by omega, e, by rw [e, hlom _ (by omega)]; congr 1; omega⟩
  have hnxσ : ∀ i, i < n → ∀ p ∈ σ, p.1 ≠ st.nx + i := fun i h p hp e => (hnw i h).1 (e ▸ hlv p hp)
  have hinj : ∀ i j, i < m + n → j < m + n → look τ i = look τ j → i = j := fun i j hi hj e => by
    rcases hlook i hi with ⟨p, hp, e1, k1⟩ | ⟨i1, hmm, e1, k1⟩ <;> rcases hlook j hj with ⟨q, hq, e2, k2⟩ | ⟨j1, hmm2, e2, k2⟩
    · rw [k1, k2] at e
      have hpq := Option.some.inj e
      have l1 := okR_left hσ p hp
      have l2 := okR_left hσ q hq
      rw [hpq] at l1
      rw [l1] at l2
      rw [← e1, ← e2]; exact Option.some.inj l2
    · rw [k1, k2] at e
      exact absurd (Option.some.inj e) (hnxσ j1 hmm2 p hp)
    · rw [k1, k2] at e
      exact absurd (Option.some.inj e).symm (hnxσ i1 hmm q hq)
    · rw [k1, k2] at e
      have := Option.some.inj e
      omega
  have hkeyL : ∀ i, i ∈ h'.map (·.1) → i < m + n := fun i hi => by
    rw [List.all_eq_true] at hkeys
    have := hkeys i hi
    simpa [Nat.blt_eq] using this
  have hkeyI : ∀ i, i < m + n → i ∈ h'.map (·.1) := fun i hi => by
    obtain ⟨p, hp, e⟩ := coverB_mem hin hi
    rw [List.mem_map] at hp
    obtain ⟨q, hq, rfl⟩ := hp
    exact List.mem_map.2 ⟨q, hq, e⟩
  have hτ : ∀ j, E1.live j → ∃ k, look τ j = some k ∧ E2.live k ∧ E2.val k = E1.val j ∧ E2.sz k = E1.sz j := fun j hj => by
    rcases hlook j (hlt1 j hj) with ⟨p, hp, e1, k1⟩ | ⟨i, hmm, e1, k1⟩
    · obtain ⟨j1, j2, j3⟩ := hl2 p.1 (hlv p hp)
      obtain ⟨i1, i2, i3⟩ := hext j (by rw [← e1]; exact okR_lt hσ p hp)
      have hb := back_of hσ hp
      refine ⟨p.1, k1, j1, ?_, ?_⟩
      · rw [j2, i2, ← e1]; simp only [renE, hb]
      · rw [j3, i3, ← e1]; simp only [renE, hb]
    · refine ⟨st.nx + i, k1, .inr ⟨i, hmm, rfl, e1 ▸ hj⟩, ?_, ?_⟩
      · simp only [E2]; rw [if_pos (by omega), e1]; congr 1; omega
      · simp only [E2]; rw [if_pos (by omega), e1]; congr 1; omega
  -- which blocks the caller has now
  have hcase : ∀ id o1, E2.live id → hl (updM τ h' ++ sx.h) id = some o1 →
      (∃ j o', E1.live j ∧ hl h' j = some o' ∧ o1 = renOB τ o' ∧ look τ j = some id ∧ E2.val id = E1.val j ∧ E2.sz id = E1.sz j) ∨ (id ∉ (updM τ h').map (·.1) ∧ E.live id ∧ hl sx.h id = some o1) := by
    intro id o1 hl1 ho
    by_cases hmem : id ∈ (updM τ h').map (·.1)
    · obtain ⟨j, hj, e⟩ := updM_keys hmem
      have hjm := hkeyL j hj
      obtain ⟨k, hk⟩ : ∃ k, look τ j = some k := by
        rcases hlook j hjm with ⟨p, _, _, k1⟩ | ⟨_, _, _, k1⟩
        · exact ⟨_, k1⟩
        · exact ⟨_, k1⟩
      rw [hk] at e
      simp only at e
      subst e
      have hallk : ∀ i, i ∈ h'.map (·.1) → ∃ k, look τ i = some k := fun i hi => by
        rcases hlook i (hkeyL i hi) with ⟨p, _, _, k1⟩ | ⟨_, _, _, k1⟩
        · exact ⟨_, k1⟩
        · exact ⟨_, k1⟩
      have hinjk : ∀ i, i ∈ h'.map (·.1) → look τ i = look τ j → i = j := fun i hi => hinj i j (hkeyL i hi) hjm
      have hjlive : E1.live j := by
        rcases hlook j hjm with ⟨p, hp, e1, k1⟩ | ⟨i, hmm, e1, k1⟩
        · exact (hext j (by rw [← e1]; exact okR_lt hσ p hp)).1
        · rw [hk] at k1
          have hkn := Option.some.inj k1
          rcases hl1 with hl1 | ⟨i2, hi2', e2, hl1⟩
          · exact absurd (hkn ▸ hl1) (hnw i hmm).1
          · rw [e1, show i = i2 from by omega]; exact hl1
      left
      cases hj' : hl h' j with
      | none =>
        rw [updM_none hj hj' hinjk hk hallk] at ho
        cases ho
      | some o' =>
        rw [hl_map hj' hinjk hk hallk] at ho
        obtain ⟨k2, e2, _, v2, s2⟩ := hτ j hjlive
        rw [hk] at e2
        obtain rfl := Option.some.inj e2
        exact ⟨j, o', hjlive, hj', (Option.some.inj ho).symm, hk, v2, s2⟩
    · right
      rw [hl_out _ _ _ hmem] at ho
      refine ⟨hmem, ?_, ho⟩
      rcases hl1 with hl1 | ⟨i, hmm, e, _⟩
      · exact hl1
      · exfalso
        refine hmem ?_
        simp only [updM, List.map_map, List.mem_map]
        have := hkeyI (m + i) (by omega)
        rw [List.mem_map] at this
        obtain ⟨q, hq, eq⟩ := this
        refine ⟨q, hq, ?_⟩
        simp only [Function.comp, eq, hlom i hmm, e]
  have hσkey : ∀ p ∈ σ, p.1 ∈ (updM τ h').map (·.1) := fun p hp => by
    have hlt : p.2 < m + n := by have := okR_lt hσ p hp; omega
    have := hkeyI p.2 hlt
    rw [List.mem_map] at this
    obtain ⟨q, hq, eq⟩ := this
    simp only [updM, List.map_map, List.mem_map]
    refine ⟨q, hq, ?_⟩
    simp only [Function.comp, eq, hlo p hp]
  have hfar : ∀ id o0 b, id ∉ (updM τ h').map (·.1) → E.live id → hl sx.h id = some o0 → blkOf (E.val id) = some b → ¬ blksOf (renE σ E) hC b := by
    intro id o0 b hout hl1 ho hb hx
    obtain ⟨p, o1, hp, hpo, hbb⟩ := hX b hx
    have := R.heap.apart id p.1 o0 o1 b hl1 (hlv p hp) ho hpo hb hbb
    exact hout (this ▸ hσkey p hp)
  have RM : Rel C E2 ⟨sx.t, updM τ h' ++ sx.h, sx.nx⟩ a w' := by
    refine ⟨R.defers, R.size, fun n => Rd.mono hl2 hi2 hw _ _ (R.tm n), ⟨?_, ?_, ?_, H1.lt⟩, ?_, ?_, ?_, fun b hb => hi2 b (R.imx b hb), ?_, ?_⟩
    · intro id o1 hl1 ho
      rcases hcase id o1 hl1 ho with ⟨j, o', k1, k2, rfl, k4, k5, k6⟩ | ⟨k1, k2, k3⟩
      · exact obOK.map (E := E1) (E' := E2) (fun b hb => hb) hτ (H1.ob j o' k1 k2) k5 k6
      · refine (R.heap.ob id o1 k2 k3).mono (hl2 id k2).2 hl2 hi2 hw (fun b hb => hfrm.block b (R.heap.blk_lt k2 k3 hb) (hfar id o1 b k1 k2 k3 hb))
    · intro id id' o1 o2 b hl1 hl1' ho ho' hb hb'
      rcases hcase id o1 hl1 ho with ⟨j, o', k1, k2, rfl, k4, k5, k6⟩ | ⟨k1, k2, k3⟩ <;> rcases hcase id' o2 hl1' ho' with ⟨j', o'', i1, i2, rfl, i4, i5, i6⟩ | ⟨i1, i2, i3⟩
      · rw [k5] at hb; rw [i5] at hb'
        have := H1.apart j j' _ _ b k1 i1 k2 i2 hb hb'
        subst this
        rw [k4] at i4; exact Option.some.inj i4
      · exfalso
        rw [k5] at hb; rw [(hl2 id' i2).2.1] at hb'
        rcases hown1 j _ b k1 k2 hb with h | h
        · have := R.heap.blk_lt i2 i3 hb'; omega
        · exact hfar id' _ b i1 i2 i3 hb' h
      · exfalso
        rw [i5] at hb'; rw [(hl2 id k2).2.1] at hb
        rcases hown1 j' _ b i1 i2 hb' with h | h
        · have := R.heap.blk_lt k2 k3 hb; omega
        · exact hfar id _ b k1 k2 k3 hb h
      · rw [(hl2 id k2).2.1] at hb; rw [(hl2 id' i2).2.1] at hb'
        exact R.heap.apart id id' _ _ b k2 i2 k3 i3 hb hb'
    · intro id o1 b hl1 ho hb
      rcases hcase id o1 hl1 ho with ⟨j, o', k1, k2, rfl, k4, k5, k6⟩ | ⟨k1, k2, k3⟩
      · rw [k5] at hb
        have er : (renOB τ o').ro = o'.ro := by unfold renOB; cases o'.row <;> cases (o'.sz == 0) <;> rfl
        rw [er]
        exact H1.im j o' b k1 k2 hb
      · rw [(hl2 id k2).2.1] at hb
        rw [← R.heap.im id o1 b k2 k3 hb]
        constructor
        · intro h
          rcases himn b h with h | h | h
          · exact h
          · have := R.heap.blk_lt k2 k3 hb; omega
          · exact absurd h (hfar id o1 b k1 k2 k3 hb)
        · exact hi2 b
    · rintro id (h | ⟨j, h, rfl, _⟩)
      · exact R.nx id h
      · exact (hnw j h).2
    · intro id o1 b hl1 ho hb
      rcases hcase id o1 hl1 ho with ⟨j, o', k1, k2, rfl, k4, k5, k6⟩ | ⟨k1, k2, k3⟩
      · rw [k5] at hb
        rcases hown1 j o' b k1 k2 hb with h | h
        · have := R.frm.size; exact .inl (by omega)
        · exact hXown b h
      · rw [(hl2 id k2).2.1] at hb
        exact R.own id o1 b k2 k3 hb
    · intro id hid
      obtain ⟨k1, k2, k3⟩ := R.ext id hid
      obtain ⟨j1, j2, j3⟩ := hl2 id k1
      exact ⟨j1, by rw [j2]; exact k2, by rw [j3]; exact k3⟩
    · intro b hb
      rcases himn b hb with h | h | h
      · exact R.imn b h
      · have := R.frm.size; exact .inr (.inl (by omega))
      · exact .inr (hXown b h)
    · refine ⟨hfrm.os.trans R.frm.os, hfrm.tape.trans R.frm.tape, hfrm.output.trans R.frm.output, Nat.le_trans R.frm.size hfrm.size, fun k hk hX' => ?_⟩
      refine (hfrm.block k (Nat.lt_of_lt_of_le hk R.frm.size) (fun hx => ?_)).trans (R.frm.block k hk hX')
      rcases hXown k hx with h | h
      · omega
      · exact hX' h
  refine hK v w' E2 ?_ ?_
  · have := RM.put (d := o.dst) (fun k hk => by rw [hN]; exact h2 k hk) (Rd.map (E := E1) (E' := E2) (fun b hb => hb) hτ r v hrv)
    simp only [St.appx]
    rw [show d = o.dst from h1]
    exact this
  · rintro id (h | ⟨j, h, e, _⟩)
    · exact .inl h
    · exact .inr ⟨j, h, e⟩
end

section
variable {P : Program} {tt : List (Nat × AV)} {hh : Hp} {nn dd : Nat} {g : Option (Nat × Bool)} {l : List AInst} {acc : List SD} {K : List SD → St → Prop}

/-- a call that changes the caller's blocks (σ: the caller's names, the callee's) -/
theorem r_callM {fo : Operand} {args : List Operand} {f : FuncId} {fi ca argsA argsC : List AV} {hC h' u' h2 : Hp} {m m' : Nat} {r v : AV} (σ : List (Nat × Nat)) (hc : AMut P f argsC hC m r h' m')
    (h : RG P (⟨⟨some dd, g, .call fo args⟩, v, σ.map (·.1), u', 0⟩ :: acc) l ⟨(dd, v) :: tt, h2, nn⟩ K)
    (hmm : m' = m := by rfl)
    (hv : renAV (swapL σ) r = v := by (simp only [renAV, renL, renOB, swapL, updM, look_if, look_nil, List.map_cons, List.map_nil, ↓reduceIte, Nat.reduceEqDiff, Nat.reduceBEq, Nat.reduceAdd, Option.map_some, Option.map_none, cond_true, cond_false]; exact rfl)) (hu : updM (swapL σ) h' = u' := by (simp only [renAV, renL, renOB, swapL, updM, look_if, look_nil, List.map_cons, List.map_nil, ↓reduceIte, Nat.reduceEqDiff, Nat.reduceBEq, Nat.reduceAdd, Option.map_some, Option.map_none, cond_true, cond_false]; exact rfl)) (h2e : u' ++ hh = h2 := by (simp only [List.cons_append, List.nil_append]; exact rfl))
    (hg : gOK ⟨tt, hh, nn⟩ g := by first | exact True.intro | rfl) (hf : ev ⟨tt, hh, nn⟩ fo = .fn f fi ca := by rfl)
    (hσ : okR m σ = true := by rfl) (hcov : coverB m σ = true := by rfl) (hlive : (σ.all fun p => (refsA (restr (σ.map (·.1)) hh) (fi ++ (args.map (ev ⟨tt, hh, nn⟩) ++ ca))).any (Nat.beq p.1)) = true := by rfl)
    (hargs : (fi ++ (args.map (ev ⟨tt, hh, nn⟩) ++ ca)).map (renAV σ) = argsA := by rfl) (hs : SubRL argsA argsC := by (repeat (first | exact SubRL.nil | refine SubRL.cons ?_ ?_ | exact SubR.nil _ | exact SubR.refl _ | exact SubR.any _ | refine SubR.agg ?_)))
    (hh0 : (σ.map fun p => (p.2, (hl hh p.1).map (renOB σ))) = hC := by rfl) (hro : (σ.all fun p => match hl hh p.1 with | some o => !o.ro | none => true) = true := by rfl)
    (hkeys : ((h'.map (·.1)).all fun i => Nat.blt i m') = true := by rfl) (hin : coverB m' (h'.map fun p => (p.1, p.1)) = true := by rfl) :
    RG P acc (⟨some dd, g, .call fo args⟩ :: l) ⟨tt, hh, nn⟩ K := by
  subst hmm
  have e1 : m' - m' = 0 := Nat.sub_self _
  have e2 : tauL σ m' m' nn = swapL σ := by simp [tauL]
  have hs' := q_callM (st := ⟨tt, hh, nn⟩) (d := some dd) (g := g) σ hg hf hσ hcov hlive hargs hs hh0 hro hc hkeys hin (by simp)
  simp only [e1, e2, hv, hu] at hs'
  subst h2e
  exact RG.step hs' h

/-- likewise, where the callee hands back a block of its own -/
theorem r_callN {fo : Operand} {args : List Operand} {f : FuncId} {fi ca argsA argsC : List AV} {hC h' u' h2 : Hp} {m m' n2 : Nat} {r v : AV} (σ : List (Nat × Nat)) (hc : AMut P f argsC hC m r h' m')
    (h : RG P (⟨⟨some dd, g, .call fo args⟩, v, σ.map (·.1), u', 1⟩ :: acc) l ⟨(dd, v) :: tt, h2, n2⟩ K)
    (hmm : m' = m + 1 := by rfl)
    (hv : renAV ((m, nn) :: swapL σ) r = v := by (simp only [renAV, renL, renOB, swapL, updM, look_if, look_nil, List.map_cons, List.map_nil, ↓reduceIte, Nat.reduceEqDiff, Nat.reduceBEq, Nat.reduceAdd, Option.map_some, Option.map_none, cond_true, cond_false]; exact rfl)) (hu : updM ((m, nn) :: swapL σ) h' = u' := by (simp only [renAV, renL, renOB, swapL, updM, look_if, look_nil, List.map_cons, List.map_nil, ↓reduceIte, Nat.reduceEqDiff, Nat.reduceBEq, Nat.reduceAdd, Option.map_some, Option.map_none, cond_true, cond_false]; exact rfl)) (h2e : u' ++ hh = h2 := by (simp only [List.cons_append, List.nil_append]; exact rfl)) (hn2 : nn + 1 = n2 := by (simp only [Nat.reduceAdd]; exact rfl))
    (hg : gOK ⟨tt, hh, nn⟩ g := by first | exact True.intro | rfl) (hf : ev ⟨tt, hh, nn⟩ fo = .fn f fi ca := by rfl)
    (hσ : okR m σ = true := by rfl) (hcov : coverB m σ = true := by rfl) (hlive : (σ.all fun p => (refsA (restr (σ.map (·.1)) hh) (fi ++ (args.map (ev ⟨tt, hh, nn⟩) ++ ca))).any (Nat.beq p.1)) = true := by rfl)
    (hargs : (fi ++ (args.map (ev ⟨tt, hh, nn⟩) ++ ca)).map (renAV σ) = argsA := by rfl) (hs : SubRL argsA argsC := by (repeat (first | exact SubRL.nil | refine SubRL.cons ?_ ?_ | exact SubR.nil _ | exact SubR.refl _ | exact SubR.any _ | refine SubR.agg ?_)))
    (hh0 : (σ.map fun p => (p.2, (hl hh p.1).map (renOB σ))) = hC := by rfl) (hro : (σ.all fun p => match hl hh p.1 with | some o => !o.ro | none => true) = true := by rfl)
    (hkeys : ((h'.map (·.1)).all fun i => Nat.blt i m') = true := by rfl) (hin : coverB m' (h'.map fun p => (p.1, p.1)) = true := by rfl) :
    RG P acc (⟨some dd, g, .call fo args⟩ :: l) ⟨tt, hh, nn⟩ K := by
  subst hn2
  subst hmm
  have e1 : m + 1 - m = 1 := Nat.add_sub_cancel_left ..
  have e2 : tauL σ m (m + 1) nn = (m, nn) :: swapL σ := by simp [tauL]
  have hs' := q_callM (st := ⟨tt, hh, nn⟩) (d := some dd) (g := g) σ hg hf hσ hcov hlive hargs hs hh0 hro hc hkeys hin (by simp)
  simp only [e1, e2, hv, hu] at hs'
  subst h2e
  exact RG.step hs' h

/-- likewise, with two blocks of its own -/
theorem r_callN2 {fo : Operand} {args : List Operand} {f : FuncId} {fi ca argsA argsC : List AV} {hC h' u' h2 : Hp} {m m' n2 : Nat} {r v : AV} (σ : List (Nat × Nat)) (hc : AMut P f argsC hC m r h' m')
    (h : RG P (⟨⟨some dd, g, .call fo args⟩, v, σ.map (·.1), u', 2⟩ :: acc) l ⟨(dd, v) :: tt, h2, n2⟩ K)
    (hmm : m' = m + 2 := by rfl)
    (hv : renAV ((m, nn) :: (m + 1, nn + 1) :: swapL σ) r = v := by (simp only [renAV, renL, renOB, swapL, updM, look_if, look_nil, List.map_cons, List.map_nil, ↓reduceIte, Nat.reduceEqDiff, Nat.reduceBEq, Nat.reduceAdd, Option.map_some, Option.map_none, cond_true, cond_false]; exact rfl)) (hu : updM ((m, nn) :: (m + 1, nn + 1) :: swapL σ) h' = u' := by (simp only [renAV, renL, renOB, swapL, updM, look_if, look_nil, List.map_cons, List.map_nil, ↓reduceIte, Nat.reduceEqDiff, Nat.reduceBEq, Nat.reduceAdd, Option.map_some, Option.map_none, cond_true, cond_false]; exact rfl)) (h2e : u' ++ hh = h2 := by (simp only [List.cons_append, List.nil_append]; exact rfl)) (hn2 : nn + 2 = n2 := by (simp only [Nat.reduceAdd]; exact rfl))
    (hg : gOK ⟨tt, hh, nn⟩ g := by first | exact True.intro | rfl) (hf : ev ⟨tt, hh, nn⟩ fo = .fn f fi ca := by rfl)
    (hσ : okR m σ = true := by rfl) (hcov : coverB m σ = true := by rfl) (hlive : (σ.all fun p => (refsA (restr (σ.map (·.1)) hh) (fi ++ (args.map (ev ⟨tt, hh, nn⟩) ++ ca))).any (Nat.beq p.1)) = true := by rfl)
    (hargs : (fi ++ (args.map (ev ⟨tt, hh, nn⟩) ++ ca)).map (renAV σ) = argsA := by rfl) (hs : SubRL argsA argsC := by (repeat (first | exact SubRL.nil | refine SubRL.cons ?_ ?_ | exact SubR.nil _ | exact SubR.refl _ | exact SubR.any _ | refine SubR.agg ?_)))
    (hh0 : (σ.map fun p => (p.2, (hl hh p.1).map (renOB σ))) = hC := by rfl) (hro : (σ.all fun p => match hl hh p.1 with | some o => !o.ro | none => true) = true := by rfl)
    (hkeys : ((h'.map (·.1)).all fun i => Nat.blt i m') = true := by rfl) (hin : coverB m' (h'.map fun p => (p.1, p.1)) = true := by rfl) :
    RG P acc (⟨some dd, g, .call fo args⟩ :: l) ⟨tt, hh, nn⟩ K := by
  subst hn2
  subst hmm
  have e1 : m + 2 - m = 2 := Nat.add_sub_cancel_left ..
  have e2 : tauL σ m (m + 2) nn = (m, nn) :: (m + 1, nn + 1) :: swapL σ := by simp [tauL, List.range_succ]
  have hs' := q_callM (st := ⟨tt, hh, nn⟩) (d := some dd) (g := g) σ hg hf hσ hcov hlive hargs hs hh0 hro hc hkeys hin (by simp)
  simp only [e1, e2, hv, hu] at hs'
  subst h2e
  exact RG.step hs' h
end
end Go.Proofs.Ytmbigpjokpdnkaa
