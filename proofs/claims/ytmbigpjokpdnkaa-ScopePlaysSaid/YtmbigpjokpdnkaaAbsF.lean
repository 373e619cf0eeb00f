/- A pointer, asked whether it is nil. -/
import Derived.Test.YtmbigpjokpdnkaaAbsZ
namespace Go.Proofs.Ytmbigpjokpdnkaa
set_option linter.unusedVariables false
open Go.RowKit

theorem eqvP_run {P : Program} {w : World} {t e : TypeId} (hu : P.underlying t = some (.pointer e)) (a : Option Addr) : (binOp .eql t (.pointer a) (.pointer none)).run P w = .ok (.bool a.isNone) w := by
  have h : ∀ d, (Op.equalIn (d + 1) t (.pointer a) (.pointer none)).run P w = .ok a.isNone w := fun d => by
    cases a <;> simp [Op.equalIn, run_underlying hu]
  have h2 : (Op.equal t (.pointer a) (.pointer none)).run P w = .ok a.isNone w := h 9999
  simp [binOp, h2]

section
variable {P : Program} {st : St} {d : Option Nat} {g : Option (Nat × Bool)}
theorem q_eqvP0 {t e : TypeId} {x y : Operand} (hu : P.underlying t = some (.pointer e)) (hg : gOK st g) (hx : ev st x = .lit (.pointer none)) (hy : ev st y = .lit (.pointer none)) : Step P st ⟨⟨d, g, .eqv t false x y⟩, .lit (.bool true), [], [], 0⟩ :=
  step_val [] hg fun o C E ac w sx hlow R hr hh => by
    have h1 := lit_eval (hr x (by simp [AOp.opds])) hx
    have h2 := lit_eval (hr y (by simp [AOp.opds])) hy
    obtain ⟨dst, o, ty, pos, after, guard⟩ := o
    obtain ⟨t2, rfl⟩ := low_spec hlow
    refine ⟨_, ?_, rfl⟩
    have hq : (eqGuard .eql t x y (.pointer none) (.pointer none)).run P w = .ok () w := rfl
    simp only [execOp, h1, h2, Sem.run_bind, cond_false, hq, Result.andThen_ok, eqvP_run hu, Sem.run_pure]
    rfl

theorem q_eqvP1 {t e : TypeId} {x y : Operand} {id i off : Nat} (hu : P.underlying t = some (.pointer e)) (hg : gOK st g) (hx : ev st x = .optr id i off) (hy : ev st y = .lit (.pointer none)) : Step P st ⟨⟨d, g, .eqv t false x y⟩, .lit (.bool false), [], [], 0⟩ :=
  step_val [] hg fun o C E ac w sx hlow R hr hh => by
    have h1 := hr x (by simp [AOp.opds])
    rw [hx] at h1
    have h2 := lit_eval (hr y (by simp [AOp.opds])) hy
    obtain ⟨dst, o, ty, pos, after, guard⟩ := o
    obtain ⟨t2, rfl⟩ := low_spec hlow
    obtain ⟨_, b, _, e1⟩ := h1
    refine ⟨_, ?_, rfl⟩
    have hq : ∀ a, (eqGuard .eql t x y (.pointer a) (.pointer none)).run P w = .ok () w := fun a => rfl
    simp only [execOp, e1, h2, Sem.run_bind, cond_false, hq, Result.andThen_ok, eqvP_run hu, Sem.run_pure]
    rfl
end
end Go.Proofs.Ytmbigpjokpdnkaa
namespace Go.Proofs.Ytmbigpjokpdnkaa
set_option linter.unusedVariables false
open Go.RowKit

theorem indexArr_run {P : Program} {w : World} {t e : TypeId} {gg : Bool} {sz len : Nat} {k : IntKind} {z : Int} {a : Addr} (hu : P.underlying t = some (.array len e)) (hs : szOf P e = some (gg, sz)) (h0 : 0 ≤ z) (h1 : z < len) :
    (Instr.indexAt t (.pointer (some a)) (.int k z)).run P w = .ok (.pointer (some (a.add (z.toNat * sz)))) w := by
  obtain ⟨dd, i, k1, k2, k3, _⟩ := szOf_spec hs
  have hsz : (sizeOf e).run P w = .ok sz w := by simp [sizeOf, typeInfo, k2, k3]
  simp only [Instr.indexAt, asIntOf, Sem.run_bind, Sem.run_pure, Result.andThen_ok, run_underlying hu w, Instr.sureAddr, if_pos (And.intro h0 h1), hsz]

section
variable {P : Program} {st : St} {d : Option Nat} {g : Option (Nat × Bool)}
theorem q_iaddrA {x y : Operand} {len sz id i off : Nat} {k : IntKind} {z : Int} (hg : gOK st g) (hx : ev st x = .optr id i off) (hy : ev st y = .lit (.int k z)) (h0 : 0 ≤ z) (h1 : z < len) : Step P st ⟨⟨d, g, .iaddrA len sz x y⟩, .optr id i (off + z.toNat * sz), [], [], 0⟩ :=
  step_val [] hg fun o C E ac w sx hlow R hr hh => by
    have h2 := hr x (by simp [AOp.opds])
    have hz := lit_eval (hr y (by simp [AOp.opds])) hy
    rw [hx] at h2
    obtain ⟨hl1, b, e1, e2⟩ := h2
    obtain ⟨dst, o, ty, pos, after, guard⟩ := o
    obtain ⟨t, e, gg, rfl, hu, hs⟩ := low_spec hlow
    refine ⟨.pointer (some ⟨b, i * E.sz id + off + z.toNat * sz, none⟩), ?_, hl1, b, e1, by rw [Nat.add_assoc]⟩
    simp only [execOp, e2, hz, Sem.run_bind, indexArr_run hu hs h0 h1, addr_add, Result.andThen_ok, Sem.run_pure]

theorem q_iaddrAE {x y : Operand} {len sz sz0 i off : Nat} {es : List (List AV)} {k : IntKind} {z : Int} (hg : gOK st g) (hx : ev st x = .ep sz0 es i off) (hy : ev st y = .lit (.int k z)) (h0 : 0 ≤ z) (h1 : z < len) : Step P st ⟨⟨d, g, .iaddrA len sz x y⟩, .ep sz0 es i (off + z.toNat * sz), [], [], 0⟩ :=
  step_val [] hg fun o C E ac w sx hlow R hr hh => by
    have h2 := hr x (by simp [AOp.opds])
    have hz := lit_eval (hr y (by simp [AOp.opds])) hy
    rw [hx] at h2
    obtain ⟨b, oo, vs, hv, h3, h4, h5⟩ := h2
    obtain ⟨dst, o, ty, pos, after, guard⟩ := o
    obtain ⟨t, e, gg, rfl, hu, hs⟩ := low_spec hlow
    refine ⟨.pointer (some ⟨b, oo + (i * sz0 + off) + z.toNat * sz, none⟩), ?_, b, oo, vs, by simp only [Nat.add_assoc], h3, h4, h5⟩
    simp only [execOp, hv, hz, Sem.run_bind, indexArr_run hu hs h0 h1, addr_add, Result.andThen_ok, Sem.run_pure]

theorem q_eqvPE {t e : TypeId} {x y : Operand} {sz i off : Nat} {es : List (List AV)} (hu : P.underlying t = some (.pointer e)) (hg : gOK st g) (hx : ev st x = .ep sz es i off) (hy : ev st y = .lit (.pointer none)) : Step P st ⟨⟨d, g, .eqv t false x y⟩, .lit (.bool false), [], [], 0⟩ :=
  step_val [] hg fun o C E ac w sx hlow R hr hh => by
    have h1 := hr x (by simp [AOp.opds])
    rw [hx] at h1
    have h2 := lit_eval (hr y (by simp [AOp.opds])) hy
    obtain ⟨dst, o, ty, pos, after, guard⟩ := o
    obtain ⟨t2, rfl⟩ := low_spec hlow
    obtain ⟨b, oo, vs, e1, _⟩ := h1
    refine ⟨_, ?_, rfl⟩
    have hq : ∀ a, (eqGuard .eql t x y (.pointer a) (.pointer none)).run P w = .ok () w := fun a => rfl
    simp only [execOp, e1, h2, Sem.run_bind, cond_false, hq, Result.andThen_ok, eqvP_run hu, Sem.run_pure]
    rfl
end

section
variable {P : Program} {tt : List (Nat × AV)} {hh : Hp} {nn dd : Nat} {g : Option (Nat × Bool)} {l : List AInst} {acc acc' : List SD} {l' : List AInst} {st' : St}
theorem s_iaddrA {x y : Operand} {len sz id i off : Nat} {k : IntKind} {z : Int} (hg : gOK ⟨tt, hh, nn⟩ g) (hx : ev ⟨tt, hh, nn⟩ x = .optr id i off) (hy : ev ⟨tt, hh, nn⟩ y = .lit (.int k z)) (h0 : 0 ≤ z) (h1 : z < len) (h : Runs P (⟨⟨some dd, g, .iaddrA len sz x y⟩, .optr id i (off + z.toNat * sz), [], [], 0⟩ :: acc) l ⟨(dd, .optr id i (off + z.toNat * sz)) :: tt, hh, nn⟩ acc' l' st') : Runs P acc (⟨some dd, g, .iaddrA len sz x y⟩ :: l) ⟨tt, hh, nn⟩ acc' l' st' := Runs.step' (q_iaddrA hg hx hy h0 h1) h
theorem s_iaddrAE {x y : Operand} {len sz sz0 i off : Nat} {es : List (List AV)} {k : IntKind} {z : Int} (hg : gOK ⟨tt, hh, nn⟩ g) (hx : ev ⟨tt, hh, nn⟩ x = .ep sz0 es i off) (hy : ev ⟨tt, hh, nn⟩ y = .lit (.int k z)) (h0 : 0 ≤ z) (h1 : z < len) (h : Runs P (⟨⟨some dd, g, .iaddrA len sz x y⟩, .ep sz0 es i (off + z.toNat * sz), [], [], 0⟩ :: acc) l ⟨(dd, .ep sz0 es i (off + z.toNat * sz)) :: tt, hh, nn⟩ acc' l' st') : Runs P acc (⟨some dd, g, .iaddrA len sz x y⟩ :: l) ⟨tt, hh, nn⟩ acc' l' st' := Runs.step' (q_iaddrAE hg hx hy h0 h1) h
theorem s_eqvP0 {t e : TypeId} {x y : Operand} (hg : gOK ⟨tt, hh, nn⟩ g) (hx : ev ⟨tt, hh, nn⟩ x = .lit (.pointer none)) (hy : ev ⟨tt, hh, nn⟩ y = .lit (.pointer none)) (hu : P.underlying t = some (.pointer e)) (h : Runs P (⟨⟨some dd, g, .eqv t false x y⟩, .lit (.bool true), [], [], 0⟩ :: acc) l ⟨(dd, .lit (.bool true)) :: tt, hh, nn⟩ acc' l' st') : Runs P acc (⟨some dd, g, .eqv t false x y⟩ :: l) ⟨tt, hh, nn⟩ acc' l' st' := Runs.step' (q_eqvP0 hu hg hx hy) h
theorem s_eqvP1 {t e : TypeId} {x y : Operand} {id i off : Nat} (hg : gOK ⟨tt, hh, nn⟩ g) (hx : ev ⟨tt, hh, nn⟩ x = .optr id i off) (hy : ev ⟨tt, hh, nn⟩ y = .lit (.pointer none)) (hu : P.underlying t = some (.pointer e)) (h : Runs P (⟨⟨some dd, g, .eqv t false x y⟩, .lit (.bool false), [], [], 0⟩ :: acc) l ⟨(dd, .lit (.bool false)) :: tt, hh, nn⟩ acc' l' st') : Runs P acc (⟨some dd, g, .eqv t false x y⟩ :: l) ⟨tt, hh, nn⟩ acc' l' st' := Runs.step' (q_eqvP1 hu hg hx hy) h
theorem s_eqvPE {t e : TypeId} {x y : Operand} {sz i off : Nat} {es : List (List AV)} (hg : gOK ⟨tt, hh, nn⟩ g) (hx : ev ⟨tt, hh, nn⟩ x = .ep sz es i off) (hy : ev ⟨tt, hh, nn⟩ y = .lit (.pointer none)) (hu : P.underlying t = some (.pointer e)) (h : Runs P (⟨⟨some dd, g, .eqv t false x y⟩, .lit (.bool false), [], [], 0⟩ :: acc) l ⟨(dd, .lit (.bool false)) :: tt, hh, nn⟩ acc' l' st') : Runs P acc (⟨some dd, g, .eqv t false x y⟩ :: l) ⟨tt, hh, nn⟩ acc' l' st' := Runs.step' (q_eqvPE hu hg hx hy) h
end

/-- as far as it goes -/
theorem rrun3 {P : Program} {acc : List SD} {l : List AInst} {st : St} {acc' : List SD} {l' : List AInst} {st' : St} {K : List SD → St → Prop} (h : RG P acc' l' st' K) (hR : Runs P acc l st acc' l' st' := by
  ((repeat (first
    | (first
      | apply s_movL (by first | exact True.intro | rfl) (by exact rfl)
      | apply s_movS (by first | exact True.intro | rfl) (by exact rfl)
      | apply s_movA (by first | exact True.intro | rfl) (by exact rfl)
      | apply s_movO (by first | exact True.intro | rfl) (by exact rfl)
      | apply s_movP (by first | exact True.intro | rfl) (by exact rfl)
      | apply s_movE (by first | exact True.intro | rfl) (by exact rfl)
      | apply s_movT (by first | exact True.intro | rfl) (by exact rfl)
      | apply s_movF (by first | exact True.intro | rfl) (by exact rfl)
      | apply s_movX (by first | exact True.intro | rfl) (by exact rfl)
      | apply s_noA (by exact rfl)
      | apply s_noB (by exact rfl)
      | apply s_noC (by exact rfl)
      | apply s_no (by exact rfl)
      | apply s_noN (by exact rfl)
      | apply s_add64 (by first | exact True.intro | rfl) (by exact rfl) (by exact rfl) (by omega) (by omega)
      | apply s_sub64 (by first | exact True.intro | rfl) (by exact rfl) (by exact rfl) (by omega) (by omega)
      | apply s_ltT (by first | exact True.intro | rfl) (by exact rfl) (by exact rfl) (by omega)
      | apply s_ltF (by first | exact True.intro | rfl) (by exact rfl) (by exact rfl) (by omega)
      | apply s_leT (by first | exact True.intro | rfl) (by exact rfl) (by exact rfl) (by omega)
      | apply s_leF (by first | exact True.intro | rfl) (by exact rfl) (by exact rfl) (by omega)
      | apply s_gtT (by first | exact True.intro | rfl) (by exact rfl) (by exact rfl) (by omega)
      | apply s_gtF (by first | exact True.intro | rfl) (by exact rfl) (by exact rfl) (by omega)
      | apply s_geT (by first | exact True.intro | rfl) (by exact rfl) (by exact rfl) (by omega)
      | apply s_geF (by first | exact True.intro | rfl) (by exact rfl) (by exact rfl) (by omega)
      | apply s_eqT (by first | exact True.intro | rfl) (by exact rfl) (by exact rfl) (by omega)
      | apply s_eqF (by first | exact True.intro | rfl) (by exact rfl) (by exact rfl) (by omega)
      | apply s_neT (by first | exact True.intro | rfl) (by exact rfl) (by exact rfl) (by omega)
      | apply s_neF (by first | exact True.intro | rfl) (by exact rfl) (by exact rfl) (by omega)
      | apply s_addU64 (by first | exact True.intro | rfl) (by exact rfl) (by exact rfl) (by omega) (by omega)
      | apply s_subU64 (by first | exact True.intro | rfl) (by exact rfl) (by exact rfl) (by omega) (by omega)
      | apply s_mulU64 (by first | exact True.intro | rfl) (by exact rfl) (by exact rfl) (by omega) (by omega)
      | apply s_divU64 (by first | exact True.intro | rfl) (by exact rfl) (by exact rfl) (by omega) (by omega) (by omega)
      | apply s_addU32 (by first | exact True.intro | rfl) (by exact rfl) (by exact rfl) (by omega) (by omega)
      | apply s_divI64 (by first | exact True.intro | rfl) (by exact rfl) (by exact rfl) (by omega) (by omega) (by omega)
      | apply s_remP (by first | exact True.intro | rfl) (by exact rfl) (by exact rfl) (by omega) (by omega)
      | apply s_mul64 (by first | exact True.intro | rfl) (by exact rfl) (by exact rfl) (by first | assumption | omega)
      | apply s_convU64 (by first | exact True.intro | rfl) (by exact rfl) (by omega) (by omega)
      | apply s_convU32 (by first | exact True.intro | rfl) (by exact rfl) (by omega) (by omega)
      | apply s_int (by first | exact True.intro | rfl) (by exact rfl) (by exact rfl) (by exact rfl)
      | apply s_div (by first | exact True.intro | rfl) (by exact rfl) (by exact rfl) (by omega)
      | apply s_rem (by first | exact True.intro | rfl) (by exact rfl) (by exact rfl) (by omega)
      | apply s_bool (by first | exact True.intro | rfl) (by exact rfl) (by exact rfl) (by exact rfl)
      | apply s_notT (by first | exact True.intro | rfl) (by exact rfl)
      | apply s_notF (by first | exact True.intro | rfl) (by exact rfl)
      | apply s_not (by first | exact True.intro | rfl) (by exact rfl)
      | apply s_pickTL (by first | exact True.intro | rfl) (by exact rfl) (by exact rfl)
      | apply s_pickFL (by first | exact True.intro | rfl) (by exact rfl) (by exact rfl)
      | apply s_pickTS (by first | exact True.intro | rfl) (by exact rfl) (by exact rfl)
      | apply s_pickFS (by first | exact True.intro | rfl) (by exact rfl) (by exact rfl)
      | apply s_pickTA (by first | exact True.intro | rfl) (by exact rfl) (by exact rfl)
      | apply s_pickFA (by first | exact True.intro | rfl) (by exact rfl) (by exact rfl)
      | apply s_pickTO (by first | exact True.intro | rfl) (by exact rfl) (by exact rfl)
      | apply s_pickFO (by first | exact True.intro | rfl) (by exact rfl) (by exact rfl)
      | apply s_pickTP (by first | exact True.intro | rfl) (by exact rfl) (by exact rfl)
      | apply s_pickFP (by first | exact True.intro | rfl) (by exact rfl) (by exact rfl)
      | apply s_pickTE (by first | exact True.intro | rfl) (by exact rfl) (by exact rfl)
      | apply s_pickFE (by first | exact True.intro | rfl) (by exact rfl) (by exact rfl)
      | apply s_pickTT (by first | exact True.intro | rfl) (by exact rfl) (by exact rfl)
      | apply s_pickFT (by first | exact True.intro | rfl) (by exact rfl) (by exact rfl)
      | apply s_pickTF (by first | exact True.intro | rfl) (by exact rfl) (by exact rfl)
      | apply s_pickFF (by first | exact True.intro | rfl) (by exact rfl) (by exact rfl)
      | apply s_pickTX (by first | exact True.intro | rfl) (by exact rfl) (by exact rfl))
    | (first
      | apply s_pickFX (by first | exact True.intro | rfl) (by exact rfl) (by exact rfl)
      | apply s_pickB (by first | exact True.intro | rfl) (by exact rfl) (by exact rfl) (by exact rfl)
      | apply s_conv64 (by first | exact True.intro | rfl) (by exact rfl) (by omega) (by omega)
      | apply s_conv (by first | exact True.intro | rfl) (by exact rfl)
      | apply s_faddr (by first | exact True.intro | rfl) (by exact rfl)
      | apply s_faddrE (by first | exact True.intro | rfl) (by exact rfl)
      | apply s_load1 (by first | exact True.intro | rfl) (by exact rfl) (by exact rfl) (by exact rfl) (by exact rfl)
      | apply s_loadA (by first | exact True.intro | rfl) (by exact rfl) (by exact rfl) (by exact rfl) (by exact rfl)
      | apply s_loadG (by first | exact True.intro | rfl) (by exact rfl) (by exact rfl) (by exact rfl) (by exact rfl)
      | apply s_loadE1 (by first | exact True.intro | rfl) (by exact rfl) (by first | assumption | rfl) (by exact rfl)
      | apply s_loadEA (by first | exact True.intro | rfl) (by exact rfl) (by first | assumption | rfl) (by exact rfl)
      | apply s_loadEG (by first | exact True.intro | rfl) (by exact rfl) (by first | assumption | rfl) (by exact rfl)
      | apply s_extract (by first | exact True.intro | rfl) (by exact rfl) (by exact rfl)
      | apply s_field1 (by first | exact True.intro | rfl) (by exact rfl) (by exact rfl)
      | apply s_fieldG (by first | exact True.intro | rfl) (by exact rfl) (by exact rfl)
      | apply s_len (by first | exact True.intro | rfl) (by exact rfl) (by first | assumption | rfl)
      | apply s_lenN (by first | exact True.intro | rfl) (by exact rfl)
      | apply s_lenO (by first | exact True.intro | rfl) (by exact rfl) (by exact rfl) (by exact rfl) (by first | assumption | rfl)
      | apply s_slen (by first | exact True.intro | rfl) (by exact rfl)
      | apply s_iaddr (by first | exact True.intro | rfl) (by exact rfl) (by exact rfl) (by omega) (by first | omega | assumption)
      | apply s_iaddrO (by first | exact True.intro | rfl) (by exact rfl) (by exact rfl) (by exact rfl) (by exact rfl) (by exact rfl) (by omega) (by first | omega | (dsimp only; omega))
      | apply s_nilckP (by first | exact True.intro | rfl) (by exact rfl)
      | apply s_nilckE (by first | exact True.intro | rfl) (by exact rfl)
      | apply s_nilckF (by first | exact True.intro | rfl) (by exact rfl)
      | apply s_mkfn (by first | exact True.intro | rfl)
      | apply s_alloc (by first | exact True.intro | rfl)
      | apply s_box (by first | exact True.intro | rfl) (by exact rfl) (by exact rfl) (by exact rfl)
      | apply s_build (by first | exact True.intro | rfl) (by exact rfl)
      | apply s_storeB (by first | exact True.intro | rfl) (by exact rfl) (by exact rfl) (by exact rfl) (by exact rfl) (by exact rfl) (by exact rfl) (by exact rfl) (by exact rfl) (by exact rfl) (by exact rfl)
      | apply s_callA (by first | exact True.intro | rfl) (by exact rfl) (by exact rfl) (by assumption)
      | apply s_callS (by first | exact True.intro | rfl) (by exact rfl) (by exact rfl) (by assumption) (by (repeat (first | exact SubL.nil | refine SubL.cons (by first | exact Sub.refl _ | exact Sub.nil _ | exact Sub.any _ | (refine Sub.agg ?_; repeat (first | exact SubL.nil | refine SubL.cons (by first | exact Sub.refl _ | exact Sub.nil _) ?_))) ?_)))
      | apply s_callB (by first | exact True.intro | rfl) (by exact rfl) (by exact rfl) (by assumption) (by exact rfl)
      | apply s_callR (by first | exact True.intro | rfl) (by exact rfl) (by exact rfl) (by assumption)
      | apply s_callF (by first | exact True.intro | rfl) (by exact rfl) (by exact rfl) (by exact rfl) (by exact rfl) (by assumption) (by (repeat (first | exact SubL.nil | refine SubL.cons (by first | exact Sub.refl _ | exact Sub.nil _ | exact Sub.any _ | (refine Sub.agg ?_; repeat (first | exact SubL.nil | refine SubL.cons (by first | exact Sub.refl _ | exact Sub.nil _) ?_))) ?_)))
      | apply s_min (by first | exact True.intro | rfl) (by exact rfl) (by exact rfl) (by first | exact .inl ⟨by omega, Eq.refl _⟩ | exact .inr ⟨by omega, Eq.refl _⟩)
      | apply s_max (by first | exact True.intro | rfl) (by exact rfl) (by exact rfl) (by first | exact .inl ⟨by omega, Eq.refl _⟩ | exact .inr ⟨by omega, Eq.refl _⟩)
      | apply s_cap (by first | exact True.intro | rfl) (by exact rfl)
      | apply s_mx3 (by first | exact True.intro | rfl) (by exact rfl) (by exact rfl) (by exact rfl) (by first | assumption | exact Eq.refl _)
      | apply s_storeR [] (by first | exact True.intro | rfl) (by exact rfl) (by exact rfl) (by exact rfl) (by exact rfl) (by first | assumption | rfl) (by exact rfl) (by exact rfl) (by exact rfl) (by exact rfl) (by exact rfl) (by exact rfl)
      | apply s_rowlit [] (by first | exact True.intro | rfl) (by exact rfl) (by exact rfl) (by exact rfl) (by exact rfl)
      | apply s_append [] (by first | exact True.intro | rfl) (by exact rfl) (by exact rfl) (by exact rfl) (by exact rfl) (by exact rfl) (by exact rfl) (by exact rfl) (by exact rfl) (by first | omega | assumption | (dsimp only; omega) | (simp only [List.length_append, List.length_cons, List.length_nil, List.length_map, List.length_replicate, List.length_take, List.length_drop, chunk, intsA]; omega))
      | apply s_appendN [] (by first | exact True.intro | rfl) (by exact rfl) (by exact rfl) (by exact rfl) (by first | omega | assumption | (dsimp only; omega) | (simp only [List.length_append, List.length_cons, List.length_nil, List.length_map, List.length_replicate, List.length_take, List.length_drop, chunk, intsA]; omega))
      | apply s_storeRR (by first | exact True.intro | rfl) (by exact rfl) (by exact rfl) (by exact rfl) (by exact rfl) (by first | assumption | rfl) (by exact rfl) (by exact rfl) (by exact rfl) (by exact rfl) (by exact rfl) (by exact rfl)
      | apply s_rowlitR (by first | exact True.intro | rfl) (by exact rfl) (by exact rfl) (by exact rfl) (by exact rfl)
      | apply s_appendR (by first | exact True.intro | rfl) (by exact rfl) (by exact rfl) (by exact rfl) (by exact rfl) (by exact rfl) (by exact rfl) (by exact rfl) (by exact rfl) (by first | omega | assumption | (dsimp only; omega) | (simp only [List.length_append, List.length_cons, List.length_nil, List.length_map, List.length_replicate, List.length_take, List.length_drop, chunk, intsA]; omega))
      | apply s_appendNR (by first | exact True.intro | rfl) (by exact rfl) (by exact rfl) (by exact rfl) (by first | omega | assumption | (dsimp only; omega) | (simp only [List.length_append, List.length_cons, List.length_nil, List.length_map, List.length_replicate, List.length_take, List.length_drop, chunk, intsA]; omega))
      | apply s_sliceC (by first | exact True.intro | rfl) (by exact rfl) (by first | exact Eq.refl _ | exact ⟨_, Eq.refl _⟩) (by first | exact Eq.refl _ | exact ⟨_, Eq.refl _⟩) (by assumption)
      | apply s_iaddrO (by first | exact True.intro | rfl) (by exact rfl) (by exact rfl) (by exact rfl) (by exact rfl) (by exact rfl) (by omega) (by simp only [List.length_set, List.length_append, List.length_cons, List.length_nil, List.length_replicate]; omega)
      | apply s_load1 (by first | exact True.intro | rfl) (by exact rfl) (by exact rfl) (by assumption) (by exact rfl)
      | apply s_loadA (by first | exact True.intro | rfl) (by exact rfl) (by exact rfl) (by assumption) (by exact rfl)
      | apply s_loadG (by first | exact True.intro | rfl) (by exact rfl) (by exact rfl) (by assumption) (by exact rfl)
      | apply s_eqvL (by first | exact True.intro | rfl) (by exact rfl) (by exact rfl) (by assumption) (by first | assumption | omega)
      | apply s_neg64 (by first | exact True.intro | rfl) (by exact rfl) (by omega) (by omega)
      | apply s_neg (by first | exact True.intro | rfl) (by exact rfl)
      | apply s_iaddrA (by first | exact True.intro | rfl) (by exact rfl) (by exact rfl) (by omega) (by omega)
      | apply s_iaddrAE (by first | exact True.intro | rfl) (by exact rfl) (by exact rfl) (by omega) (by omega)
      | apply s_load1 (by first | exact True.intro | rfl) (by exact rfl) (by exact rfl) (by exact rfl) (by assumption)
      | apply s_loadE1 (by first | exact True.intro | rfl) (by exact rfl) (by first | assumption | rfl) (by assumption)
      | apply s_storeB (by first | exact True.intro | rfl) (by exact rfl) (by exact rfl) (by exact rfl) (by exact rfl) (by exact rfl) (by exact rfl) (by exact rfl) (by exact rfl) (by assumption) (by assumption)
      | apply s_iaddr (by first | exact True.intro | rfl) (by exact rfl) (by exact rfl) (by omega) (by simp only [List.length_map]; omega)
      | apply s_eqvP0 (by first | exact True.intro | rfl) (by exact rfl) (by exact rfl) (by assumption)
      | apply s_eqvP1 (by first | exact True.intro | rfl) (by exact rfl) (by exact rfl) (by assumption)
      | apply s_eqvPE (by first | exact True.intro | rfl) (by exact rfl) (by exact rfl) (by assumption)
      | apply s_make (by first | exact True.intro | rfl) (by exact rfl) (by exact rfl) (by omega) (by omega) (by omega)))); exact Runs.refl _ _ _)) : RG P acc l st K := rg_runs hR h


theorem aw_R3 {P : Program} {C : Ctx} {Q : Exit → St → Prop} {st : St} {d : Bool} {l : List AInst} {free : List (Nat × Nat)} {acc : List SD} {st' : St} (hQ : Q .normal st') (hR : Runs P [] l st acc [] st' := by
  ((repeat (first
    | (first
      | apply s_movL (by first | exact True.intro | rfl) (by exact rfl)
      | apply s_movS (by first | exact True.intro | rfl) (by exact rfl)
      | apply s_movA (by first | exact True.intro | rfl) (by exact rfl)
      | apply s_movO (by first | exact True.intro | rfl) (by exact rfl)
      | apply s_movP (by first | exact True.intro | rfl) (by exact rfl)
      | apply s_movE (by first | exact True.intro | rfl) (by exact rfl)
      | apply s_movT (by first | exact True.intro | rfl) (by exact rfl)
      | apply s_movF (by first | exact True.intro | rfl) (by exact rfl)
      | apply s_movX (by first | exact True.intro | rfl) (by exact rfl)
      | apply s_noA (by exact rfl)
      | apply s_noB (by exact rfl)
      | apply s_noC (by exact rfl)
      | apply s_no (by exact rfl)
      | apply s_noN (by exact rfl)
      | apply s_add64 (by first | exact True.intro | rfl) (by exact rfl) (by exact rfl) (by omega) (by omega)
      | apply s_sub64 (by first | exact True.intro | rfl) (by exact rfl) (by exact rfl) (by omega) (by omega)
      | apply s_ltT (by first | exact True.intro | rfl) (by exact rfl) (by exact rfl) (by omega)
      | apply s_ltF (by first | exact True.intro | rfl) (by exact rfl) (by exact rfl) (by omega)
      | apply s_leT (by first | exact True.intro | rfl) (by exact rfl) (by exact rfl) (by omega)
      | apply s_leF (by first | exact True.intro | rfl) (by exact rfl) (by exact rfl) (by omega)
      | apply s_gtT (by first | exact True.intro | rfl) (by exact rfl) (by exact rfl) (by omega)
      | apply s_gtF (by first | exact True.intro | rfl) (by exact rfl) (by exact rfl) (by omega)
      | apply s_geT (by first | exact True.intro | rfl) (by exact rfl) (by exact rfl) (by omega)
      | apply s_geF (by first | exact True.intro | rfl) (by exact rfl) (by exact rfl) (by omega)
      | apply s_eqT (by first | exact True.intro | rfl) (by exact rfl) (by exact rfl) (by omega)
      | apply s_eqF (by first | exact True.intro | rfl) (by exact rfl) (by exact rfl) (by omega)
      | apply s_neT (by first | exact True.intro | rfl) (by exact rfl) (by exact rfl) (by omega)
      | apply s_neF (by first | exact True.intro | rfl) (by exact rfl) (by exact rfl) (by omega)
      | apply s_addU64 (by first | exact True.intro | rfl) (by exact rfl) (by exact rfl) (by omega) (by omega)
      | apply s_subU64 (by first | exact True.intro | rfl) (by exact rfl) (by exact rfl) (by omega) (by omega)
      | apply s_mulU64 (by first | exact True.intro | rfl) (by exact rfl) (by exact rfl) (by omega) (by omega)
      | apply s_divU64 (by first | exact True.intro | rfl) (by exact rfl) (by exact rfl) (by omega) (by omega) (by omega)
      | apply s_addU32 (by first | exact True.intro | rfl) (by exact rfl) (by exact rfl) (by omega) (by omega)
      | apply s_divI64 (by first | exact True.intro | rfl) (by exact rfl) (by exact rfl) (by omega) (by omega) (by omega)
      | apply s_remP (by first | exact True.intro | rfl) (by exact rfl) (by exact rfl) (by omega) (by omega)
      | apply s_mul64 (by first | exact True.intro | rfl) (by exact rfl) (by exact rfl) (by first | assumption | omega)
      | apply s_convU64 (by first | exact True.intro | rfl) (by exact rfl) (by omega) (by omega)
      | apply s_convU32 (by first | exact True.intro | rfl) (by exact rfl) (by omega) (by omega)
      | apply s_int (by first | exact True.intro | rfl) (by exact rfl) (by exact rfl) (by exact rfl)
      | apply s_div (by first | exact True.intro | rfl) (by exact rfl) (by exact rfl) (by omega)
      | apply s_rem (by first | exact True.intro | rfl) (by exact rfl) (by exact rfl) (by omega)
      | apply s_bool (by first | exact True.intro | rfl) (by exact rfl) (by exact rfl) (by exact rfl)
      | apply s_notT (by first | exact True.intro | rfl) (by exact rfl)
      | apply s_notF (by first | exact True.intro | rfl) (by exact rfl)
      | apply s_not (by first | exact True.intro | rfl) (by exact rfl)
      | apply s_pickTL (by first | exact True.intro | rfl) (by exact rfl) (by exact rfl)
      | apply s_pickFL (by first | exact True.intro | rfl) (by exact rfl) (by exact rfl)
      | apply s_pickTS (by first | exact True.intro | rfl) (by exact rfl) (by exact rfl)
      | apply s_pickFS (by first | exact True.intro | rfl) (by exact rfl) (by exact rfl)
      | apply s_pickTA (by first | exact True.intro | rfl) (by exact rfl) (by exact rfl)
      | apply s_pickFA (by first | exact True.intro | rfl) (by exact rfl) (by exact rfl)
      | apply s_pickTO (by first | exact True.intro | rfl) (by exact rfl) (by exact rfl)
      | apply s_pickFO (by first | exact True.intro | rfl) (by exact rfl) (by exact rfl)
      | apply s_pickTP (by first | exact True.intro | rfl) (by exact rfl) (by exact rfl)
      | apply s_pickFP (by first | exact True.intro | rfl) (by exact rfl) (by exact rfl)
      | apply s_pickTE (by first | exact True.intro | rfl) (by exact rfl) (by exact rfl)
      | apply s_pickFE (by first | exact True.intro | rfl) (by exact rfl) (by exact rfl)
      | apply s_pickTT (by first | exact True.intro | rfl) (by exact rfl) (by exact rfl)
      | apply s_pickFT (by first | exact True.intro | rfl) (by exact rfl) (by exact rfl)
      | apply s_pickTF (by first | exact True.intro | rfl) (by exact rfl) (by exact rfl)
      | apply s_pickFF (by first | exact True.intro | rfl) (by exact rfl) (by exact rfl)
      | apply s_pickTX (by first | exact True.intro | rfl) (by exact rfl) (by exact rfl))
    | (first
      | apply s_pickFX (by first | exact True.intro | rfl) (by exact rfl) (by exact rfl)
      | apply s_pickB (by first | exact True.intro | rfl) (by exact rfl) (by exact rfl) (by exact rfl)
      | apply s_conv64 (by first | exact True.intro | rfl) (by exact rfl) (by omega) (by omega)
      | apply s_conv (by first | exact True.intro | rfl) (by exact rfl)
      | apply s_faddr (by first | exact True.intro | rfl) (by exact rfl)
      | apply s_faddrE (by first | exact True.intro | rfl) (by exact rfl)
      | apply s_load1 (by first | exact True.intro | rfl) (by exact rfl) (by exact rfl) (by exact rfl) (by exact rfl)
      | apply s_loadA (by first | exact True.intro | rfl) (by exact rfl) (by exact rfl) (by exact rfl) (by exact rfl)
      | apply s_loadG (by first | exact True.intro | rfl) (by exact rfl) (by exact rfl) (by exact rfl) (by exact rfl)
      | apply s_loadE1 (by first | exact True.intro | rfl) (by exact rfl) (by first | assumption | rfl) (by exact rfl)
      | apply s_loadEA (by first | exact True.intro | rfl) (by exact rfl) (by first | assumption | rfl) (by exact rfl)
      | apply s_loadEG (by first | exact True.intro | rfl) (by exact rfl) (by first | assumption | rfl) (by exact rfl)
      | apply s_extract (by first | exact True.intro | rfl) (by exact rfl) (by exact rfl)
      | apply s_field1 (by first | exact True.intro | rfl) (by exact rfl) (by exact rfl)
      | apply s_fieldG (by first | exact True.intro | rfl) (by exact rfl) (by exact rfl)
      | apply s_len (by first | exact True.intro | rfl) (by exact rfl) (by first | assumption | rfl)
      | apply s_lenN (by first | exact True.intro | rfl) (by exact rfl)
      | apply s_lenO (by first | exact True.intro | rfl) (by exact rfl) (by exact rfl) (by exact rfl) (by first | assumption | rfl)
      | apply s_slen (by first | exact True.intro | rfl) (by exact rfl)
      | apply s_iaddr (by first | exact True.intro | rfl) (by exact rfl) (by exact rfl) (by omega) (by first | omega | assumption)
      | apply s_iaddrO (by first | exact True.intro | rfl) (by exact rfl) (by exact rfl) (by exact rfl) (by exact rfl) (by exact rfl) (by omega) (by first | omega | (dsimp only; omega))
      | apply s_nilckP (by first | exact True.intro | rfl) (by exact rfl)
      | apply s_nilckE (by first | exact True.intro | rfl) (by exact rfl)
      | apply s_nilckF (by first | exact True.intro | rfl) (by exact rfl)
      | apply s_mkfn (by first | exact True.intro | rfl)
      | apply s_alloc (by first | exact True.intro | rfl)
      | apply s_box (by first | exact True.intro | rfl) (by exact rfl) (by exact rfl) (by exact rfl)
      | apply s_build (by first | exact True.intro | rfl) (by exact rfl)
      | apply s_storeB (by first | exact True.intro | rfl) (by exact rfl) (by exact rfl) (by exact rfl) (by exact rfl) (by exact rfl) (by exact rfl) (by exact rfl) (by exact rfl) (by exact rfl) (by exact rfl)
      | apply s_callA (by first | exact True.intro | rfl) (by exact rfl) (by exact rfl) (by assumption)
      | apply s_callS (by first | exact True.intro | rfl) (by exact rfl) (by exact rfl) (by assumption) (by (repeat (first | exact SubL.nil | refine SubL.cons (by first | exact Sub.refl _ | exact Sub.nil _ | exact Sub.any _ | (refine Sub.agg ?_; repeat (first | exact SubL.nil | refine SubL.cons (by first | exact Sub.refl _ | exact Sub.nil _) ?_))) ?_)))
      | apply s_callB (by first | exact True.intro | rfl) (by exact rfl) (by exact rfl) (by assumption) (by exact rfl)
      | apply s_callR (by first | exact True.intro | rfl) (by exact rfl) (by exact rfl) (by assumption)
      | apply s_callF (by first | exact True.intro | rfl) (by exact rfl) (by exact rfl) (by exact rfl) (by exact rfl) (by assumption) (by (repeat (first | exact SubL.nil | refine SubL.cons (by first | exact Sub.refl _ | exact Sub.nil _ | exact Sub.any _ | (refine Sub.agg ?_; repeat (first | exact SubL.nil | refine SubL.cons (by first | exact Sub.refl _ | exact Sub.nil _) ?_))) ?_)))
      | apply s_min (by first | exact True.intro | rfl) (by exact rfl) (by exact rfl) (by first | exact .inl ⟨by omega, Eq.refl _⟩ | exact .inr ⟨by omega, Eq.refl _⟩)
      | apply s_max (by first | exact True.intro | rfl) (by exact rfl) (by exact rfl) (by first | exact .inl ⟨by omega, Eq.refl _⟩ | exact .inr ⟨by omega, Eq.refl _⟩)
      | apply s_cap (by first | exact True.intro | rfl) (by exact rfl)
      | apply s_mx3 (by first | exact True.intro | rfl) (by exact rfl) (by exact rfl) (by exact rfl) (by first | assumption | exact Eq.refl _)
      | apply s_storeR [] (by first | exact True.intro | rfl) (by exact rfl) (by exact rfl) (by exact rfl) (by exact rfl) (by first | assumption | rfl) (by exact rfl) (by exact rfl) (by exact rfl) (by exact rfl) (by exact rfl) (by exact rfl)
      | apply s_rowlit [] (by first | exact True.intro | rfl) (by exact rfl) (by exact rfl) (by exact rfl) (by exact rfl)
      | apply s_append [] (by first | exact True.intro | rfl) (by exact rfl) (by exact rfl) (by exact rfl) (by exact rfl) (by exact rfl) (by exact rfl) (by exact rfl) (by exact rfl) (by first | omega | assumption | (dsimp only; omega) | (simp only [List.length_append, List.length_cons, List.length_nil, List.length_map, List.length_replicate, List.length_take, List.length_drop, chunk, intsA]; omega))
      | apply s_appendN [] (by first | exact True.intro | rfl) (by exact rfl) (by exact rfl) (by exact rfl) (by first | omega | assumption | (dsimp only; omega) | (simp only [List.length_append, List.length_cons, List.length_nil, List.length_map, List.length_replicate, List.length_take, List.length_drop, chunk, intsA]; omega))
      | apply s_storeRR (by first | exact True.intro | rfl) (by exact rfl) (by exact rfl) (by exact rfl) (by exact rfl) (by first | assumption | rfl) (by exact rfl) (by exact rfl) (by exact rfl) (by exact rfl) (by exact rfl) (by exact rfl)
      | apply s_rowlitR (by first | exact True.intro | rfl) (by exact rfl) (by exact rfl) (by exact rfl) (by exact rfl)
      | apply s_appendR (by first | exact True.intro | rfl) (by exact rfl) (by exact rfl) (by exact rfl) (by exact rfl) (by exact rfl) (by exact rfl) (by exact rfl) (by exact rfl) (by first | omega | assumption | (dsimp only; omega) | (simp only [List.length_append, List.length_cons, List.length_nil, List.length_map, List.length_replicate, List.length_take, List.length_drop, chunk, intsA]; omega))
      | apply s_appendNR (by first | exact True.intro | rfl) (by exact rfl) (by exact rfl) (by exact rfl) (by first | omega | assumption | (dsimp only; omega) | (simp only [List.length_append, List.length_cons, List.length_nil, List.length_map, List.length_replicate, List.length_take, List.length_drop, chunk, intsA]; omega))
      | apply s_sliceC (by first | exact True.intro | rfl) (by exact rfl) (by first | exact Eq.refl _ | exact ⟨_, Eq.refl _⟩) (by first | exact Eq.refl _ | exact ⟨_, Eq.refl _⟩) (by assumption)
      | apply s_iaddrO (by first | exact True.intro | rfl) (by exact rfl) (by exact rfl) (by exact rfl) (by exact rfl) (by exact rfl) (by omega) (by simp only [List.length_set, List.length_append, List.length_cons, List.length_nil, List.length_replicate]; omega)
      | apply s_load1 (by first | exact True.intro | rfl) (by exact rfl) (by exact rfl) (by assumption) (by exact rfl)
      | apply s_loadA (by first | exact True.intro | rfl) (by exact rfl) (by exact rfl) (by assumption) (by exact rfl)
      | apply s_loadG (by first | exact True.intro | rfl) (by exact rfl) (by exact rfl) (by assumption) (by exact rfl)
      | apply s_eqvL (by first | exact True.intro | rfl) (by exact rfl) (by exact rfl) (by assumption) (by first | assumption | omega)
      | apply s_neg64 (by first | exact True.intro | rfl) (by exact rfl) (by omega) (by omega)
      | apply s_neg (by first | exact True.intro | rfl) (by exact rfl)
      | apply s_iaddrA (by first | exact True.intro | rfl) (by exact rfl) (by exact rfl) (by omega) (by omega)
      | apply s_iaddrAE (by first | exact True.intro | rfl) (by exact rfl) (by exact rfl) (by omega) (by omega)
      | apply s_load1 (by first | exact True.intro | rfl) (by exact rfl) (by exact rfl) (by exact rfl) (by assumption)
      | apply s_loadE1 (by first | exact True.intro | rfl) (by exact rfl) (by first | assumption | rfl) (by assumption)
      | apply s_storeB (by first | exact True.intro | rfl) (by exact rfl) (by exact rfl) (by exact rfl) (by exact rfl) (by exact rfl) (by exact rfl) (by exact rfl) (by exact rfl) (by assumption) (by assumption)
      | apply s_iaddr (by first | exact True.intro | rfl) (by exact rfl) (by exact rfl) (by omega) (by simp only [List.length_map]; omega)
      | apply s_eqvP0 (by first | exact True.intro | rfl) (by exact rfl) (by exact rfl) (by assumption)
      | apply s_eqvP1 (by first | exact True.intro | rfl) (by exact rfl) (by exact rfl) (by assumption)
      | apply s_eqvPE (by first | exact True.intro | rfl) (by exact rfl) (by exact rfl) (by assumption)
      | apply s_make (by first | exact True.intro | rfl) (by exact rfl) (by exact rfl) (by omega) (by omega) (by omega)))); exact Runs.refl _ _ _)) (hi : (bif d then indepOK acc.reverse free else true) = true := by rfl) : AW P C (.ops d l free) Q st := aw_reg (rg_runs hR (rg_nil ⟨hi, hQ⟩))

/-- all that needs no hint -/
theorem walk3 {P : Program} {C : Ctx} {Q : Exit → St → Prop} {st : St} {c : ACode} {G : Prop} (hG : G) (h : Left G → AW P C c Q st := by
  (intro hG; repeat (first | refine aw_seq ?_ | refine aw_block ?_ | refine aw_skip ?_ | refine aw_exit ?_ | refine aw_ret ?_ | refine aw_cond_t rfl ?_ | refine aw_cond_f rfl ?_ | refine aw_condF rfl ?_ | refine aw_condT rfl ?_ | refine aw_R3 ?_)
   exact hG.out)) : AW P C c Q st := h ⟨hG⟩

end Go.Proofs.Ytmbigpjokpdnkaa
namespace Go.Proofs.Ytmbigpjokpdnkaa
set_option linter.unusedVariables false
open Go.RowKit

/-- a row of one's own that is not empty is not nil -/
theorem q_eqvO {P : Program} {st : St} {d : Option Nat} {g : Option (Nat × Bool)} {t e : TypeId} {x y : Operand} {id : Nat} {ob : OB} (hu : P.underlying t = some (.slice e)) (hg : gOK st g) (hx : ev st x = .own id) (ho : hl st.h id = some ob) (hrow : ob.row = true) (hn : 0 < ob.es.length) (hy : ev st y = .lit (.slice none 0 0)) : Step P st ⟨⟨d, g, .eqv t false x y⟩, .lit (.bool false), [id], [], 0⟩ :=
  step_val [id] hg fun o C E ac w sx hlow R hr hh => by
    have h1 := hr x (by simp [AOp.opds])
    rw [hx] at h1
    obtain ⟨hl1, _, hv⟩ := h1
    have h2 := lit_eval (hr y (by simp [AOp.opds])) hy
    obtain ⟨k1, k2⟩ := R.heap.ob id ob hl1 (by rw [hh id (by simp)]; exact ho)
    rw [hrow] at k2
    obtain ⟨vs, a, cap, j1, j2, _⟩ := k2
    have ha : a.isNone = false := by
      rcases j2.2 with ⟨q1, q2⟩ | ⟨g', c', cur, q1, _⟩
      · omega
      · rw [j1] at q1; simp only [Value.slice.injEq] at q1; rw [q1.1]; rfl
    obtain ⟨dst, o, ty, pos, after, guard⟩ := o
    obtain ⟨t2, rfl⟩ := low_spec hlow
    refine ⟨.bool a.isNone, ?_, by rw [ha]; rfl⟩
    have hq : (eqGuard .eql t x y (.slice a ob.es.length cap) (.slice none 0 0)).run P w = .ok () w := rfl
    simp only [execOp, hv.trans j1, h2, Sem.run_bind, cond_false, hq, Result.andThen_ok, eqvS_run hu, Sem.run_pure]

section
variable {P : Program} {tt : List (Nat × AV)} {hh : Hp} {nn dd : Nat} {g : Option (Nat × Bool)} {l : List AInst} {acc : List SD} {K : List SD → St → Prop}
theorem r_eqvO {t e : TypeId} {x y : Operand} {id : Nat} {ob : OB} (hu : P.underlying t = some (.slice e)) (hn : 0 < ob.es.length) (h : RG P (⟨⟨some dd, g, .eqv t false x y⟩, .lit (.bool false), [id], [], 0⟩ :: acc) l ⟨(dd, .lit (.bool false)) :: tt, hh, nn⟩ K)
    (hg : gOK ⟨tt, hh, nn⟩ g := by first | exact True.intro | rfl) (hx : ev ⟨tt, hh, nn⟩ x = .own id := by rfl) (ho : hl hh id = some ob := by rfl) (hrow : ob.row = true := by rfl) (hy : ev ⟨tt, hh, nn⟩ y = .lit (.slice none 0 0) := by rfl) :
    RG P acc (⟨some dd, g, .eqv t false x y⟩ :: l) ⟨tt, hh, nn⟩ K := RG.step (q_eqvO hu hg hx ho hrow hn hy) h
end

/-- an empty row of one's own: as the value that it is -/
theorem aw_valO {P : Program} {C : Ctx} {Q : Exit → St → Prop} {st : St} {c : ACode} (n id : Nat) {o : OB} (hn : st.get n = .own id) (ho : hl st.h id = some o) (hrow : o.row = true)
    (h : ∀ a cap, AW P C c Q ⟨(n, .lit (.slice a o.es.length cap)) :: st.t, st.h, st.nx⟩) : AW P C c Q st := by
  intro code hc E ac w R
  have hv := R.tm n
  rw [hn] at hv
  obtain ⟨hl1, _, hv⟩ := hv
  obtain ⟨k1, k2⟩ := R.heap.ob id o hl1 ho
  rw [hrow] at k2
  obtain ⟨vs, a, cap, j1, _⟩ := k2
  refine h a cap code hc E ac w ⟨R.defers, R.size, fun k => ?_, R.heap, R.nx, R.own, R.ext, R.imx, R.imn, R.frm⟩
  by_cases hk : k = n
  · subst hk
    have e1 : St.get ⟨(k, .lit (.slice a o.es.length cap)) :: st.t, st.h, st.nx⟩ k = .lit (.slice a o.es.length cap) := getT_same st.t k _
    rw [e1]
    exact hv.trans j1
  · have e1 : St.get ⟨(n, .lit (.slice a o.es.length cap)) :: st.t, st.h, st.nx⟩ k = st.get k := getT_ne st.t (some n) _ k (by simpa using fun h => hk h.symm)
    rw [e1]
    exact R.tm k

theorem aw_postW {P : Program} {C : Ctx} {Q : Exit → St → Prop} {st : St} {c : ACode} (h : AW P C c (fun e s => ∃ s', Weak C s s' ∧ Q e s') st) : AW P C c Q st := by
  intro code hc E ac w R
  refine wp_mono (h code hc E ac w R) ?_
  rintro e a' w' ⟨E', s, ⟨s', hw, hq⟩, R'⟩
  obtain ⟨E2, R2⟩ := hw E' a' w' R'
  exact ⟨E2, s', hq, R2⟩

theorem weak_any {C : Ctx} {s : St} (n : Nat) : Weak C s ⟨(n, .any) :: s.t, s.h, s.nx⟩ := weak_sub (fun k E w v h => by
  by_cases hk : k = n
  · subst hk
    have e1 : St.get ⟨(k, .any) :: s.t, s.h, s.nx⟩ k = .any := getT_same s.t k _
    rw [e1]; trivial
  · have e1 : St.get ⟨(n, .any) :: s.t, s.h, s.nx⟩ k = s.get k := getT_ne s.t (some n) _ k (by simpa using fun h => hk h.symm)
    rw [e1]; exact h) rfl (Nat.le_refl _)

theorem weak_say {C : Ctx} {st : St} (n : Nat) {a b : AV} (ha : st.get n = a) (hs : ∀ E w v, Rd E w a v → Rd E w b v) : Weak C st ⟨(n, b) :: st.t, st.h, st.nx⟩ :=
  weak_sub (fun k E w v hk => by
    by_cases hkn : k = n
    · subst hkn
      have e : St.get ⟨(k, b) :: st.t, st.h, st.nx⟩ k = b := getT_same st.t k b
      rw [e]; rw [ha] at hk; exact hs E w v hk
    · have e : St.get ⟨(n, b) :: st.t, st.h, st.nx⟩ k = st.get k := getT_ne st.t (some n) b k (by simpa using fun h => hkn h.symm)
      rw [e]; exact hk) rfl (Nat.le_refl _)
theorem weak_nilS {C : Ctx} {st : St} (n sz : Nat) (ha : st.get n = .lit (.slice none 0 0)) : Weak C st ⟨(n, .sl sz []) :: st.t, st.h, st.nx⟩ := weak_say n ha (fun E w v hv => Sub.nil sz E.im w v hv)
/-- nobody writes it any more -/
theorem weak_freeze {C : Ctx} {st : St} (id : Nat) {o : OB} (ho : hl st.h id = some o) : Weak C st { st with h := (id, some { o with ro := true }) :: st.h } :=
  fun E a w R => let ⟨E', R', _⟩ := freeze_rel R id ho; ⟨E', R'⟩
theorem weak_view {C : Ctx} {st : St} (n : Nat) {a b : AV} (ha : st.get n = a) (hv : viewN true st.h 4 a = some b) : Weak C st ⟨(n, b) :: st.t, st.h, st.nx⟩ :=
  fun E a' w R => ⟨E, R.defers, R.size, fun k => by
    by_cases hkn : k = n
    · subst hkn
      have e : St.get ⟨(k, b) :: st.t, st.h, st.nx⟩ k = b := getT_same st.t k b
      rw [e]
      have hk := R.tm k
      rw [ha] at hk
      refine RdI.rd _ _ (RdI.mono (fun i hi => ?_) (fun _ _ => rfl) _ _ (view_rd R.heap 4 a _ b hk hv))
      rcases hi with hi | ⟨id, o, k1, k2, k3, k4⟩
      · exact hi
      · exact (R.heap.im id o i k1 k2 k3).2 (k4 rfl)
    · have e : St.get ⟨(n, b) :: st.t, st.h, st.nx⟩ k = st.get k := getT_ne st.t (some n) b k (by simpa using fun h => hkn h.symm)
      rw [e]; exact R.tm k, R.heap, R.nx, R.own, R.ext, R.imx, R.imn, R.frm⟩


/-- a row of one's own told with less -/
theorem weak_row {C : Ctx} {st : St} (id : Nat) {o : OB} {es' : List (List AV)} (ho : hl st.h id = some o) (hrow : o.row = true) (hlen : es'.length = o.es.length)
    (hs : ∀ (im : Nat → Prop) (w : World) (vs : List Value), RdIE im w o.sz o.es vs → RdIE im w o.sz es' vs) : Weak C st { st with h := (id, some { o with es := es' }) :: st.h } := fun E a w R => by
  have key : ∀ k o', hl ((id, some { o with es := es' }) :: st.h) k = some o' → (k = id ∧ o' = { o with es := es' }) ∨ hl st.h k = some o' := fun k o' h => by
    rcases hl_new h with ⟨h1, h2⟩ | ⟨_, h2⟩
    · exact .inl ⟨h1, (Option.some.inj h2).symm⟩
    · exact .inr h2
  refine ⟨E, R.defers, R.size, R.tm, ⟨?_, ?_, ?_, R.heap.lt⟩, R.nx, ?_, R.ext, R.imx, R.imn, R.frm⟩
  · intro k o' h1 h2
    rcases key k o' h2 with ⟨rfl, rfl⟩ | h2
    · obtain ⟨k1, k2⟩ := R.heap.ob k o h1 ho
      refine ⟨k1, ?_⟩
      rw [hrow] at k2
      show (bif o.row then _ else _)
      rw [hrow]
      obtain ⟨vs, x, cap, j1, j2, j3, j4, j5⟩ := k2
      exact ⟨vs, x, cap, by rw [show es'.length = o.es.length from hlen]; exact j1, by rw [show es'.length = o.es.length from hlen]; exact j2, hs _ _ _ j3, j4, by rw [show es'.length = o.es.length from hlen]; exact j5⟩
    · exact R.heap.ob k o' h1 h2
  · intro k k' o1 o2 b h1 h2 h3 h4 h5 h6
    have g : ∀ k o1, hl ((id, some { o with es := es' }) :: st.h) k = some o1 → ∃ o3, hl st.h k = some o3 := fun k o1 h => by
      rcases key k o1 h with ⟨rfl, _⟩ | h
      · exact ⟨o, ho⟩
      · exact ⟨o1, h⟩
    obtain ⟨p1, q1⟩ := g k o1 h3
    obtain ⟨p2, q2⟩ := g k' o2 h4
    exact R.heap.apart k k' p1 p2 b h1 h2 q1 q2 h5 h6
  · intro k o' b h1 h2 h3
    rcases key k o' h2 with ⟨rfl, rfl⟩ | h2
    · exact R.heap.im k o b h1 ho h3
    · exact R.heap.im k o' b h1 h2 h3
  · intro k o' b h1 h2 h3
    rcases key k o' h2 with ⟨rfl, rfl⟩ | h2
    · exact R.own k o b h1 ho h3
    · exact R.own k o' b h1 h2 h3

theorem RdIE.appL {im : Nat → Prop} {w : World} {sz : Nat} : ∀ {l : List (List AV)} {a b : List (List AV)} {vs : List Value}, (∀ vs, RdIE im w sz a vs → RdIE im w sz b vs) → RdIE im w sz (l ++ a) vs → RdIE im w sz (l ++ b) vs
  | [], _, _, _, hs, h => hs _ h
  | e :: l, _, _, _, hs, h => by
    obtain ⟨x, rest, h1, h2, h3, h4⟩ := h
    exact ⟨x, rest, h1, h2, h3, RdIE.appL hs h4⟩
theorem RdIE.one {im : Nat → Prop} {w : World} {sz : Nat} {e e' : List AV} (hs : ∀ vs, RdIL im w e vs → RdIL im w e' vs) (vs : List Value) (h : RdIE im w sz [e] vs) : RdIE im w sz [e'] vs := by
  obtain ⟨x, rest, h1, h2, h3, h4⟩ := h
  exact ⟨x, rest, h1, h2, hs _ h3, h4⟩
theorem RdIL.ofSub {im : Nat → Prop} {w : World} : ∀ {l r : List AV} (vs : List Value), SubL l r → RdIL im w l vs → RdIL im w r vs := fun vs hs h => hs _ _ _ h
end Go.Proofs.Ytmbigpjokpdnkaa
