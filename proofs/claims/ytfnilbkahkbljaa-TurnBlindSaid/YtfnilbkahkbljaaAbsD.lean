/- An abstract layer over the walk, part 11: functions that defer one closure, at their beginning, which does nothing where nobody panics. -/
import Derived.Test.YtfnilbkahkbljaaAbs9
import Derived.Defers
import Derived.Recover
namespace Go.Proofs.Ytfnilbkahkbljaa
set_option linter.unusedVariables false
open Go.RowKit

structure AFnD where
  N : Nat
  res : List ARes
  pre : ACode
  t : Nat
  clo : FuncId
  body : ACode
  deriving Inhabited

def lowerFD (P : Program) (f : FuncId) : Option AFnD :=
  match P.funcs[f]? with
  | some fn => match fn.body with
    | some (.seq a (.seq (.region _ ops false) b)) => bif fn.name == "runtime.NumGoroutine" then none else
      match ops.toList with
      | [⟨some t, .makeFunc (.func g) fi ca, _, _, _, none⟩, ⟨none, .defer ⟨.value (.tmp t'), as, _⟩, _, _, _, none⟩] =>
        bif Nat.beq t t' && fi.isEmpty && as.isEmpty && Nat.blt t fn.ntmps then
          match lowerC P fn.ntmps a, lowerC P fn.ntmps b, optAll (fun (r : ResultVar) => match r with | .tmp t => some (ARes.t t) | .cell a t => (szOf P t).map fun q => .c a q.1 q.2) fn.results.toList with
          | some x, some y, some r => some ⟨fn.ntmps, r, x, t, g, y⟩
          | _, _, _ => none
        else none
      | _ => none
    | _ => none
  | none => none

/-- a deferred closure that does nothing where nobody panics -/
def Idle (P : Program) (g : FuncId) : Prop := Callable P g ∧ ∀ (args : Array Value) (w : World), CallsD P g args .returning w fun e u' w' => e = .returned (.tuple #[]) ∧ u' = .returning ∧ w' = w

theorem acalls_defer {P : Program} {f : FuncId} {F : AFnD} {args : List AV} {r : AV} (hF : lowerFD P f = some F) (hlen : args.length ≤ F.N) (hidle : Idle P F.clo)
    (h : ∀ C : Ctx, Pure C F.N → AW P C F.pre (fun e s => match e with | .normal => ∀ ds, AW P { C with ds := ds } F.body (retQ F.res r) ⟨(F.t, .any) :: s.t, s.h, s.nx⟩ | _ => False) ⟨argT 0 args, [], 0⟩) : ACalls P f args r := by
  simp only [lowerFD] at hF
  split at hF
  case h_2 => cases hF
  rename_i fn hfn
  split at hF
  case h_2 => cases hF
  rename_i a id ops b hb
  cases hnm : (fn.name == "runtime.NumGoroutine") with
  | true => rw [hnm] at hF; cases hF
  | false =>
  rw [hnm, cond_false] at hF
  split at hF
  case h_2 => cases hF
  rename_i t g fi ca ty1 pos1 af1 t' as tys ty2 pos2 af2 hops
  cases hcond : (Nat.beq t t' && fi.isEmpty && as.isEmpty && Nat.blt t fn.ntmps) with
  | false => rw [hcond] at hF; cases hF
  | true =>
  rw [hcond, cond_true] at hF
  simp only [Bool.and_eq_true] at hcond
  obtain ⟨⟨⟨q1, q2⟩, q3⟩, q4⟩ := hcond
  have q1 := Nat.eq_of_beq_eq_true q1
  subst q1
  have hfi : fi = #[] := by simpa using q2
  have has : as = #[] := by simpa using q3
  subst hfi has
  have q4 : t < fn.ntmps := by simpa [Nat.blt_eq] using q4
  split at hF
  case h_2 => cases hF
  rename_i x y res hx hy hres
  simp only [Option.some.injEq] at hF
  subst hF
  simp only at hlen h hidle
  refine ⟨⟨fn, hfn, hnm, by rw [hb]; rfl⟩, ?_⟩
  intro im w vs hlt hrd
  let E0 : Env := ⟨im, fun _ => False, fun _ => undef, fun _ => 0⟩
  let C : Ctx := ⟨fun _ => False, w, fn.ntmps, E0, 0, []⟩
  have hC : Pure C fn.ntmps := ⟨fun _ h => h, rfl, rfl, rfl⟩
  have hvl : vs.length = args.length := hrd.length
  have hR : Rel C E0 ⟨argT 0 args, [], 0⟩ { tmps := vs.toArray ++ Array.replicate (fn.ntmps - vs.toArray.size) undef, defers := [] } w := by
    refine ⟨rfl, ?_, fun n => ?_, ⟨fun id o h => h.elim, fun id id' o o' b h => h.elim, fun id o b h => h.elim, hlt⟩, fun id h => h.elim, fun id o b h => h.elim, fun id h => absurd h (Nat.not_lt_zero _), fun b h => h, fun b h => .inl h, ⟨rfl, rfl, rfl, Nat.le_refl _, fun _ _ _ => rfl⟩⟩
    · show (vs.toArray ++ Array.replicate (fn.ntmps - vs.toArray.size) undef).size = fn.ntmps
      simp; omega
    · have := getT_args (E := E0) (w := w) args vs 0 n (RdIL.rd _ _ hrd)
      rw [if_pos (Nat.zero_le _), Nat.sub_zero] at this
      have e : (vs.toArray ++ Array.replicate (fn.ntmps - vs.toArray.size) undef).getD n undef = vs.getD n undef := by
        simp only [Array.getD_eq_getD_getElem?, List.getD_eq_getElem?_getD, Array.getElem?_append]
        by_cases hn : n < vs.length
        · simp [hn]
        · rw [if_neg (by simpa using hn)]
          rw [List.getElem?_eq_none (by omega)]
          simp only [Array.getElem?_replicate]
          split <;> rfl
      show Rd E0 w (getT (argT 0 args) n) ((vs.toArray ++ Array.replicate (fn.ntmps - vs.toArray.size) undef).getD n undef)
      rw [e]; exact this
  refine calls_of_wp_defers hfn hb (wp_seq (wp_mono (h C hC a hx E0 _ w hR) ?_))
  rintro e a1 w1 ⟨E1, s1, h1, R1⟩
  cases e with
  | normal =>
    refine wp_seq ?_
    refine wp_region_list ?_
    rw [hops]
    have hd0 : a1.defers = [] := R1.defers
    -- the closure is made, and laid among the deferred
    let cap : Array Value := ca.map a1.eval
    let v1 : Value := .func (.func g) #[] cap
    let a2 : Act := a1.put (some t) v1
    have hrun1 : (execOp a1.eval ⟨some t, .makeFunc (.func g) #[] ca, ty1, pos1, af1, none⟩).run P w1 = .ok (.value v1) w1 := by
      simp [execOp, Instr.makeFunc, v1, cap]
    have hev : a2.eval (.tmp t) = v1 := by
      have hsz := R1.size
      simp only [a2, Act.put, Act.eval]
      have : t < a1.tmps.size := by rw [hsz]; exact q4
      simp [this]
    have hrun2 : (execOp a2.eval ⟨none, .defer ⟨.value (.tmp t), #[], tys⟩, ty2, pos2, af2, none⟩).run P w1 = .ok (.defer { target := .fn (.func g) cap, args := #[] }) w1 := by
      simp only [execOp, resolve, hev, v1, Deferred.ofValue, Sem.run_bind, Sem.run_pure, Result.andThen_ok]
      simp
    have hb2 : b.wp P (bodyPostD P fn fun e w' => ∃ v im', e = .returned v ∧ RdI im' w' r v ∧ (∀ b, im b → im' b) ∧ (∀ b, im' b → im b ∨ w.heap.size ≤ b) ∧ (∀ b, im' b → b < w'.heap.size) ∧ Below w.heap.size w w') ({ a2 with defers := { target := .fn (.func g) cap, args := #[] } :: a2.defers }.put none undef) w1 := by
      have ha2 : a2.defers = [] := by rw [show a2.defers = a1.defers from put_defers _ _ _]; exact hd0
      let C' : Ctx := { C with ds := [{ target := .fn (.func g) cap, args := #[] }] }
      have Rp := R1.put (d := some t) (fun k hk => by simp only [Option.some.injEq] at hk; subst hk; exact q4) (v := .any) (u := v1) trivial
      have R2 : Rel C' E1 ⟨(t, .any) :: s1.t, s1.h, s1.nx⟩ { a2 with defers := { target := .fn (.func g) cap, args := #[] } :: a2.defers } w1 :=
        ⟨by simp only [ha2]; rfl, Rp.size, Rp.tm, Rp.heap, Rp.nx, Rp.own, Rp.ext, Rp.imx, Rp.imn, Rp.frm⟩
      refine wp_mono (h1 _ b hy E1 _ w1 R2) ?_
      rintro e a' w' ⟨E', s, hq, hR'⟩
      have fin : Ret res r s → Leaves P fn a'.tmps (fun e w' => ∃ v im', e = .returned v ∧ RdI im' w' r v ∧ (∀ b, im b → im' b) ∧ (∀ b, im' b → im b ∨ w.heap.size ≤ b) ∧ (∀ b, im' b → b < w'.heap.size) ∧ Below w.heap.size w w') a'.defers .returning w' := by
        rintro ⟨r0, r1, h1, h2, h3⟩
        have hds : a'.defers = [{ target := .fn (.func g) cap, args := #[] }] := hR'.defers
        rw [hds]
        obtain ⟨⟨gn, hgn, hgname, hgb⟩, hid⟩ := hidle
        refine leaves_cons (f := g) (args := #[] ++ cap) (by simp) ?_ ?_
        · have hcf : (callFunc g (#[] ++ cap)).run P w' = .ok (.enter g (#[] ++ cap)) w' := callFunc_run hgn hgname hgb
          simp only [invoke]
          exact hcf
        · refine (hid _ w').mono ?_
          rintro e u' w'' ⟨rfl, rfl, rfl⟩
          obtain ⟨v, hv, hr⟩ := run_results hR' hres h1
          refine ⟨v, hv, v, imV false E' s.h, rfl, h3 _ _ _ (view_rd hR'.heap 4 _ _ _ hr h2), fun b hb => .inl (hR'.imx b hb), ?_, ?_, ?_⟩
          · rintro b (hb | ⟨id, o, k1, k2, k3, _⟩)
            · rcases hR'.imn b hb with h | h | h
              · exact .inl h
              · exact .inr h
              · exact h.elim
            · rcases hR'.own id o b k1 k2 k3 with h | h
              · exact .inr h
              · exact h.elim
          · rintro b (hb | ⟨id, o, k1, k2, k3, _⟩)
            · exact hR'.heap.lt b hb
            · exact hR'.heap.blk_lt k1 k2 k3
          · exact ⟨hR'.frm.os, hR'.frm.tape, hR'.frm.output, hR'.frm.size, fun k hk => hR'.frm.block k hk (fun h => h)⟩
      cases e with
      | normal => exact fin hq
      | ret => exact fin hq
      | _ => exact hq.elim
    refine wpList_step fun K hK => ?_
    rw [if_pos (by rfl)]
    unfold Oper.wp
    rw [hrun1, Oper.upon_value]
    refine hK _ _ ?_
    refine wpList_step fun K2 hK2 => ?_
    rw [if_pos (by rfl)]
    unfold Oper.wp
    have hrun2' := hrun2
    simp only [a2] at hrun2'
    rw [hrun2', Oper.upon_defer]
    refine hK2 _ _ ?_
    exact hb2
  | _ => exact h1.elim
end Go.Proofs.Ytfnilbkahkbljaa
