/- An abstract layer over the walk, part 6: regions walked, code walked. -/
import Derived.Test.YtkgnnnehmnoleaaAbs5
namespace Go.Proofs.Ytkgnnnehmnoleaa
set_option linter.unusedVariables false
open Go.RowKit

/-- steps, as far as they go; acc: the steps so far, the last one first -/
inductive Runs (P : Program) : List SD → List AInst → St → List SD → List AInst → St → Prop
  | refl (acc : List SD) (l : List AInst) (st : St) : Runs P acc l st acc l st
  | step {s : SD} {acc : List SD} {l : List AInst} {st : St} {acc' : List SD} {l' : List AInst} {st' : St} : Step P st s → Runs P (s :: acc) l (st.app s) acc' l' st' → Runs P acc (s.i :: l) st acc' l' st'

/-- steps to the end of a region, K of those steps and of the state there -/
def RG (P : Program) (acc : List SD) (l : List AInst) (st : St) (K : List SD → St → Prop) : Prop := ∃ ss st', Steps P l st ss st' ∧ K (acc.reverse ++ ss) st'

theorem rg_nil {P : Program} {acc : List SD} {st : St} {K : List SD → St → Prop} (h : K acc.reverse st) : RG P acc [] st K := ⟨[], st, .nil st, by rw [List.append_nil]; exact h⟩

theorem rg_runs {P : Program} {acc : List SD} {l : List AInst} {st : St} {acc' : List SD} {l' : List AInst} {st' : St} {K : List SD → St → Prop} (h : Runs P acc l st acc' l' st') : RG P acc' l' st' K → RG P acc l st K := by
  induction h with
  | refl acc l st => exact id
  | @step s acc l st acc' l' st' h hs ih =>
    intro k
    obtain ⟨ss, st'', h1, h2⟩ := ih k
    exact ⟨s :: ss, st'', .cons h h1, by simpa using h2⟩

theorem Runs.step' {P : Program} {i : AInst} {v : AV} {rd : List Nat} {upd : Hp} {nw : Bool} {l : List AInst} {st : St} {acc acc' : List SD} {l' : List AInst} {st' : St} (h : Step P st ⟨i, v, rd, upd, nw⟩) (hs : Runs P (⟨i, v, rd, upd, nw⟩ :: acc) l (st.app ⟨i, v, rd, upd, nw⟩) acc' l' st') : Runs P acc (i :: l) st acc' l' st' := .step h hs

theorem RG.step {P : Program} {i : AInst} {v : AV} {rd : List Nat} {upd : Hp} {nw : Bool} {l : List AInst} {st : St} {acc : List SD} {K : List SD → St → Prop} (h : Step P st ⟨i, v, rd, upd, nw⟩) (hs : RG P (⟨i, v, rd, upd, nw⟩ :: acc) l (st.app ⟨i, v, rd, upd, nw⟩) K) : RG P acc (i :: l) st K := rg_runs (.step h (.refl _ _ _)) hs

/-- a region -/
theorem aw_reg {P : Program} {C : Ctx} {Q : Exit → St → Prop} {st : St} {d : Bool} {l : List AInst} {free : List (Nat × Nat)} (h : RG P [] l st fun ss st' => (bif d then indepOK ss free else true) = true ∧ Q .normal st') : AW P C (.ops d l free) Q st := by
  obtain ⟨ss, st', h1, h2, h3⟩ := h
  exact aw_ops h1 h2 h3

theorem Step.cast {P : Program} {st : St} {i : AInst} {v v' : AV} {rd : List Nat} {upd : Hp} {nw : Bool} (h : Step P st ⟨i, v, rd, upd, nw⟩) (e : v = v') : Step P st ⟨i, v', rd, upd, nw⟩ := e ▸ h

section
variable {P : Program} {tt : List (Nat × AV)} {hh : Hp} {nn dd : Nat} {g : Option (Nat × Bool)} {l : List AInst} {acc acc' : List SD} {l' : List AInst} {st' : St}

theorem s_movL {x : Operand} {v : Value} (hg : gOK ⟨tt, hh, nn⟩ g) (hx : ev ⟨tt, hh, nn⟩ x = .lit v) (h : Runs P (⟨⟨some dd, g, .mov x⟩, .lit v, [], [], false⟩ :: acc) l ⟨(dd, .lit v) :: tt, hh, nn⟩ acc' l' st') : Runs P acc (⟨some dd, g, .mov x⟩ :: l) ⟨tt, hh, nn⟩ acc' l' st' := Runs.step' ((q_mov hg).cast (hx)) h
theorem s_movS {x : Operand} {sz : Nat} {es : List (List AV)} (hg : gOK ⟨tt, hh, nn⟩ g) (hx : ev ⟨tt, hh, nn⟩ x = .sl sz es) (h : Runs P (⟨⟨some dd, g, .mov x⟩, .sl sz es, [], [], false⟩ :: acc) l ⟨(dd, .sl sz es) :: tt, hh, nn⟩ acc' l' st') : Runs P acc (⟨some dd, g, .mov x⟩ :: l) ⟨tt, hh, nn⟩ acc' l' st' := Runs.step' ((q_mov hg).cast (hx)) h
theorem s_movA {x : Operand} {cs : List AV} (hg : gOK ⟨tt, hh, nn⟩ g) (hx : ev ⟨tt, hh, nn⟩ x = .agg cs) (h : Runs P (⟨⟨some dd, g, .mov x⟩, .agg cs, [], [], false⟩ :: acc) l ⟨(dd, .agg cs) :: tt, hh, nn⟩ acc' l' st') : Runs P acc (⟨some dd, g, .mov x⟩ :: l) ⟨tt, hh, nn⟩ acc' l' st' := Runs.step' ((q_mov hg).cast (hx)) h
theorem s_movO {x : Operand} {id : Nat} (hg : gOK ⟨tt, hh, nn⟩ g) (hx : ev ⟨tt, hh, nn⟩ x = .own id) (h : Runs P (⟨⟨some dd, g, .mov x⟩, .own id, [], [], false⟩ :: acc) l ⟨(dd, .own id) :: tt, hh, nn⟩ acc' l' st') : Runs P acc (⟨some dd, g, .mov x⟩ :: l) ⟨tt, hh, nn⟩ acc' l' st' := Runs.step' ((q_mov hg).cast (hx)) h
theorem s_movP {x : Operand} {id i off : Nat} (hg : gOK ⟨tt, hh, nn⟩ g) (hx : ev ⟨tt, hh, nn⟩ x = .optr id i off) (h : Runs P (⟨⟨some dd, g, .mov x⟩, .optr id i off, [], [], false⟩ :: acc) l ⟨(dd, .optr id i off) :: tt, hh, nn⟩ acc' l' st') : Runs P acc (⟨some dd, g, .mov x⟩ :: l) ⟨tt, hh, nn⟩ acc' l' st' := Runs.step' ((q_mov hg).cast (hx)) h
theorem s_movE {x : Operand} {sz i off : Nat} {es : List (List AV)} (hg : gOK ⟨tt, hh, nn⟩ g) (hx : ev ⟨tt, hh, nn⟩ x = .ep sz es i off) (h : Runs P (⟨⟨some dd, g, .mov x⟩, .ep sz es i off, [], [], false⟩ :: acc) l ⟨(dd, .ep sz es i off) :: tt, hh, nn⟩ acc' l' st') : Runs P acc (⟨some dd, g, .mov x⟩ :: l) ⟨tt, hh, nn⟩ acc' l' st' := Runs.step' ((q_mov hg).cast (hx)) h
theorem s_movT {x : Operand} {cs : List AV} (hg : gOK ⟨tt, hh, nn⟩ g) (hx : ev ⟨tt, hh, nn⟩ x = .tup cs) (h : Runs P (⟨⟨some dd, g, .mov x⟩, .tup cs, [], [], false⟩ :: acc) l ⟨(dd, .tup cs) :: tt, hh, nn⟩ acc' l' st') : Runs P acc (⟨some dd, g, .mov x⟩ :: l) ⟨tt, hh, nn⟩ acc' l' st' := Runs.step' ((q_mov hg).cast (hx)) h
theorem s_movF {x : Operand} {f : FuncId} {fi ca : List AV} (hg : gOK ⟨tt, hh, nn⟩ g) (hx : ev ⟨tt, hh, nn⟩ x = .fn f fi ca) (h : Runs P (⟨⟨some dd, g, .mov x⟩, .fn f fi ca, [], [], false⟩ :: acc) l ⟨(dd, .fn f fi ca) :: tt, hh, nn⟩ acc' l' st') : Runs P acc (⟨some dd, g, .mov x⟩ :: l) ⟨tt, hh, nn⟩ acc' l' st' := Runs.step' ((q_mov hg).cast (hx)) h
theorem s_movX {x : Operand}  (hg : gOK ⟨tt, hh, nn⟩ g) (hx : ev ⟨tt, hh, nn⟩ x = .any) (h : Runs P (⟨⟨some dd, g, .mov x⟩, .any, [], [], false⟩ :: acc) l ⟨(dd, .any) :: tt, hh, nn⟩ acc' l' st') : Runs P acc (⟨some dd, g, .mov x⟩ :: l) ⟨tt, hh, nn⟩ acc' l' st' := Runs.step' ((q_mov hg).cast (hx)) h
theorem s_no {o : AOp} (hg : gNo ⟨tt, hh, nn⟩ g) (h : Runs P (⟨⟨some dd, g, o⟩, .any, [], [], false⟩ :: acc) l ⟨(dd, .any) :: tt, hh, nn⟩ acc' l' st') : Runs P acc (⟨some dd, g, o⟩ :: l) ⟨tt, hh, nn⟩ acc' l' st' := Runs.step' (step_no hg) h
theorem s_noN {o : AOp} (hg : gNo ⟨tt, hh, nn⟩ g) (h : Runs P (⟨⟨none, g, o⟩, .any, [], [], false⟩ :: acc) l ⟨tt, hh, nn⟩ acc' l' st') : Runs P acc (⟨none, g, o⟩ :: l) ⟨tt, hh, nn⟩ acc' l' st' := Runs.step' (step_no hg) h
theorem s_pickTL {c x y : Operand} {v : Value} (hg : gOK ⟨tt, hh, nn⟩ g) (hc : ev ⟨tt, hh, nn⟩ c = .lit (.bool true)) (hx : ev ⟨tt, hh, nn⟩ x = .lit v) (h : Runs P (⟨⟨some dd, g, .pick c x y⟩, .lit v, [], [], false⟩ :: acc) l ⟨(dd, .lit v) :: tt, hh, nn⟩ acc' l' st') : Runs P acc (⟨some dd, g, .pick c x y⟩ :: l) ⟨tt, hh, nn⟩ acc' l' st' := Runs.step' ((q_pick hg hc).cast (hx)) h
theorem s_pickFL {c x y : Operand} {v : Value} (hg : gOK ⟨tt, hh, nn⟩ g) (hc : ev ⟨tt, hh, nn⟩ c = .lit (.bool false)) (hx : ev ⟨tt, hh, nn⟩ y = .lit v) (h : Runs P (⟨⟨some dd, g, .pick c x y⟩, .lit v, [], [], false⟩ :: acc) l ⟨(dd, .lit v) :: tt, hh, nn⟩ acc' l' st') : Runs P acc (⟨some dd, g, .pick c x y⟩ :: l) ⟨tt, hh, nn⟩ acc' l' st' := Runs.step' ((q_pick hg hc).cast (hx)) h
theorem s_pickTS {c x y : Operand} {sz : Nat} {es : List (List AV)} (hg : gOK ⟨tt, hh, nn⟩ g) (hc : ev ⟨tt, hh, nn⟩ c = .lit (.bool true)) (hx : ev ⟨tt, hh, nn⟩ x = .sl sz es) (h : Runs P (⟨⟨some dd, g, .pick c x y⟩, .sl sz es, [], [], false⟩ :: acc) l ⟨(dd, .sl sz es) :: tt, hh, nn⟩ acc' l' st') : Runs P acc (⟨some dd, g, .pick c x y⟩ :: l) ⟨tt, hh, nn⟩ acc' l' st' := Runs.step' ((q_pick hg hc).cast (hx)) h
theorem s_pickFS {c x y : Operand} {sz : Nat} {es : List (List AV)} (hg : gOK ⟨tt, hh, nn⟩ g) (hc : ev ⟨tt, hh, nn⟩ c = .lit (.bool false)) (hx : ev ⟨tt, hh, nn⟩ y = .sl sz es) (h : Runs P (⟨⟨some dd, g, .pick c x y⟩, .sl sz es, [], [], false⟩ :: acc) l ⟨(dd, .sl sz es) :: tt, hh, nn⟩ acc' l' st') : Runs P acc (⟨some dd, g, .pick c x y⟩ :: l) ⟨tt, hh, nn⟩ acc' l' st' := Runs.step' ((q_pick hg hc).cast (hx)) h
theorem s_pickTA {c x y : Operand} {cs : List AV} (hg : gOK ⟨tt, hh, nn⟩ g) (hc : ev ⟨tt, hh, nn⟩ c = .lit (.bool true)) (hx : ev ⟨tt, hh, nn⟩ x = .agg cs) (h : Runs P (⟨⟨some dd, g, .pick c x y⟩, .agg cs, [], [], false⟩ :: acc) l ⟨(dd, .agg cs) :: tt, hh, nn⟩ acc' l' st') : Runs P acc (⟨some dd, g, .pick c x y⟩ :: l) ⟨tt, hh, nn⟩ acc' l' st' := Runs.step' ((q_pick hg hc).cast (hx)) h
theorem s_pickFA {c x y : Operand} {cs : List AV} (hg : gOK ⟨tt, hh, nn⟩ g) (hc : ev ⟨tt, hh, nn⟩ c = .lit (.bool false)) (hx : ev ⟨tt, hh, nn⟩ y = .agg cs) (h : Runs P (⟨⟨some dd, g, .pick c x y⟩, .agg cs, [], [], false⟩ :: acc) l ⟨(dd, .agg cs) :: tt, hh, nn⟩ acc' l' st') : Runs P acc (⟨some dd, g, .pick c x y⟩ :: l) ⟨tt, hh, nn⟩ acc' l' st' := Runs.step' ((q_pick hg hc).cast (hx)) h
theorem s_pickTO {c x y : Operand} {id : Nat} (hg : gOK ⟨tt, hh, nn⟩ g) (hc : ev ⟨tt, hh, nn⟩ c = .lit (.bool true)) (hx : ev ⟨tt, hh, nn⟩ x = .own id) (h : Runs P (⟨⟨some dd, g, .pick c x y⟩, .own id, [], [], false⟩ :: acc) l ⟨(dd, .own id) :: tt, hh, nn⟩ acc' l' st') : Runs P acc (⟨some dd, g, .pick c x y⟩ :: l) ⟨tt, hh, nn⟩ acc' l' st' := Runs.step' ((q_pick hg hc).cast (hx)) h
theorem s_pickFO {c x y : Operand} {id : Nat} (hg : gOK ⟨tt, hh, nn⟩ g) (hc : ev ⟨tt, hh, nn⟩ c = .lit (.bool false)) (hx : ev ⟨tt, hh, nn⟩ y = .own id) (h : Runs P (⟨⟨some dd, g, .pick c x y⟩, .own id, [], [], false⟩ :: acc) l ⟨(dd, .own id) :: tt, hh, nn⟩ acc' l' st') : Runs P acc (⟨some dd, g, .pick c x y⟩ :: l) ⟨tt, hh, nn⟩ acc' l' st' := Runs.step' ((q_pick hg hc).cast (hx)) h
theorem s_pickTP {c x y : Operand} {id i off : Nat} (hg : gOK ⟨tt, hh, nn⟩ g) (hc : ev ⟨tt, hh, nn⟩ c = .lit (.bool true)) (hx : ev ⟨tt, hh, nn⟩ x = .optr id i off) (h : Runs P (⟨⟨some dd, g, .pick c x y⟩, .optr id i off, [], [], false⟩ :: acc) l ⟨(dd, .optr id i off) :: tt, hh, nn⟩ acc' l' st') : Runs P acc (⟨some dd, g, .pick c x y⟩ :: l) ⟨tt, hh, nn⟩ acc' l' st' := Runs.step' ((q_pick hg hc).cast (hx)) h
theorem s_pickFP {c x y : Operand} {id i off : Nat} (hg : gOK ⟨tt, hh, nn⟩ g) (hc : ev ⟨tt, hh, nn⟩ c = .lit (.bool false)) (hx : ev ⟨tt, hh, nn⟩ y = .optr id i off) (h : Runs P (⟨⟨some dd, g, .pick c x y⟩, .optr id i off, [], [], false⟩ :: acc) l ⟨(dd, .optr id i off) :: tt, hh, nn⟩ acc' l' st') : Runs P acc (⟨some dd, g, .pick c x y⟩ :: l) ⟨tt, hh, nn⟩ acc' l' st' := Runs.step' ((q_pick hg hc).cast (hx)) h
theorem s_pickTE {c x y : Operand} {sz i off : Nat} {es : List (List AV)} (hg : gOK ⟨tt, hh, nn⟩ g) (hc : ev ⟨tt, hh, nn⟩ c = .lit (.bool true)) (hx : ev ⟨tt, hh, nn⟩ x = .ep sz es i off) (h : Runs P (⟨⟨some dd, g, .pick c x y⟩, .ep sz es i off, [], [], false⟩ :: acc) l ⟨(dd, .ep sz es i off) :: tt, hh, nn⟩ acc' l' st') : Runs P acc (⟨some dd, g, .pick c x y⟩ :: l) ⟨tt, hh, nn⟩ acc' l' st' := Runs.step' ((q_pick hg hc).cast (hx)) h
theorem s_pickFE {c x y : Operand} {sz i off : Nat} {es : List (List AV)} (hg : gOK ⟨tt, hh, nn⟩ g) (hc : ev ⟨tt, hh, nn⟩ c = .lit (.bool false)) (hx : ev ⟨tt, hh, nn⟩ y = .ep sz es i off) (h : Runs P (⟨⟨some dd, g, .pick c x y⟩, .ep sz es i off, [], [], false⟩ :: acc) l ⟨(dd, .ep sz es i off) :: tt, hh, nn⟩ acc' l' st') : Runs P acc (⟨some dd, g, .pick c x y⟩ :: l) ⟨tt, hh, nn⟩ acc' l' st' := Runs.step' ((q_pick hg hc).cast (hx)) h
theorem s_pickTT {c x y : Operand} {cs : List AV} (hg : gOK ⟨tt, hh, nn⟩ g) (hc : ev ⟨tt, hh, nn⟩ c = .lit (.bool true)) (hx : ev ⟨tt, hh, nn⟩ x = .tup cs) (h : Runs P (⟨⟨some dd, g, .pick c x y⟩, .tup cs, [], [], false⟩ :: acc) l ⟨(dd, .tup cs) :: tt, hh, nn⟩ acc' l' st') : Runs P acc (⟨some dd, g, .pick c x y⟩ :: l) ⟨tt, hh, nn⟩ acc' l' st' := Runs.step' ((q_pick hg hc).cast (hx)) h
theorem s_pickFT {c x y : Operand} {cs : List AV} (hg : gOK ⟨tt, hh, nn⟩ g) (hc : ev ⟨tt, hh, nn⟩ c = .lit (.bool false)) (hx : ev ⟨tt, hh, nn⟩ y = .tup cs) (h : Runs P (⟨⟨some dd, g, .pick c x y⟩, .tup cs, [], [], false⟩ :: acc) l ⟨(dd, .tup cs) :: tt, hh, nn⟩ acc' l' st') : Runs P acc (⟨some dd, g, .pick c x y⟩ :: l) ⟨tt, hh, nn⟩ acc' l' st' := Runs.step' ((q_pick hg hc).cast (hx)) h
theorem s_pickTF {c x y : Operand} {f : FuncId} {fi ca : List AV} (hg : gOK ⟨tt, hh, nn⟩ g) (hc : ev ⟨tt, hh, nn⟩ c = .lit (.bool true)) (hx : ev ⟨tt, hh, nn⟩ x = .fn f fi ca) (h : Runs P (⟨⟨some dd, g, .pick c x y⟩, .fn f fi ca, [], [], false⟩ :: acc) l ⟨(dd, .fn f fi ca) :: tt, hh, nn⟩ acc' l' st') : Runs P acc (⟨some dd, g, .pick c x y⟩ :: l) ⟨tt, hh, nn⟩ acc' l' st' := Runs.step' ((q_pick hg hc).cast (hx)) h
theorem s_pickFF {c x y : Operand} {f : FuncId} {fi ca : List AV} (hg : gOK ⟨tt, hh, nn⟩ g) (hc : ev ⟨tt, hh, nn⟩ c = .lit (.bool false)) (hx : ev ⟨tt, hh, nn⟩ y = .fn f fi ca) (h : Runs P (⟨⟨some dd, g, .pick c x y⟩, .fn f fi ca, [], [], false⟩ :: acc) l ⟨(dd, .fn f fi ca) :: tt, hh, nn⟩ acc' l' st') : Runs P acc (⟨some dd, g, .pick c x y⟩ :: l) ⟨tt, hh, nn⟩ acc' l' st' := Runs.step' ((q_pick hg hc).cast (hx)) h
theorem s_pickTX {c x y : Operand}  (hg : gOK ⟨tt, hh, nn⟩ g) (hc : ev ⟨tt, hh, nn⟩ c = .lit (.bool true)) (hx : ev ⟨tt, hh, nn⟩ x = .any) (h : Runs P (⟨⟨some dd, g, .pick c x y⟩, .any, [], [], false⟩ :: acc) l ⟨(dd, .any) :: tt, hh, nn⟩ acc' l' st') : Runs P acc (⟨some dd, g, .pick c x y⟩ :: l) ⟨tt, hh, nn⟩ acc' l' st' := Runs.step' ((q_pick hg hc).cast (hx)) h
theorem s_pickFX {c x y : Operand}  (hg : gOK ⟨tt, hh, nn⟩ g) (hc : ev ⟨tt, hh, nn⟩ c = .lit (.bool false)) (hx : ev ⟨tt, hh, nn⟩ y = .any) (h : Runs P (⟨⟨some dd, g, .pick c x y⟩, .any, [], [], false⟩ :: acc) l ⟨(dd, .any) :: tt, hh, nn⟩ acc' l' st') : Runs P acc (⟨some dd, g, .pick c x y⟩ :: l) ⟨tt, hh, nn⟩ acc' l' st' := Runs.step' ((q_pick hg hc).cast (hx)) h
theorem s_pickB {c x y : Operand} {b u u' : Bool} (hg : gOK ⟨tt, hh, nn⟩ g) (hc : ev ⟨tt, hh, nn⟩ c = .lit (.bool b)) (hx : ev ⟨tt, hh, nn⟩ x = .lit (.bool u)) (hy : ev ⟨tt, hh, nn⟩ y = .lit (.bool u')) (h : Runs P (⟨⟨some dd, g, .pick c x y⟩, .lit (.bool (bif b then u else u')), [], [], false⟩ :: acc) l ⟨(dd, .lit (.bool (bif b then u else u'))) :: tt, hh, nn⟩ acc' l' st') : Runs P acc (⟨some dd, g, .pick c x y⟩ :: l) ⟨tt, hh, nn⟩ acc' l' st' := Runs.step' ((q_pick hg hc).cast (by rw [hx, hy]; cases b <;> rfl)) h
theorem s_add64 {x y : Operand} {a b : Int} (hg : gOK ⟨tt, hh, nn⟩ g) (hx : ev ⟨tt, hh, nn⟩ x = .lit (.int .i64 a)) (hy : ev ⟨tt, hh, nn⟩ y = .lit (.int .i64 b)) (h1 : -9223372036854775808 ≤ a + b) (h2 : a + b ≤ 9223372036854775807) (h : Runs P (⟨⟨some dd, g, .bin .add x y⟩, .lit (.int .i64 (a + b)), [], [], false⟩ :: acc) l ⟨(dd, .lit (.int .i64 (a + b))) :: tt, hh, nn⟩ acc' l' st') : Runs P acc (⟨some dd, g, .bin .add x y⟩ :: l) ⟨tt, hh, nn⟩ acc' l' st' := Runs.step' ((q_int hg hx hy rfl).cast (congrArg (fun n => AV.lit (.int .i64 n)) (IntWalk.i64_in _ ⟨h1, h2⟩))) h
theorem s_sub64 {x y : Operand} {a b : Int} (hg : gOK ⟨tt, hh, nn⟩ g) (hx : ev ⟨tt, hh, nn⟩ x = .lit (.int .i64 a)) (hy : ev ⟨tt, hh, nn⟩ y = .lit (.int .i64 b)) (h1 : -9223372036854775808 ≤ a - b) (h2 : a - b ≤ 9223372036854775807) (h : Runs P (⟨⟨some dd, g, .bin .sub x y⟩, .lit (.int .i64 (a - b)), [], [], false⟩ :: acc) l ⟨(dd, .lit (.int .i64 (a - b))) :: tt, hh, nn⟩ acc' l' st') : Runs P acc (⟨some dd, g, .bin .sub x y⟩ :: l) ⟨tt, hh, nn⟩ acc' l' st' := Runs.step' ((q_int hg hx hy rfl).cast (congrArg (fun n => AV.lit (.int .i64 n)) (IntWalk.i64_in _ ⟨h1, h2⟩))) h
theorem s_mul64 {x y : Operand} {a b : Int} (hg : gOK ⟨tt, hh, nn⟩ g) (hx : ev ⟨tt, hh, nn⟩ x = .lit (.int .i64 a)) (hy : ev ⟨tt, hh, nn⟩ y = .lit (.int .i64 b)) (h1 : -9223372036854775808 ≤ a * b ∧ a * b ≤ 9223372036854775807) (h : Runs P (⟨⟨some dd, g, .bin .mul x y⟩, .lit (.int .i64 (a * b)), [], [], false⟩ :: acc) l ⟨(dd, .lit (.int .i64 (a * b))) :: tt, hh, nn⟩ acc' l' st') : Runs P acc (⟨some dd, g, .bin .mul x y⟩ :: l) ⟨tt, hh, nn⟩ acc' l' st' := Runs.step' ((q_int hg hx hy rfl).cast (congrArg (fun n => AV.lit (.int .i64 n)) (IntWalk.i64_in _ h1))) h
theorem s_ltT {x y : Operand} {k : IntKind} {a b : Int} (hg : gOK ⟨tt, hh, nn⟩ g) (hx : ev ⟨tt, hh, nn⟩ x = .lit (.int k a)) (hy : ev ⟨tt, hh, nn⟩ y = .lit (.int k b)) (h1 : a < b) (h : Runs P (⟨⟨some dd, g, .bin .lss x y⟩, .lit (.bool true), [], [], false⟩ :: acc) l ⟨(dd, .lit (.bool true)) :: tt, hh, nn⟩ acc' l' st') : Runs P acc (⟨some dd, g, .bin .lss x y⟩ :: l) ⟨tt, hh, nn⟩ acc' l' st' := Runs.step' ((q_int hg hx hy rfl).cast (congrArg (fun n => AV.lit (.bool n)) (decide_eq_true h1))) h
theorem s_ltF {x y : Operand} {k : IntKind} {a b : Int} (hg : gOK ⟨tt, hh, nn⟩ g) (hx : ev ⟨tt, hh, nn⟩ x = .lit (.int k a)) (hy : ev ⟨tt, hh, nn⟩ y = .lit (.int k b)) (h1 : ¬ a < b) (h : Runs P (⟨⟨some dd, g, .bin .lss x y⟩, .lit (.bool false), [], [], false⟩ :: acc) l ⟨(dd, .lit (.bool false)) :: tt, hh, nn⟩ acc' l' st') : Runs P acc (⟨some dd, g, .bin .lss x y⟩ :: l) ⟨tt, hh, nn⟩ acc' l' st' := Runs.step' ((q_int hg hx hy rfl).cast (congrArg (fun n => AV.lit (.bool n)) (decide_eq_false h1))) h
theorem s_leT {x y : Operand} {k : IntKind} {a b : Int} (hg : gOK ⟨tt, hh, nn⟩ g) (hx : ev ⟨tt, hh, nn⟩ x = .lit (.int k a)) (hy : ev ⟨tt, hh, nn⟩ y = .lit (.int k b)) (h1 : a ≤ b) (h : Runs P (⟨⟨some dd, g, .bin .leq x y⟩, .lit (.bool true), [], [], false⟩ :: acc) l ⟨(dd, .lit (.bool true)) :: tt, hh, nn⟩ acc' l' st') : Runs P acc (⟨some dd, g, .bin .leq x y⟩ :: l) ⟨tt, hh, nn⟩ acc' l' st' := Runs.step' ((q_int hg hx hy rfl).cast (congrArg (fun n => AV.lit (.bool n)) (decide_eq_true h1))) h
theorem s_leF {x y : Operand} {k : IntKind} {a b : Int} (hg : gOK ⟨tt, hh, nn⟩ g) (hx : ev ⟨tt, hh, nn⟩ x = .lit (.int k a)) (hy : ev ⟨tt, hh, nn⟩ y = .lit (.int k b)) (h1 : ¬ a ≤ b) (h : Runs P (⟨⟨some dd, g, .bin .leq x y⟩, .lit (.bool false), [], [], false⟩ :: acc) l ⟨(dd, .lit (.bool false)) :: tt, hh, nn⟩ acc' l' st') : Runs P acc (⟨some dd, g, .bin .leq x y⟩ :: l) ⟨tt, hh, nn⟩ acc' l' st' := Runs.step' ((q_int hg hx hy rfl).cast (congrArg (fun n => AV.lit (.bool n)) (decide_eq_false h1))) h
theorem s_gtT {x y : Operand} {k : IntKind} {a b : Int} (hg : gOK ⟨tt, hh, nn⟩ g) (hx : ev ⟨tt, hh, nn⟩ x = .lit (.int k a)) (hy : ev ⟨tt, hh, nn⟩ y = .lit (.int k b)) (h1 : a > b) (h : Runs P (⟨⟨some dd, g, .bin .gtr x y⟩, .lit (.bool true), [], [], false⟩ :: acc) l ⟨(dd, .lit (.bool true)) :: tt, hh, nn⟩ acc' l' st') : Runs P acc (⟨some dd, g, .bin .gtr x y⟩ :: l) ⟨tt, hh, nn⟩ acc' l' st' := Runs.step' ((q_int hg hx hy rfl).cast (congrArg (fun n => AV.lit (.bool n)) (decide_eq_true h1))) h
theorem s_gtF {x y : Operand} {k : IntKind} {a b : Int} (hg : gOK ⟨tt, hh, nn⟩ g) (hx : ev ⟨tt, hh, nn⟩ x = .lit (.int k a)) (hy : ev ⟨tt, hh, nn⟩ y = .lit (.int k b)) (h1 : ¬ a > b) (h : Runs P (⟨⟨some dd, g, .bin .gtr x y⟩, .lit (.bool false), [], [], false⟩ :: acc) l ⟨(dd, .lit (.bool false)) :: tt, hh, nn⟩ acc' l' st') : Runs P acc (⟨some dd, g, .bin .gtr x y⟩ :: l) ⟨tt, hh, nn⟩ acc' l' st' := Runs.step' ((q_int hg hx hy rfl).cast (congrArg (fun n => AV.lit (.bool n)) (decide_eq_false h1))) h
theorem s_geT {x y : Operand} {k : IntKind} {a b : Int} (hg : gOK ⟨tt, hh, nn⟩ g) (hx : ev ⟨tt, hh, nn⟩ x = .lit (.int k a)) (hy : ev ⟨tt, hh, nn⟩ y = .lit (.int k b)) (h1 : a ≥ b) (h : Runs P (⟨⟨some dd, g, .bin .geq x y⟩, .lit (.bool true), [], [], false⟩ :: acc) l ⟨(dd, .lit (.bool true)) :: tt, hh, nn⟩ acc' l' st') : Runs P acc (⟨some dd, g, .bin .geq x y⟩ :: l) ⟨tt, hh, nn⟩ acc' l' st' := Runs.step' ((q_int hg hx hy rfl).cast (congrArg (fun n => AV.lit (.bool n)) (decide_eq_true h1))) h
theorem s_geF {x y : Operand} {k : IntKind} {a b : Int} (hg : gOK ⟨tt, hh, nn⟩ g) (hx : ev ⟨tt, hh, nn⟩ x = .lit (.int k a)) (hy : ev ⟨tt, hh, nn⟩ y = .lit (.int k b)) (h1 : ¬ a ≥ b) (h : Runs P (⟨⟨some dd, g, .bin .geq x y⟩, .lit (.bool false), [], [], false⟩ :: acc) l ⟨(dd, .lit (.bool false)) :: tt, hh, nn⟩ acc' l' st') : Runs P acc (⟨some dd, g, .bin .geq x y⟩ :: l) ⟨tt, hh, nn⟩ acc' l' st' := Runs.step' ((q_int hg hx hy rfl).cast (congrArg (fun n => AV.lit (.bool n)) (decide_eq_false h1))) h
theorem s_eqT {x y : Operand} {k : IntKind} {a b : Int} (hg : gOK ⟨tt, hh, nn⟩ g) (hx : ev ⟨tt, hh, nn⟩ x = .lit (.int k a)) (hy : ev ⟨tt, hh, nn⟩ y = .lit (.int k b)) (h1 : a = b) (h : Runs P (⟨⟨some dd, g, .bin .eql x y⟩, .lit (.bool true), [], [], false⟩ :: acc) l ⟨(dd, .lit (.bool true)) :: tt, hh, nn⟩ acc' l' st') : Runs P acc (⟨some dd, g, .bin .eql x y⟩ :: l) ⟨tt, hh, nn⟩ acc' l' st' := Runs.step' ((q_int hg hx hy rfl).cast (congrArg (fun n => AV.lit (.bool n)) (beq_iff_eq.2 h1))) h
theorem s_eqF {x y : Operand} {k : IntKind} {a b : Int} (hg : gOK ⟨tt, hh, nn⟩ g) (hx : ev ⟨tt, hh, nn⟩ x = .lit (.int k a)) (hy : ev ⟨tt, hh, nn⟩ y = .lit (.int k b)) (h1 : ¬ a = b) (h : Runs P (⟨⟨some dd, g, .bin .eql x y⟩, .lit (.bool false), [], [], false⟩ :: acc) l ⟨(dd, .lit (.bool false)) :: tt, hh, nn⟩ acc' l' st') : Runs P acc (⟨some dd, g, .bin .eql x y⟩ :: l) ⟨tt, hh, nn⟩ acc' l' st' := Runs.step' ((q_int hg hx hy rfl).cast (congrArg (fun n => AV.lit (.bool n)) (beq_eq_false_iff_ne.2 h1))) h
theorem s_neT {x y : Operand} {k : IntKind} {a b : Int} (hg : gOK ⟨tt, hh, nn⟩ g) (hx : ev ⟨tt, hh, nn⟩ x = .lit (.int k a)) (hy : ev ⟨tt, hh, nn⟩ y = .lit (.int k b)) (h1 : ¬ a = b) (h : Runs P (⟨⟨some dd, g, .bin .neq x y⟩, .lit (.bool true), [], [], false⟩ :: acc) l ⟨(dd, .lit (.bool true)) :: tt, hh, nn⟩ acc' l' st') : Runs P acc (⟨some dd, g, .bin .neq x y⟩ :: l) ⟨tt, hh, nn⟩ acc' l' st' := Runs.step' ((q_int hg hx hy rfl).cast (congrArg (fun n => AV.lit (.bool n)) (bne_iff_ne.2 h1))) h
theorem s_neF {x y : Operand} {k : IntKind} {a b : Int} (hg : gOK ⟨tt, hh, nn⟩ g) (hx : ev ⟨tt, hh, nn⟩ x = .lit (.int k a)) (hy : ev ⟨tt, hh, nn⟩ y = .lit (.int k b)) (h1 : a = b) (h : Runs P (⟨⟨some dd, g, .bin .neq x y⟩, .lit (.bool false), [], [], false⟩ :: acc) l ⟨(dd, .lit (.bool false)) :: tt, hh, nn⟩ acc' l' st') : Runs P acc (⟨some dd, g, .bin .neq x y⟩ :: l) ⟨tt, hh, nn⟩ acc' l' st' := Runs.step' ((q_int hg hx hy rfl).cast (congrArg (fun n => AV.lit (.bool n)) (by rw [h1]; exact bne_self_eq_false _))) h
theorem s_int {op : BinOp} {x y : Operand} {k : IntKind} {a b : Int} {v : Value} (hg : gOK ⟨tt, hh, nn⟩ g) (hx : ev ⟨tt, hh, nn⟩ x = .lit (.int k a)) (hy : ev ⟨tt, hh, nn⟩ y = .lit (.int k b)) (hv : absInt op k a b = some v) (h : Runs P (⟨⟨some dd, g, .bin op x y⟩, .lit v, [], [], false⟩ :: acc) l ⟨(dd, .lit v) :: tt, hh, nn⟩ acc' l' st') : Runs P acc (⟨some dd, g, .bin op x y⟩ :: l) ⟨tt, hh, nn⟩ acc' l' st' := Runs.step' (q_int hg hx hy hv) h
theorem s_div {x y : Operand} {k : IntKind} {a b : Int} (hg : gOK ⟨tt, hh, nn⟩ g) (hx : ev ⟨tt, hh, nn⟩ x = .lit (.int k a)) (hy : ev ⟨tt, hh, nn⟩ y = .lit (.int k b)) (hb : b ≠ 0) (h : Runs P (⟨⟨some dd, g, .bin .quo x y⟩, .lit (.int k (k.wrap (a.tdiv b))), [], [], false⟩ :: acc) l ⟨(dd, .lit (.int k (k.wrap (a.tdiv b)))) :: tt, hh, nn⟩ acc' l' st') : Runs P acc (⟨some dd, g, .bin .quo x y⟩ :: l) ⟨tt, hh, nn⟩ acc' l' st' := Runs.step' (q_div hg hx hy hb) h
theorem s_rem {x y : Operand} {k : IntKind} {a b : Int} (hg : gOK ⟨tt, hh, nn⟩ g) (hx : ev ⟨tt, hh, nn⟩ x = .lit (.int k a)) (hy : ev ⟨tt, hh, nn⟩ y = .lit (.int k b)) (hb : b ≠ 0) (h : Runs P (⟨⟨some dd, g, .bin .rem x y⟩, .lit (.int k (a.tmod b)), [], [], false⟩ :: acc) l ⟨(dd, .lit (.int k (a.tmod b))) :: tt, hh, nn⟩ acc' l' st') : Runs P acc (⟨some dd, g, .bin .rem x y⟩ :: l) ⟨tt, hh, nn⟩ acc' l' st' := Runs.step' (q_rem hg hx hy hb) h
theorem s_bool {op : BinOp} {x y : Operand} {a b : Bool} {v : Value} (hg : gOK ⟨tt, hh, nn⟩ g) (hx : ev ⟨tt, hh, nn⟩ x = .lit (.bool a)) (hy : ev ⟨tt, hh, nn⟩ y = .lit (.bool b)) (hv : absBool op a b = some v) (h : Runs P (⟨⟨some dd, g, .binB op x y⟩, .lit v, [], [], false⟩ :: acc) l ⟨(dd, .lit v) :: tt, hh, nn⟩ acc' l' st') : Runs P acc (⟨some dd, g, .binB op x y⟩ :: l) ⟨tt, hh, nn⟩ acc' l' st' := Runs.step' (q_bool hg hx hy hv) h
theorem s_not {x : Operand} {b : Bool} (hg : gOK ⟨tt, hh, nn⟩ g) (hx : ev ⟨tt, hh, nn⟩ x = .lit (.bool b)) (h : Runs P (⟨⟨some dd, g, .un .not x⟩, .lit (.bool !b), [], [], false⟩ :: acc) l ⟨(dd, .lit (.bool !b)) :: tt, hh, nn⟩ acc' l' st') : Runs P acc (⟨some dd, g, .un .not x⟩ :: l) ⟨tt, hh, nn⟩ acc' l' st' := Runs.step' (q_not hg hx) h
theorem s_notT {x : Operand} (hg : gOK ⟨tt, hh, nn⟩ g) (hx : ev ⟨tt, hh, nn⟩ x = .lit (.bool true)) (h : Runs P (⟨⟨some dd, g, .un .not x⟩, .lit (.bool false), [], [], false⟩ :: acc) l ⟨(dd, .lit (.bool false)) :: tt, hh, nn⟩ acc' l' st') : Runs P acc (⟨some dd, g, .un .not x⟩ :: l) ⟨tt, hh, nn⟩ acc' l' st' := Runs.step' (q_not hg hx) h
theorem s_notF {x : Operand} (hg : gOK ⟨tt, hh, nn⟩ g) (hx : ev ⟨tt, hh, nn⟩ x = .lit (.bool false)) (h : Runs P (⟨⟨some dd, g, .un .not x⟩, .lit (.bool true), [], [], false⟩ :: acc) l ⟨(dd, .lit (.bool true)) :: tt, hh, nn⟩ acc' l' st') : Runs P acc (⟨some dd, g, .un .not x⟩ :: l) ⟨tt, hh, nn⟩ acc' l' st' := Runs.step' (q_not hg hx) h
theorem s_neg64 {x : Operand} {a : Int} (hg : gOK ⟨tt, hh, nn⟩ g) (hx : ev ⟨tt, hh, nn⟩ x = .lit (.int .i64 a)) (h1 : -9223372036854775808 ≤ -a) (h2 : -a ≤ 9223372036854775807) (h : Runs P (⟨⟨some dd, g, .un .neg x⟩, .lit (.int .i64 (-a)), [], [], false⟩ :: acc) l ⟨(dd, .lit (.int .i64 (-a))) :: tt, hh, nn⟩ acc' l' st') : Runs P acc (⟨some dd, g, .un .neg x⟩ :: l) ⟨tt, hh, nn⟩ acc' l' st' := Runs.step' ((q_neg hg hx).cast (congrArg (fun n => AV.lit (.int .i64 n)) (by rw [IntWalk.i64_in _ (by omega)]; omega))) h
theorem s_neg {x : Operand} {k : IntKind} {a : Int} (hg : gOK ⟨tt, hh, nn⟩ g) (hx : ev ⟨tt, hh, nn⟩ x = .lit (.int k a)) (h : Runs P (⟨⟨some dd, g, .un .neg x⟩, .lit (.int k (k.wrap (0 - a))), [], [], false⟩ :: acc) l ⟨(dd, .lit (.int k (k.wrap (0 - a)))) :: tt, hh, nn⟩ acc' l' st') : Runs P acc (⟨some dd, g, .un .neg x⟩ :: l) ⟨tt, hh, nn⟩ acc' l' st' := Runs.step' (q_neg hg hx) h
theorem s_conv64 {x : Operand} {k0 : IntKind} {a : Int} (hg : gOK ⟨tt, hh, nn⟩ g) (hx : ev ⟨tt, hh, nn⟩ x = .lit (.int k0 a)) (h1 : -9223372036854775808 ≤ a) (h2 : a ≤ 9223372036854775807) (h : Runs P (⟨⟨some dd, g, .conv .i64 x⟩, .lit (.int .i64 a), [], [], false⟩ :: acc) l ⟨(dd, .lit (.int .i64 a)) :: tt, hh, nn⟩ acc' l' st') : Runs P acc (⟨some dd, g, .conv .i64 x⟩ :: l) ⟨tt, hh, nn⟩ acc' l' st' := Runs.step' ((q_conv hg hx).cast (congrArg (fun n => AV.lit (.int .i64 n)) (IntWalk.i64_in _ ⟨h1, h2⟩))) h
theorem s_conv {x : Operand} {k k0 : IntKind} {a : Int} (hg : gOK ⟨tt, hh, nn⟩ g) (hx : ev ⟨tt, hh, nn⟩ x = .lit (.int k0 a)) (h : Runs P (⟨⟨some dd, g, .conv k x⟩, .lit (.int k (k.wrap a)), [], [], false⟩ :: acc) l ⟨(dd, .lit (.int k (k.wrap a))) :: tt, hh, nn⟩ acc' l' st') : Runs P acc (⟨some dd, g, .conv k x⟩ :: l) ⟨tt, hh, nn⟩ acc' l' st' := Runs.step' (q_conv hg hx) h
theorem s_faddr {x : Operand} {off id i off' : Nat} (hg : gOK ⟨tt, hh, nn⟩ g) (hx : ev ⟨tt, hh, nn⟩ x = .optr id i off') (h : Runs P (⟨⟨some dd, g, .faddr off x⟩, .optr id i (off' + off), [], [], false⟩ :: acc) l ⟨(dd, .optr id i (off' + off)) :: tt, hh, nn⟩ acc' l' st') : Runs P acc (⟨some dd, g, .faddr off x⟩ :: l) ⟨tt, hh, nn⟩ acc' l' st' := Runs.step' (q_faddr hg hx) h
theorem s_faddrE {x : Operand} {off sz i off' : Nat} {es : List (List AV)} (hg : gOK ⟨tt, hh, nn⟩ g) (hx : ev ⟨tt, hh, nn⟩ x = .ep sz es i off') (h : Runs P (⟨⟨some dd, g, .faddr off x⟩, .ep sz es i (off' + off), [], [], false⟩ :: acc) l ⟨(dd, .ep sz es i (off' + off)) :: tt, hh, nn⟩ acc' l' st') : Runs P acc (⟨some dd, g, .faddr off x⟩ :: l) ⟨tt, hh, nn⟩ acc' l' st' := Runs.step' (q_faddrE hg hx) h
theorem cut_one {e : List AV} {off : Nat} {v : AV} (h : e[off]? = some v) : cut e off 1 = some [v] := by
  obtain ⟨h1, h2⟩ := List.getElem?_eq_some_iff.1 h
  have : Nat.ble (off + 1) e.length = true := by rw [Nat.ble_eq]; exact h1
  simp only [cut, this, cond_true]
  rw [List.drop_eq_getElem_cons h1, h2]; rfl

theorem cut_all {e : List AV} {n : Nat} (h : e.length = n) : cut e 0 n = some e := by
  subst h
  have : Nat.ble (0 + e.length) e.length = true := by rw [Nat.ble_eq]; omega
  simp only [cut, this, cond_true, List.drop_zero, List.take_length]

theorem s_load1 {x : Operand} {id i off : Nat} {ob : OB} {e : List AV} {v : AV} (hg : gOK ⟨tt, hh, nn⟩ g) (hx : ev ⟨tt, hh, nn⟩ x = .optr id i off) (ho : hl hh id = some ob) (he : ob.es[i]? = some e) (hv : e[off]? = some v) (h : Runs P (⟨⟨some dd, g, .load false 1 x⟩, v, [id], [], false⟩ :: acc) l ⟨(dd, v) :: tt, hh, nn⟩ acc' l' st') : Runs P acc (⟨some dd, g, .load false 1 x⟩ :: l) ⟨tt, hh, nn⟩ acc' l' st' := Runs.step' (q_load hg hx ho he (cut_one hv) rfl) h
theorem s_loadA {n : Nat} {x : Operand} {id i : Nat} {ob : OB} {e : List AV} (hg : gOK ⟨tt, hh, nn⟩ g) (hx : ev ⟨tt, hh, nn⟩ x = .optr id i 0) (ho : hl hh id = some ob) (he : ob.es[i]? = some e) (hn : e.length = n) (h : Runs P (⟨⟨some dd, g, .load true n x⟩, .agg e, [id], [], false⟩ :: acc) l ⟨(dd, .agg e) :: tt, hh, nn⟩ acc' l' st') : Runs P acc (⟨some dd, g, .load true n x⟩ :: l) ⟨tt, hh, nn⟩ acc' l' st' := Runs.step' (q_load hg hx ho he (cut_all hn) rfl) h
theorem s_loadG {n : Nat} {x : Operand} {id i off : Nat} {ob : OB} {e cs : List AV} (hg : gOK ⟨tt, hh, nn⟩ g) (hx : ev ⟨tt, hh, nn⟩ x = .optr id i off) (ho : hl hh id = some ob) (he : ob.es[i]? = some e) (hc : cut e off n = some cs) (h : Runs P (⟨⟨some dd, g, .load true n x⟩, .agg cs, [id], [], false⟩ :: acc) l ⟨(dd, .agg cs) :: tt, hh, nn⟩ acc' l' st') : Runs P acc (⟨some dd, g, .load true n x⟩ :: l) ⟨tt, hh, nn⟩ acc' l' st' := Runs.step' (q_load hg hx ho he hc rfl) h
theorem s_loadE1 {x : Operand} {sz i off : Nat} {es : List (List AV)} {e : List AV} {v : AV} (hg : gOK ⟨tt, hh, nn⟩ g) (hx : ev ⟨tt, hh, nn⟩ x = .ep sz es i off) (he : es[i]? = some e) (hv : e[off]? = some v) (h : Runs P (⟨⟨some dd, g, .load false 1 x⟩, v, [], [], false⟩ :: acc) l ⟨(dd, v) :: tt, hh, nn⟩ acc' l' st') : Runs P acc (⟨some dd, g, .load false 1 x⟩ :: l) ⟨tt, hh, nn⟩ acc' l' st' := Runs.step' (q_loadE hg hx he (cut_one hv) rfl) h
theorem s_loadEA {n : Nat} {x : Operand} {sz i : Nat} {es : List (List AV)} {e : List AV} (hg : gOK ⟨tt, hh, nn⟩ g) (hx : ev ⟨tt, hh, nn⟩ x = .ep sz es i 0) (he : es[i]? = some e) (hn : e.length = n) (h : Runs P (⟨⟨some dd, g, .load true n x⟩, .agg e, [], [], false⟩ :: acc) l ⟨(dd, .agg e) :: tt, hh, nn⟩ acc' l' st') : Runs P acc (⟨some dd, g, .load true n x⟩ :: l) ⟨tt, hh, nn⟩ acc' l' st' := Runs.step' (q_loadE hg hx he (cut_all hn) rfl) h
theorem s_loadEG {n : Nat} {x : Operand} {sz i off : Nat} {es : List (List AV)} {e cs : List AV} (hg : gOK ⟨tt, hh, nn⟩ g) (hx : ev ⟨tt, hh, nn⟩ x = .ep sz es i off) (he : es[i]? = some e) (hc : cut e off n = some cs) (h : Runs P (⟨⟨some dd, g, .load true n x⟩, .agg cs, [], [], false⟩ :: acc) l ⟨(dd, .agg cs) :: tt, hh, nn⟩ acc' l' st') : Runs P acc (⟨some dd, g, .load true n x⟩ :: l) ⟨tt, hh, nn⟩ acc' l' st' := Runs.step' (q_loadE hg hx he hc rfl) h
theorem s_extract {i : Nat} {x : Operand} {vs : List AV} {v : AV} (hg : gOK ⟨tt, hh, nn⟩ g) (hx : ev ⟨tt, hh, nn⟩ x = .tup vs) (hv : vs[i]? = some v) (h : Runs P (⟨⟨some dd, g, .extract i x⟩, v, [], [], false⟩ :: acc) l ⟨(dd, v) :: tt, hh, nn⟩ acc' l' st') : Runs P acc (⟨some dd, g, .extract i x⟩ :: l) ⟨tt, hh, nn⟩ acc' l' st' := Runs.step' (q_extract hg hx hv) h
theorem s_field1 {off : Nat} {x : Operand} {cs : List AV} {v : AV} (hg : gOK ⟨tt, hh, nn⟩ g) (hx : ev ⟨tt, hh, nn⟩ x = .agg cs) (hv : cs[off]? = some v) (h : Runs P (⟨⟨some dd, g, .field false off 1 x⟩, v, [], [], false⟩ :: acc) l ⟨(dd, v) :: tt, hh, nn⟩ acc' l' st') : Runs P acc (⟨some dd, g, .field false off 1 x⟩ :: l) ⟨tt, hh, nn⟩ acc' l' st' := Runs.step' (q_field hg hx (cut_one hv) rfl) h
theorem s_fieldG {off n : Nat} {x : Operand} {cs cs' : List AV} (hg : gOK ⟨tt, hh, nn⟩ g) (hx : ev ⟨tt, hh, nn⟩ x = .agg cs) (hc : cut cs off n = some cs') (h : Runs P (⟨⟨some dd, g, .field true off n x⟩, .agg cs', [], [], false⟩ :: acc) l ⟨(dd, .agg cs') :: tt, hh, nn⟩ acc' l' st') : Runs P acc (⟨some dd, g, .field true off n x⟩ :: l) ⟨tt, hh, nn⟩ acc' l' st' := Runs.step' (q_field hg hx hc rfl) h
theorem s_len {x : Operand} {sz : Nat} {es : List (List AV)} {n : Int} (hg : gOK ⟨tt, hh, nn⟩ g) (hx : ev ⟨tt, hh, nn⟩ x = .sl sz es) (hn : (es.length : Int) = n) (h : Runs P (⟨⟨some dd, g, .len x⟩, .lit (.int .i64 n), [], [], false⟩ :: acc) l ⟨(dd, .lit (.int .i64 n)) :: tt, hh, nn⟩ acc' l' st') : Runs P acc (⟨some dd, g, .len x⟩ :: l) ⟨tt, hh, nn⟩ acc' l' st' := Runs.step' ((q_len hg hx).cast (by rw [hn])) h
theorem s_lenN {x : Operand} (hg : gOK ⟨tt, hh, nn⟩ g) (hx : ev ⟨tt, hh, nn⟩ x = .lit (.slice none 0 0)) (h : Runs P (⟨⟨some dd, g, .len x⟩, .lit (.int .i64 0), [], [], false⟩ :: acc) l ⟨(dd, .lit (.int .i64 0)) :: tt, hh, nn⟩ acc' l' st') : Runs P acc (⟨some dd, g, .len x⟩ :: l) ⟨tt, hh, nn⟩ acc' l' st' := Runs.step' (q_lenN hg hx) h
theorem s_lenO {x : Operand} {id : Nat} {ob : OB} {n : Int} (hg : gOK ⟨tt, hh, nn⟩ g) (hx : ev ⟨tt, hh, nn⟩ x = .own id) (ho : hl hh id = some ob) (hr : ob.row = true) (hn : (ob.es.length : Int) = n) (h : Runs P (⟨⟨some dd, g, .len x⟩, .lit (.int .i64 n), [id], [], false⟩ :: acc) l ⟨(dd, .lit (.int .i64 n)) :: tt, hh, nn⟩ acc' l' st') : Runs P acc (⟨some dd, g, .len x⟩ :: l) ⟨tt, hh, nn⟩ acc' l' st' := Runs.step' ((q_lenO hg hx ho hr).cast (by rw [hn])) h
theorem s_slen {x : Operand} {s : ByteArray} (hg : gOK ⟨tt, hh, nn⟩ g) (hx : ev ⟨tt, hh, nn⟩ x = .lit (.string s)) (h : Runs P (⟨⟨some dd, g, .slen x⟩, .lit (.int .i64 s.size), [], [], false⟩ :: acc) l ⟨(dd, .lit (.int .i64 s.size)) :: tt, hh, nn⟩ acc' l' st') : Runs P acc (⟨some dd, g, .slen x⟩ :: l) ⟨tt, hh, nn⟩ acc' l' st' := Runs.step' (q_slen hg hx) h
theorem s_iaddr {sz : Nat} {x y : Operand} {es : List (List AV)} {k : IntKind} {z : Int} (hg : gOK ⟨tt, hh, nn⟩ g) (hx : ev ⟨tt, hh, nn⟩ x = .sl sz es) (hy : ev ⟨tt, hh, nn⟩ y = .lit (.int k z)) (h0 : 0 ≤ z) (h1 : z < es.length) (h : Runs P (⟨⟨some dd, g, .iaddr sz x y⟩, .ep sz es z.toNat 0, [], [], false⟩ :: acc) l ⟨(dd, .ep sz es z.toNat 0) :: tt, hh, nn⟩ acc' l' st') : Runs P acc (⟨some dd, g, .iaddr sz x y⟩ :: l) ⟨tt, hh, nn⟩ acc' l' st' := Runs.step' (q_iaddr hg hx hy h0 h1) h
theorem s_iaddrO {sz id : Nat} {x y : Operand} {ob : OB} {k : IntKind} {z : Int} (hg : gOK ⟨tt, hh, nn⟩ g) (hx : ev ⟨tt, hh, nn⟩ x = .own id) (ho : hl hh id = some ob) (hr : ob.row = true) (hs : ob.sz = sz) (hy : ev ⟨tt, hh, nn⟩ y = .lit (.int k z)) (h0 : 0 ≤ z) (h1 : z < ob.es.length) (h : Runs P (⟨⟨some dd, g, .iaddr sz x y⟩, .optr id z.toNat 0, [id], [], false⟩ :: acc) l ⟨(dd, .optr id z.toNat 0) :: tt, hh, nn⟩ acc' l' st') : Runs P acc (⟨some dd, g, .iaddr sz x y⟩ :: l) ⟨tt, hh, nn⟩ acc' l' st' := Runs.step' (q_iaddrO hg hx ho hr hs hy h0 h1) h
theorem s_nilckP {x : Operand} {id i off : Nat} (hg : gOK ⟨tt, hh, nn⟩ g) (hx : ev ⟨tt, hh, nn⟩ x = .optr id i off) (h : Runs P (⟨⟨some dd, g, .nilck x⟩, .optr id i off, [], [], false⟩ :: acc) l ⟨(dd, .optr id i off) :: tt, hh, nn⟩ acc' l' st') : Runs P acc (⟨some dd, g, .nilck x⟩ :: l) ⟨tt, hh, nn⟩ acc' l' st' := Runs.step' (q_nilck hg hx rfl) h
theorem s_nilckE {x : Operand} {sz i off : Nat} {es : List (List AV)} (hg : gOK ⟨tt, hh, nn⟩ g) (hx : ev ⟨tt, hh, nn⟩ x = .ep sz es i off) (h : Runs P (⟨⟨some dd, g, .nilck x⟩, .ep sz es i off, [], [], false⟩ :: acc) l ⟨(dd, .ep sz es i off) :: tt, hh, nn⟩ acc' l' st') : Runs P acc (⟨some dd, g, .nilck x⟩ :: l) ⟨tt, hh, nn⟩ acc' l' st' := Runs.step' (q_nilck hg hx rfl) h
theorem s_nilckF {x : Operand} {f : FuncId} {fi ca : List AV} (hg : gOK ⟨tt, hh, nn⟩ g) (hx : ev ⟨tt, hh, nn⟩ x = .fn f fi ca) (h : Runs P (⟨⟨some dd, g, .nilck x⟩, .fn f fi ca, [], [], false⟩ :: acc) l ⟨(dd, .fn f fi ca) :: tt, hh, nn⟩ acc' l' st') : Runs P acc (⟨some dd, g, .nilck x⟩ :: l) ⟨tt, hh, nn⟩ acc' l' st' := Runs.step' (q_nilck hg hx rfl) h
theorem s_mkfn {f : FuncId} {fi ca : List Operand} (hg : gOK ⟨tt, hh, nn⟩ g)  (h : Runs P (⟨⟨some dd, g, .mkfn f fi ca⟩, .fn f (fi.map (ev ⟨tt, hh, nn⟩)) (ca.map (ev ⟨tt, hh, nn⟩)), [], [], false⟩ :: acc) l ⟨(dd, .fn f (fi.map (ev ⟨tt, hh, nn⟩)) (ca.map (ev ⟨tt, hh, nn⟩))) :: tt, hh, nn⟩ acc' l' st') : Runs P acc (⟨some dd, g, .mkfn f fi ca⟩ :: l) ⟨tt, hh, nn⟩ acc' l' st' := Runs.step' (q_mkfn hg) h
theorem s_call {fo : Operand} {args : List Operand} {f : FuncId} {fi ca avs avs' : List AV} {r : AV} (ro : Bool) (rd : List Nat) (hg : gOK ⟨tt, hh, nn⟩ g) (hf : ev ⟨tt, hh, nn⟩ fo = .fn f fi ca) (hv : optAll (viewN ro (restr rd hh) 4) (fi ++ (args.map (ev ⟨tt, hh, nn⟩) ++ ca)) = some avs) (hc : ACalls P f avs' r) (hs : SubL avs avs') (hro : (ro || scal r) = true) (h : Runs P (⟨⟨some dd, g, .call fo args⟩, r, rd, [], false⟩ :: acc) l ⟨(dd, r) :: tt, hh, nn⟩ acc' l' st') : Runs P acc (⟨some dd, g, .call fo args⟩ :: l) ⟨tt, hh, nn⟩ acc' l' st' := Runs.step' (q_call ro rd hg hf hv hs hc hro) h
theorem s_alloc {e : TypeId} {z : List Value} (hg : gOK ⟨tt, hh, nn⟩ g)  (h : Runs P (⟨⟨some dd, g, .alloc e z⟩, .optr nn 0 0, [], [(nn, some ⟨false, false, e, z.length, [z.map .lit]⟩)], true⟩ :: acc) l ⟨(dd, .optr nn 0 0) :: tt, (nn, some ⟨false, false, e, z.length, [z.map .lit]⟩) :: hh, nn + 1⟩ acc' l' st') : Runs P acc (⟨some dd, g, .alloc e z⟩ :: l) ⟨tt, hh, nn⟩ acc' l' st' := Runs.step' (q_alloc hg) h
theorem s_box {e : TypeId} {n : Nat} {x : Operand} {av : AV} {cs : List AV} (hg : gOK ⟨tt, hh, nn⟩ g) (hx : ev ⟨tt, hh, nn⟩ x = av) (hc : cellsA av = some cs) (hn : cs.length = n) (h : Runs P (⟨⟨some dd, g, .box e n x⟩, .optr nn 0 0, [], [(nn, some ⟨false, false, e, n, [cs]⟩)], true⟩ :: acc) l ⟨(dd, .optr nn 0 0) :: tt, (nn, some ⟨false, false, e, n, [cs]⟩) :: hh, nn + 1⟩ acc' l' st') : Runs P acc (⟨some dd, g, .box e n x⟩ :: l) ⟨tt, hh, nn⟩ acc' l' st' := Runs.step' (q_box hg hx hc hn) h
theorem s_build {z : List Value} {ps : List (Nat × Nat × Operand)} {cs : List AV} (hg : gOK ⟨tt, hh, nn⟩ g) (hf : fillA (z.map .lit) (ps.map fun p => (p.1, p.2.1, ev ⟨tt, hh, nn⟩ p.2.2)) = some cs) (h : Runs P (⟨⟨some dd, g, .build z ps⟩, .agg cs, [], [], false⟩ :: acc) l ⟨(dd, .agg cs) :: tt, hh, nn⟩ acc' l' st') : Runs P acc (⟨some dd, g, .build z ps⟩ :: l) ⟨tt, hh, nn⟩ acc' l' st' := Runs.step' (q_build hg hf) h
theorem s_make {e : TypeId} {sz by_ : Nat} {z : List Value} {lo c : Operand} {kl kc : IntKind} {L M : Int} (hg : gOK ⟨tt, hh, nn⟩ g) (hl' : ev ⟨tt, hh, nn⟩ lo = .lit (.int kl L)) (hc : ev ⟨tt, hh, nn⟩ c = .lit (.int kc M)) (h0 : 0 ≤ L) (h1 : L ≤ M) (hb : (by_ : Int) * M ≤ 281474976710656) (h : Runs P (⟨⟨some dd, g, .make e sz by_ z lo c⟩, .own nn, [], [(nn, some ⟨true, false, e, sz, List.replicate L.toNat (z.map .lit)⟩)], true⟩ :: acc) l ⟨(dd, .own nn) :: tt, (nn, some ⟨true, false, e, sz, List.replicate L.toNat (z.map .lit)⟩) :: hh, nn + 1⟩ acc' l' st') : Runs P acc (⟨some dd, g, .make e sz by_ z lo c⟩ :: l) ⟨tt, hh, nn⟩ acc' l' st' := Runs.step' (q_make hg hl' hc h0 h1 hb) h
theorem s_rowlit {e : TypeId} {sz len : Nat} {z : List Value} {ps : List (Nat × Operand)} {avs cs cs' : List AV} {es : List (List AV)} (rd : List Nat) (hg : gOK ⟨tt, hh, nn⟩ g) (hv : optAll (viewN true (restr rd hh) 4) (ps.map fun p => ev ⟨tt, hh, nn⟩ p.2) = some avs) (hf : fillA (List.replicate len (z.map .lit)).flatten ((ps.zip avs).map fun p => (p.1.1 * sz, sz, p.2)) = some cs) (hp : mapL (fun _ => none) cs = some cs') (he : chunk sz len cs' = es) (h : Runs P (⟨⟨some dd, g, .rowlit e sz len z ps⟩, .own nn, rd, [(nn, some ⟨true, false, e, sz, es⟩)], true⟩ :: acc) l ⟨(dd, .own nn) :: tt, (nn, some ⟨true, false, e, sz, es⟩) :: hh, nn + 1⟩ acc' l' st') : Runs P acc (⟨some dd, g, .rowlit e sz len z ps⟩ :: l) ⟨tt, hh, nn⟩ acc' l' st' := Runs.step' (he ▸ q_rowlit rd hg hv hf hp) h
theorem s_append {e : TypeId} {sz by_ id : Nat} {z : List Value} {s x : Operand} {ob : OB} {av : AV} {news : List (List AV)} (rd : List Nat) (hg : gOK ⟨tt, hh, nn⟩ g) (hs : ev ⟨tt, hh, nn⟩ s = .own id) (ho : hl hh id = some ob) (hr : ob.row = true) (hro : ob.ro = false) (hsz : ob.sz = sz) (he : ob.e = e) (hx : ev ⟨tt, hh, nn⟩ x = av) (hn : srcA (restr rd hh) sz av = some news) (hb : (ob.es.length + news.length) * by_ ≤ 140737488355328) (h : Runs P (⟨⟨some dd, g, .append e sz by_ z s x⟩, .own nn, rd, [(nn, some ⟨true, false, e, sz, ob.es ++ news⟩), (id, none)], true⟩ :: acc) l ⟨(dd, .own nn) :: tt, (nn, some ⟨true, false, e, sz, ob.es ++ news⟩) :: (id, none) :: hh, nn + 1⟩ acc' l' st') : Runs P acc (⟨some dd, g, .append e sz by_ z s x⟩ :: l) ⟨tt, hh, nn⟩ acc' l' st' := Runs.step' (q_append rd hg hs ho hr hro hsz he hx hn hb) h
theorem s_appendN {e : TypeId} {sz by_ : Nat} {z : List Value} {s x : Operand} {av : AV} {news : List (List AV)} (rd : List Nat) (hg : gOK ⟨tt, hh, nn⟩ g) (hs : ev ⟨tt, hh, nn⟩ s = .lit (.slice none 0 0)) (hx : ev ⟨tt, hh, nn⟩ x = av) (hn : srcA (restr rd hh) sz av = some news) (hb : news.length * by_ ≤ 140737488355328) (h : Runs P (⟨⟨some dd, g, .append e sz by_ z s x⟩, .own nn, rd, [(nn, some ⟨true, false, e, sz, news⟩)], true⟩ :: acc) l ⟨(dd, .own nn) :: tt, (nn, some ⟨true, false, e, sz, news⟩) :: hh, nn + 1⟩ acc' l' st') : Runs P acc (⟨some dd, g, .append e sz by_ z s x⟩ :: l) ⟨tt, hh, nn⟩ acc' l' st' := Runs.step' (q_appendN rd hg hs hx hn hb) h
theorem s_storeB {n id off : Nat} {p x : Operand} {ob : OB} {av : AV} {e cs e' : List AV} (hg : gOK ⟨tt, hh, nn⟩ g) (hp : ev ⟨tt, hh, nn⟩ p = .optr id 0 off) (ho : hl hh id = some ob) (hrow : ob.row = false) (hro : ob.ro = false) (he : ob.es = [e]) (hx : ev ⟨tt, hh, nn⟩ x = av) (hc : cellsA av = some cs) (hn : cs.length = n) (hle : Nat.ble (off + n) e.length = true) (he' : e.take off ++ (cs ++ e.drop (off + n)) = e') (h : Runs P (⟨⟨none, g, .store n p x⟩, .any, [], [(id, some { ob with es := [e'] })], false⟩ :: acc) l ⟨tt, (id, some { ob with es := [e'] }) :: hh, nn⟩ acc' l' st') : Runs P acc (⟨none, g, .store n p x⟩ :: l) ⟨tt, hh, nn⟩ acc' l' st' := Runs.step' (he' ▸ q_storeB hg hp ho hrow hro he hx hc hn hle) h
theorem s_storeR {n id i off : Nat} {p x : Operand} {ob : OB} {av av' : AV} {e cs cs' : List AV} (rd : List Nat) (hg : gOK ⟨tt, hh, nn⟩ g) (hp : ev ⟨tt, hh, nn⟩ p = .optr id i off) (ho : hl hh id = some ob) (hrow : ob.row = true) (hro : ob.ro = false) (he : ob.es[i]? = some e) (hx : ev ⟨tt, hh, nn⟩ x = av) (hv : viewN true (restr rd hh) 4 av = some av') (hc : cellsA av' = some cs) (hpu : mapL (fun _ => none) cs = some cs') (hn : cs.length = n) (hle : Nat.ble (off + n) e.length = true) (h : Runs P (⟨⟨none, g, .store n p x⟩, .any, rd, [(id, some { ob with es := ob.es.set i (e.take off ++ (cs' ++ e.drop (off + n))) })], false⟩ :: acc) l ⟨tt, (id, some { ob with es := ob.es.set i (e.take off ++ (cs' ++ e.drop (off + n))) }) :: hh, nn⟩ acc' l' st') : Runs P acc (⟨none, g, .store n p x⟩ :: l) ⟨tt, hh, nn⟩ acc' l' st' := Runs.step' (q_storeR rd hg hp ho hrow hro he hx hv hc hpu hn hle) h
end

/-- as far as it goes -/
theorem rrun {P : Program} {acc : List SD} {l : List AInst} {st : St} {acc' : List SD} {l' : List AInst} {st' : St} {K : List SD → St → Prop} (h : RG P acc' l' st' K) (hR : Runs P acc l st acc' l' st' := by
  ((repeat (first
    | apply s_movL (by first | exact True.intro | rfl) (by exact rfl)
    | apply s_movS (by first | exact True.intro | rfl) (by exact rfl)
    | apply s_movA (by first | exact True.intro | rfl) (by exact rfl)
    | apply s_movO (by first | exact True.intro | rfl) (by exact rfl)
    | apply s_movP (by first | exact True.intro | rfl) (by exact rfl)
    | apply s_movE (by first | exact True.intro | rfl) (by exact rfl)
    | apply s_movT (by first | exact True.intro | rfl) (by exact rfl)
    | apply s_movF (by first | exact True.intro | rfl) (by exact rfl)
    | apply s_movX (by first | exact True.intro | rfl) (by exact rfl)
    | apply s_no (by exact rfl)
    | apply s_noN (by exact rfl)
    | apply s_add64 (by first | exact True.intro | rfl) (by exact rfl) (by exact rfl) (by omega) (by omega)
    | apply s_sub64 (by first | exact True.intro | rfl) (by exact rfl) (by exact rfl) (by omega) (by omega)
    | apply s_ltT (by first | exact True.intro | rfl) (by exact rfl) (by exact rfl) (by omega)
    | apply s_ltF (by first | exact True.intro | rfl) (by exact rfl) (by exact rfl) (by omega)
    | apply s_leT (by first | exact True.intro | rfl) (by exact rfl) (by exact rfl) (by omega)
    | apply s_leF (by first | exact True.intro | rfl) (by exact rfl) (by exact rfl) (by omega)
    | apply s_gtT (by first | exact True.intro | rfl) (by exact rfl) (by exact rfl) (by omega)
    | apply s_gtF (by first | exact True.intro | rfl) (by exact rfl) (by exact rfl) (by omega)
    | apply s_geT (by first | exact True.intro | rfl) (by exact rfl) (by exact rfl) (by omega)
    | apply s_geF (by first | exact True.intro | rfl) (by exact rfl) (by exact rfl) (by omega)
    | apply s_eqT (by first | exact True.intro | rfl) (by exact rfl) (by exact rfl) (by omega)
    | apply s_eqF (by first | exact True.intro | rfl) (by exact rfl) (by exact rfl) (by omega)
    | apply s_neT (by first | exact True.intro | rfl) (by exact rfl) (by exact rfl) (by omega)
    | apply s_neF (by first | exact True.intro | rfl) (by exact rfl) (by exact rfl) (by omega)
    | apply s_int (by first | exact True.intro | rfl) (by exact rfl) (by exact rfl) (by exact rfl)
    | apply s_div (by first | exact True.intro | rfl) (by exact rfl) (by exact rfl) (by omega)
    | apply s_rem (by first | exact True.intro | rfl) (by exact rfl) (by exact rfl) (by omega)
    | apply s_bool (by first | exact True.intro | rfl) (by exact rfl) (by exact rfl) (by exact rfl)
    | apply s_notT (by first | exact True.intro | rfl) (by exact rfl)
    | apply s_notF (by first | exact True.intro | rfl) (by exact rfl)
    | apply s_not (by first | exact True.intro | rfl) (by exact rfl)
    | apply s_pickTL (by first | exact True.intro | rfl) (by exact rfl) (by exact rfl)
    | apply s_pickFL (by first | exact True.intro | rfl) (by exact rfl) (by exact rfl)
    | apply s_pickTS (by first | exact True.intro | rfl) (by exact rfl) (by exact rfl)
    | apply s_pickFS (by first | exact True.intro | rfl) (by exact rfl) (by exact rfl)
    | apply s_pickTA (by first | exact True.intro | rfl) (by exact rfl) (by exact rfl)
    | apply s_pickFA (by first | exact True.intro | rfl) (by exact rfl) (by exact rfl)
    | apply s_pickTO (by first | exact True.intro | rfl) (by exact rfl) (by exact rfl)
    | apply s_pickFO (by first | exact True.intro | rfl) (by exact rfl) (by exact rfl)
    | apply s_pickTP (by first | exact True.intro | rfl) (by exact rfl) (by exact rfl)
    | apply s_pickFP (by first | exact True.intro | rfl) (by exact rfl) (by exact rfl)
    | apply s_pickTE (by first | exact True.intro | rfl) (by exact rfl) (by exact rfl)
    | apply s_pickFE (by first | exact True.intro | rfl) (by exact rfl) (by exact rfl)
    | apply s_pickTT (by first | exact True.intro | rfl) (by exact rfl) (by exact rfl)
    | apply s_pickFT (by first | exact True.intro | rfl) (by exact rfl) (by exact rfl)
    | apply s_pickTF (by first | exact True.intro | rfl) (by exact rfl) (by exact rfl)
    | apply s_pickFF (by first | exact True.intro | rfl) (by exact rfl) (by exact rfl)
    | apply s_pickTX (by first | exact True.intro | rfl) (by exact rfl) (by exact rfl)
    | apply s_pickFX (by first | exact True.intro | rfl) (by exact rfl) (by exact rfl)
    | apply s_pickB (by first | exact True.intro | rfl) (by exact rfl) (by exact rfl) (by exact rfl)
    | apply s_conv64 (by first | exact True.intro | rfl) (by exact rfl) (by omega) (by omega)
    | apply s_conv (by first | exact True.intro | rfl) (by exact rfl)
    | apply s_faddr (by first | exact True.intro | rfl) (by exact rfl)
    | apply s_faddrE (by first | exact True.intro | rfl) (by exact rfl)
    | apply s_load1 (by first | exact True.intro | rfl) (by exact rfl) (by exact rfl) (by exact rfl) (by exact rfl)
    | apply s_loadA (by first | exact True.intro | rfl) (by exact rfl) (by exact rfl) (by exact rfl) (by exact rfl)
    | apply s_loadG (by first | exact True.intro | rfl) (by exact rfl) (by exact rfl) (by exact rfl) (by exact rfl)
    | apply s_loadE1 (by first | exact True.intro | rfl) (by exact rfl) (by first | assumption | rfl) (by exact rfl)
    | apply s_loadEA (by first | exact True.intro | rfl) (by exact rfl) (by first | assumption | rfl) (by exact rfl)
    | apply s_loadEG (by first | exact True.intro | rfl) (by exact rfl) (by first | assumption | rfl) (by exact rfl)
    | apply s_extract (by first | exact True.intro | rfl) (by exact rfl) (by exact rfl)
    | apply s_field1 (by first | exact True.intro | rfl) (by exact rfl) (by exact rfl)
    | apply s_fieldG (by first | exact True.intro | rfl) (by exact rfl) (by exact rfl)
    | apply s_len (by first | exact True.intro | rfl) (by exact rfl) (by first | assumption | rfl)
    | apply s_lenN (by first | exact True.intro | rfl) (by exact rfl)
    | apply s_lenO (by first | exact True.intro | rfl) (by exact rfl) (by exact rfl) (by exact rfl) (by first | assumption | rfl)
    | apply s_slen (by first | exact True.intro | rfl) (by exact rfl)
    | apply s_iaddr (by first | exact True.intro | rfl) (by exact rfl) (by exact rfl) (by omega) (by first | omega | assumption)
    | apply s_iaddrO (by first | exact True.intro | rfl) (by exact rfl) (by exact rfl) (by exact rfl) (by exact rfl) (by exact rfl) (by omega) (by first | omega | (dsimp only; omega))
    | apply s_nilckP (by first | exact True.intro | rfl) (by exact rfl)
    | apply s_nilckE (by first | exact True.intro | rfl) (by exact rfl)
    | apply s_nilckF (by first | exact True.intro | rfl) (by exact rfl)
    | apply s_mkfn (by first | exact True.intro | rfl)
    | apply s_alloc (by first | exact True.intro | rfl)
    | apply s_box (by first | exact True.intro | rfl) (by exact rfl) (by exact rfl) (by exact rfl)
    | apply s_build (by first | exact True.intro | rfl) (by exact rfl)
    | apply s_storeB (by first | exact True.intro | rfl) (by exact rfl) (by exact rfl) (by exact rfl) (by exact rfl) (by exact rfl) (by exact rfl) (by exact rfl) (by exact rfl) (by exact rfl) (by exact rfl))); exact Runs.refl _ _ _)) : RG P acc l st K := rg_runs hR h

/-- a whole region, without calls -/
theorem aw_R {P : Program} {C : Ctx} {Q : Exit → St → Prop} {st : St} {d : Bool} {l : List AInst} {free : List (Nat × Nat)} {acc : List SD} {st' : St} (hQ : Q .normal st') (hR : Runs P [] l st acc [] st' := by
  ((repeat (first
    | apply s_movL (by first | exact True.intro | rfl) (by exact rfl)
    | apply s_movS (by first | exact True.intro | rfl) (by exact rfl)
    | apply s_movA (by first | exact True.intro | rfl) (by exact rfl)
    | apply s_movO (by first | exact True.intro | rfl) (by exact rfl)
    | apply s_movP (by first | exact True.intro | rfl) (by exact rfl)
    | apply s_movE (by first | exact True.intro | rfl) (by exact rfl)
    | apply s_movT (by first | exact True.intro | rfl) (by exact rfl)
    | apply s_movF (by first | exact True.intro | rfl) (by exact rfl)
    | apply s_movX (by first | exact True.intro | rfl) (by exact rfl)
    | apply s_no (by exact rfl)
    | apply s_noN (by exact rfl)
    | apply s_add64 (by first | exact True.intro | rfl) (by exact rfl) (by exact rfl) (by omega) (by omega)
    | apply s_sub64 (by first | exact True.intro | rfl) (by exact rfl) (by exact rfl) (by omega) (by omega)
    | apply s_ltT (by first | exact True.intro | rfl) (by exact rfl) (by exact rfl) (by omega)
    | apply s_ltF (by first | exact True.intro | rfl) (by exact rfl) (by exact rfl) (by omega)
    | apply s_leT (by first | exact True.intro | rfl) (by exact rfl) (by exact rfl) (by omega)
    | apply s_leF (by first | exact True.intro | rfl) (by exact rfl) (by exact rfl) (by omega)
    | apply s_gtT (by first | exact True.intro | rfl) (by exact rfl) (by exact rfl) (by omega)
    | apply s_gtF (by first | exact True.intro | rfl) (by exact rfl) (by exact rfl) (by omega)
    | apply s_geT (by first | exact True.intro | rfl) (by exact rfl) (by exact rfl) (by omega)
    | apply s_geF (by first | exact True.intro | rfl) (by exact rfl) (by exact rfl) (by omega)
    | apply s_eqT (by first | exact True.intro | rfl) (by exact rfl) (by exact rfl) (by omega)
    | apply s_eqF (by first | exact True.intro | rfl) (by exact rfl) (by exact rfl) (by omega)
    | apply s_neT (by first | exact True.intro | rfl) (by exact rfl) (by exact rfl) (by omega)
    | apply s_neF (by first | exact True.intro | rfl) (by exact rfl) (by exact rfl) (by omega)
    | apply s_int (by first | exact True.intro | rfl) (by exact rfl) (by exact rfl) (by exact rfl)
    | apply s_div (by first | exact True.intro | rfl) (by exact rfl) (by exact rfl) (by omega)
    | apply s_rem (by first | exact True.intro | rfl) (by exact rfl) (by exact rfl) (by omega)
    | apply s_bool (by first | exact True.intro | rfl) (by exact rfl) (by exact rfl) (by exact rfl)
    | apply s_notT (by first | exact True.intro | rfl) (by exact rfl)
    | apply s_notF (by first | exact True.intro | rfl) (by exact rfl)
    | apply s_not (by first | exact True.intro | rfl) (by exact rfl)
    | apply s_pickTL (by first | exact True.intro | rfl) (by exact rfl) (by exact rfl)
    | apply s_pickFL (by first | exact True.intro | rfl) (by exact rfl) (by exact rfl)
    | apply s_pickTS (by first | exact True.intro | rfl) (by exact rfl) (by exact rfl)
    | apply s_pickFS (by first | exact True.intro | rfl) (by exact rfl) (by exact rfl)
    | apply s_pickTA (by first | exact True.intro | rfl) (by exact rfl) (by exact rfl)
    | apply s_pickFA (by first | exact True.intro | rfl) (by exact rfl) (by exact rfl)
    | apply s_pickTO (by first | exact True.intro | rfl) (by exact rfl) (by exact rfl)
    | apply s_pickFO (by first | exact True.intro | rfl) (by exact rfl) (by exact rfl)
    | apply s_pickTP (by first | exact True.intro | rfl) (by exact rfl) (by exact rfl)
    | apply s_pickFP (by first | exact True.intro | rfl) (by exact rfl) (by exact rfl)
    | apply s_pickTE (by first | exact True.intro | rfl) (by exact rfl) (by exact rfl)
    | apply s_pickFE (by first | exact True.intro | rfl) (by exact rfl) (by exact rfl)
    | apply s_pickTT (by first | exact True.intro | rfl) (by exact rfl) (by exact rfl)
    | apply s_pickFT (by first | exact True.intro | rfl) (by exact rfl) (by exact rfl)
    | apply s_pickTF (by first | exact True.intro | rfl) (by exact rfl) (by exact rfl)
    | apply s_pickFF (by first | exact True.intro | rfl) (by exact rfl) (by exact rfl)
    | apply s_pickTX (by first | exact True.intro | rfl) (by exact rfl) (by exact rfl)
    | apply s_pickFX (by first | exact True.intro | rfl) (by exact rfl) (by exact rfl)
    | apply s_pickB (by first | exact True.intro | rfl) (by exact rfl) (by exact rfl) (by exact rfl)
    | apply s_conv64 (by first | exact True.intro | rfl) (by exact rfl) (by omega) (by omega)
    | apply s_conv (by first | exact True.intro | rfl) (by exact rfl)
    | apply s_faddr (by first | exact True.intro | rfl) (by exact rfl)
    | apply s_faddrE (by first | exact True.intro | rfl) (by exact rfl)
    | apply s_load1 (by first | exact True.intro | rfl) (by exact rfl) (by exact rfl) (by exact rfl) (by exact rfl)
    | apply s_loadA (by first | exact True.intro | rfl) (by exact rfl) (by exact rfl) (by exact rfl) (by exact rfl)
    | apply s_loadG (by first | exact True.intro | rfl) (by exact rfl) (by exact rfl) (by exact rfl) (by exact rfl)
    | apply s_loadE1 (by first | exact True.intro | rfl) (by exact rfl) (by first | assumption | rfl) (by exact rfl)
    | apply s_loadEA (by first | exact True.intro | rfl) (by exact rfl) (by first | assumption | rfl) (by exact rfl)
    | apply s_loadEG (by first | exact True.intro | rfl) (by exact rfl) (by first | assumption | rfl) (by exact rfl)
    | apply s_extract (by first | exact True.intro | rfl) (by exact rfl) (by exact rfl)
    | apply s_field1 (by first | exact True.intro | rfl) (by exact rfl) (by exact rfl)
    | apply s_fieldG (by first | exact True.intro | rfl) (by exact rfl) (by exact rfl)
    | apply s_len (by first | exact True.intro | rfl) (by exact rfl) (by first | assumption | rfl)
    | apply s_lenN (by first | exact True.intro | rfl) (by exact rfl)
    | apply s_lenO (by first | exact True.intro | rfl) (by exact rfl) (by exact rfl) (by exact rfl) (by first | assumption | rfl)
    | apply s_slen (by first | exact True.intro | rfl) (by exact rfl)
    | apply s_iaddr (by first | exact True.intro | rfl) (by exact rfl) (by exact rfl) (by omega) (by first | omega | assumption)
    | apply s_iaddrO (by first | exact True.intro | rfl) (by exact rfl) (by exact rfl) (by exact rfl) (by exact rfl) (by exact rfl) (by omega) (by first | omega | (dsimp only; omega))
    | apply s_nilckP (by first | exact True.intro | rfl) (by exact rfl)
    | apply s_nilckE (by first | exact True.intro | rfl) (by exact rfl)
    | apply s_nilckF (by first | exact True.intro | rfl) (by exact rfl)
    | apply s_mkfn (by first | exact True.intro | rfl)
    | apply s_alloc (by first | exact True.intro | rfl)
    | apply s_box (by first | exact True.intro | rfl) (by exact rfl) (by exact rfl) (by exact rfl)
    | apply s_build (by first | exact True.intro | rfl) (by exact rfl)
    | apply s_storeB (by first | exact True.intro | rfl) (by exact rfl) (by exact rfl) (by exact rfl) (by exact rfl) (by exact rfl) (by exact rfl) (by exact rfl) (by exact rfl) (by exact rfl) (by exact rfl))); exact Runs.refl _ _ _)) (hi : (bif d then indepOK acc.reverse free else true) = true := by rfl) : AW P C (.ops d l free) Q st := aw_reg (rg_runs hR (rg_nil ⟨hi, hQ⟩))

/-- what is still to be shown -/
structure Left (p : Prop) : Prop where
  out : p

/-- all that needs no hint -/
theorem walk {P : Program} {C : Ctx} {Q : Exit → St → Prop} {st : St} {c : ACode} {G : Prop} (hG : G) (h : Left G → AW P C c Q st := by
  (intro hG; repeat (first | refine aw_seq ?_ | refine aw_block ?_ | refine aw_skip ?_ | refine aw_exit ?_ | refine aw_ret ?_ | refine aw_cond_t rfl ?_ | refine aw_cond_f rfl ?_ | refine aw_R ?_)
   exact hG.out)) : AW P C c Q st := h ⟨hG⟩

section
variable {P : Program} {tt : List (Nat × AV)} {hh : Hp} {nn dd : Nat} {g : Option (Nat × Bool)} {l : List AInst} {acc : List SD} {K : List SD → St → Prop}

theorem r_callX {fo : Operand} {args : List Operand} {f : FuncId} {fi ca avs avs' : List AV} {r : AV} (ro : Bool) (rd : List Nat) (hc : ACalls P f avs' r) (h : RG P (⟨⟨some dd, g, .call fo args⟩, r, rd, [], false⟩ :: acc) l ⟨(dd, r) :: tt, hh, nn⟩ K) (hg : gOK ⟨tt, hh, nn⟩ g := by first | exact True.intro | rfl) (hf : ev ⟨tt, hh, nn⟩ fo = .fn f fi ca := by rfl) (hv : optAll (viewN ro (restr (rd) hh) 4) (fi ++ (args.map (ev ⟨tt, hh, nn⟩) ++ ca)) = some avs := by rfl) (hs : SubL avs avs' := by (repeat (first | exact SubL.nil | refine SubL.cons (by first | exact Sub.refl _ | exact Sub.nil _ | exact Sub.any _ | (refine Sub.agg ?_; repeat (first | exact SubL.nil | refine SubL.cons (by first | exact Sub.refl _ | exact Sub.nil _) ?_))) ?_))) (hro : (ro || scal r) = true := by rfl) : RG P acc (⟨some dd, g, .call fo args⟩ :: l) ⟨tt, hh, nn⟩ K := RG.step (q_call ro rd hg hf hv hs hc hro) h
theorem r_call {fo : Operand} {args : List Operand} {f : FuncId} {fi ca avs avs' : List AV} {r : AV}   (hc : ACalls P f avs' r) (h : RG P (⟨⟨some dd, g, .call fo args⟩, r, [], [], false⟩ :: acc) l ⟨(dd, r) :: tt, hh, nn⟩ K) (hg : gOK ⟨tt, hh, nn⟩ g := by first | exact True.intro | rfl) (hf : ev ⟨tt, hh, nn⟩ fo = .fn f fi ca := by rfl) (hv : optAll (viewN true (restr ([]) hh) 4) (fi ++ (args.map (ev ⟨tt, hh, nn⟩) ++ ca)) = some avs := by rfl) (hs : SubL avs avs' := by (repeat (first | exact SubL.nil | refine SubL.cons (by first | exact Sub.refl _ | exact Sub.nil _ | exact Sub.any _ | (refine Sub.agg ?_; repeat (first | exact SubL.nil | refine SubL.cons (by first | exact Sub.refl _ | exact Sub.nil _) ?_))) ?_))) (hro : (true || scal r) = true := by rfl) : RG P acc (⟨some dd, g, .call fo args⟩ :: l) ⟨tt, hh, nn⟩ K := RG.step (q_call true [] hg hf hv hs hc hro) h
theorem r_rowlitX {e : TypeId} {sz len : Nat} {z : List Value} {ps : List (Nat × Operand)} {avs cs cs' : List AV} {es : List (List AV)} (rd : List Nat)  (h : RG P (⟨⟨some dd, g, .rowlit e sz len z ps⟩, .own nn, rd, [(nn, some ⟨true, false, e, sz, es⟩)], true⟩ :: acc) l ⟨(dd, .own nn) :: tt, (nn, some ⟨true, false, e, sz, es⟩) :: hh, nn + 1⟩ K) (hg : gOK ⟨tt, hh, nn⟩ g := by first | exact True.intro | rfl) (hv : optAll (viewN true (restr rd hh) 4) (ps.map fun p => ev ⟨tt, hh, nn⟩ p.2) = some avs := by rfl) (hf : fillA (List.replicate len (z.map .lit)).flatten ((ps.zip avs).map fun p => (p.1.1 * sz, sz, p.2)) = some cs := by rfl) (hp : mapL (fun _ => none) cs = some cs' := by rfl) (he : chunk sz len cs' = es := by rfl) : RG P acc (⟨some dd, g, .rowlit e sz len z ps⟩ :: l) ⟨tt, hh, nn⟩ K := RG.step (he ▸ q_rowlit rd hg hv hf hp) h
theorem r_rowlit {e : TypeId} {sz len : Nat} {z : List Value} {ps : List (Nat × Operand)} {avs cs cs' : List AV} {es : List (List AV)}   (h : RG P (⟨⟨some dd, g, .rowlit e sz len z ps⟩, .own nn, [], [(nn, some ⟨true, false, e, sz, es⟩)], true⟩ :: acc) l ⟨(dd, .own nn) :: tt, (nn, some ⟨true, false, e, sz, es⟩) :: hh, nn + 1⟩ K) (hg : gOK ⟨tt, hh, nn⟩ g := by first | exact True.intro | rfl) (hv : optAll (viewN true (restr [] hh) 4) (ps.map fun p => ev ⟨tt, hh, nn⟩ p.2) = some avs := by rfl) (hf : fillA (List.replicate len (z.map .lit)).flatten ((ps.zip avs).map fun p => (p.1.1 * sz, sz, p.2)) = some cs := by rfl) (hp : mapL (fun _ => none) cs = some cs' := by rfl) (he : chunk sz len cs' = es := by rfl) : RG P acc (⟨some dd, g, .rowlit e sz len z ps⟩ :: l) ⟨tt, hh, nn⟩ K := RG.step (he ▸ q_rowlit [] hg hv hf hp) h
theorem r_appendX {e : TypeId} {sz by_ id : Nat} {z : List Value} {s x : Operand} {ob : OB} {av : AV} {news : List (List AV)} (rd : List Nat) (hb : (ob.es.length + news.length) * by_ ≤ 140737488355328) (h : RG P (⟨⟨some dd, g, .append e sz by_ z s x⟩, .own nn, rd, [(nn, some ⟨true, false, e, sz, ob.es ++ news⟩), (id, none)], true⟩ :: acc) l ⟨(dd, .own nn) :: tt, (nn, some ⟨true, false, e, sz, ob.es ++ news⟩) :: (id, none) :: hh, nn + 1⟩ K) (hg : gOK ⟨tt, hh, nn⟩ g := by first | exact True.intro | rfl) (hs : ev ⟨tt, hh, nn⟩ s = .own id := by rfl) (ho : hl hh id = some ob := by rfl) (hr : ob.row = true := by rfl) (hro : ob.ro = false := by rfl) (hsz : ob.sz = sz := by rfl) (he : ob.e = e := by rfl) (hx : ev ⟨tt, hh, nn⟩ x = av := by rfl) (hn : srcA (restr rd hh) sz av = some news := by rfl) : RG P acc (⟨some dd, g, .append e sz by_ z s x⟩ :: l) ⟨tt, hh, nn⟩ K := RG.step (q_append rd hg hs ho hr hro hsz he hx hn hb) h
theorem r_append {e : TypeId} {sz by_ id : Nat} {z : List Value} {s x : Operand} {ob : OB} {av : AV} {news : List (List AV)}  (hb : (ob.es.length + news.length) * by_ ≤ 140737488355328) (h : RG P (⟨⟨some dd, g, .append e sz by_ z s x⟩, .own nn, [], [(nn, some ⟨true, false, e, sz, ob.es ++ news⟩), (id, none)], true⟩ :: acc) l ⟨(dd, .own nn) :: tt, (nn, some ⟨true, false, e, sz, ob.es ++ news⟩) :: (id, none) :: hh, nn + 1⟩ K) (hg : gOK ⟨tt, hh, nn⟩ g := by first | exact True.intro | rfl) (hs : ev ⟨tt, hh, nn⟩ s = .own id := by rfl) (ho : hl hh id = some ob := by rfl) (hr : ob.row = true := by rfl) (hro : ob.ro = false := by rfl) (hsz : ob.sz = sz := by rfl) (he : ob.e = e := by rfl) (hx : ev ⟨tt, hh, nn⟩ x = av := by rfl) (hn : srcA (restr [] hh) sz av = some news := by rfl) : RG P acc (⟨some dd, g, .append e sz by_ z s x⟩ :: l) ⟨tt, hh, nn⟩ K := RG.step (q_append [] hg hs ho hr hro hsz he hx hn hb) h
theorem r_appendNX {e : TypeId} {sz by_ : Nat} {z : List Value} {s x : Operand} {av : AV} {news : List (List AV)} (rd : List Nat) (hb : news.length * by_ ≤ 140737488355328) (h : RG P (⟨⟨some dd, g, .append e sz by_ z s x⟩, .own nn, rd, [(nn, some ⟨true, false, e, sz, news⟩)], true⟩ :: acc) l ⟨(dd, .own nn) :: tt, (nn, some ⟨true, false, e, sz, news⟩) :: hh, nn + 1⟩ K) (hg : gOK ⟨tt, hh, nn⟩ g := by first | exact True.intro | rfl) (hs : ev ⟨tt, hh, nn⟩ s = .lit (.slice none 0 0) := by rfl) (hx : ev ⟨tt, hh, nn⟩ x = av := by rfl) (hn : srcA (restr rd hh) sz av = some news := by rfl) : RG P acc (⟨some dd, g, .append e sz by_ z s x⟩ :: l) ⟨tt, hh, nn⟩ K := RG.step (q_appendN rd hg hs hx hn hb) h
theorem r_appendN {e : TypeId} {sz by_ : Nat} {z : List Value} {s x : Operand} {av : AV} {news : List (List AV)}  (hb : news.length * by_ ≤ 140737488355328) (h : RG P (⟨⟨some dd, g, .append e sz by_ z s x⟩, .own nn, [], [(nn, some ⟨true, false, e, sz, news⟩)], true⟩ :: acc) l ⟨(dd, .own nn) :: tt, (nn, some ⟨true, false, e, sz, news⟩) :: hh, nn + 1⟩ K) (hg : gOK ⟨tt, hh, nn⟩ g := by first | exact True.intro | rfl) (hs : ev ⟨tt, hh, nn⟩ s = .lit (.slice none 0 0) := by rfl) (hx : ev ⟨tt, hh, nn⟩ x = av := by rfl) (hn : srcA (restr [] hh) sz av = some news := by rfl) : RG P acc (⟨some dd, g, .append e sz by_ z s x⟩ :: l) ⟨tt, hh, nn⟩ K := RG.step (q_appendN [] hg hs hx hn hb) h
theorem r_make {e : TypeId} {sz by_ : Nat} {z : List Value} {lo c : Operand} {kl kc : IntKind} {L M : Int} (h0 : 0 ≤ L) (h1 : L ≤ M) (hb : (by_ : Int) * M ≤ 281474976710656) (h : RG P (⟨⟨some dd, g, .make e sz by_ z lo c⟩, .own nn, [], [(nn, some ⟨true, false, e, sz, List.replicate L.toNat (z.map .lit)⟩)], true⟩ :: acc) l ⟨(dd, .own nn) :: tt, (nn, some ⟨true, false, e, sz, List.replicate L.toNat (z.map .lit)⟩) :: hh, nn + 1⟩ K) (hg : gOK ⟨tt, hh, nn⟩ g := by first | exact True.intro | rfl) (hl' : ev ⟨tt, hh, nn⟩ lo = .lit (.int kl L) := by rfl) (hc : ev ⟨tt, hh, nn⟩ c = .lit (.int kc M) := by rfl) : RG P acc (⟨some dd, g, .make e sz by_ z lo c⟩ :: l) ⟨tt, hh, nn⟩ K := RG.step (q_make hg hl' hc h0 h1 hb) h
theorem r_storeRX {n id i off : Nat} {p x : Operand} {ob : OB} {av av' : AV} {e cs cs' : List AV} (rd : List Nat)  (h : RG P (⟨⟨none, g, .store n p x⟩, .any, rd, [(id, some { ob with es := ob.es.set i (e.take off ++ (cs' ++ e.drop (off + n))) })], false⟩ :: acc) l ⟨tt, (id, some { ob with es := ob.es.set i (e.take off ++ (cs' ++ e.drop (off + n))) }) :: hh, nn⟩ K) (hg : gOK ⟨tt, hh, nn⟩ g := by first | exact True.intro | rfl) (hp : ev ⟨tt, hh, nn⟩ p = .optr id i off := by rfl) (ho : hl hh id = some ob := by rfl) (hrow : ob.row = true := by rfl) (hro : ob.ro = false := by rfl) (he : ob.es[i]? = some e := by first | assumption | rfl) (hx : ev ⟨tt, hh, nn⟩ x = av := by rfl) (hv : viewN true (restr rd hh) 4 av = some av' := by rfl) (hc : cellsA av' = some cs := by rfl) (hpu : mapL (fun _ => none) cs = some cs' := by rfl) (hn : cs.length = n := by rfl) (hle : Nat.ble (off + n) e.length = true := by rfl) : RG P acc (⟨none, g, .store n p x⟩ :: l) ⟨tt, hh, nn⟩ K := RG.step (q_storeR rd hg hp ho hrow hro he hx hv hc hpu hn hle) h
theorem r_storeR {n id i off : Nat} {p x : Operand} {ob : OB} {av av' : AV} {e cs cs' : List AV}   (h : RG P (⟨⟨none, g, .store n p x⟩, .any, [], [(id, some { ob with es := ob.es.set i (e.take off ++ (cs' ++ e.drop (off + n))) })], false⟩ :: acc) l ⟨tt, (id, some { ob with es := ob.es.set i (e.take off ++ (cs' ++ e.drop (off + n))) }) :: hh, nn⟩ K) (hg : gOK ⟨tt, hh, nn⟩ g := by first | exact True.intro | rfl) (hp : ev ⟨tt, hh, nn⟩ p = .optr id i off := by rfl) (ho : hl hh id = some ob := by rfl) (hrow : ob.row = true := by rfl) (hro : ob.ro = false := by rfl) (he : ob.es[i]? = some e := by first | assumption | rfl) (hx : ev ⟨tt, hh, nn⟩ x = av := by rfl) (hv : viewN true (restr [] hh) 4 av = some av' := by rfl) (hc : cellsA av' = some cs := by rfl) (hpu : mapL (fun _ => none) cs = some cs' := by rfl) (hn : cs.length = n := by rfl) (hle : Nat.ble (off + n) e.length = true := by rfl) : RG P acc (⟨none, g, .store n p x⟩ :: l) ⟨tt, hh, nn⟩ K := RG.step (q_storeR [] hg hp ho hrow hro he hx hv hc hpu hn hle) h
theorem r_eqvS {t e : TypeId} {x y : Operand} {a : Option Addr} {n c : Nat} (hu : P.underlying t = some (.slice e)) (h : RG P (⟨⟨some dd, g, .eqv t false x y⟩, .lit (.bool a.isNone), [], [], false⟩ :: acc) l ⟨(dd, .lit (.bool a.isNone)) :: tt, hh, nn⟩ K) (hg : gOK ⟨tt, hh, nn⟩ g := by first | exact True.intro | rfl) (hx : ev ⟨tt, hh, nn⟩ x = .lit (.slice a n c) := by rfl) (hy : ev ⟨tt, hh, nn⟩ y = .lit (.slice none 0 0) := by rfl) : RG P acc (⟨some dd, g, .eqv t false x y⟩ :: l) ⟨tt, hh, nn⟩ K := RG.step (q_eqvS hu hg hx hy) h
theorem r_copyX {sz id : Nat} {n : Int} {x y : Operand} {ob : OB} {av : AV} {news : List (List AV)} (rd : List Nat) (hle : news.length ≤ ob.es.length) (h : RG P (⟨⟨some dd, g, .copy sz x y⟩, .lit (.int .i64 n), rd, [(id, some { ob with es := news ++ ob.es.drop news.length })], false⟩ :: acc) l ⟨(dd, .lit (.int .i64 n)) :: tt, (id, some { ob with es := news ++ ob.es.drop news.length }) :: hh, nn⟩ K) (hg : gOK ⟨tt, hh, nn⟩ g := by first | exact True.intro | rfl) (hs : ev ⟨tt, hh, nn⟩ x = .own id := by rfl) (ho : hl hh id = some ob := by rfl) (hrow : ob.row = true := by rfl) (hro : ob.ro = false := by rfl) (hsz : ob.sz = sz := by rfl) (hx : ev ⟨tt, hh, nn⟩ y = av := by rfl) (hn : srcA (restr rd hh) sz av = some news := by rfl) (hk : (news.length : Int) = n := by rfl) : RG P acc (⟨some dd, g, .copy sz x y⟩ :: l) ⟨tt, hh, nn⟩ K := RG.step (hk ▸ q_copy rd hg hs ho hrow hro hsz hx hn hle) h
theorem r_copy {sz id : Nat} {n : Int} {x y : Operand} {ob : OB} {av : AV} {news : List (List AV)}  (hle : news.length ≤ ob.es.length) (h : RG P (⟨⟨some dd, g, .copy sz x y⟩, .lit (.int .i64 n), [], [(id, some { ob with es := news ++ ob.es.drop news.length })], false⟩ :: acc) l ⟨(dd, .lit (.int .i64 n)) :: tt, (id, some { ob with es := news ++ ob.es.drop news.length }) :: hh, nn⟩ K) (hg : gOK ⟨tt, hh, nn⟩ g := by first | exact True.intro | rfl) (hs : ev ⟨tt, hh, nn⟩ x = .own id := by rfl) (ho : hl hh id = some ob := by rfl) (hrow : ob.row = true := by rfl) (hro : ob.ro = false := by rfl) (hsz : ob.sz = sz := by rfl) (hx : ev ⟨tt, hh, nn⟩ y = av := by rfl) (hn : srcA (restr [] hh) sz av = some news := by rfl) (hk : (news.length : Int) = n := by rfl) : RG P acc (⟨some dd, g, .copy sz x y⟩ :: l) ⟨tt, hh, nn⟩ K := RG.step (hk ▸ q_copy [] hg hs ho hrow hro hsz hx hn hle) h
end
end Go.Proofs.Ytkgnnnehmnoleaa

namespace Go.Proofs.Ytkgnnnehmnoleaa
set_option linter.unusedVariables false
open Go.RowKit

section
variable {P : Program} {st : St} {d : Option Nat} {g : Option (Nat × Bool)}

/-- the bounds of a slice expression, off its operands -/
def bndA (st : St) (x : Option Operand) (dflt : Int) (z : Int) : Prop := match x with
  | none => z = dflt
  | some o => ∃ k, ev st o = .lit (.int k z)

theorem sliceBound_run {w : World} {k : IntKind} {z : Int} {y : Nat} {c : BoundsCode} (h0 : 0 ≤ z) (h1 : z ≤ y) : (Instr.sliceBound (.int k z) y c).run P w = .ok z.toNat w := by
  simp only [Instr.sliceBound, asIntOf, Sem.run_bind, Sem.run_pure, Result.andThen_ok, if_pos (And.intro h0 h1)]

theorem AtA.part {im : Nat → Prop} {w : World} {a : Option Addr} {sz : Nat} {es : List (List AV)} {vs : List Value} (hat : AtA im w a vs) (hrd : RdIE im w sz es vs) (l h : Nat) (hlh : l ≤ h) (hh : h ≤ es.length) {m : Nat} (hm : l = m → h = l) :
    AtA im w (if m = l then a else a.map (·.add (l * sz))) ((vs.drop (l * sz)).take ((h - l) * sz)) := by
  intro i v hv
  rw [List.getElem?_take] at hv
  split at hv
  · rename_i hi
    rw [List.getElem?_drop] at hv
    obtain ⟨b, off, rfl, hb, hc⟩ := hat _ v hv
    by_cases hml : m = l
    · have := hm hml.symm
      rw [this, Nat.sub_self, Nat.zero_mul] at hi
      omega
    · rw [if_neg hml]
      exact ⟨b, off + l * sz, by simp only [Option.map_some, addr_add], hb, by rw [Nat.add_assoc]; exact hc⟩
  · cases hv

theorem RdIE.drop {im : Nat → Prop} {w : World} {sz : Nat} : ∀ (n : Nat) {es : List (List AV)} {vs : List Value}, RdIE im w sz es vs → RdIE im w sz (es.drop n) (vs.drop (n * sz))
  | 0, es, vs, h => by simpa using h
  | n + 1, [], vs, h => by simp only [RdIE] at h; subst h; simp [RdIE]
  | n + 1, e :: es, vs, h => by
    simp only [RdIE] at h
    obtain ⟨x, rest, rfl, h1, h2, h3⟩ := h
    have : (x ++ rest).drop ((n + 1) * sz) = rest.drop (n * sz) := by
      rw [Nat.add_mul, Nat.one_mul, Nat.add_comm, ← List.drop_drop]
      congr 1
      rw [← h1]; simp
    rw [this]; exact RdIE.drop n h3

theorem RdIE.take {im : Nat → Prop} {w : World} {sz : Nat} : ∀ (n : Nat) {es : List (List AV)} {vs : List Value}, RdIE im w sz es vs → RdIE im w sz (es.take n) (vs.take (n * sz))
  | 0, es, vs, h => by simp [RdIE]
  | n + 1, [], vs, h => by simp only [RdIE] at h; subst h; simp [RdIE]
  | n + 1, e :: es, vs, h => by
    simp only [RdIE] at h
    obtain ⟨x, rest, rfl, h1, h2, h3⟩ := h
    simp only [List.take_succ_cons, RdIE]
    refine ⟨x, rest.take (n * sz), ?_, h1, h2, RdIE.take n h3⟩
    rw [Nat.add_mul, Nat.one_mul, Nat.add_comm, ← h1, List.take_length_add_append]

theorem sliceAt_run {w : World} {t e : TypeId} {gg : Bool} {sz : Nat} (hu : P.underlying t = some (.slice e)) (hs : szOf P e = some (gg, sz)) {a : Option Addr} {len cap : Nat} {lo hi mx : Option Value} {l h m : Nat}
    (hm : (match mx with | none => m = cap | some v => ∃ k, v = .int k m ∧ m ≤ cap)) (hh : (match hi with | none => h = len | some v => ∃ k, v = .int k h)) (hl : (match lo with | none => l = 0 | some v => ∃ k, v = .int k l)) (h1 : l ≤ h) (h2 : h ≤ m) (h3 : h ≤ cap) (h4 : mx.isSome = true → hi.isSome = true) :
    (Instr.sliceAt t (.slice a len cap) lo hi mx).run P w = .ok (.slice (if m = l then a else a.map (·.add (l * sz))) (h - l) (m - l)) w := by
  obtain ⟨dd, i, k1, k2, k3, _⟩ := szOf_spec hs
  have hsz : (sizeOf e).run P w = .ok sz w := by simp [sizeOf, typeInfo, k2, k3]
  have hb : (Instr.sliceBounds true len cap lo hi mx).run P w = .ok (l, h, m) w := by
    cases mx with
    | none =>
      simp only at hm; subst hm
      cases hi with
      | none =>
        simp only at hh; subst hh
        cases lo with
        | none => simp only at hl; subst hl; rfl
        | some v =>
          obtain ⟨k, rfl⟩ := hl
          simp only [Instr.sliceBounds, Sem.run_bind, Sem.run_pure, Result.andThen_ok, sliceBound_run (Int.natCast_nonneg l) (Int.ofNat_le.2 h1), Int.toNat_natCast]
      | some vh =>
        obtain ⟨kh, rfl⟩ := hh
        cases lo with
        | none => simp only at hl; subst hl; simp only [Instr.sliceBounds, Sem.run_bind, Sem.run_pure, Result.andThen_ok, sliceBound_run (Int.natCast_nonneg h) (Int.ofNat_le.2 h3), Int.toNat_natCast]
        | some v =>
          obtain ⟨k, rfl⟩ := hl
          simp only [Instr.sliceBounds, Sem.run_bind, Sem.run_pure, Result.andThen_ok, sliceBound_run (Int.natCast_nonneg h) (Int.ofNat_le.2 h3), sliceBound_run (Int.natCast_nonneg l) (Int.ofNat_le.2 h1), Int.toNat_natCast]
    | some vm =>
      obtain ⟨km, rfl, hmc⟩ := hm
      cases hi with
      | none => simp at h4
      | some vh =>
        obtain ⟨kh, rfl⟩ := hh
        cases lo with
        | none => simp only at hl; subst hl; simp only [Instr.sliceBounds, Sem.run_bind, Sem.run_pure, Result.andThen_ok, sliceBound_run (Int.natCast_nonneg m) (Int.ofNat_le.2 hmc), sliceBound_run (Int.natCast_nonneg h) (Int.ofNat_le.2 h2), Int.toNat_natCast]
        | some v =>
          obtain ⟨k, rfl⟩ := hl
          simp only [Instr.sliceBounds, Sem.run_bind, Sem.run_pure, Result.andThen_ok, sliceBound_run (Int.natCast_nonneg m) (Int.ofNat_le.2 hmc), sliceBound_run (Int.natCast_nonneg h) (Int.ofNat_le.2 h2), sliceBound_run (Int.natCast_nonneg l) (Int.ofNat_le.2 h1), Int.toNat_natCast]
  simp only [Instr.sliceAt, Instr.slice, Sem.run_bind, run_underlying hu w, Result.andThen_ok, hb, hsz, Sem.run_pure]

/-- x[lo:hi], and x[lo:hi:hi] -/
theorem q_slice {sz : Nat} {x : Operand} {lo hi mx : Option Operand} {es : List (List AV)} {l h : Nat} (hg : gOK st g) (hx : ev st x = .sl sz es) (hl : bndA st lo 0 l) (hh : bndA st hi es.length h) (hm : mx = none ∨ (mx = hi ∧ hi.isSome = true)) (h1 : l ≤ h) (h2 : h ≤ es.length) :
    Step P st ⟨⟨d, g, .slice sz x lo hi mx⟩, .sl sz ((es.drop l).take (h - l)), [], [], false⟩ :=
  step_val [] hg fun o C E ac w sx hlow R hr hh' => by
    have hv := hr x (by simp [AOp.opds])
    rw [hx] at hv
    obtain ⟨a, cap, vs, hv, hle, hnil, hmax, hat, h1s, hrd⟩ := hv
    have vint : ∀ {y : Option Operand} {dflt z : Int}, (∀ o, y = some o → o ∈ (AOp.slice sz x lo hi mx).opds) → bndA st y dflt z → (y = none ∧ z = dflt) ∨ (∃ k, y.map ac.eval = some (.int k z)) := fun {y dflt z} hy hb => by
      cases y with
      | none => exact .inl ⟨rfl, hb⟩
      | some o =>
        obtain ⟨k, hk⟩ := hb
        exact .inr ⟨k, by simp only [Option.map_some]; rw [lit_eval (hr o (hy o rfl)) hk]⟩
    obtain ⟨dst, o, ty, pos, after, guard⟩ := o
    obtain ⟨t, e, gg, rfl, het, hs⟩ := low_spec hlow
    have hlo := vint (y := lo) (fun o ho => by subst ho; simp [AOp.opds, oL]) hl
    have hhi := vint (y := hi) (fun o ho => by subst ho; simp [AOp.opds, oL]) hh
    -- the third bound
    obtain ⟨m, hmm, hhm, hmc, hmcap, hiso⟩ : ∃ m : Nat, (match mx.map ac.eval with | none => m = cap | some v => ∃ k, v = .int k m ∧ m ≤ cap) ∧ h ≤ m ∧ (m = l → h = l) ∧ m ≤ cap ∧ ((mx.map ac.eval).isSome = true → (hi.map ac.eval).isSome = true) := by
      rcases hm with rfl | ⟨rfl, his⟩
      · exact ⟨cap, rfl, by omega, fun e => by omega, Nat.le_refl _, by simp⟩
      · rcases hhi with ⟨h0, _⟩ | ⟨k, hk⟩
        · rw [h0] at his; cases his
        · exact ⟨h, by rw [hk]; exact ⟨k, rfl, by omega⟩, Nat.le_refl _, fun e => e, by omega, by simp⟩
    have hrun := sliceAt_run (P := P) (w := w) (a := a) (len := es.length) (cap := cap) (lo := lo.map ac.eval) (hi := hi.map ac.eval) (mx := mx.map ac.eval) (l := l) (h := h) (m := m) (elemsOf_spec het) hs hmm
      (by rcases hhi with ⟨h0, e⟩ | ⟨k, hk⟩
          · rw [h0]; simp only [Option.map_none]; omega
          · rw [hk]; exact ⟨k, rfl⟩)
      (by rcases hlo with ⟨h0, e⟩ | ⟨k, hk⟩
          · rw [h0]; simp only [Option.map_none]; omega
          · rw [hk]; exact ⟨k, rfl⟩) h1 hhm (by omega) hiso
    have hlen : ((es.drop l).take (h - l)).length = h - l := by simp; omega
    refine ⟨.slice (if m = l then a else a.map (·.add (l * sz))) (h - l) (m - l), by simp only [execOp, hv, Sem.run_bind, hrun, Result.andThen_ok, Sem.run_pure], _, _, _, by rw [hlen], by omega, ?_, by omega, hat.part hrd l h h1 h2 (fun e => (hmc e.symm)), fun u hu => h1s u (List.mem_of_mem_drop (List.mem_of_mem_take hu)), (hrd.drop l).take (h - l)⟩
    intro hn
    by_cases hml : m = l
    · omega
    · rw [if_neg hml] at hn
      have ha : a = none := by cases a <;> simp at hn ⊢
      have := hnil ha
      omega
end

section
variable {P : Program} {tt : List (Nat × AV)} {hh : Hp} {nn dd : Nat} {g : Option (Nat × Bool)} {l : List AInst} {acc : List SD} {K : List SD → St → Prop}
theorem r_slice {sz : Nat} {x : Operand} {lo hi mx : Option Operand} {es : List (List AV)} (a b : Nat) (h1 : a ≤ b) (h2 : b ≤ es.length) (h : RG P (⟨⟨some dd, g, .slice sz x lo hi mx⟩, .sl sz ((es.drop a).take (b - a)), [], [], false⟩ :: acc) l ⟨(dd, .sl sz ((es.drop a).take (b - a))) :: tt, hh, nn⟩ K)
    (hg : gOK ⟨tt, hh, nn⟩ g := by first | exact True.intro | rfl) (hx : ev ⟨tt, hh, nn⟩ x = .sl sz es := by rfl) (hl : bndA ⟨tt, hh, nn⟩ lo 0 a := by first | rfl | exact ⟨_, rfl⟩) (hh' : bndA ⟨tt, hh, nn⟩ hi es.length b := by first | rfl | exact ⟨_, rfl⟩) (hm : mx = none ∨ (mx = hi ∧ hi.isSome = true) := by first | exact .inl rfl | exact .inr ⟨rfl, rfl⟩) :
    RG P acc (⟨some dd, g, .slice sz x lo hi mx⟩ :: l) ⟨tt, hh, nn⟩ K := RG.step (q_slice hg hx hl hh' hm h1 h2) h
end

section
variable {P : Program} {C : Ctx} {Q : Exit → St → Prop} {st : St}

/-- so many rounds at most -/
def AWR (P : Program) (C : Ctx) (c : ACode) (Q : Exit → St → Prop) : Nat → St → Prop
  | 0, _ => False
  | n + 1, s => AW P C c (thenQ (fun s' => AWR P C c Q n s') Q) s

theorem aw_unroll {c : ACode} (n : Nat) (h : AWR P C c Q n st) : AW P C (.loop c) Q st := by
  intro code hc E a w hR
  cases code with
  | loop b =>
    simp only [lowerC] at hc
    split at hc
    · rename_i b' hb
      simp only [Option.some.injEq, ACode.loop.injEq] at hc
      subst hc
      refine wp_loop_rounds n ?_
      have key : ∀ n (s : St) E a w, AWR P C b' Q n s → Rel C E s a w → Code.rounds P b (liftQ C Q) n a w := by
        intro n
        induction n with
        | zero => intro s E a w h _; exact h.elim
        | succ n ih =>
          intro s E a w h hR
          rw [rounds_succ]
          refine wp_mono (h b hb E a w hR) ?_
          rintro e a' w' ⟨E', s', h1, h2⟩
          cases e with
          | normal => exact ih s' E' a' w' h1 h2
          | _ => exact ⟨E', s', h1, h2⟩
      exact key n st E a w h hR
    · cases hc
  | region id ops draw => obtain ⟨_, _, _, e⟩ := lower_region hc; cases e
  | seq a b => simp only [lowerC] at hc; split at hc <;> cases hc
  | cond c a b => simp only [lowerC] at hc; split at hc <;> cases hc
  | block id a => simp only [lowerC] at hc; split at hc <;> cases hc
  | _ => simp [lowerC] at hc

/-- one round -/
theorem awr_one {c : ACode} {n : Nat} (h : AW P C c (thenQ (fun s' => AWR P C c Q n s') Q) st) : AWR P C c Q (n + 1) st := h

/-- nobody writes a block any more -/
theorem aw_freeze {c : ACode} (id : Nat) {o : OB} (ho : hl st.h id = some o) (h : AW P C c Q { st with h := (id, some { o with ro := true }) :: st.h }) : AW P C c Q st := by
  refine aw_weak (fun E a w R => ?_) h
  let E' : Env := { E with im := fun b => E.im b ∨ (E.live id ∧ blkOf (E.val id) = some b) }
  have hlv : ∀ k, E.live k → E'.live k ∧ E'.val k = E.val k ∧ E'.sz k = E.sz k := fun k h => ⟨h, rfl, rfl⟩
  have him : ∀ b, E.im b → E'.im b := fun b h => .inl h
  have hw : ∀ b, E.im b → w.heap[b]? = w.heap[b]? := fun _ _ => rfl
  refine ⟨E', R.defers, R.size, fun n => Rd.mono hlv him hw _ _ (R.tm n), ⟨?_, ?_, ?_, ?_⟩, R.nx, ?_, R.ext, fun b hb => .inl (R.imx b hb), ?_, R.frm⟩
  · intro k ob hk hh
    have old : ∀ o', hl st.h k = some o' → obOK E' w k o' := fun o' ho' => (R.heap.ob k o' hk ho').mono ⟨rfl, rfl⟩ hlv him hw (fun _ _ => rfl)
    rcases hl_new hh with ⟨rfl, e⟩ | ⟨hne, p1⟩
    · simp only [Option.some.injEq] at e; subst e
      exact old o ho
    · exact old ob p1
  · intro k k' ob ob' b hk hk' hh hh' hb hb'
    have e : ∀ j oj, hl ((id, some { o with ro := true }) :: st.h) j = some oj → ∃ oj', hl st.h j = some oj' := fun j oj hj => by
      rcases hl_new hj with ⟨rfl, _⟩ | ⟨_, p⟩
      · exact ⟨o, ho⟩
      · exact ⟨oj, p⟩
    obtain ⟨q1, e1⟩ := e k ob hh
    obtain ⟨q2, e2⟩ := e k' ob' hh'
    exact R.heap.apart k k' q1 q2 b hk hk' e1 e2 hb hb'
  · intro k ob b hk hh hb
    rcases hl_new hh with ⟨rfl, e⟩ | ⟨hne, p1⟩
    · simp only [Option.some.injEq] at e; subst e
      exact ⟨fun _ => rfl, fun _ => .inr ⟨hk, hb⟩⟩
    · rw [← R.heap.im k ob b hk p1 hb]
      constructor
      · rintro (h | ⟨h1, h2⟩)
        · exact h
        · exact absurd (R.heap.apart k id ob o b hk h1 p1 ho hb h2) hne
      · exact fun h => .inl h
  · rintro b (h | ⟨h1, h2⟩)
    · exact R.heap.lt b h
    · exact R.heap.blk_lt h1 ho h2
  · intro k ob b hk hh hb
    rcases hl_new hh with ⟨rfl, e⟩ | ⟨hne, p1⟩
    · exact R.own k o b hk ho hb
    · exact R.own k ob b hk p1 hb
  · rintro b (h | ⟨h1, h2⟩)
    · exact R.imn b h
    · exact .inr (R.own id o b h1 ho h2)

/-- what a slot's value tells -/
theorem aw_know {c : ACode} (n : Nat) (F : Prop) (hF : ∀ E w v, Rd E w (st.get n) v → F) (h : F → AW P C c Q st) : AW P C c Q st := aw_learn F (fun E a w R => hF E w _ (R.tm n)) h
end
end Go.Proofs.Ytkgnnnehmnoleaa
