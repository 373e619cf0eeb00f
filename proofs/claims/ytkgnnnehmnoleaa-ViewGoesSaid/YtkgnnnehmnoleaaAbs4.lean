/- An abstract layer over the walk, part 4: values built, blocks made, blocks written. -/
import Derived.Test.YtkgnnnehmnoleaaAbs3
namespace Go.Proofs.Ytkgnnnehmnoleaa
set_option linter.unusedVariables false
open Go.RowKit

/-- a value's cells -/
def cellsA : AV → Option (List AV)
  | .agg cs => some cs
  | .any => none
  | .tup _ => none
  | .lit v => match v with | .agg _ => none | .tuple _ => none | _ => some [.lit v]
  | x => some [x]

theorem cellsA_rd {E : Env} {w : World} {av : AV} {cs : List AV} {v : Value} (h : cellsA av = some cs) (hr : Rd E w av v) : RdL E w cs v.cells.toList ∧ Ones v.cells.toList := by
  have one : ∀ {v : Value}, v.oneCell' = true → Rd E w av v → cs = [av] → RdL E w cs v.cells.toList ∧ Ones v.cells.toList := fun {v} h1 hr e => by
    have hc : v.cells = #[v] := by cases v <;> simp [Value.oneCell'] at h1 <;> rfl
    rw [hc, e]
    exact ⟨⟨v, [], rfl, hr, rfl⟩, fun u hu => by simp at hu; subst hu; exact h1⟩
  cases av with
  | any => simp [cellsA] at h
  | tup l => simp [cellsA] at h
  | agg l =>
    simp only [cellsA, Option.some.injEq] at h
    subst h
    simp only [Rd] at hr
    obtain ⟨vs, rfl, h0, h2⟩ := hr
    exact ⟨by simpa [Value.cells] using h2, by simpa [Value.cells] using h0⟩
  | lit u =>
    have hv : v = u := hr
    subst hv
    cases v <;> simp only [cellsA] at h <;> first
      | (cases h; done)
      | (simp only [Option.some.injEq] at h; exact one rfl hr h.symm)
  | sl sz es =>
    simp only [cellsA, Option.some.injEq] at h
    have hr' := hr
    obtain ⟨a, cap, vs, rfl, _⟩ := hr'
    exact one rfl hr h.symm
  | ep sz es i off =>
    simp only [cellsA, Option.some.injEq] at h
    have hr' := hr
    obtain ⟨b, o, vs, rfl, _⟩ := hr'
    exact one rfl hr h.symm
  | own id =>
    simp only [cellsA, Option.some.injEq] at h
    exact one hr.2.1 hr h.symm
  | optr id i off =>
    simp only [cellsA, Option.some.injEq] at h
    have hr' := hr
    obtain ⟨_, b, _, rfl⟩ := hr'
    exact one rfl hr h.symm
  | fn f fi ca =>
    simp only [cellsA, Option.some.injEq] at h
    have hr' := hr
    obtain ⟨vs, us, rfl, _⟩ := hr'
    exact one rfl hr h.symm

theorem cells_size {av : AV} {cs : List AV} {E : Env} {w : World} {v : Value} (h : cellsA av = some cs) (hr : Rd E w av v) : v.cells.size = cs.length := by
  have := (cellsA_rd h hr).1.length
  simpa using this

/-- parts laid over cells -/
def fillA : List AV → List (Nat × Nat × AV) → Option (List AV)
  | cells, [] => some cells
  | cells, (off, n, av) :: rest => match cellsA av with
    | some cs => bif Nat.beq cs.length n && Nat.ble (off + n) cells.length then fillA (cells.take off ++ (cs ++ cells.drop (off + n))) rest else none
    | none => none

theorem setAll_list (off : Nat) : ∀ (l : List Value) (k : Nat) (cells : Array Value), off + k + l.length ≤ cells.size →
    ((l.zipIdx k).foldl (fun cs (p : Value × Nat) => cs.setIfInBounds (off + p.2) p.1) cells).toList = cells.toList.take (off + k) ++ (l ++ cells.toList.drop (off + k + l.length))
  | [], k, cells, h => by simp
  | v :: l, k, cells, h => by
    simp only [List.length_cons] at h
    simp only [List.zipIdx_cons, List.foldl_cons]
    rw [setAll_list off l (k + 1) _ (by simp; omega)]
    simp only [Array.toList_setIfInBounds]
    obtain ⟨A, x, D, hA, hAl⟩ : ∃ A x D, cells.toList = A ++ x :: D ∧ A.length = off + k :=
      ⟨cells.toList.take (off + k), cells.toList[off + k]'(by simp; omega), cells.toList.drop (off + k + 1), by
        rw [← List.drop_eq_getElem_cons, List.take_append_drop], by simp; omega⟩
    rw [hA]
    have e1 : (A ++ x :: D).set (off + k) v = A ++ v :: D := by rw [← hAl]; simp
    rw [e1]
    have t1 : (A ++ v :: D).take (off + (k + 1)) = A ++ [v] := by
      rw [show off + (k + 1) = A.length + 1 from by omega, List.take_length_add_append]; rfl
    have t2 : (A ++ x :: D).take (off + k) = A := by rw [← hAl]; simp
    have d1 : (A ++ v :: D).drop (off + (k + 1) + l.length) = D.drop l.length := by
      rw [show off + (k + 1) + l.length = A.length + (l.length + 1) from by omega, List.drop_length_add_append]; rfl
    have d2 : (A ++ x :: D).drop (off + k + (v :: l).length) = D.drop l.length := by
      rw [List.length_cons, show off + k + (l.length + 1) = A.length + (l.length + 1) from by omega, List.drop_length_add_append]; rfl
    rw [t1, t2, d1, d2]
    simp

def Parts (E : Env) (w : World) (place : Nat → Option (Nat × Nat)) : List (Nat × Value) → List (Nat × Nat × AV) → Prop
  | [], [] => True
  | p :: ps, q :: qs => (place p.1 = some (q.1, q.2.1) ∧ Rd E w q.2.2 p.2) ∧ Parts E w place ps qs
  | _, _ => False

theorem fill_run {E : Env} {w : World} {place : Nat → Option (Nat × Nat)} : ∀ {ps : List (Nat × Value)} {qs : List (Nat × Nat × AV)} {cells : Array Value} {cs cs' : List AV}, RdL E w cs cells.toList → Ones cells.toList →
    Parts E w place ps qs → fillA cs qs = some cs' →
    ∃ out, Instr.fill place cells ps = some out ∧ RdL E w cs' out.toList ∧ Ones out.toList
  | [], [], cells, cs, cs', h, h1, _, e => by
    simp only [fillA, Option.some.injEq] at e; subst e
    exact ⟨cells, rfl, h, h1⟩
  | [], _ :: _, _, _, _, _, _, hf, _ => hf.elim
  | _ :: _, [], _, _, _, _, _, hf, _ => hf.elim
  | (i, v) :: ps, (off, n, av) :: qs, cells, cs, cs', h, h1, hf, e => by
    obtain ⟨hp, hf⟩ := hf
    obtain ⟨hpl, hrd⟩ := hp
    simp only at hpl hrd
    simp only [fillA] at e
    cases hc : cellsA av with
    | none => simp [hc] at e
    | some vc =>
      simp only [hc] at e
      cases hb : (Nat.beq vc.length n && Nat.ble (off + n) cs.length) with
      | false => simp [hb] at e
      | true =>
        rw [hb, cond_true] at e
        simp only [Bool.and_eq_true] at hb
        have hn := Nat.eq_of_beq_eq_true hb.1
        have hle := Nat.le_of_ble_eq_true hb.2
        have hlen := h.length
        have hvs := cells_size hc hrd
        obtain ⟨k1, k2⟩ := cellsA_rd hc hrd
        have hset := setAll_list off v.cells.toList 0 cells (by simp at hlen ⊢; omega)
        have hz : v.cells.zipIdx.foldl (fun cs (p : Value × Nat) => cs.setIfInBounds (off + p.2) p.1) cells = (v.cells.toList.zipIdx.foldl (fun cs (p : Value × Nat) => cs.setIfInBounds (off + p.2) p.1) cells) := by
          rw [← Array.foldl_toList]; simp
        have hlv : v.cells.toList.length = n := by simp; omega
        rw [hlv, Nat.add_zero] at hset
        have hrd2 : RdL E w (cs.take off ++ (vc ++ cs.drop (off + n))) (v.cells.zipIdx.foldl (fun cs (p : Value × Nat) => cs.setIfInBounds (off + p.2) p.1) cells).toList := by
          rw [hz, hset]; exact (h.take off).append (k1.append (h.drop (off + n)))
        have h12 : Ones (v.cells.zipIdx.foldl (fun cs (p : Value × Nat) => cs.setIfInBounds (off + p.2) p.1) cells).toList := by
          rw [hz, hset]
          intro u hu
          simp only [List.mem_append] at hu
          rcases hu with hu | hu | hu
          · exact h1 u (List.mem_of_mem_take hu)
          · exact k2 u hu
          · exact h1 u (List.mem_of_mem_drop hu)
        obtain ⟨out, o1, o2, o3⟩ := fill_run hrd2 h12 hf e
        refine ⟨out, ?_, o2, o3⟩
        simp only [Instr.fill, hpl]
        rw [if_neg (by simp at hlen ⊢; omega)]
        exact o1
end Go.Proofs.Ytkgnnnehmnoleaa

namespace Go.Proofs.Ytkgnnnehmnoleaa
set_option linter.unusedVariables false
open Go.RowKit

/-- one name more -/
def newE (E : Env) (id : Nat) (V : Value) (sz : Nat) : Env := ⟨E.im, fun k => E.live k ∨ k = id, fun k => bif Nat.beq k id then V else E.val k, fun k => bif Nat.beq k id then sz else E.sz k⟩

theorem newE_live {E : Env} {id : Nat} {V : Value} {sz : Nat} (hid : ¬ E.live id) : ∀ k, E.live k → (newE E id V sz).live k ∧ (newE E id V sz).val k = E.val k ∧ (newE E id V sz).sz k = E.sz k := fun k hk => by
  have : k ≠ id := fun e => hid (e ▸ hk)
  exact ⟨.inl hk, by simp [newE, beq_ne this], by simp [newE, beq_ne this]⟩

def oldUpd : Option Nat → Hp
  | some k => [(k, none)]
  | none => []

theorem hl_old {old : Option Nat} {h : Hp} {k : Nat} {o : OB} (e : hl (oldUpd old ++ h) k = some o) : old ≠ some k ∧ hl h k = some o := by
  cases old with
  | none => exact ⟨by simp, e⟩
  | some j =>
    by_cases hj : j = k
    · subst hj
      simp [oldUpd, hl, look] at e
    · refine ⟨by simpa using hj, ?_⟩
      simpa [oldUpd, hl, look, beq_ne hj] using e

theorem hl_new {id k : Nat} {x : Option OB} {h : Hp} {o : OB} (e : hl ((id, x) :: h) k = some o) : (k = id ∧ x = some o) ∨ (k ≠ id ∧ hl h k = some o) := by
  by_cases hk : id = k
  · subst hk
    simp only [hl, look, Nat.beq_refl, cond_true] at e
    left
    cases x with
    | none => simp at e
    | some y => simp only [Option.some.injEq] at e; exact ⟨rfl, by rw [e]⟩
  · right
    exact ⟨fun e => hk e.symm, by simpa [hl, look, beq_ne hk] using e⟩

/-- a block more, in a world that has grown; maybe in the place of an old one -/
theorem Rel.new {C : Ctx} {E : Env} {st : St} {a : Act} {w w' : World} (R : Rel C E st a w) {id : Nat} (hid : ¬ E.live id) (hnx : id < st.nx) (old : Option Nat) (row : Option Nat) (hg : w.grownBy w' row)
    (hrow : ∀ b, row = some b → ∃ k o, old = some k ∧ E.live k ∧ hl st.h k = some o ∧ blkOf (E.val k) = some b ∧ o.ro = false) {ob : OB} {V : Value} (hob : obOK (newE E id V ob.sz) w' id ob) (hro : ob.ro = false)
    (hV : ∀ b, blkOf V = some b → w.heap.size ≤ b ∨ row = some b) : Rel C (newE E id V ob.sz) ⟨st.t, (id, some ob) :: (oldUpd old ++ st.h), st.nx⟩ a w' := by
  have hl0 := newE_live (V := V) (sz := ob.sz) hid
  have hlive : ∀ k, (newE E id V ob.sz).live k → k ≠ id → E.live k := fun k h hk => by
    rcases h with h | h
    · exact h
    · exact absurd h hk
  have hrowim : ∀ b, row = some b → ¬ E.im b := fun b hb him => by
    obtain ⟨k, o, _, h2, h3, h4, h5⟩ := hrow b hb
    have := (R.heap.im k o b h2 h3 h4).1 him
    rw [h5] at this; cases this
  have hw : ∀ b, E.im b → w'.heap[b]? = w.heap[b]? := fun b hb => hg.block b (R.heap.lt b hb) (fun e => hrowim b e.symm hb)
  have hval : (newE E id V ob.sz).val id = V := by simp [newE]
  -- an old block of one's own, not the one that goes, is not the row
  have hkeep : ∀ k o b, E.live k → hl st.h k = some o → old ≠ some k → blkOf (E.val k) = some b → row ≠ some b := fun k o b h1 h2 h3 h4 h5 => by
    obtain ⟨k', o', e1, e2, e3, e4, _⟩ := hrow b h5
    have := R.heap.apart k k' o o' b h1 e2 h2 e3 h4 e4
    rw [this] at h3; exact h3 e1
  refine ⟨R.defers, R.size, fun n => Rd.mono hl0 (fun b h => h) hw _ _ (R.tm n), ⟨?_, ?_, ?_, ?_⟩, ?_, ?_, ?_, R.imx, R.imn, ?_⟩
  · intro k o hk ho
    rcases hl_new ho with ⟨rfl, e⟩ | ⟨hne, ho⟩
    · simp only [Option.some.injEq] at e; subst e; exact hob
    · obtain ⟨h1, h2⟩ := hl_old ho
      have hkl := hlive k hk hne
      refine (R.heap.ob k o hkl h2).mono (hl0 k hkl).2 hl0 (fun b h => h) hw (fun b hb => hg.block b (R.heap.blk_lt hkl h2 hb) (fun e => hkeep k o b hkl h2 h1 hb e.symm))
  · intro k k' o o' b hk hk' ho ho' hb hb'
    rcases hl_new ho with ⟨e1, e⟩ | ⟨hne, p1⟩ <;> rcases hl_new ho' with ⟨e2, e'⟩ | ⟨hne', p2⟩
    · rw [e1, e2]
    · exfalso
      subst e1
      rw [hval] at hb
      obtain ⟨h1, h2⟩ := hl_old p2
      have hkl := hlive k' hk' hne'
      rw [(hl0 k' hkl).2.1] at hb'
      rcases hV b hb with h | h
      · have := R.heap.blk_lt hkl h2 hb'; omega
      · exact hkeep k' o' b hkl h2 h1 hb' h
    · exfalso
      subst e2
      rw [hval] at hb'
      obtain ⟨h1, h2⟩ := hl_old p1
      have hkl := hlive k hk hne
      rw [(hl0 k hkl).2.1] at hb
      rcases hV b hb' with h | h
      · have := R.heap.blk_lt hkl h2 hb; omega
      · exact hkeep k o b hkl h2 h1 hb h
    · obtain ⟨h1, h2⟩ := hl_old p1
      obtain ⟨h1', h2'⟩ := hl_old p2
      have hkl := hlive k hk hne
      have hkl' := hlive k' hk' hne'
      rw [(hl0 k hkl).2.1] at hb
      rw [(hl0 k' hkl').2.1] at hb'
      exact R.heap.apart k k' o o' b hkl hkl' h2 h2' hb hb'
  · intro k o b hk ho hb
    rcases hl_new ho with ⟨rfl, e⟩ | ⟨hne, ho⟩
    · simp only [Option.some.injEq] at e; subst e
      rw [hval] at hb
      rw [hro]
      constructor
      · intro him
        have him' : E.im b := him
        rcases hV b hb with h | h
        · have := R.heap.lt b him'; omega
        · exact absurd him' (hrowim b h)
      · intro h; cases h
    · obtain ⟨h1, h2⟩ := hl_old ho
      have hkl := hlive k hk hne
      rw [(hl0 k hkl).2.1] at hb
      exact R.heap.im k o b hkl h2 hb
  · exact fun b hb => Nat.lt_of_lt_of_le (R.heap.lt b hb) hg.size
  · intro k hk
    rcases hk with h | h
    · exact R.nx k h
    · rw [h]; exact hnx
  · intro k o b hk ho hb
    rcases hl_new ho with ⟨rfl, e⟩ | ⟨hne, ho⟩
    · rw [hval] at hb
      rcases hV b hb with h | h
      · have := R.frm.size; exact .inl (by omega)
      · obtain ⟨k', o', e1, e2, e3, e4, _⟩ := hrow b h
        exact R.own k' o' b e2 e3 e4
    · obtain ⟨h1, h2⟩ := hl_old ho
      have hkl := hlive k hk hne
      rw [(hl0 k hkl).2.1] at hb
      exact R.own k o b hkl h2 hb
  · intro k hk
    obtain ⟨k1, k2, k3⟩ := R.ext k hk
    obtain ⟨j1, j2, j3⟩ := hl0 k k1
    exact ⟨j1, by rw [j2]; exact k2, by rw [j3]; exact k3⟩
  · refine ⟨hg.os.trans R.frm.os, hg.tape.trans R.frm.tape, hg.output.trans R.frm.output, Nat.le_trans R.frm.size hg.size, fun k hk hX => ?_⟩
    refine (hg.block k (Nat.lt_of_lt_of_le hk R.frm.size) (fun e => ?_)).trans (R.frm.block k hk hX)
    obtain ⟨k', o', e1, e2, e3, e4, _⟩ := hrow k e.symm
    rcases R.own k' o' k e2 e3 e4 with h | h
    · omega
    · exact hX h

/-- a step that makes a block -/
theorem step_new {P : Program} {st : St} {i : AInst} {ob : OB} (rd : List Nat) (hg : gOK st i.g)
    (h : ∀ (o : Oper) (C : Ctx) (E : Env) (a : Act) (w : World) (sx : St), lowerO P o.op = some i.op → Rel C E sx a w → (∀ x ∈ i.op.opds, Rd E w (ev st x) (a.eval x)) → (∀ id ∈ rd, hl sx.h id = hl st.h id) → ¬ E.live st.nx →
      ∃ V w', (execOp a.eval o).run P w = .ok (.value V) w' ∧ w.grownBy w' none ∧ obOK (newE E st.nx V ob.sz) w' st.nx ob ∧ (∀ b, blkOf V = some b → w.heap.size ≤ b) ∧ V.oneCell' = true ∧ (ob.row = false → ∃ b, V = .pointer (some ⟨b, 0, none⟩))) (hro : ob.ro = false) :
    Step P st ⟨i, bif ob.row then .own st.nx else .optr st.nx 0 0, rd, [(st.nx, some ob)], true⟩ := by
  intro N ops o hlow C E a w sx hN R hag hh hnw K Q hK
  rw [if_pos (wanted_of hlow R hag hg)]
  obtain ⟨h1, h2, h3, h4⟩ := lower_parts hlow
  obtain ⟨hnl, hnx⟩ := hnw rfl
  obtain ⟨V, w', hu, hgr, hob, hV, h1c, hbox⟩ := h o C E a w sx h3 R (fun x hx => eval_of R hag hx) (fun id hid => hh id (.inl hid)) hnl
  unfold Oper.wp
  rw [hu, Oper.upon_value]
  have hR := Rel.new R hnl hnx none none hgr (fun b hb => by cases hb) hob hro (fun b hb => .inl (hV b hb))
  refine hK V w' (newE E st.nx V ob.sz) ?_ (fun id hid => by rcases hid with h | h; · exact .inl h
                                                             · exact .inr ⟨rfl, h⟩)
  have hrd : Rd (newE E st.nx V ob.sz) w' (bif ob.row then .own st.nx else .optr st.nx 0 0) V := by
    cases hrow : ob.row with
    | true => exact ⟨.inr rfl, h1c, by simp [newE]⟩
    | false =>
      obtain ⟨b, rfl⟩ := hbox hrow
      exact ⟨.inr rfl, b, by simp [newE, blkOf], by simp⟩
  have := hR.put (d := o.dst) (fun k hk => by rw [hN]; exact h2 k hk) hrd
  simp only [St.appx]
  rw [h1]
  exact this

theorem zeroOf_spec {P : Program} {t : TypeId} {z : List Value} {sz by_ : Nat} (h : zeroOf P t = some (z, sz, by_)) : ∃ i zv, P.info? t = some i ∧ i.zero = some zv ∧ z = zv.cells.toList ∧ i.size = sz ∧ i.bytes = by_ ∧ z.length = sz ∧ Ones z ∧ 0 < sz ∧ 0 < by_ := by
  simp only [zeroOf] at h
  split at h
  · rename_i i hi
    split at h
    · rename_i zv hz
      split at h
      · rename_i hc
        simp only [Bool.and_eq_true] at hc
        simp only [Option.some.injEq, Prod.mk.injEq] at h
        obtain ⟨rfl, rfl, rfl⟩ := h
        refine ⟨i, zv, hi, hz, rfl, rfl, rfl, ?_, ?_, by simpa [Nat.blt_eq] using hc.1.2, by simpa [Nat.blt_eq] using hc.2⟩
        · have := Nat.eq_of_beq_eq_true hc.1.1.1; simpa using this
        · intro u hu
          have := hc.1.1.2
          rw [Array.all_eq_true_iff_forall_mem] at this
          exact this u (by simpa using hu)
      · cases h
    · cases h
  · cases h

theorem box_ok {E : Env} {w : World} {id : Nat} {e : TypeId} {vs : List Value} {cs : List AV} (h1 : Ones vs) (hr : RdL (newE E id (.pointer (some ⟨w.heap.size, 0, none⟩)) vs.length) (w.alloc (.cells vs.toArray e)) cs vs) :
    obOK (newE E id (.pointer (some ⟨w.heap.size, 0, none⟩)) vs.length) (w.alloc (.cells vs.toArray e)) id ⟨false, false, e, vs.length, [cs]⟩ :=
  ⟨by simp [newE], w.heap.size, vs, cs, by simp [newE], heap_alloc_new w _, rfl, rfl, hr, h1⟩

section
variable {P : Program} {st : St} {d : Option Nat} {g : Option (Nat × Bool)}

theorem q_alloc {e : TypeId} {z : List Value} (hg : gOK st g) : Step P st ⟨⟨d, g, .alloc e z⟩, .optr st.nx 0 0, [], [(st.nx, some ⟨false, false, e, z.length, [z.map .lit]⟩)], true⟩ :=
  step_new (ob := ⟨false, false, e, z.length, [z.map .lit]⟩) [] hg (fun o C E ac w sx hlow R hr hh hnl => by
    obtain ⟨dst, o, ty, pos, after, guard⟩ := o
    obtain ⟨rfl, sz, by_, hz⟩ := low_spec hlow
    obtain ⟨i, zv, k1, k2, k3, k4, k5, k6, k7, _⟩ := zeroOf_spec hz
    refine ⟨.pointer (some ⟨w.heap.size, 0, none⟩), w.alloc (.cells z.toArray e), ?_, World.grownBy_alloc w _ none, box_ok k7 (rdL_lits z), fun b hb => by simp [blkOf] at hb; omega, rfl, fun _ => ⟨_, rfl⟩⟩
    have hzv : zv.cells = z.toArray := by rw [k3]
    simp [execOp, Instr.alloc, zeroValue, typeInfo, k1, k2, newVar, newRow, hzv]) rfl

theorem q_box {e : TypeId} {n : Nat} {x : Operand} {av : AV} {cs : List AV} (hg : gOK st g) (hx : ev st x = av) (hc : cellsA av = some cs) (hn : cs.length = n) : Step P st ⟨⟨d, g, .box e n x⟩, .optr st.nx 0 0, [], [(st.nx, some ⟨false, false, e, n, [cs]⟩)], true⟩ :=
  step_new (ob := ⟨false, false, e, n, [cs]⟩) [] hg (fun o C E ac w sx hlow R hr hh hnl => by
    have h1 := hr x (by simp [AOp.opds])
    rw [hx] at h1
    obtain ⟨dst, o, ty, pos, after, guard⟩ := o
    obtain ⟨rfl, gg, hs⟩ := low_spec hlow
    obtain ⟨c1, c2⟩ := cellsA_rd hc h1
    have hlen : (ac.eval x).cells.toList.length = n := by have := cells_size hc h1; simp; omega
    have hgrow := World.grownBy_alloc w (.cells (ac.eval x).cells e) none
    refine ⟨.pointer (some ⟨w.heap.size, 0, none⟩), w.alloc (.cells (ac.eval x).cells e), ?_, hgrow, ?_, fun b hb => by simp [blkOf] at hb; omega, rfl, fun _ => ⟨_, rfl⟩⟩
    · simp [execOp, Instr.box, newVar, newRow]
    · have hb := box_ok (E := E) (w := w) (id := st.nx) (e := e) (vs := (ac.eval x).cells.toList) (cs := cs) c2 (RdL.mono (newE_live hnl) (fun b h => h) (fun b hb => hgrow.block b (R.heap.lt b hb) (by simp)) _ _ (by simpa using c1))
      simp only [hlen, Array.toArray_toList] at hb
      exact hb) rfl

theorem placesAll {P : Program} {w : World} : ∀ (fs : List Field), (∀ f ∈ fs, (P.info? f.type).isSome = true) → (fs.mapM fun (f : Field) => (do pure (f.offset, ← sizeOf f.type) : Sem (Nat × Nat))).run P w = .ok (fs.map fun f => (f.offset, P.cellsOf f.type)) w
  | [], _ => rfl
  | f :: fs, h => by
    obtain ⟨i, hi⟩ := Option.isSome_iff_exists.1 (h f (by simp))
    have h1 : (do pure (f.offset, ← sizeOf f.type) : Sem (Nat × Nat)).run P w = .ok (f.offset, P.cellsOf f.type) w := by
      simp [sizeOf, typeInfo, hi, Program.cellsOf]
    rw [List.mapM_cons, Sem.run_bind, h1, Result.andThen_ok, Sem.run_bind, placesAll fs (fun f hf => h f (by simp [hf]))]
    simp only [Result.andThen_ok, Sem.run_pure, List.map_cons]

theorem parts_of {E : Env} {w : World} {ac : Act} {t : TypeId} {place : Nat → Option (Nat × Nat)} (hp : ∀ n q, placesOf P t n = some q → place n = some q) : ∀ {l : List (Nat × Operand)} {ps : List (Nat × Nat × Operand)}, optAll (fun p : Nat × Operand => (placesOf P t p.1).map fun q => (q.1, q.2, p.2)) l = some ps →
    (∀ p ∈ ps, Rd E w (ev st p.2.2) (ac.eval p.2.2)) → Parts E w place (l.map fun p => (p.1, ac.eval p.2)) (ps.map fun p => (p.1, p.2.1, ev st p.2.2))
  | [], ps, h, _ => by simp only [optAll, Option.some.injEq] at h; subst h; trivial
  | p :: l, ps, h, hr => by
    simp only [optAll] at h
    cases hq : placesOf P t p.1 with
    | none => simp [hq] at h
    | some q =>
      cases hl : optAll (fun p : Nat × Operand => (placesOf P t p.1).map fun q => (q.1, q.2, p.2)) l with
      | none => simp [hl] at h
      | some ps' =>
        simp only [hq, Option.map_some, hl, Option.some.injEq] at h
        subst h
        exact ⟨⟨hp _ _ hq, hr (q.1, q.2, p.2) (by simp)⟩, parts_of hp hl (fun p hp' => hr p (by simp [hp']))⟩

theorem q_build {z : List Value} {ps : List (Nat × Nat × Operand)} {cs : List AV} (hg : gOK st g) (hf : fillA (z.map .lit) (ps.map fun p => (p.1, p.2.1, ev st p.2.2)) = some cs) : Step P st ⟨⟨d, g, .build z ps⟩, .agg cs, [], [], false⟩ :=
  step_val [] hg fun o C E ac w sx hlow R hr hh => by
    obtain ⟨dst, o, ty, pos, after, guard⟩ := o
    obtain ⟨t, l, sz, by_, rfl, hz, hl, hfo⟩ := low_spec hlow
    obtain ⟨i, zv, k1, k2, k3, k4, k5, k6, k7, _⟩ := zeroOf_spec hz
    have hzv : zv.cells = z.toArray := by rw [k3]
    have hzr : (zeroValue t).run P w = .ok zv w := by simp [zeroValue, typeInfo, k1, k2]
    have hrr : ∀ p ∈ ps, Rd E w (ev st p.2.2) (ac.eval p.2.2) := fun p hp => hr p.2.2 (by simp [AOp.opds]; exact ⟨p.1, p.2.1, hp⟩)
    have hrd0 : RdL E w (z.map .lit) zv.cells.toList := by rw [hzv]; exact rdL_lits z
    have h10 : Ones zv.cells.toList := by rw [hzv]; exact k7
    have hpl : (l.map fun (p : Nat × Operand) => (p.1, ac.eval p.2)).toList = l.toList.map fun p => (p.1, ac.eval p.2) := by simp
    unfold fieldsOK at hfo
    split at hfo
    · rename_i fs hu
      simp only [List.all_eq_true] at hfo
      have hpla : ∀ n q, placesOf P t n = some q → (fs.map fun f => (f.offset, P.cellsOf f.type))[n]? = some q := fun n q hq => by
        simp only [placesOf, hu] at hq
        split at hq
        · rename_i f hf
          simp only [Option.map_eq_some_iff] at hq
          obtain ⟨j, hj, rfl⟩ := hq
          simp [hf, Program.cellsOf, hj]
        · cases hq
      obtain ⟨out, o1, o2, o3⟩ := fill_run (place := fun n => (fs.map fun f => (f.offset, P.cellsOf f.type))[n]?) hrd0 h10 (parts_of (P := P) (st := st) hpla hl hrr) hf
      refine ⟨.agg out, ?_, out.toList, by simp, o3, o2⟩
      have hpm : (fs.mapM fun (f : Field) => (do pure (f.offset, ← sizeOf f.type) : Sem (Nat × Nat))).run P w = .ok (fs.map fun f => (f.offset, P.cellsOf f.type)) w := by
        rw [Array.mapM_eq_mapM_toList, map_eq_pure_bind, Sem.run_bind, placesAll fs.toList hfo]
        simp only [Result.andThen_ok, Sem.run_pure, ← Array.toList_map, Array.toArray_toList]
      simp only [execOp, Instr.build, Sem.run_bind, hzr, Result.andThen_ok, run_underlying hu w, hpm, hpl, o1, Sem.run_pure]
    · rename_i len e hu
      obtain ⟨j, hj⟩ := Option.isSome_iff_exists.1 hfo
      have hpla : ∀ n q, placesOf P t n = some q → some (n * j.size, j.size) = some q := fun n q hq => by
        simpa [placesOf, hu, hj] using hq
      obtain ⟨out, o1, o2, o3⟩ := fill_run (place := fun n => some (n * j.size, j.size)) hrd0 h10 (parts_of (P := P) (st := st) hpla hl hrr) hf
      refine ⟨.agg out, ?_, out.toList, by simp, o3, o2⟩
      have hsz : (sizeOf e).run P w = .ok j.size w := by simp [sizeOf, typeInfo, hj]
      simp only [execOp, Instr.build, Sem.run_bind, hzr, Result.andThen_ok, run_underlying hu w, hsz, hpl, o1, Sem.run_pure]
    · cases hfo
end
end Go.Proofs.Ytkgnnnehmnoleaa

namespace Go.Proofs.Ytkgnnnehmnoleaa
set_option linter.unusedVariables false
open Go.RowKit

/-- elements of sz cells each -/
def chunk (sz : Nat) : Nat → List AV → List (List AV)
  | 0, _ => []
  | n + 1, cs => cs.take sz :: chunk sz n (cs.drop sz)

theorem RdIL.take {im : Nat → Prop} {w : World} : ∀ (n : Nat) {l : List AV} {vs : List Value}, RdIL im w l vs → RdIL im w (l.take n) (vs.take n)
  | 0, l, vs, h => by simp [RdIL]
  | n + 1, [], vs, h => by simp only [RdIL] at h; subst h; simp [RdIL]
  | n + 1, a :: l, vs, h => by
    simp only [RdIL] at h
    obtain ⟨v, rest, rfl, h2, h3⟩ := h
    simp only [List.take_succ_cons, RdIL]
    exact ⟨v, rest.take n, rfl, h2, RdIL.take n h3⟩

theorem RdIL.drop {im : Nat → Prop} {w : World} : ∀ (n : Nat) {l : List AV} {vs : List Value}, RdIL im w l vs → RdIL im w (l.drop n) (vs.drop n)
  | 0, l, vs, h => by simpa using h
  | n + 1, [], vs, h => by simp only [RdIL] at h; subst h; simp [RdIL]
  | n + 1, a :: l, vs, h => by
    simp only [RdIL] at h
    obtain ⟨v, rest, rfl, _, h3⟩ := h
    simpa using RdIL.drop n h3

theorem RdIL.append {im : Nat → Prop} {w : World} : ∀ {l : List AV} {vs : List Value} {l' : List AV} {vs' : List Value}, RdIL im w l vs → RdIL im w l' vs' → RdIL im w (l ++ l') (vs ++ vs')
  | [], vs, l', vs', h, h' => by simp only [RdIL] at h; subst h; simpa using h'
  | a :: l, vs, l', vs', h, h' => by
    simp only [RdIL] at h
    obtain ⟨v, rest, rfl, h2, h3⟩ := h
    simp only [List.cons_append, RdIL]
    exact ⟨v, rest ++ vs', rfl, h2, h3.append h'⟩

theorem RdIE.append {im : Nat → Prop} {w : World} {sz : Nat} : ∀ {l : List (List AV)} {vs : List Value} {l' : List (List AV)} {vs' : List Value}, RdIE im w sz l vs → RdIE im w sz l' vs' → RdIE im w sz (l ++ l') (vs ++ vs')
  | [], vs, l', vs', h, h' => by simp only [RdIE] at h; subst h; simpa using h'
  | a :: l, vs, l', vs', h, h' => by
    simp only [RdIE] at h
    obtain ⟨v, rest, rfl, h1, h2, h3⟩ := h
    simp only [List.cons_append, RdIE]
    exact ⟨v, rest ++ vs', by rw [List.append_assoc], h1, h2, h3.append h'⟩

theorem RdIE.length {im : Nat → Prop} {w : World} {sz : Nat} : ∀ {es : List (List AV)} {vs : List Value}, RdIE im w sz es vs → vs.length = es.length * sz
  | [], vs, h => by simp only [RdIE] at h; simp [h]
  | e :: es, vs, h => by
    simp only [RdIE] at h
    obtain ⟨x, rest, rfl, h1, _, h3⟩ := h
    rw [List.length_append, h1, RdIE.length h3, List.length_cons, Nat.add_mul, Nat.one_mul, Nat.add_comm]

theorem chunk_rd {im : Nat → Prop} {w : World} {sz : Nat} : ∀ (n : Nat) {cs : List AV} {vs : List Value}, RdIL im w cs vs → vs.length = n * sz → RdIE im w sz (chunk sz n cs) vs
  | 0, cs, vs, h, hl => by
    have : vs = [] := List.eq_nil_of_length_eq_zero (by simpa using hl)
    subst this; rfl
  | n + 1, cs, vs, h, hl => by
    have hge : sz ≤ vs.length := by rw [hl, Nat.add_mul, Nat.one_mul]; omega
    refine ⟨vs.take sz, vs.drop sz, (List.take_append_drop _ _).symm, by simp; omega, h.take sz, chunk_rd n (h.drop sz) ?_⟩
    rw [List.length_drop, hl, Nat.add_mul, Nat.one_mul]; omega

theorem chunk_length (sz : Nat) : ∀ (n : Nat) (cs : List AV), (chunk sz n cs).length = n
  | 0, _ => rfl
  | n + 1, cs => by simp [chunk, chunk_length sz n]

theorem RdIE.set {im : Nat → Prop} {w : World} {sz : Nat} : ∀ {es : List (List AV)} {vs : List Value} {i : Nat} {e' : List AV} {x' : List Value}, RdIE im w sz es vs → i < es.length → RdIL im w e' x' → x'.length = sz →
    RdIE im w sz (es.set i e') (vs.take (i * sz) ++ (x' ++ vs.drop (i * sz + sz)))
  | [], vs, i, e', x', h, hi, _, _ => by simp at hi
  | e :: es, vs, 0, e', x', h, hi, he, hx => by
    simp only [RdIE] at h
    obtain ⟨x, rest, rfl, h1, h2, h3⟩ := h
    simp only [List.set_cons_zero, RdIE]
    refine ⟨x', rest, ?_, hx, he, h3⟩
    rw [Nat.zero_mul, List.take_zero, List.nil_append, Nat.zero_add, ← h1, List.drop_left]
  | e :: es, vs, i + 1, e', x', h, hi, he, hx => by
    simp only [RdIE] at h
    obtain ⟨x, rest, rfl, h1, h2, h3⟩ := h
    simp only [List.set_cons_succ, RdIE]
    refine ⟨x, rest.take (i * sz) ++ (x' ++ rest.drop (i * sz + sz)), ?_, h1, h2, RdIE.set h3 (by simpa using hi) he hx⟩
    have e1 : (i + 1) * sz = x.length + i * sz := by rw [Nat.add_mul, Nat.one_mul, h1, Nat.add_comm]
    rw [e1, List.take_length_add_append, Nat.add_assoc, List.drop_length_add_append, List.append_assoc]

/-- no names of blocks in it -/
theorem pure_rdL {E : Env} {w : World} {cs cs' : List AV} {vs : List Value} (h : mapL (fun _ => none) cs = some cs') (hr : RdL E w cs vs) : RdIL E.im w cs' vs :=
  mapL_rd (fun b h => h) (fun x y v _ e => by cases e) cs vs cs' hr h

/-- a block of one's own is written -/
theorem Rel.upd {C : Ctx} {E : Env} {st : St} {a : Act} {w w' : World} (R : Rel C E st a w) {id b : Nat} {o0 ob : OB} (hl1 : E.live id) (ho : hl st.h id = some o0) (hro : o0.ro = false) (hb : blkOf (E.val id) = some b) (hg : w.grownBy w' (some b))
    (hob : obOK E w' id ob) (hro' : ob.ro = false) : Rel C E ⟨st.t, (id, some ob) :: st.h, st.nx⟩ a w' := by
  have hnim : ¬ E.im b := fun h => by have := (R.heap.im id o0 b hl1 ho hb).1 h; rw [hro] at this; cases this
  have hw : ∀ k, E.im k → w'.heap[k]? = w.heap[k]? := fun k hk => hg.block k (R.heap.lt k hk) (fun e => by simp at e; subst e; exact hnim hk)
  refine ⟨R.defers, R.size, fun n => Rd.mono (fun k h => ⟨h, rfl, rfl⟩) (fun k h => h) hw _ _ (R.tm n), ⟨?_, ?_, ?_, fun k hk => Nat.lt_of_lt_of_le (R.heap.lt k hk) hg.size⟩, R.nx, ?_, R.ext, R.imx, R.imn, ?_⟩
  · intro k o hk hh
    rcases hl_new hh with ⟨rfl, e⟩ | ⟨hne, p1⟩
    · simp only [Option.some.injEq] at e; subst e; exact hob
    · exact (R.heap.ob k o hk p1).mono ⟨rfl, rfl⟩ (fun k h => ⟨h, rfl, rfl⟩) (fun k h => h) hw (fun b' hb' => hg.block b' (R.heap.blk_lt hk p1 hb') (fun e => by
        simp at e; subst e
        exact hne (R.heap.apart k id o o0 b' hk hl1 p1 ho hb' hb)))
  · intro k k' o o' b' hk hk' hh hh' hb1 hb2
    have e : ∀ j oj, hl ((id, some ob) :: st.h) j = some oj → ∃ oj', hl st.h j = some oj' := fun j oj hj => by
      rcases hl_new hj with ⟨rfl, _⟩ | ⟨_, p⟩
      · exact ⟨o0, ho⟩
      · exact ⟨oj, p⟩
    obtain ⟨q1, e1⟩ := e k o hh
    obtain ⟨q2, e2⟩ := e k' o' hh'
    exact R.heap.apart k k' q1 q2 b' hk hk' e1 e2 hb1 hb2
  · intro k o b' hk hh hb'
    rcases hl_new hh with ⟨rfl, e⟩ | ⟨hne, p1⟩
    · simp only [Option.some.injEq] at e; subst e
      rw [hro', ← hro]; exact R.heap.im k o0 b' hk ho hb'
    · exact R.heap.im k o b' hk p1 hb'
  · intro k o b' hk hh hb'
    rcases hl_new hh with ⟨rfl, e⟩ | ⟨hne, p1⟩
    · exact R.own k o0 b' hk ho hb'
    · exact R.own k o b' hk p1 hb'
  · refine ⟨hg.os.trans R.frm.os, hg.tape.trans R.frm.tape, hg.output.trans R.frm.output, Nat.le_trans R.frm.size hg.size, fun k hk hX => ?_⟩
    refine (hg.block k (Nat.lt_of_lt_of_le hk R.frm.size) (fun e => ?_)).trans (R.frm.block k hk hX)
    simp at e; subst e
    rcases R.own id o0 k hl1 ho hb with h | h
    · omega
    · exact hX h

theorem setRow_grown {w : World} {g : Nat} {cs : Array Value} : w.grownBy (w.setRow g cs) (some g) :=
  ⟨rfl, rfl, rfl, by simp [World.setRow], fun k hk hne => by
    simp only [World.setRow, Array.getElem?_modify]
    rw [if_neg (fun e => hne (by rw [e]))]⟩

theorem splice_take {α : Type} (L X : List α) (I off n sz M : Nat) (hM : I + sz ≤ M) (hML : M ≤ L.length) (hX : X.length = n) (ho : off + n ≤ sz) :
    (L.take (I + off) ++ (X ++ L.drop (I + off + n))).take M = (L.take M).take I ++ (((((L.take M).drop I).take sz).take off ++ (X ++ (((L.take M).drop I).take sz).drop (off + n))) ++ (L.take M).drop (I + sz)) := by
  apply List.ext_getElem?
  intro q
  simp only [List.getElem?_append, List.getElem?_take, List.getElem?_drop, List.length_take, List.length_drop, List.length_append, hX]
  have e1 : min (I + off) L.length = I + off := by omega
  have e2 : min I (min M L.length) = I := by omega
  have e4 : min sz (min M L.length - I) = sz := by omega
  have e5 : min off sz = off := by omega
  simp only [e1, e2, e4, e5]
  by_cases h1 : q < I
  · have : q < I + off := by omega
    have h2 : q < M := by omega
    simp [h1, this, h2]
  · by_cases h2 : q < I + off
    · have a1 : q < M := by omega
      have a2 : q - I < off + (n + (sz - (off + n))) := by omega
      have a3 : q - I < off := by omega
      have a4 : q - I < sz := by omega
      have a5 : I + (q - I) = q := by omega
      simp [h1, h2, a1, a2, a3, a4, a5]
    · by_cases h3 : q < I + off + n
      · have a1 : q < M := by omega
        have a2 : q - I < off + (n + (sz - (off + n))) := by omega
        have a3 : ¬ q - I < off := by omega

        have a5 : q - I - off < n := by omega
        have a6 : q - (I + off) = q - I - off := by omega
        simp [h1, h2, a1, a2, a3, a5, a6]
      · by_cases h4 : q < I + sz
        · have a1 : q < M := by omega
          have a2 : q - I < off + (n + (sz - (off + n))) := by omega
          have a3 : ¬ q - I < off := by omega
          have a4 : ¬ q - (I + off) < n := by omega
          have a5 : ¬ q - I - off < n := by omega
          have a6 : off + n + (q - I - off - n) < sz := by omega
          have a7 : I + (off + n + (q - I - off - n)) = q := by omega
          have a8 : I + off + n + (q - (I + off) - n) = q := by omega
          simp [h1, h2, a1, a2, a3, a4, a5, a6, a7, a8]
        · have a2 : ¬ q - I < off + (n + (sz - (off + n))) := by omega
          have a3 : ¬ q - (I + off) < n := by omega
          have a4 : I + off + n + (q - (I + off) - n) = q := by omega
          have a5 : I + sz + (q - I - (off + (n + (sz - (off + n))))) = q := by omega
          simp [h1, h2, a2, a3, a4, a5]

section
variable {P : Program} {st : St} {d : Option Nat} {g : Option (Nat × Bool)}

theorem storeAt_run {w : World} {t : TypeId} {gg : Bool} {n b o : Nat} {v : Value} {cur : Array Value} {e : TypeId} (hs : szOf P t = some (gg, n)) (hv : v.cells.size = n) (h1 : Ones v.cells.toList) (hb : w.heap[b]? = some (.cells cur e (0, 0))) (hle : o + n ≤ cur.size) :
    (Instr.storeAt t (.pointer (some ⟨b, o, none⟩)) v).run P w = .ok () (w.setRow b (cur.toList.take o ++ v.cells.toList ++ cur.toList.drop (o + n)).toArray) := by
  obtain ⟨dd, i, k1, k2, k3, _⟩ := szOf_spec hs
  have hsz : (sizeOf t).run P w = .ok n w := by simp [sizeOf, typeInfo, k2, k3]
  have hst := run_storeCells_at P b o e v.cells.toList 0 cur w hb (by simp; omega) h1
  have hlen : v.cells.toList.length = n := by simpa using hv
  rw [Nat.add_zero, hlen] at hst
  have hn : ¬ v.cells.size ≠ n := by omega
  simp only [Instr.storeAt, Instr.sureAddr, Sem.run_bind, Sem.run_pure, Result.andThen_ok, storeVar, hsz, if_neg hn]
  exact hst

/-- a store into a box -/
theorem q_storeB {n id off : Nat} {p x : Operand} {ob : OB} {av : AV} {e cs : List AV} (hg : gOK st g) (hp : ev st p = .optr id 0 off) (ho : hl st.h id = some ob) (hrow : ob.row = false) (hro : ob.ro = false) (he : ob.es = [e]) (hx : ev st x = av) (hc : cellsA av = some cs) (hn : cs.length = n) (hle : Nat.ble (off + n) e.length = true) :
    Step P st ⟨⟨d, g, .store n p x⟩, .any, [], [(id, some { ob with es := [e.take off ++ (cs ++ e.drop (off + n))] })], false⟩ := by
  intro N ops o hlow C E a w sx hN R hag hh hnw K Q hK
  rw [if_pos (wanted_of hlow R hag hg)]
  obtain ⟨h1, h2, h3, h4⟩ := lower_parts hlow
  have hpv := eval_of R hag (x := p) (by simp [AOp.opds])
  have hxv := eval_of R hag (x := x) (by simp [AOp.opds])
  rw [hp] at hpv; rw [hx] at hxv
  obtain ⟨hl1, b, hb, hpv⟩ := hpv
  have ho' : hl sx.h id = some ob := by rw [hh id (.inr (by simp))]; exact ho
  obtain ⟨k1, k2⟩ := R.heap.ob id ob hl1 ho'
  have k2' := k2
  rw [hrow] at k2
  obtain ⟨g', vs, cs0, j1, j2, j3, j4, j5, j6⟩ := k2
  rw [he] at j3
  obtain rfl : e = cs0 := by simpa using j3
  have hbg : blkOf (E.val id) = some g' := by rw [j1]; rfl
  rw [hb] at hbg
  obtain rfl := Option.some.inj hbg
  obtain ⟨c1, c2⟩ := cellsA_rd hc hxv
  have hvs := cells_size hc hxv
  have hlen := j5.length
  have hle' := Nat.le_of_ble_eq_true hle
  rw [Nat.zero_mul, Nat.zero_add] at hpv
  obtain ⟨dst, op, ty, pos, after, guard⟩ := o
  obtain ⟨t, gg, rfl, hs⟩ := low_spec h3
  have hrun := storeAt_run (P := P) (w := w) (v := a.eval x) (o := off) hs (by omega) c2 j2 (by simp; omega)
  unfold Oper.wp
  have hex : (execOp a.eval ⟨dst, .store t p x, ty, pos, after, guard⟩).run P w = .ok .skip (w.setRow b (vs.toArray.toList.take off ++ (a.eval x).cells.toList ++ vs.toArray.toList.drop (off + n)).toArray) := by
    simp only [execOp, hpv, Sem.run_bind, hrun, Result.andThen_ok, Sem.run_pure]
  rw [hex, Oper.upon_skip]
  refine hK undef _ E ?_ (fun id h => .inl h)
  have hgr : w.grownBy (w.setRow b (vs.toArray.toList.take off ++ (a.eval x).cells.toList ++ vs.toArray.toList.drop (off + n)).toArray) (some b) := setRow_grown
  have hnim : ¬ E.im b := fun h => by have := (R.heap.im id ob b hl1 ho' hb).1 h; rw [hro] at this; cases this
  have hw : ∀ k, E.im k → (w.setRow b (vs.toArray.toList.take off ++ (a.eval x).cells.toList ++ vs.toArray.toList.drop (off + n)).toArray).heap[k]? = w.heap[k]? := fun k hk => hgr.block k (R.heap.lt k hk) (fun e => by simp at e; subst e; exact hnim hk)
  have hob : obOK E (w.setRow b (vs.toArray.toList.take off ++ (a.eval x).cells.toList ++ vs.toArray.toList.drop (off + n)).toArray) id { ob with es := [e.take off ++ (cs ++ e.drop (off + n))] } := by
    refine ⟨k1, ?_⟩
    simp only [hrow, cond_false]
    refine ⟨b, vs.take off ++ ((a.eval x).cells.toList ++ vs.drop (off + n)), _, j1, ?_, rfl, ?_, ?_, ?_⟩
    · have := setRow_heap w b vs.toArray (vs.toArray.toList.take off ++ (a.eval x).cells.toList ++ vs.toArray.toList.drop (off + n)).toArray ob.e (0, 0) j2
      rw [this]; simp [List.append_assoc]
    · simp; omega
    · exact RdL.mono (fun k h => ⟨h, rfl, rfl⟩) (fun k h => h) hw _ _ ((j5.take off).append (c1.append (j5.drop (off + n))))
    · intro u hu
      simp only [List.mem_append] at hu
      rcases hu with hu | hu | hu
      · exact j6 u (List.mem_of_mem_take hu)
      · exact c2 u hu
      · exact j6 u (List.mem_of_mem_drop hu)
  have := (R.upd hl1 ho' hro hb hgr hob hro).put (d := dst) (fun k hk => by rw [hN]; exact h2 k hk) (v := .any) (u := undef) trivial
  simp only [St.appx]
  rw [show d = dst from h1]
  exact this

/-- a store into a row -/
theorem q_storeR {n id i off : Nat} {p x : Operand} {ob : OB} {av av' : AV} {e cs cs' : List AV} (rd : List Nat) (hg : gOK st g) (hp : ev st p = .optr id i off) (ho : hl st.h id = some ob) (hrow : ob.row = true) (hro : ob.ro = false) (he : ob.es[i]? = some e) (hx : ev st x = av) (hv : viewN true (restr rd st.h) 4 av = some av')
    (hc : cellsA av' = some cs) (hpu : mapL (fun _ => none) cs = some cs') (hn : cs.length = n) (hle : Nat.ble (off + n) e.length = true) :
    Step P st ⟨⟨d, g, .store n p x⟩, .any, rd, [(id, some { ob with es := ob.es.set i (e.take off ++ (cs' ++ e.drop (off + n))) })], false⟩ := by
  intro N ops o hlow C E a w sx hN R hag hh hnw K Q hK
  rw [if_pos (wanted_of hlow R hag hg)]
  obtain ⟨h1, h2, h3, h4⟩ := lower_parts hlow
  have hpv := eval_of R hag (x := p) (by simp [AOp.opds])
  have hxv := eval_of R hag (x := x) (by simp [AOp.opds])
  rw [hp] at hpv; rw [hx] at hxv
  obtain ⟨hl1, b, hb, hpv⟩ := hpv
  have ho' : hl sx.h id = some ob := by rw [hh id (.inr (by simp))]; exact ho
  have H0 : HeapOK E w (restr rd st.h) := R.heap.restr (fun id hid => hh id (.inl hid))
  have hxi := view_rd H0 4 _ _ _ hxv hv
  have hxi' : RdI E.im w av' (a.eval x) := RdI.mono (by
    rintro k (hk | ⟨id', ob', q1, q2, q3, q4⟩)
    · exact hk
    · exact (H0.im id' ob' k q1 q2 q3).2 (q4 rfl)) (fun b h => rfl) _ _ hxi
  obtain ⟨k1, k2⟩ := R.heap.ob id ob hl1 ho'
  rw [hrow] at k2
  obtain ⟨vs, a0, cap, j1, j2, j3, j4, j5⟩ := k2
  obtain ⟨c1, c2⟩ := cellsA_rd hc (RdI.rd (E := E) _ _ hxi')
  have c3 := pure_rdL hpu c1
  have hvs := cells_size hc (RdI.rd (E := E) _ _ hxi')
  have hle' := Nat.le_of_ble_eq_true hle
  obtain ⟨r1, r2⟩ := j3.get he
  have hel : e.length = ob.sz := by have := (RdIL.rd (E := E) _ _ r1).length; omega
  have hi : i < ob.es.length := (List.getElem?_eq_some_iff.1 he).1
  have hvl := j3.length
  rcases j2.2 with ⟨_, h0⟩ | ⟨g', c, cur, hvv, _, hcur, hnc, hcm, hcs, htake⟩
  · omega
  have hbg : blkOf (E.val id) = some g' := by rw [hvv]; rfl
  rw [hb] at hbg
  obtain rfl := Option.some.inj hbg
  have hmul : i * ob.sz + ob.sz ≤ ob.es.length * ob.sz := by
    have := Nat.mul_le_mul_right ob.sz (show i + 1 ≤ ob.es.length from hi)
    rw [Nat.add_mul, Nat.one_mul] at this; exact this
  have hcm' : ob.es.length * ob.sz ≤ c * ob.sz := Nat.mul_le_mul_right _ hnc
  obtain ⟨dst, op, ty, pos, after, guard⟩ := o
  obtain ⟨t, gg, rfl, hs⟩ := low_spec h3
  rw [k1] at hpv
  have hrun := storeAt_run (P := P) (w := w) (v := a.eval x) (o := i * ob.sz + off) hs (by omega) c2 hcur (by rw [hcs]; omega)
  unfold Oper.wp
  generalize hW : (cur.toList.take (i * ob.sz + off) ++ (a.eval x).cells.toList ++ cur.toList.drop (i * ob.sz + off + n)).toArray = W at hrun
  have hex : (execOp a.eval ⟨dst, .store t p x, ty, pos, after, guard⟩).run P w = .ok .skip (w.setRow b W) := by
    simp only [execOp, hpv, Sem.run_bind, hrun, Result.andThen_ok, Sem.run_pure]
  rw [hex, Oper.upon_skip]
  refine hK undef _ E ?_ (fun id h => .inl h)
  have hgr : w.grownBy (w.setRow b W) (some b) := setRow_grown
  have hnim : ¬ E.im b := fun h => by have := (R.heap.im id ob b hl1 ho' hb).1 h; rw [hro] at this; cases this
  have hw : ∀ k, E.im k → (w.setRow b W).heap[k]? = w.heap[k]? := fun k hk => hgr.block k (R.heap.lt k hk) (fun e => by simp at e; subst e; exact hnim hk)
  -- the cells of the element, as they are now
  have hvt : vs = cur.toList.take (ob.es.length * ob.sz) := htake.symm
  have hxl : (a.eval x).cells.toList.length = n := by simp; omega
  have hWl : W.toList = cur.toList.take (i * ob.sz + off) ++ ((a.eval x).cells.toList ++ cur.toList.drop (i * ob.sz + off + n)) := by rw [← hW]; simp
  have hnew : W.toList.take (ob.es.length * ob.sz) = vs.take (i * ob.sz) ++ ((((vs.drop (i * ob.sz)).take ob.sz).take off ++ ((a.eval x).cells.toList ++ ((vs.drop (i * ob.sz)).take ob.sz).drop (off + n))) ++ vs.drop (i * ob.sz + ob.sz)) := by
    rw [hWl, hvt]
    exact splice_take _ _ _ _ _ _ _ hmul (by simp; omega) hxl (by omega)
  have hob : obOK E (w.setRow b W) id { ob with es := ob.es.set i (e.take off ++ (cs' ++ e.drop (off + n))) } := by
    refine ⟨k1, ?_⟩
    simp only [hrow, cond_true]
    have hE := RdIE.set (i := i) j3 hi ((r1.take off).append (c3.append (r1.drop (off + n)))) (by simp [r2]; omega)
    refine ⟨_, a0, cap, by simpa using j1, ⟨?_, .inr ⟨b, c, W, ?_, Nat.zero_le _, setRow_heap w b cur W ob.e (0, 0) hcur, by simpa using hnc, hcm, ?_, ?_⟩⟩, RdIE.mono (fun k h => h) hw _ _ _ hE, ?_, by simpa using j5⟩
    · have := hE.length; simpa using this
    · simpa using hvv
    · rw [← hcs]; have := congrArg List.length hWl; simp at this ⊢; omega
    · simp only [List.length_set]; exact hnew
    · intro u hu
      simp only [List.mem_append] at hu
      rcases hu with hu | (hu | hu | hu) | hu
      · exact j4 u (List.mem_of_mem_take hu)
      · exact j4 u (List.mem_of_mem_drop (List.mem_of_mem_take (List.mem_of_mem_take hu)))
      · exact c2 u hu
      · exact j4 u (List.mem_of_mem_drop (List.mem_of_mem_take (List.mem_of_mem_drop hu)))
      · exact j4 u (List.mem_of_mem_drop hu)
  have := (R.upd hl1 ho' hro hb hgr hob hro).put (d := dst) (fun k hk => by rw [hN]; exact h2 k hk) (v := .any) (u := undef) trivial
  simp only [St.appx]
  rw [show d = dst from h1]
  exact this
end
end Go.Proofs.Ytkgnnnehmnoleaa
