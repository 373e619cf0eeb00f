/- Appending so many zeros to nothing; parts of nothing; a row of one's own, cut shorter. -/
import Derived.Test.YtmbigpjokpdnkaaAbs9
import Derived.Lib.AppendZeros
namespace Go.Proofs.Ytmbigpjokpdnkaa
set_option linter.unusedVariables false
open Go.RowKit

section
variable {P : Program} {st : St} {d : Option Nat} {g : Option (Nat × Bool)}

theorem q_appendZ {e : TypeId} {sz by_ : Nat} {z : List Value} {s x : Operand} {n : Nat} (hg : gOK st g) (hs : ev st s = .lit (.slice none 0 0)) (hx : ∃ k, ev st x = .lit (.int k n)) (h0 : 0 < n) (hb : n * by_ ≤ 140737488355328) :
    Step P st ⟨⟨d, g, .appendZ e sz by_ z s x⟩, .own st.nx, [], [(st.nx, some ⟨true, false, e, sz, List.replicate n (z.map .lit)⟩)], 1⟩ :=
  step_new (ob := ⟨true, false, e, sz, List.replicate n (z.map .lit)⟩) [] hg (fun o C E ac w sx hlow R hr hh hnl => by
    obtain ⟨k, hx⟩ := hx
    have hsv := lit_eval (hr s (by simp [AOp.opds])) hs
    have hxv := lit_eval (hr x (by simp [AOp.opds])) hx
    obtain ⟨dst, o, ty, pos, after, guard⟩ := o
    obtain ⟨t, t', k', rfl, het, hzt, hk'⟩ := low_spec hlow
    obtain ⟨i, zv, m1, m2, m3, m4, m5, m6, m7, m8, m9⟩ := zeroOf_spec hzt
    have hzs : zv.cells.size = sz := by have := congrArg List.length m3; simp at this; omega
    have hn : n ≤ 140737488355328 := Nat.le_trans (Nat.le_mul_of_pos_right _ m9) hb
    have hrun := Lib.run_append_nil_zeros (P := P) w t t' ty e i zv k k' (elemsOf_spec het) hk' m1 m2 n h0 (by omega) (by omega) (by rw [m5]; omega)
    generalize hcap : grownCap w n 0 e = cap at hrun
    have hge : n ≤ cap := by rw [← hcap]; exact grownCap_ge w n 0 e
    have hmx : cap ≤ maxLen := by rw [← hcap]; exact grownCap_le_maxLen w n 0 e (by unfold maxLen; omega)
    have hgr : w.grownBy (w.drew.alloc (.cells (Builtin.zeroCells zv.cells n ++ Builtin.zeroCells zv.cells (cap - n)) e)) none := by
      have h1 := World.grownBy_alloc w.drew (.cells (Builtin.zeroCells zv.cells n ++ Builtin.zeroCells zv.cells (cap - n)) e) none
      exact ⟨h1.os, h1.tape, h1.output, h1.size, fun k hk hne => h1.block k hk hne⟩
    refine ⟨.slice (some ⟨w.heap.size, 0, none⟩) n cap, _, ?_, hgr, ?_, fun b hb => by simp [blkOf] at hb; omega, rfl, fun h => by cases h⟩
    · simp only [execOp, resolve, Sem.run_bind, Sem.run_pure, Result.andThen_ok, invoke, builtin, List.map_toArray, List.map_cons, List.map_nil, hsv, hxv, hrun]
    · have hrd := range_made (im := E.im) (w := w.drew.alloc (.cells (Builtin.zeroCells zv.cells n ++ Builtin.zeroCells zv.cells (cap - n)) e)) (z := zv.cells) (by omega) n
      rw [hzs] at hrd
      refine ⟨by simp [newE], (List.range (n * sz)).map (zv.cells[· % sz]!), some ⟨w.heap.size, 0, none⟩, cap, by simp [newE], ⟨by simp, .inr ⟨w.heap.size, cap, _, by simp [newE], Nat.zero_le _, heap_alloc_new w.drew _, by simpa using hge, hmx, ?_, ?_⟩⟩, by rw [m3]; exact hrd, ?_, by simp [maxN]; omega⟩
      · simp only [Array.size_append, size_zeroCells, hzs]
        rw [← Nat.add_mul]; congr 1; omega
      · simp only [Builtin.zeroCells, List.length_replicate, hzs, Array.toList_append, Array.toList_map, Array.toList_range]
        rw [List.take_append_of_le_length (by simp), List.take_of_length_le (by simp)]
      · have := made_ones (z := zv.cells) (by rw [← m3]; exact m7) (by omega) (n * sz)
        rw [hzs] at this; exact this) rfl

/-- x[lo:hi] of nothing -/
theorem q_sliceN {sz : Nat} {x : Operand} {lo hi : Option Operand} (hg : gOK st g) (hx : ev st x = .lit (.slice none 0 0)) (hl : bndA st lo 0 0) (hh : bndA st hi 0 0) :
    Step P st ⟨⟨d, g, .slice sz x lo hi none⟩, .lit (.slice none 0 0), [], [], 0⟩ :=
  step_val [] hg fun o C E ac w sx hlow R hr hh' => by
    have hv := lit_eval (hr x (by simp [AOp.opds])) hx
    have vint : ∀ {y : Option Operand} {dflt z : Int}, (∀ o, y = some o → o ∈ (AOp.slice sz x lo hi none).opds) → bndA st y dflt z → (y = none ∧ z = dflt) ∨ (∃ k, y.map ac.eval = some (.int k z)) := fun {y dflt z} hy hb => by
      cases y with
      | none => exact .inl ⟨rfl, hb⟩
      | some o =>
        obtain ⟨k, hk⟩ := hb
        exact .inr ⟨k, by simp only [Option.map_some]; rw [lit_eval (hr o (hy o rfl)) hk]⟩
    obtain ⟨dst, o, ty, pos, after, guard⟩ := o
    obtain ⟨t, e, gg, rfl, het, hs⟩ := low_spec hlow
    have hlo := vint (y := lo) (fun o ho => by subst ho; simp [AOp.opds, oL]) hl
    have hhi := vint (y := hi) (fun o ho => by subst ho; simp [AOp.opds, oL]) hh
    have hrun := sliceAt_run (P := P) (w := w) (a := none) (len := 0) (cap := 0) (lo := lo.map ac.eval) (hi := hi.map ac.eval) (mx := none) (l := 0) (h := 0) (m := 0) (elemsOf_spec het) hs rfl
      (by rcases hhi with ⟨h0, e⟩ | ⟨k, hk⟩
          · rw [h0]; rfl
          · rw [hk]; exact ⟨k, rfl⟩)
      (by rcases hlo with ⟨h0, e⟩ | ⟨k, hk⟩
          · rw [h0]; rfl
          · rw [hk]; exact ⟨k, rfl⟩) (Nat.le_refl _) (Nat.le_refl _) (Nat.le_refl _) (by simp)
    exact ⟨.slice none 0 0, by simp only [execOp, hv, Sem.run_bind, Option.map_none, hrun, Result.andThen_ok, Sem.run_pure]; rfl, rfl⟩
/-- x[:k] of a row of one's own: the old name goes -/
theorem q_sliceO {sz : Nat} {x y : Operand} {id k : Nat} {ob : OB} (hg : gOK st g) (hx : ev st x = .own id) (ho : hl st.h id = some ob) (hrow : ob.row = true) (hro : ob.ro = false) (hsz : ob.sz = sz) (hy : ∃ kk, ev st y = .lit (.int kk k)) (hk : k ≤ ob.es.length) :
    Step P st ⟨⟨d, g, .slice sz x none (some y) none⟩, .own st.nx, [], [(st.nx, some ⟨true, false, ob.e, sz, ob.es.take k⟩), (id, none)], 1⟩ := by
  intro N ops o hlow C E a w sx hN R hag hh hnw K Q hK
  rw [if_pos (wanted_of hlow R hag hg)]
  obtain ⟨h1, h2, h3, h4⟩ := lower_parts hlow
  obtain ⟨hnl, hnx⟩ := hnw 0 (Nat.lt_succ_self 0)
  obtain ⟨kk, hy⟩ := hy
  have hsv := eval_of R hag (x := x) (by simp [AOp.opds])
  have hyv := lit_eval (eval_of R hag (x := y) (by simp [AOp.opds, oL])) hy
  rw [hx] at hsv
  obtain ⟨hl1, _, hsv⟩ := hsv
  have ho' : hl sx.h id = some ob := by rw [hh id (.inr (by simp))]; exact ho
  obtain ⟨k1, k2⟩ := R.heap.ob id ob hl1 ho'
  rw [hrow] at k2
  obtain ⟨vs, a0, cap, j1, j2, j3, j4, j5⟩ := k2
  obtain ⟨dst, op, ty, pos, after, guard⟩ := o
  obtain ⟨t, e, gg, rfl, het, hs⟩ := low_spec h3
  have hcapn : ob.es.length ≤ cap := by
    rcases j2.2 with ⟨q1, q2⟩ | ⟨g', c', cur, q1, _, _, q3, _⟩
    · omega
    · rw [j1] at q1; simp only [Value.slice.injEq] at q1; omega
  have hrun := sliceAt_run (P := P) (w := w) (a := a0) (len := ob.es.length) (cap := cap) (lo := none) (hi := some (.int kk k)) (mx := none) (l := 0) (h := k) (m := cap) (elemsOf_spec het) hs rfl ⟨kk, rfl⟩ rfl (Nat.zero_le _) (by omega) (by omega) (by simp)
  have ha0 : (if cap = 0 then a0 else a0.map (·.add (0 * sz))) = a0 := by
    split
    · rfl
    · cases a0 with
      | none => rfl
      | some y =>
        rcases j2.2 with ⟨q1, q2⟩ | ⟨g', c', cur, q1, _, _, q3, _⟩
        · rw [j1] at q1; simp at q1
        · rw [j1] at q1; simp only [Value.slice.injEq, Option.some.injEq] at q1; rw [q1.1]; simp [addr_add]
  rw [ha0, Nat.sub_zero, Nat.sub_zero] at hrun
  have hlen : (ob.es.take k).length = k := by simp; omega
  unfold Oper.wp
  have hex : (execOp a.eval ⟨dst, .slice t x none (some y) none, ty, pos, after, guard⟩).run P w = .ok (.value (.slice a0 k cap)) w := by
    simp only [execOp, hsv.trans j1, Option.map_none, Option.map_some, hyv, Sem.run_bind, hrun, Result.andThen_ok, Sem.run_pure]
  rw [hex, Oper.upon_value]
  rw [hsz] at j2 j3
  have hvl := j2.1
  have hm : k * sz ≤ ob.es.length * sz := Nat.mul_le_mul_right _ hk
  have hob : obOK (newE E st.nx (.slice a0 k cap) sz) w st.nx ⟨true, false, ob.e, sz, ob.es.take k⟩ := by
    refine ⟨by simp [newE], vs.take (k * sz), a0, cap, by simp [newE, hlen], ?_, RdIE.take k j3, fun u hu => j4 u (List.mem_of_mem_take hu), by rw [hlen]; omega⟩
    have hl2 : (vs.take (k * sz)).length = (ob.es.take k).length * sz := by rw [hlen, List.length_take, hvl]; exact Nat.min_eq_left hm
    refine ⟨hl2, ?_⟩
    rcases j2.2 with ⟨q1, q2⟩ | ⟨g', c', cur, q1, q0, q3, q4, q5, q6, q7⟩
    · left
      have : k = 0 := by omega
      rw [j1] at q1
      simp only [Value.slice.injEq] at q1
      refine ⟨by simp [newE, this, q1.1, q1.2.2], by rw [hlen]; exact this⟩
    · right
      rw [j1] at q1
      simp only [Value.slice.injEq] at q1
      obtain ⟨rfl, _, rfl⟩ := q1
      refine ⟨g', cap, cur, by simp [newE, hlen], q0, q3, by rw [hlen]; omega, q5, q6, ?_⟩
      show List.take ((ob.es.take k).length * sz) cur.toList = _
      rw [hlen, ← q7, List.take_take, Nat.min_eq_left hm]
  have hgr : w.grownBy w (blkOf (E.val id)) := ⟨rfl, rfl, rfl, Nat.le_refl _, fun _ _ _ => rfl⟩
  have hR := Rel.new R hnl hnx (some id) (blkOf (E.val id)) hgr (fun b hb' => ⟨id, ob, rfl, hl1, ho', hb', hro⟩) (V := .slice a0 k cap) (ob := ⟨true, false, ob.e, sz, ob.es.take k⟩) hob rfl (fun b hb => .inr (by rw [j1]; cases a0 with | none => simp [blkOf] at hb | some y => simpa [blkOf] using hb))
  refine hK _ w (newE E st.nx (.slice a0 k cap) sz) ?_ (fun id' hid => Or.elim hid Or.inl (fun h => .inr ⟨0, Nat.lt_succ_self 0, h⟩))
  have := hR.put (d := dst) (fun k hk => by rw [hN]; exact h2 k hk) (v := .own st.nx) (u := .slice a0 k cap) ⟨.inr rfl, rfl, by simp [newE]⟩
  simp only [St.appx]
  rw [show d = dst from h1]
  exact this
end

section
variable {P : Program} {tt : List (Nat × AV)} {hh : Hp} {nn dd : Nat} {g : Option (Nat × Bool)} {l : List AInst} {acc : List SD} {K : List SD → St → Prop}
theorem r_sliceN {sz : Nat} {x : Operand} {lo hi : Option Operand} (h : RG P (⟨⟨some dd, g, .slice sz x lo hi none⟩, .lit (.slice none 0 0), [], [], 0⟩ :: acc) l ⟨(dd, .lit (.slice none 0 0)) :: tt, hh, nn⟩ K)
    (hg : gOK ⟨tt, hh, nn⟩ g := by first | exact True.intro | rfl) (hx : ev ⟨tt, hh, nn⟩ x = .lit (.slice none 0 0) := by rfl) (hl : bndA ⟨tt, hh, nn⟩ lo 0 0 := by first | rfl | exact ⟨_, rfl⟩) (hh' : bndA ⟨tt, hh, nn⟩ hi 0 0 := by first | rfl | exact ⟨_, rfl⟩) :
    RG P acc (⟨some dd, g, .slice sz x lo hi none⟩ :: l) ⟨tt, hh, nn⟩ K := RG.step (q_sliceN hg hx hl hh') h
theorem r_appendZ {e : TypeId} {sz by_ : Nat} {z : List Value} {s x : Operand} {n : Nat} (h0 : 0 < n) (hb : n * by_ ≤ 140737488355328)
    (h : RG P (⟨⟨some dd, g, .appendZ e sz by_ z s x⟩, .own nn, [], [(nn, some ⟨true, false, e, sz, List.replicate n (z.map .lit)⟩)], 1⟩ :: acc) l ⟨(dd, .own nn) :: tt, (nn, some ⟨true, false, e, sz, List.replicate n (z.map .lit)⟩) :: hh, nn + 1⟩ K)
    (hg : gOK ⟨tt, hh, nn⟩ g := by first | exact True.intro | rfl) (hs : ev ⟨tt, hh, nn⟩ s = .lit (.slice none 0 0) := by rfl) (hx : ∃ k, ev ⟨tt, hh, nn⟩ x = .lit (.int k n) := by exact ⟨_, rfl⟩) :
    RG P acc (⟨some dd, g, .appendZ e sz by_ z s x⟩ :: l) ⟨tt, hh, nn⟩ K := RG.step (q_appendZ hg hs hx h0 hb) h
theorem r_sliceO {sz : Nat} {x y : Operand} {id k : Nat} {ob : OB} (hk : k ≤ ob.es.length)
    (h : RG P (⟨⟨some dd, g, .slice sz x none (some y) none⟩, .own nn, [], [(nn, some ⟨true, false, ob.e, sz, ob.es.take k⟩), (id, none)], 1⟩ :: acc) l ⟨(dd, .own nn) :: tt, (nn, some ⟨true, false, ob.e, sz, ob.es.take k⟩) :: (id, none) :: hh, nn + 1⟩ K)
    (hg : gOK ⟨tt, hh, nn⟩ g := by first | exact True.intro | rfl) (hx : ev ⟨tt, hh, nn⟩ x = .own id := by rfl) (ho : hl hh id = some ob := by rfl) (hrow : ob.row = true := by rfl) (hro : ob.ro = false := by rfl) (hsz : ob.sz = sz := by rfl) (hy : ∃ kk, ev ⟨tt, hh, nn⟩ y = .lit (.int kk k) := by exact ⟨_, rfl⟩) :
    RG P acc (⟨some dd, g, .slice sz x none (some y) none⟩ :: l) ⟨tt, hh, nn⟩ K := RG.step (q_sliceO hg hx ho hrow hro hsz hy hk) h
end

section
variable {P : Program} {C : Ctx} {Q : Exit → St → Prop} {st : St}
theorem aw_slotZ {c : ACode} (n : Nat) (v : AV) (e : st.get n = v) (h : AW P C c Q ⟨(n, v) :: st.t, st.h, st.nx⟩) : AW P C c Q st :=
  aw_say (b := v) n e (fun E w u hu => hu) h

/-- a row of one's own under a new name: the old one goes -/
theorem aw_name {c : ACode} (n j : Nat) {o : OB} (hj : st.get n = .own j) (ho : hl st.h j = some o) (hrow : o.row = true) (hro : o.ro = false)
    (h : AW P C c Q ⟨(n, .own st.nx) :: st.t, (st.nx, some o) :: (j, none) :: st.h, st.nx + 1⟩) : AW P C c Q st := by
  refine aw_weak (fun E a w R => ?_) h
  have hid : ¬ E.live st.nx := fun hl => absurd (R.nx _ hl) (Nat.lt_irrefl _)
  have hv := R.tm n
  rw [hj] at hv
  obtain ⟨hl1, h1c, hv⟩ := hv
  have R1 : Rel C E ⟨st.t, st.h, st.nx + 1⟩ a w := R.congr (fun _ => rfl) (fun _ => rfl) (Nat.le_succ _)
  have hgr : w.grownBy w (blkOf (E.val j)) := ⟨rfl, rfl, rfl, Nat.le_refl _, fun _ _ _ => rfl⟩
  obtain ⟨k1, k2⟩ := R.heap.ob j o hl1 ho
  rw [hrow, cond_true] at k2
  obtain ⟨vs, a0, cap, j1, j2, j3, j4, j5⟩ := k2
  have hob : obOK (newE E st.nx (E.val j) o.sz) w st.nx o := by
    refine ⟨by simp [newE], ?_⟩
    rw [hrow, cond_true]
    exact ⟨vs, a0, cap, by simp [newE, j1], by simpa [newE] using j2, j3, j4, j5⟩
  have hR := Rel.new R1 hid (Nat.lt_succ_self _) (some j) (blkOf (E.val j)) hgr (fun b hb' => ⟨j, o, rfl, hl1, ho, hb', hro⟩) hob hro (fun b hb => .inr hb)
  refine ⟨newE E st.nx (E.val j) o.sz, hR.defers, hR.size, fun k => ?_, hR.heap, hR.nx, hR.own, hR.ext, hR.imx, hR.imn, hR.frm⟩
  by_cases hk : k = n
  · subst hk
    have e1 : St.get ⟨(k, .own st.nx) :: st.t, (st.nx, some o) :: (j, none) :: st.h, st.nx + 1⟩ k = .own st.nx := getT_same st.t k _
    rw [e1]
    exact ⟨.inr rfl, h1c, by rw [hv]; simp [newE]⟩
  · have e1 : St.get ⟨(n, .own st.nx) :: st.t, (st.nx, some o) :: (j, none) :: st.h, st.nx + 1⟩ k = st.get k := getT_ne st.t (some n) _ k (by simpa using fun h => hk h.symm)
    rw [e1]
    exact hR.tm k
end
end Go.Proofs.Ytmbigpjokpdnkaa
