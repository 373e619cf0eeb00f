/- An abstract layer over the walk, part 5: append, make, slices written out. -/
import Derived.Test.YtkgnnnehmnoleaaAbs4
namespace Go.Proofs.Ytkgnnnehmnoleaa
set_option linter.unusedVariables false
open Go.RowKit

theorem blk_own {v : Value} {a : Option Addr} {n c : Nat} (h : v = .slice a n c) : blkOf v = v.ownBlock := by subst h; cases a <;> rfl

theorem elemsOf_spec' {P : Program} {t e : TypeId} (h : elemsOf P t = some e) : P.underlying t = some (.slice e) := by
  unfold elemsOf at h
  split at h
  · rename_i e' hu; simp only [Option.some.injEq] at h; rw [hu, h]
  · cases h

theorem RdIE.drop' {im : Nat → Prop} {w : World} {sz : Nat} : ∀ (n : Nat) {es : List (List AV)} {vs : List Value}, RdIE im w sz es vs → RdIE im w sz (es.drop n) (vs.drop (n * sz))
  | 0, es, vs, h => by simpa using h
  | n + 1, [], vs, h => by simp only [RdIE] at h; subst h; simp [RdIE]
  | n + 1, e :: es, vs, h => by
    simp only [RdIE] at h
    obtain ⟨x, rest, rfl, h1, h2, h3⟩ := h
    have : (x ++ rest).drop ((n + 1) * sz) = rest.drop (n * sz) := by
      rw [Nat.add_mul, Nat.one_mul, Nat.add_comm, ← List.drop_drop]
      congr 1
      rw [← h1]; simp
    rw [this]; exact RdIE.drop' n h3

/-- append, whatever the capacity is -/
theorem append_run {P : Program} {w : World} {t ty e : TypeId} {i : TypeInfo} {z : Value} {sz by_ : Nat} (ht : P.underlying t = some (.slice e)) (hi : P.info? e = some i) (hz : i.zero = some z) (hsize : i.size = sz) (hby : i.bytes = by_) (hzs : z.cells.size = sz) (hsz : 0 < sz)
    {av : Option Addr} {n cap : Nat} {xs : List Value} (hown : w.ownsRow 0 e sz (.slice av n cap) n xs) {ao : Option Addr} {m c : Nat} {news : List Value} (hmc : m ≤ c) (hnil : ao = none → c = 0) (hl : news.length = m * sz)
    (hnews : ∀ j u, news[j]? = some u → ∃ b off, ao = some ⟨b, off, none⟩ ∧ w.cell? ⟨b, off + j, none⟩ = some u) (h1 : Ones news) (h63 : n + m ≤ maxLen) (hbytes : (n + m) * by_ ≤ 140737488355328) :
    ∃ av' cap' w', (Builtin.append_ #[t, t] ty #[.slice av n cap, .slice ao m c]).run P w = .ok (.slice av' (n + m) cap') w' ∧ w'.ownsRow 0 e sz (.slice av' (n + m) cap') (n + m) (xs ++ news) ∧ w.grownBy w' (blkOf (.slice av n cap)) ∧
      (∀ x, av' = some x → w.heap.size ≤ x.block ∨ av = some x) := by
  have cells : ∀ ad, ao = some ad → ∀ j u, news[j]? = some u → w.cell? (ad.add j) = some u := fun ad had j u hu => by
    obtain ⟨b, off, hab, hc⟩ := hnews j u hu
    rw [had] at hab
    simp only [Option.some.injEq] at hab
    subst hab
    rw [addr_add]; exact hc
  have hcapn : n ≤ cap := by
    rcases hown.2 with ⟨h1, h2⟩ | ⟨g, c', cur, h1, _, _, h3, _⟩
    · omega
    · simp only [Value.slice.injEq] at h1; omega
  have base : ∀ {w' : World} {v : Value} {k : Nat} {ys : List Value} {B : Nat}, w'.ownsRow B e sz v k ys → w'.ownsRow 0 e sz v k ys := fun {w' v k ys B} h => by
    refine ⟨h.1, ?_⟩
    rcases h.2 with hn | ⟨g, c', cur, r1, r2, rest⟩
    · exact .inl hn
    · exact .inr ⟨g, c', cur, r1, Nat.zero_le _, rest⟩
  have gany : ∀ {w' : World} {row : Option Nat}, w.grownBy w' none → w.grownBy w' row := fun h => ⟨h.os, h.tape, h.output, h.size, fun k hk _ => h.block k hk (by simp)⟩
  cases ao with
  | none =>
    have hc0 := hnil rfl
    have hm : m = 0 := by omega
    subst hc0; subst hm
    have hn0 : news = [] := List.eq_nil_of_length_eq_zero (by simpa using hl)
    subst hn0
    refine ⟨av, cap, w, ?_, by simpa using hown, ⟨rfl, rfl, rfl, Nat.le_refl _, fun _ _ _ => rfl⟩, fun x hx => .inr hx⟩
    have hle : n + 0 ≤ cap := by omega
    cases av with
    | none => simp [Builtin.append_, run_underlying ht, sizeOf, typeInfo, hi, Builtin.lenOf, hcapn, Builtin.firstCells]
    | some x => simp [Builtin.append_, run_underlying ht, sizeOf, typeInfo, hi, Builtin.lenOf, hcapn, Builtin.firstCells, storeCells]
  | some ad =>
    by_cases hfull : cap < n + m
    · cases av with
      | some b =>
        have hb : ∀ j u, xs[j]? = some u → w.cell? (b.add j) = some u := fun j u hu => by
          rcases hown.2 with ⟨h1, h2⟩ | ⟨g, c', cur, h1, _⟩
          · simp at h1
          · simp only [Value.slice.injEq, Option.some.injEq] at h1
            have := hown.cells (g := g) (by rw [h1.1]; rfl) j u hu
            rw [h1.1]; exact this
        obtain ⟨v', w', r1, r2, r3⟩ := run_append_arg_grows (P := P) w t ty e i z sz by_ ht hi hz hsize hby hzs hsz b n cap xs hown.1 hb ad m c news hl (cells ad rfl) hfull h63 hbytes
        obtain ⟨av', cap', rfl⟩ : ∃ av' cap', v' = .slice av' (n + m) cap' := by
          rcases r2.2 with ⟨q1, q2⟩ | ⟨g, c', cur, q1, _⟩
          · exact ⟨none, 0, by rw [q1, q2]⟩
          · exact ⟨_, _, q1⟩
        refine ⟨av', cap', w', r1, base r2, gany r3, fun x hx => .inl ?_⟩
        exact (r2.lt x.block (by rw [hx]; rfl)).1
      | none =>
        have h0 : n = 0 ∧ cap = 0 := by
          rcases hown.2 with ⟨q1, q2⟩ | ⟨g, c', cur, q1, _⟩
          · simp only [Value.slice.injEq] at q1; exact ⟨q2, q1.2.2⟩
          · simp at q1
        obtain ⟨rfl, rfl⟩ := h0
        have hx0 : xs = [] := List.eq_nil_of_length_eq_zero (by rw [hown.1, Nat.zero_mul])
        subst hx0
        obtain ⟨v', w', r1, r2, r3, _⟩ := run_append_own (P := P) w w.heap.size t ty e i z sz by_ ht hi hz hsize hby hzs hsz (.slice none 0 0) 0 [] (World.ownsRow_nil w _ e sz) ad m c news hl (cells ad rfl) h1 h63 hbytes (Nat.le_refl _)
        obtain ⟨av', cap', rfl⟩ : ∃ av' cap', v' = .slice av' (0 + m) cap' := by
          rcases r2.2 with ⟨q1, q2⟩ | ⟨g, c', cur, q1, _⟩
          · exact ⟨none, 0, by rw [q1, q2]⟩
          · exact ⟨_, _, q1⟩
        refine ⟨av', cap', w', r1, base r2, r3, fun x hx => .inl ?_⟩
        exact (r2.lt x.block (by rw [hx]; rfl)).1
    · cases av with
      | none =>
        have h0 : n = 0 ∧ cap = 0 := by
          rcases hown.2 with ⟨q1, q2⟩ | ⟨g, c', cur, q1, _⟩
          · simp only [Value.slice.injEq] at q1; exact ⟨q2, q1.2.2⟩
          · simp at q1
        obtain ⟨rfl, rfl⟩ := h0
        have hm : m = 0 := by omega
        subst hm
        have hn0 : news = [] := List.eq_nil_of_length_eq_zero (by simpa using hl)
        subst hn0
        obtain ⟨v', w', r1, r2, r3, r4⟩ := run_append_own (P := P) w 0 t ty e i z sz by_ ht hi hz hsize hby hzs hsz (.slice none 0 0) 0 xs hown ad 0 c [] hl (cells ad rfl) h1 h63 hbytes (Nat.zero_le _)
        have hv : v' = .slice none 0 0 := r4.2 ⟨rfl, rfl⟩
        subst hv
        exact ⟨none, 0, w', r1, r2, r3, fun x hx => by cases hx⟩
      | some b =>
        rcases hown.2 with ⟨q1, _⟩ | ⟨gg, c', cur, q1, _, q3, q4, q5, q6, q7⟩
        · simp at q1
        · simp only [Value.slice.injEq, Option.some.injEq] at q1
          obtain ⟨rfl, _, rfl⟩ := q1
          have hfit : n * i.size + news.length ≤ cur.size := by
            rw [hsize, hl, q6, ← Nat.add_mul]; exact Nat.mul_le_mul_right _ (by omega)
          have r1 := run_append_room (P := P) w t ty e i ht hi gg n cap cur q3 ad m c news (by rw [hsize]; exact hl) (cells ad rfl) h1 (by omega) hfit
          rw [hsize] at r1
          refine ⟨some ⟨gg, 0, none⟩, cap, _, r1, ⟨?_, .inr ⟨gg, cap, _, rfl, Nat.zero_le _, setRow_heap w gg cur _ e (0, 0) q3, by omega, q5, ?_, ?_⟩⟩, ?_, fun x hx => .inr hx⟩
          · rw [List.length_append, hown.1, hl, Nat.add_mul]
          · have : n * sz + news.length ≤ cur.size := by rw [← hsize]; exact hfit
            simp; omega
          · have hx : xs = cur.toList.take (n * sz) := q7.symm
            have hxl := hown.1
            rw [List.append_assoc, ← hx, ← List.append_assoc, show (n + m) * sz = (xs ++ news).length from by rw [List.length_append, hxl, hl, Nat.add_mul], List.take_left]
          · exact setRow_grown

section
variable {P : Program} {st : St} {d : Option Nat} {g : Option (Nat × Bool)}

def isNil : Value → Bool
  | .slice none 0 0 => true
  | _ => false

theorem isNil_spec {v : Value} (h : isNil v = true) : v = .slice none 0 0 := by
  unfold isNil at h
  split at h
  · rfl
  · cases h

/-- what may stand behind in an append: what came in, one's own, or nothing -/
def srcA (h : Hp) (sz : Nat) : AV → Option (List (List AV))
  | .sl sz' es => bif Nat.beq sz' sz then some es else none
  | .own k => match hl h k with | some o => bif o.row && Nat.beq o.sz sz then some o.es else none | none => none
  | .lit v => bif isNil v then some [] else none
  | _ => none

theorem srcA_rd {E : Env} {w : World} {h : Hp} {sz : Nat} {av : AV} {es : List (List AV)} {v : Value} (H : HeapOK E w h) (hs : srcA h sz av = some es) (hr : Rd E w av v) :
    ∃ a c vs, v = .slice a es.length c ∧ es.length ≤ c ∧ (a = none → c = 0) ∧ RdIE E.im w sz es vs ∧ Ones vs ∧ es.length ≤ maxN ∧ ∀ j u, vs[j]? = some u → ∃ b off, a = some ⟨b, off, none⟩ ∧ w.cell? ⟨b, off + j, none⟩ = some u := by
  match av, hs, hr with
  | .lit u, hs, hr =>
    simp only [srcA] at hs
    cases hu : isNil u with
    | false => simp [hu] at hs
    | true =>
      simp only [hu, cond_true, Option.some.injEq] at hs; subst hs
      have := isNil_spec hu
      subst this
      exact ⟨none, 0, [], hr, Nat.le_refl _, fun _ => rfl, rfl, fun u hu => (by cases hu), Nat.zero_le _, fun j u hu => (by simp at hu)⟩
  | .sl sz' es', hs, hr =>
    simp only [srcA] at hs
    cases hb : Nat.beq sz' sz with
    | false => simp [hb] at hs
    | true =>
      simp only [hb, cond_true, Option.some.injEq] at hs; subst hs
      have := Nat.eq_of_beq_eq_true hb; subst this
      obtain ⟨a, cap, vs, h1, h2, h3, h4, h5, h6, h7⟩ := hr
      exact ⟨a, cap, vs, h1, h2, h3, h7, h6, h4, fun j u hu => by obtain ⟨b, off, e1, _, e2⟩ := h5 j u hu; exact ⟨b, off, e1, e2⟩⟩
  | .own k, hs, hr =>
    simp only [srcA] at hs
    split at hs
    · rename_i o ho
      cases hb : (o.row && Nat.beq o.sz sz) with
      | false => simp [hb] at hs
      | true =>
        simp only [hb, cond_true, Option.some.injEq] at hs; subst hs
        simp only [Bool.and_eq_true] at hb
        have := Nat.eq_of_beq_eq_true hb.2; subst this
        obtain ⟨hl1, _, rfl⟩ := hr
        obtain ⟨k1, k2⟩ := H.ob k o hl1 ho
        rw [hb.1] at k2
        obtain ⟨vs, a, cap, j1, j2, j3, j4, j5⟩ := k2
        refine ⟨a, cap, vs, j1, ?_, ?_, j3, j4, j5, fun j u hu => ?_⟩
        · rcases j2.2 with ⟨hn, h0⟩ | ⟨g, c, cur, hv, _, _, hc', _⟩
          · omega
          · rw [j1] at hv; simp only [Value.slice.injEq] at hv; omega
        · intro ha
          rcases j2.2 with ⟨hn, h0⟩ | ⟨g, c, cur, hv, _⟩
          · rw [j1] at hn; simp only [Value.slice.injEq] at hn; exact hn.2.2
          · rw [j1, ha] at hv; simp at hv
        · rcases j2.2 with ⟨hn, h0⟩ | ⟨g, c, cur, hv, _⟩
          · have : vs.length = 0 := by rw [j2.1, h0, Nat.zero_mul]
            have := (List.getElem?_eq_some_iff.1 hu).1
            omega
          · rw [j1] at hv
            simp only [Value.slice.injEq] at hv
            have := j2.cells (g := g) (by rw [j1, hv.1]; rfl) j u hu
            rw [addr_add] at this
            exact ⟨g, 0, hv.1, this⟩
    · cases hs
  | .any, hs, _ => simp [srcA] at hs
  | .agg _, hs, _ => simp [srcA] at hs
  | .tup _, hs, _ => simp [srcA] at hs
  | .ep _ _ _ _, hs, _ => simp [srcA] at hs
  | .optr _ _ _, hs, _ => simp [srcA] at hs
  | .fn _ _ _, hs, _ => simp [srcA] at hs

theorem appendOp_run {w : World} {ρ : Operand → Value} {t : TypeId} {s x : Operand} {dst : Option Tmp} {ty : TypeId} {pos : String} {after : Array Edge} {guard : Option (Nat × Bool)} {vs vx v' : Value} {w' : World} (hs : ρ s = vs) (hx : ρ x = vx)
    (h : (Builtin.append_ #[t, t] ty #[vs, vx]).run P w = .ok v' w') :
    (execOp ρ ⟨dst, .call { callee := .builtin .append, args := #[s, x], argTypes := #[t, t] }, ty, pos, after, guard⟩).run P w = .ok (.value v') w' := by
  simp only [execOp, resolve, Sem.run_bind, Sem.run_pure, Result.andThen_ok, invoke, builtin, List.map_toArray, List.map_cons, List.map_nil, hs, hx, h]

/-- append onto a row of one's own -/
theorem q_append {e : TypeId} {sz by_ : Nat} {z : List Value} {s x : Operand} {id : Nat} {ob : OB} {av : AV} {news : List (List AV)} (rd : List Nat) (hg : gOK st g) (hs : ev st s = .own id) (ho : hl st.h id = some ob) (hrow : ob.row = true) (hro : ob.ro = false) (hsz : ob.sz = sz) (he : ob.e = e)
    (hx : ev st x = av) (hn : srcA (restr rd st.h) sz av = some news) (hb : (ob.es.length + news.length) * by_ ≤ 140737488355328) :
    Step P st ⟨⟨d, g, .append e sz by_ z s x⟩, .own st.nx, rd, [(st.nx, some ⟨true, false, e, sz, ob.es ++ news⟩), (id, none)], true⟩ := by
  intro N ops o hlow C E a w sx hN R hag hh hnw K Q hK
  rw [if_pos (wanted_of hlow R hag hg)]
  obtain ⟨h1, h2, h3, h4⟩ := lower_parts hlow
  obtain ⟨hnl, hnx⟩ := hnw rfl
  have hsv := eval_of R hag (x := s) (by simp [AOp.opds])
  have hxv := eval_of R hag (x := x) (by simp [AOp.opds])
  rw [hs] at hsv; rw [hx] at hxv
  obtain ⟨hl1, _, hsv⟩ := hsv
  have ho' : hl sx.h id = some ob := by rw [hh id (.inr (by simp))]; exact ho
  have H0 : HeapOK E w (restr rd st.h) := R.heap.restr (fun id hid => hh id (.inl hid))
  obtain ⟨k1, k2⟩ := R.heap.ob id ob hl1 ho'
  rw [hrow] at k2
  obtain ⟨vs, a0, cap, j1, j2, j3, j4, j5⟩ := k2
  obtain ⟨ax, cx, us, x1, x2, x3, x4, x5, x6, x7⟩ := srcA_rd H0 hn hxv
  obtain ⟨dst, op, ty, pos, after, guard⟩ := o
  obtain ⟨t, rfl, het, hzt⟩ := low_spec h3
  obtain ⟨i, zv, m1, m2, m3, m4, m5, m6, m7, m8, m9⟩ := zeroOf_spec hzt
  have hut : P.underlying t = some (.slice e) := by
    unfold elemsOf at het
    split at het
    · rename_i e' hu; simp only [Option.some.injEq] at het; rw [hu, het]
    · cases het
  have hlen : ob.es.length + news.length ≤ 140737488355328 := Nat.le_trans (Nat.le_mul_of_pos_right _ m9) hb
  have hzs : zv.cells.size = sz := by have := congrArg List.length m3; simp at this; omega
  rw [hsz, he] at j2
  rw [j1] at j2
  obtain ⟨av', cap', w', r1, r2, r3, r4⟩ := append_run (P := P) (ty := ty) hut m1 m2 m4 m5 hzs m8 j2 x2 x3 (by rw [x4.length]) x7 x5 (by unfold maxLen; omega) hb
  unfold Oper.wp
  rw [appendOp_run (hsv.trans j1) x1 r1, Oper.upon_value]
  have hV : ∀ b, blkOf (.slice av' (ob.es.length + news.length) cap') = some b → w.heap.size ≤ b ∨ blkOf (E.val id) = some b := fun b hb' => by
    cases av' with
    | none => simp [blkOf] at hb'
    | some y =>
      simp only [blkOf, Option.some.injEq] at hb'
      rcases r4 y rfl with h | h
      · left; omega
      · right; rw [j1, h]; simp [blkOf, hb']
  have hob : obOK (newE E st.nx (.slice av' (ob.es.length + news.length) cap') sz) w' st.nx ⟨true, false, e, sz, ob.es ++ news⟩ := by
    refine ⟨by simp [newE], vs ++ us, av', cap', by simp [newE], by simpa [newE] using r2, ?_, fun u hu => ?_, by simp [maxN]; omega⟩
    · have hw : ∀ b, E.im b → w'.heap[b]? = w.heap[b]? := fun b hb' => r3.block b (R.heap.lt b hb') (fun e' => by
        have := (R.heap.im id ob b hl1 ho' (by rw [j1]; exact e'.symm)).1 hb'
        rw [hro] at this; cases this)
      rw [hsz] at j3
      exact RdIE.mono (fun b h => h) hw _ _ _ (j3.append x4)
    · rcases List.mem_append.1 hu with h | h
      · exact j4 u h
      · exact x5 u h
  have hR := Rel.new R hnl hnx (some id) (blkOf (E.val id)) (by rw [j1]; exact r3) (fun b hb' => ⟨id, ob, rfl, hl1, ho', hb', hro⟩) (ob := ⟨true, false, e, sz, ob.es ++ news⟩) hob rfl hV
  refine hK _ w' (newE E st.nx (.slice av' (ob.es.length + news.length) cap') sz) ?_ (fun id' hid => Or.elim hid Or.inl (fun h => .inr ⟨rfl, h⟩))
  have := hR.put (d := dst) (fun k hk => by rw [hN]; exact h2 k hk) (v := .own st.nx) (u := .slice av' (ob.es.length + news.length) cap') ⟨.inr rfl, rfl, by simp [newE]⟩
  simp only [St.appx]
  rw [show d = dst from h1]
  exact this

/-- append onto nothing -/
theorem q_appendN {e : TypeId} {sz by_ : Nat} {z : List Value} {s x : Operand} {av : AV} {news : List (List AV)} (rd : List Nat) (hg : gOK st g) (hs : ev st s = .lit (.slice none 0 0))
    (hx : ev st x = av) (hn : srcA (restr rd st.h) sz av = some news) (hb : news.length * by_ ≤ 140737488355328) :
    Step P st ⟨⟨d, g, .append e sz by_ z s x⟩, .own st.nx, rd, [(st.nx, some ⟨true, false, e, sz, news⟩)], true⟩ := by
  intro N ops o hlow C E a w sx hN R hag hh hnw K Q hK
  rw [if_pos (wanted_of hlow R hag hg)]
  obtain ⟨h1, h2, h3, h4⟩ := lower_parts hlow
  obtain ⟨hnl, hnx⟩ := hnw rfl
  have hsv := lit_eval (eval_of R hag (x := s) (by simp [AOp.opds])) hs
  have hxv := eval_of R hag (x := x) (by simp [AOp.opds])
  rw [hx] at hxv
  have H0 : HeapOK E w (restr rd st.h) := R.heap.restr (fun id hid => hh id (.inl hid))
  obtain ⟨ax, cx, us, x1, x2, x3, x4, x5, x6, x7⟩ := srcA_rd H0 hn hxv
  obtain ⟨dst, op, ty, pos, after, guard⟩ := o
  obtain ⟨t, rfl, het, hzt⟩ := low_spec h3
  obtain ⟨i, zv, m1, m2, m3, m4, m5, m6, m7, m8, m9⟩ := zeroOf_spec hzt
  have hut : P.underlying t = some (.slice e) := by
    unfold elemsOf at het
    split at het
    · rename_i e' hu; simp only [Option.some.injEq] at het; rw [hu, het]
    · cases het
  have hlen : news.length ≤ 140737488355328 := Nat.le_trans (Nat.le_mul_of_pos_right _ m9) hb
  have hzs : zv.cells.size = sz := by have := congrArg List.length m3; simp at this; omega
  obtain ⟨av', cap', w', r1, r2, r3, r4⟩ := append_run (P := P) (ty := ty) hut m1 m2 m4 m5 hzs m8 (World.ownsRow_nil w 0 e sz) x2 x3 (by rw [x4.length]) x7 x5 (by unfold maxLen; omega) (by rw [Nat.zero_add]; exact hb)
  rw [Nat.zero_add, List.nil_append] at r2
  rw [Nat.zero_add] at r1
  unfold Oper.wp
  rw [appendOp_run hsv x1 r1, Oper.upon_value]
  have hV : ∀ b, blkOf (.slice av' news.length cap') = some b → w.heap.size ≤ b ∨ (none : Option Nat) = some b := fun b hb' => by
    cases av' with
    | none => simp [blkOf] at hb'
    | some y =>
      simp only [blkOf, Option.some.injEq] at hb'
      rcases r4 y rfl with h | h
      · left; omega
      · cases h
  have hob : obOK (newE E st.nx (.slice av' news.length cap') sz) w' st.nx ⟨true, false, e, sz, news⟩ := by
    refine ⟨by simp [newE], us, av', cap', by simp [newE], by simpa [newE] using r2, ?_, x5, by simp [maxN]; omega⟩
    exact RdIE.mono (fun b h => h) (fun b hb' => r3.block b (R.heap.lt b hb') (by simp [blkOf])) _ _ _ x4
  have hR := Rel.new R hnl hnx none none (by simpa [blkOf] using r3) (fun b hb' => by cases hb') (ob := ⟨true, false, e, sz, news⟩) hob rfl hV
  refine hK _ w' (newE E st.nx (.slice av' news.length cap') sz) ?_ (fun id' hid => Or.elim hid Or.inl (fun h => .inr ⟨rfl, h⟩))
  have := hR.put (d := dst) (fun k hk => by rw [hN]; exact h2 k hk) (v := .own st.nx) (u := .slice av' news.length cap') ⟨.inr rfl, rfl, by simp [newE]⟩
  simp only [St.appx]
  rw [show d = dst from h1]
  exact this
theorem first_run {w : World} {sz n : Nat} {a : Option Addr} {c : Nat} {us : List Value} (hc : n ≤ c) (hnil : a = none → c = 0) (hl : us.length = n * sz) (h : ∀ j u, us[j]? = some u → ∃ b off, a = some ⟨b, off, none⟩ ∧ w.cell? ⟨b, off + j, none⟩ = some u) : (Builtin.firstCells sz n (.slice a n c)).run P w = .ok us.toArray w := by
  cases a with
  | none =>
    have := hnil rfl
    have : n = 0 := by omega
    subst this
    rw [Nat.zero_mul] at hl
    obtain rfl := List.eq_nil_of_length_eq_zero hl
    exact run_firstCells_none _ _ _ _ _
  | some ad =>
    exact run_firstCells_some w sz n ad n c us hl fun j v hv => by
      obtain ⟨b, off, hab, hcl⟩ := h j v hv
      simp only [Option.some.injEq] at hab
      subst hab
      rw [addr_add]; exact hcl

/-- copy onto a row of one's own that is as long, or longer -/
theorem q_copy {sz id : Nat} {x y : Operand} {ob : OB} {av : AV} {news : List (List AV)} (rd : List Nat) (hg : gOK st g) (hs : ev st x = .own id) (ho : hl st.h id = some ob) (hrow : ob.row = true) (hro : ob.ro = false) (hsz : ob.sz = sz)
    (hx : ev st y = av) (hn : srcA (restr rd st.h) sz av = some news) (hle : news.length ≤ ob.es.length) :
    Step P st ⟨⟨d, g, .copy sz x y⟩, .lit (.int .i64 news.length), rd, [(id, some { ob with es := news ++ ob.es.drop news.length })], false⟩ := by
  intro N ops o hlow C E a w sx hN R hag hh hnw K Q hK
  rw [if_pos (wanted_of hlow R hag hg)]
  obtain ⟨h1, h2, h3, h4⟩ := lower_parts hlow
  have hsv := eval_of R hag (x := x) (by simp [AOp.opds])
  have hxv := eval_of R hag (x := y) (by simp [AOp.opds])
  rw [hs] at hsv; rw [hx] at hxv
  obtain ⟨hl1, _, hsv⟩ := hsv
  have ho' : hl sx.h id = some ob := by rw [hh id (.inr (by simp))]; exact ho
  have H0 : HeapOK E w (restr rd st.h) := R.heap.restr (fun id hid => hh id (.inl hid))
  obtain ⟨k1, k2⟩ := R.heap.ob id ob hl1 ho'
  rw [hrow] at k2
  obtain ⟨vs, a0, cap, j1, j2, j3, j4, j5⟩ := k2
  obtain ⟨ax, cx, us, x1, x2, x3, x4, x5, x6, x7⟩ := srcA_rd H0 hn hxv
  have hul := x4.length
  obtain ⟨dst, op, ty, pos, after, guard⟩ := o
  obtain ⟨t, t', e, gg, rfl, het, hsz'⟩ := low_spec h3
  obtain ⟨dd, i, q1, q2, q3, _⟩ := szOf_spec hsz'
  have hsize : (sizeOf e).run P w = .ok sz w := by simp [sizeOf, typeInfo, q2, q3]
  have hut : P.underlying t = some (.slice e) := elemsOf_spec' het
  have hfc := first_run (P := P) (w := w) (sz := sz) x2 x3 hul x7
  have hmin : Nat.min news.length ob.es.length = news.length := Nat.min_eq_left hle
  have hrun : ∀ w', (match a0 with | some ad => (storeCells ad us).run P w | none => .ok () w) = .ok () w' → (execOp a.eval ⟨dst, .call { callee := .builtin .copy, args := #[x, y], argTypes := #[t, t'] }, ty, pos, after, guard⟩).run P w = .ok (.value (.int .i64 news.length)) w' := by
    intro w' hw'
    simp only [execOp, resolve, Sem.run_bind, Sem.run_pure, Result.andThen_ok, invoke, builtin, List.map_toArray, List.map_cons, List.map_nil, hsv, j1, x1]
    cases a0 with
    | none =>
      simp only [Result.ok.injEq, true_and] at hw'
      subst hw'
      simp [Builtin.copy_, run_underlying hut, Builtin.lenOf, hsize, hmin, hfc, goInt]
    | some ad =>
      simp only at hw'
      simp [Builtin.copy_, run_underlying hut, Builtin.lenOf, hsize, hmin, hfc, hw', goInt]
  unfold Oper.wp
  rcases j2.2 with ⟨hv0, h0⟩ | ⟨g', c, cur, hvv, _, hcur, hnc, hcm, hcs, htake⟩
  · rw [j1] at hv0
    simp only [Value.slice.injEq] at hv0
    obtain ⟨rfl, _, _⟩ := hv0
    rw [hrun w rfl, Oper.upon_value]
    have hn0 : news = [] := List.eq_nil_of_length_eq_zero (by omega)
    subst hn0
    refine hK _ w E ?_ (fun id h => .inl h)
    have hR : Rel C E ⟨sx.t, (id, some { ob with es := [] ++ ob.es.drop ([] : List (List AV)).length }) :: sx.h, sx.nx⟩ a w := R.congr (fun _ => rfl) (fun k => by
      by_cases hk : k = id
      · subst hk; rw [ho']; simp [hl, look]
      · have : Nat.beq id k = false := by cases hb : Nat.beq id k; rfl; exact absurd (Nat.eq_of_beq_eq_true hb).symm hk
        simp [hl, look, this]) (Nat.le_refl _)
    have := hR.put (d := dst) (fun k hk => by rw [hN]; exact h2 k hk) (v := .lit (.int .i64 (([] : List (List AV)).length : Nat))) (u := .int .i64 (([] : List (List AV)).length : Nat)) rfl
    simp only [St.appx]
    rw [show d = dst from h1]
    exact this
  · rw [j1] at hvv
    simp only [Value.slice.injEq] at hvv
    obtain ⟨rfl, _, rfl⟩ := hvv
    have hb : blkOf (E.val id) = some g' := by rw [j1]; rfl
    have hmul : news.length * ob.sz ≤ ob.es.length * ob.sz := Nat.mul_le_mul_right _ hle
    have hcm' : ob.es.length * ob.sz ≤ cap * ob.sz := Nat.mul_le_mul_right _ hnc
    have hst := run_storeCells_at P g' 0 ob.e us 0 cur w hcur (by rw [hul, hcs, hsz] at *; omega) x5
    simp only [Nat.add_zero, Nat.zero_add, List.take_zero, List.nil_append] at hst
    generalize hW : (us ++ cur.toList.drop us.length).toArray = W at hst
    rw [hrun _ hst, Oper.upon_value]
    refine hK _ _ E ?_ (fun id h => .inl h)
    have hgr : w.grownBy (w.setRow g' W) (some g') := setRow_grown
    have hnim : ¬ E.im g' := fun h => by have := (R.heap.im id ob g' hl1 ho' hb).1 h; rw [hro] at this; cases this
    have hw : ∀ k, E.im k → (w.setRow g' W).heap[k]? = w.heap[k]? := fun k hk => hgr.block k (R.heap.lt k hk) (fun e => by simp at e; subst e; exact hnim hk)
    have hWl : W.toList = us ++ cur.toList.drop us.length := by rw [← hW]
    have hvt : vs = cur.toList.take (ob.es.length * ob.sz) := htake.symm
    have hul' : us.length = news.length * ob.sz := by rw [hul, hsz]
    have hlen' : (news ++ ob.es.drop news.length).length = ob.es.length := by simp; omega
    have hob : obOK E (w.setRow g' W) id { ob with es := news ++ ob.es.drop news.length } := by
      refine ⟨k1, ?_⟩
      simp only [hrow, cond_true]
      have hE : RdIE E.im w ob.sz (news ++ ob.es.drop news.length) (us ++ vs.drop (news.length * ob.sz)) := by
        have h4 : RdIE E.im w ob.sz news us := by rw [hsz]; exact x4
        exact h4.append (RdIE.drop' news.length j3)
      refine ⟨us ++ vs.drop (news.length * ob.sz), some ⟨g', 0, none⟩, cap, by simp only [hlen']; exact j1, ⟨?_, .inr ⟨g', cap, W, ?_, Nat.zero_le _, setRow_heap w g' cur W ob.e (0, 0) hcur, by simp only [hlen']; exact hnc, hcm, ?_, ?_⟩⟩, RdIE.mono (fun k h => h) hw _ _ _ hE, ?_, by simp only [hlen']; exact j5⟩
      · have := hE.length; simpa using this
      · simp only [hlen']; exact j1
      · rw [← hcs]; have := congrArg List.length hWl; simp at this ⊢; omega
      · simp only [hlen']
        rw [hWl, hvt, ← hul']
        have e1 : (us ++ cur.toList.drop us.length).take (ob.es.length * ob.sz) = us ++ (cur.toList.drop us.length).take (ob.es.length * ob.sz - us.length) := by
          rw [List.take_append, List.take_of_length_le (by omega)]
        rw [e1, List.drop_take]
      · intro u hu
        rcases List.mem_append.1 hu with hu | hu
        · exact x5 u hu
        · exact j4 u (List.mem_of_mem_drop hu)
    have := (R.upd hl1 ho' hro hb hgr hob hro).put (d := dst) (fun k hk => by rw [hN]; exact h2 k hk) (v := .lit (.int .i64 news.length)) (u := .int .i64 news.length) rfl
    simp only [St.appx]
    rw [show d = dst from h1]
    exact this
end
end Go.Proofs.Ytkgnnnehmnoleaa

namespace Go.Proofs.Ytkgnnnehmnoleaa
set_option linter.unusedVariables false
open Go.RowKit

theorem elemsOf_spec {P : Program} {t e : TypeId} (h : elemsOf P t = some e) : P.underlying t = some (.slice e) := by
  unfold elemsOf at h
  split at h
  · rename_i e' hu; simp only [Option.some.injEq] at h; rw [hu, h]
  · cases h

theorem lits_rdIE {im : Nat → Prop} {w : World} : ∀ (l : List Value), RdIL im w (l.map .lit) l
  | [] => rfl
  | v :: l => ⟨v, l, rfl, rfl, lits_rdIE l⟩

theorem made_rd {im : Nat → Prop} {w : World} {z : Array Value} (hz : 0 < z.size) : ∀ (n k : Nat), RdIE im w z.size (List.replicate n (z.toList.map .lit)) ((List.range' (k * z.size) (n * z.size)).map (z[· % z.size]!))
  | 0, k => by simp [RdIE]
  | n + 1, k => by
    simp only [List.replicate_succ, RdIE]
    refine ⟨z.toList, (List.range' ((k + 1) * z.size) (n * z.size)).map (z[· % z.size]!), ?_, by simp, lits_rdIE _, made_rd hz n (k + 1)⟩
    rw [Nat.add_mul n 1, Nat.one_mul, Nat.add_comm (n * z.size), ← List.range'_append_1, List.map_append, Nat.add_mul k 1, Nat.one_mul]
    congr 1
    apply List.ext_getElem
    · simp
    · intro i h1 h2
      simp only [List.length_map, List.length_range'] at h1
      simp only [List.getElem_map, List.getElem_range', Nat.one_mul]
      have : (k * z.size + i) % z.size = i := by
        rw [Nat.mul_comm, Nat.mul_add_mod]; exact Nat.mod_eq_of_lt h1
      rw [this]
      simp [h1]

theorem range_made {im : Nat → Prop} {w : World} {z : Array Value} (hz : 0 < z.size) (n : Nat) : RdIE im w z.size (List.replicate n (z.toList.map .lit)) ((List.range (n * z.size)).map (z[· % z.size]!)) := by
  have := made_rd (im := im) (w := w) hz n 0
  rw [Nat.zero_mul] at this
  rw [List.range_eq_range']; exact this

theorem made_ones {z : Array Value} (h1 : Ones z.toList) (hz : 0 < z.size) (n : Nat) : Ones ((List.range n).map (z[· % z.size]!)) := fun u hu => by
  obtain ⟨i, _, rfl⟩ := List.mem_map.1 hu
  have hlt : i % z.size < z.size := Nat.mod_lt _ hz
  refine h1 _ ?_
  simp only [hlt, getElem!_pos]
  exact Array.mem_toList_iff.2 (Array.getElem_mem hlt)

section
variable {P : Program} {st : St} {d : Option Nat} {g : Option (Nat × Bool)}

theorem q_make {e : TypeId} {sz by_ : Nat} {z : List Value} {l c : Operand} {kl kc : IntKind} {L M : Int} (hg : gOK st g) (hl' : ev st l = .lit (.int kl L)) (hc : ev st c = .lit (.int kc M)) (h0 : 0 ≤ L) (h1 : L ≤ M) (hb : (by_ : Int) * M ≤ 281474976710656) :
    Step P st ⟨⟨d, g, .make e sz by_ z l c⟩, .own st.nx, [], [(st.nx, some ⟨true, false, e, sz, List.replicate L.toNat (z.map .lit)⟩)], true⟩ :=
  step_new (ob := ⟨true, false, e, sz, List.replicate L.toNat (z.map .lit)⟩) [] hg (fun o C E ac w sx hlow R hr hh hnl => by
    have hlv := lit_eval (hr l (by simp [AOp.opds])) hl'
    have hcv := lit_eval (hr c (by simp [AOp.opds])) hc
    obtain ⟨dst, o, ty, pos, after, guard⟩ := o
    obtain ⟨t, rfl, het, hzt⟩ := low_spec hlow
    obtain ⟨i, zv, m1, m2, m3, m4, m5, m6, m7, m8, m9⟩ := zeroOf_spec hzt
    have hzs : zv.cells.size = sz := by have := congrArg List.length m3; simp at this; omega
    have hM : M ≤ 281474976710656 := by
      have : (1 : Int) * M ≤ by_ * M := Int.mul_le_mul_of_nonneg_right (by omega) (by omega)
      omega
    have hrun := run_make (P := P) w t e i zv (elemsOf_spec het) m1 m2 kl kc L M h0 h1 (by rw [m5]; exact hb) (by omega)
    rw [m4] at hrun
    have hLM : L.toNat ≤ M.toNat := by omega
    have hmul : L.toNat * sz ≤ M.toNat * sz := Nat.mul_le_mul_right _ hLM
    have hgr := World.grownBy_alloc w (.cells (madeCells zv.cells (M.toNat * sz)) e) none
    refine ⟨.slice (some ⟨w.heap.size, 0, none⟩) L.toNat M.toNat, w.alloc (.cells (madeCells zv.cells (M.toNat * sz)) e), ?_, hgr, ?_, fun b hb => by simp [blkOf] at hb; omega, rfl, fun h => by cases h⟩
    · simp only [execOp, hlv, hcv, Sem.run_bind, hrun, Result.andThen_ok, Sem.run_pure]
    · have hrd := range_made (im := E.im) (w := w.alloc (.cells (madeCells zv.cells (M.toNat * sz)) e)) (z := zv.cells) (by omega) L.toNat
      rw [hzs] at hrd
      refine ⟨by simp [newE], (List.range (L.toNat * sz)).map (zv.cells[· % sz]!), some ⟨w.heap.size, 0, none⟩, M.toNat, by simp [newE], ⟨by simp, .inr ⟨w.heap.size, M.toNat, _, by simp [newE], Nat.zero_le _, heap_alloc_new w _, by simpa using hLM, by unfold maxLen; omega, by simp [madeCells], ?_⟩⟩, by rw [m3]; exact hrd, ?_, by simp [maxN]; omega⟩
      · simp only [madeCells, Array.toList_map, Array.toList_range, List.length_replicate, hzs, ← List.map_take, List.take_range, Nat.min_eq_left hmul]
      · have := made_ones (z := zv.cells) (by rw [← m3]; exact m7) (by omega) (L.toNat * sz)
        rw [hzs] at this; exact this) rfl

theorem fill_size {place : Nat → Option (Nat × Nat)} : ∀ {ps : List (Nat × Value)} {cells out : Array Value}, Instr.fill place cells ps = some out → out.size = cells.size
  | [], cells, out, h => by simp only [Instr.fill, Option.some.injEq] at h; rw [h]
  | (i, v) :: ps, cells, out, h => by
    simp only [Instr.fill] at h
    split at h
    · cases h
    · split at h
      · cases h
      · rename_i off size hp hc
        rw [fill_size h]
        have : ∀ (l : List (Value × Nat)) (c : Array Value), (l.foldl (fun cs (p : Value × Nat) => cs.setIfInBounds (off + p.2) p.1) c).size = c.size := by
          intro l; induction l with
          | nil => intro c; rfl
          | cons p l ih => intro c; simp only [List.foldl_cons]; rw [ih]; simp
        rw [← Array.foldl_toList]
        exact this _ _

theorem parts_row {E : Env} {w : World} {ac : Act} {sz : Nat} : ∀ {ps : List (Nat × Operand)} {avs : List AV}, (∀ (i : Nat) p av, ps[i]? = some p → avs[i]? = some av → Rd E w av (ac.eval p.2)) → ps.length = avs.length →
    Parts E w (fun i => some (i * sz, sz)) (ps.map fun p => (p.1, ac.eval p.2)) ((ps.zip avs).map fun p => (p.1.1 * sz, sz, p.2))
  | [], [], _, _ => trivial
  | [], _ :: _, _, h => by simp at h
  | _ :: _, [], _, h => by simp at h
  | p :: ps, a :: avs, hr, h => ⟨⟨rfl, hr 0 p a rfl rfl⟩, parts_row (fun i p' a' h1 h2 => hr (i + 1) p' a' (by simpa using h1) (by simpa using h2)) (by simpa using h)⟩

/-- a slice that is written out -/
theorem q_rowlit {e : TypeId} {sz len : Nat} {z : List Value} {ps : List (Nat × Operand)} {avs cs cs' : List AV} (rd : List Nat) (hg : gOK st g) (hv : optAll (viewN true (restr rd st.h) 4) (ps.map fun p => ev st p.2) = some avs)
    (hf : fillA (List.replicate len (z.map .lit)).flatten ((ps.zip avs).map fun p => (p.1.1 * sz, sz, p.2)) = some cs) (hp : mapL (fun _ => none) cs = some cs') :
    Step P st ⟨⟨d, g, .rowlit e sz len z ps⟩, .own st.nx, rd, [(st.nx, some ⟨true, false, e, sz, chunk sz len cs'⟩)], true⟩ :=
  step_new (ob := ⟨true, false, e, sz, chunk sz len cs'⟩) rd hg (fun o C E ac w sx hlow R hr hh hnl => by
    obtain ⟨dst, o, ty, pos, after, guard⟩ := o
    obtain ⟨t, l, by_, rfl, het, hzt, hlen, rfl, hps⟩ := low_spec hlow
    obtain ⟨i, zv, m1, m2, m3, m4, m5, m6, m7, m8, m9⟩ := zeroOf_spec hzt
    have hzs : zv.cells.size = sz := by have := congrArg List.length m3; simp at this; omega
    have H0 : HeapOK E w (restr rd st.h) := R.heap.restr hh
    have hE : ∀ b, imV true E (restr rd st.h) b → E.im b := by
      rintro b (hb | ⟨id, ob, k1, k2, k3, k4⟩)
      · exact hb
      · exact (H0.im id ob b k1 k2 k3).2 (k4 rfl)
    have hav : ∀ {xs : List Operand} {ys : List AV}, (∀ x ∈ xs, Rd E w (ev st x) (ac.eval x)) → optAll (viewN true (restr rd st.h) 4) (xs.map (ev st)) = some ys → ∀ (j : Nat) x y, xs[j]? = some x → ys[j]? = some y → Rd E w y (ac.eval x) := by
      intro xs ys hx he j x y h1 h2
      obtain ⟨k1, k2⟩ := optAll_get he
      obtain ⟨y', q1, q2⟩ := k2 j (ev st x) (by simp [h1])
      rw [h2] at q1
      obtain rfl := Option.some.inj q1
      exact RdI.rd _ _ (RdI.mono hE (fun b h => rfl) _ _ (view_rd H0 4 _ _ _ (hx x (List.mem_of_getElem? h1)) q2))
    have hlenav := (optAll_get hv).1
    have hparts := parts_row (E := E) (w := w) (ac := ac) (sz := sz) (ps := l.toList) (avs := avs) (fun j p av h1 h2 => hav (xs := l.toList.map (·.2)) (ys := avs) (fun x hx => hr x (by simpa [AOp.opds] using hx)) (by rw [List.map_map]; exact hv) j p.2 av (by simp [h1]) h2) (by simpa using hlenav)
    -- the cells, first all zero
    have hzr : (zeroValue e).run P w = .ok zv w := by simp [zeroValue, typeInfo, m1, m2]
    have hz0 : len * sz = 0 → ((Array.range (len * sz)).map ((#[] : Array Value)[· % (#[] : Array Value).size]!)) = ((List.range (len * sz)).map (zv.cells[· % sz]!)).toArray := fun h => by simp [h]
    have hz1 : ((Array.range (len * sz)).map (zv.cells[· % zv.cells.size]!)) = ((List.range (len * sz)).map (zv.cells[· % sz]!)).toArray := by
      apply Array.ext'
      simp [hzs]
    have hrd0 : RdL E w (List.replicate len (z.map .lit)).flatten ((List.range (len * sz)).map (zv.cells[· % sz]!)) := by
      have := range_made (im := E.im) (w := w) (z := zv.cells) (by omega) len
      rw [hzs, ← m3] at this
      have flat : ∀ {es : List (List AV)} {vs : List Value}, RdIE E.im w sz es vs → RdL E w es.flatten vs := by
        intro es; induction es with
        | nil => intro vs h; simp only [RdIE] at h; subst h; rfl
        | cons e es ih =>
          intro vs h
          simp only [RdIE] at h
          obtain ⟨x, rest, rfl, _, h2, h3⟩ := h
          simp only [List.flatten_cons]
          exact (RdIL.rd _ _ h2).append (ih h3)
      exact flat this
    have h10 : Ones ((List.range (len * sz)).map (zv.cells[· % sz]!)) := by
      have := made_ones (z := zv.cells) (by rw [← m3]; exact m7) (by omega) (len * sz)
      rw [hzs] at this; exact this
    obtain ⟨out, o1, o2, o3⟩ := fill_run (E := E) (w := w) (place := fun i => some (i * sz, sz)) (cells := ((List.range (len * sz)).map (zv.cells[· % sz]!)).toArray) (by simpa using hrd0) (by simpa using h10) hparts hf
    have hos := fill_size o1
    simp only [List.size_toArray, List.length_map, List.length_range] at hos
    have hgr := World.grownBy_alloc w (.cells out e) none
    refine ⟨.slice (some ⟨w.heap.size, 0, none⟩) len len, w.alloc (.cells out e), ?_, hgr, ?_, fun b hb => by simp [blkOf] at hb; omega, rfl, fun h => by cases h⟩
    · have hsz : (sizeOf e).run P w = .ok sz w := by simp [sizeOf, typeInfo, m1, m4]
      have hng : ¬ len * sz > 2 ^ 24 := by omega
      have hpl : (l.map fun (p : Nat × Operand) => (p.1, ac.eval p.2)).toList = l.toList.map fun p => (p.1, ac.eval p.2) := by simp
      have hgo : (Instr.buildSlice t len (l.map fun (p : Nat × Operand) => (p.1, ac.eval p.2))).run P w = .ok (.slice (some ⟨w.heap.size, 0, none⟩) len len) (w.alloc (.cells out e)) := by
        by_cases h : len * sz = 0
        · simp only [Instr.buildSlice, Sem.run_bind, run_underlying (elemsOf_spec het) w, Result.andThen_ok, hsz, if_neg hng, if_pos h, hz0 h, hpl, o1, Sem.run_pure]
          simp [newRow]
        · simp only [Instr.buildSlice, Sem.run_bind, run_underlying (elemsOf_spec het) w, Result.andThen_ok, hsz, if_neg hng, if_neg h, hzr, hz1, hpl, o1, Sem.run_pure]
          simp [newRow]
      simp only [execOp, Sem.run_bind, hgo, Result.andThen_ok, Sem.run_pure]
    · have hle : len ≤ 16777216 := by
        have := Nat.le_mul_of_pos_right len m8; omega
      refine ⟨by simp [newE], out.toList, some ⟨w.heap.size, 0, none⟩, len, by simp [newE, chunk_length], ⟨by simp [chunk_length]; omega, .inr ⟨w.heap.size, len, out, by simp [newE, chunk_length], Nat.zero_le _, heap_alloc_new w _, by simp [chunk_length], by unfold maxLen; omega, hos, ?_⟩⟩, ?_, o3, by simp [chunk_length, maxN]; omega⟩
      · simp only [chunk_length]
        rw [List.take_of_length_le (by simp; omega)]
      · exact RdIE.mono (fun b h => h) (fun b hb => hgr.block b (R.heap.lt b hb) (by simp)) _ _ _ (chunk_rd (sz := sz) len (pure_rdL hp o2) (by simp; omega))) rfl
end
end Go.Proofs.Ytkgnnnehmnoleaa
