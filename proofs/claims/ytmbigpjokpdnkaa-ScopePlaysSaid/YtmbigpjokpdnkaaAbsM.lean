/- Maps from strings: the rules; strings compared. -/
import Derived.Test.YtmbigpjokpdnkaaAbsF
import Derived.WalkSpells
import Derived.WideShapes
import Derived.Laws.Strings
namespace Go.Proofs.Ytmbigpjokpdnkaa
set_option linter.unusedVariables false
open Go.RowKit

def mapGet (s : ByteArray) : List (List AV) → Option (Option AV)
  | [] => some none
  | [.lit (.string k), v] :: r => if k = s then some (some v) else mapGet s r
  | _ :: _ => none
def mapPut (s : ByteArray) (v : AV) : List (List AV) → List (List AV)
  | [] => [[.lit (.string s), v]]
  | [.lit (.string k), u] :: r => if k = s then [.lit (.string k), v] :: r else [.lit (.string k), u] :: mapPut s v r
  | e :: r => e :: r
def mapDel (s : ByteArray) : List (List AV) → List (List AV)
  | [] => []
  | [.lit (.string k), u] :: r => if k = s then r else [.lit (.string k), u] :: mapDel s r
  | e :: r => e :: r

section
variable {E : Env} {w : World}
theorem RdM.none_ {s : ByteArray} : ∀ {l : List (List AV)} {es : List MapEntry}, RdM E w l es → mapGet s l = some none →
    (∀ i, Instr.findNow .string (.string s) es i = some none) ∧ (∀ x ∈ es, x.key ≠ .string s) ∧ (∀ v, mapPut s v l = l ++ [[.lit (.string s), v]]) ∧ mapDel s l = l
  | [], es, h, _ => by
    obtain rfl : es = [] := h
    exact ⟨fun i => rfl, fun x hx => (by cases hx), fun v => rfl, rfl⟩
  | e :: l, es, h, hg => by
    obtain ⟨m, rest, rfl, h1, h2⟩ := h
    unfold mapGet at hg
    split at hg
    · cases ‹e :: l = []›
    · rename_i k v r heq
      simp only [List.cons.injEq] at heq
      obtain ⟨rfl, rfl⟩ := heq
      split at hg
      · simp at hg
      · rename_i hne
        obtain ⟨q1, q2, q3, q4⟩ := RdM.none_ h2 hg
        obtain ⟨a, _, ha, hk, _⟩ := h1
        simp only [List.cons.injEq] at ha
        have hkey : m.key = .string k := by rw [ha.1]; exact hk
        have hn : (s == k) = false := by
          cases hb : s == k with
          | false => rfl
          | true => exact absurd ((MapKept.bytes_beq s k).1 hb).symm hne
        refine ⟨fun i => by simp only [Instr.findNow, hkey, Instr.sameNow, hn]; exact q1 (i + 1), fun x hx => ?_, fun u => by rw [mapPut, if_neg hne, q3 u]; rfl, by rw [mapDel, if_neg hne, q4]⟩
        rcases List.mem_cons.1 hx with rfl | hx
        · rw [hkey]; simpa using hne
        · exact q2 x hx
    · cases hg
theorem RdM.some_ {s : ByteArray} {v : AV} : ∀ {l : List (List AV)} {es : List MapEntry}, RdM E w l es → mapGet s l = some (some v) →
    ∃ (j : Nat) (e : MapEntry), (∀ i, Instr.findNow .string (.string s) es i = some (some (i + j, e.val))) ∧ es[j]? = some e ∧ e.key = .string s ∧ Rd E w v e.val ∧ l[j]? = some [.lit (.string s), v] ∧ (∀ u, mapPut s u l = l.set j [.lit (.string s), u]) ∧ mapDel s l = l.eraseIdx j
  | [], es, h, hg => by simp [mapGet] at hg
  | e :: l, es, h, hg => by
    obtain ⟨m, rest, rfl, h1, h2⟩ := h
    unfold mapGet at hg
    split at hg
    · cases ‹e :: l = []›
    · rename_i k v0 r heq
      simp only [List.cons.injEq] at heq
      obtain ⟨rfl, rfl⟩ := heq
      obtain ⟨a, _, ha, hk, b, _, hb, hv, _⟩ := h1
      simp only [List.cons.injEq] at ha hb
      obtain ⟨ha1, ha2⟩ := ha
      subst ha2
      simp only [List.cons.injEq] at hb
      have hkey : m.key = .string k := by rw [ha1]; exact hk
      have hval : Rd E w v0 m.val := by rw [hb.1]; exact RdI.rd _ _ hv
      split at hg
      · rename_i he
        subst he
        obtain rfl : v0 = v := by simpa using hg
        have hy : (k == k) = true := (MapKept.bytes_beq k k).2 rfl
        exact ⟨0, m, fun i => by simp only [Instr.findNow, hkey, Instr.sameNow, hy]; rfl, rfl, hkey, hval, rfl, fun u => by rw [mapPut, if_pos rfl]; rfl, by rw [mapDel, if_pos rfl]; rfl⟩
      · rename_i hne
        obtain ⟨j, e, q1, q2, q3, q4, q5, q6, q7⟩ := RdM.some_ h2 hg
        have hn : (s == k) = false := by
          cases hb : s == k with
          | false => rfl
          | true => exact absurd ((MapKept.bytes_beq s k).1 hb).symm hne
        exact ⟨j + 1, e, fun i => by simp only [Instr.findNow, hkey, Instr.sameNow, hn]; rw [q1 (i + 1)]; congr 3; omega, by simpa using q2, q3, q4, by simpa using q5, fun u => by rw [mapPut, if_neg hne, q6 u]; rfl, by rw [mapDel, if_neg hne, q7]; rfl⟩
    · cases hg
theorem RdM.app : ∀ {l : List (List AV)} {es : List MapEntry} {e : List AV} {m : MapEntry}, RdM E w l es → RdIL E.im w e [m.key, m.val] → RdM E w (l ++ [e]) (es ++ [m])
  | [], es, e, m, h, hm => by obtain rfl : es = [] := h; exact ⟨m, [], rfl, hm, rfl⟩
  | _ :: l, es, e, m, h, hm => by
    obtain ⟨m0, rest, rfl, h1, h2⟩ := h
    exact ⟨m0, rest ++ [m], rfl, h1, RdM.app h2 hm⟩
theorem RdM.set_ : ∀ {l : List (List AV)} {es : List MapEntry} {e : List AV} {m : MapEntry} (j : Nat), RdM E w l es → RdIL E.im w e [m.key, m.val] → RdM E w (l.set j e) (es.set j m)
  | [], es, e, m, j, h, hm => by obtain rfl : es = [] := h; simp [RdM]
  | _ :: l, es, e, m, 0, h, hm => by
    obtain ⟨m0, rest, rfl, h1, h2⟩ := h
    exact ⟨m, rest, rfl, hm, h2⟩
  | _ :: l, es, e, m, j + 1, h, hm => by
    obtain ⟨m0, rest, rfl, h1, h2⟩ := h
    exact ⟨m0, rest.set j m, rfl, h1, RdM.set_ j h2 hm⟩
theorem RdM.erase_ : ∀ {l : List (List AV)} {es : List MapEntry} (j : Nat), RdM E w l es → RdM E w (l.eraseIdx j) (es.eraseIdx j)
  | [], es, j, h => by obtain rfl : es = [] := h; simp [RdM]
  | _ :: l, es, 0, h => by
    obtain ⟨m0, rest, rfl, h1, h2⟩ := h
    exact h2
  | _ :: l, es, j + 1, h => by
    obtain ⟨m0, rest, rfl, h1, h2⟩ := h
    exact ⟨m0, rest.eraseIdx j, rfl, h1, RdM.erase_ j h2⟩
theorem RdM.len : ∀ {l : List (List AV)} {es : List MapEntry}, RdM E w l es → es.length = l.length
  | [], es, h => by obtain rfl : es = [] := h; rfl
  | _ :: l, es, h => by
    obtain ⟨m0, rest, rfl, h1, h2⟩ := h
    simp [RdM.len h2]
end

/-- the zero of a type, as a value -/
def zeroV : Value → AV
  | .agg cs => .agg (cs.toList.map .lit)
  | v => .lit v
theorem zeroV_rd {P : Program} {E : Env} {w : World} {e : TypeId} {q : List Value × Nat × Nat} {z : Value} (h : zeroOf P e = some q) (hz : (P.info? e).bind (·.zero) = some z) : Rd E w (zeroV z) z := by
  obtain ⟨l, sz, by_⟩ := q
  obtain ⟨i, zv, k1, k2, k3, k4, k5, k6, k7, _⟩ := zeroOf_spec h
  rw [k1] at hz
  obtain rfl : zv = z := by simpa [k2] using hz
  cases zv
  case agg cs => exact ⟨cs.toList, by simp, by rw [k3] at k7; simpa [Value.cells] using k7, rdL_lits _⟩
  all_goals exact rfl
theorem zero_run {P : Program} {w : World} {e : TypeId} {z : Value} (hz : (P.info? e).bind (·.zero) = some z) : (zeroValue e).run P w = .ok z w := by
  cases h : P.info? e with
  | none => simp [h] at hz
  | some i => rw [h] at hz; simp only [Option.bind_some] at hz; simp [zeroValue, typeInfo, h, hz]

theorem strMap_spec {P : Program} {t e : TypeId} (h : strMap P t = some e) : ∃ k, P.underlying t = some (.map k e) ∧ P.underlying k = some .string := by
  unfold strMap at h
  split at h
  · rename_i k e' hu
    split at h
    · rename_i hk; simp only [Option.some.injEq] at h; subst h; exact ⟨k, hu, hk⟩
    · cases h
  · cases h

/-- a map of one's own, as it lies -/
theorem ob_map {E : Env} {w : World} {id : Nat} {o : OB} (h : obOK E w id o) (hrow : o.row = false) (hsz : o.sz = 0) : obMap E w id o := by
  have h2 := h.2
  rw [hrow, cond_false] at h2
  rcases h2 with ⟨h0, _⟩ | ⟨_, h2⟩
  · omega
  · exact h2

theorem keyOK_key {es : Array MapEntry} {clock : Nat} (h : keyOK es clock) : ∀ x ∈ es.toList, MapKept.IsKey .string x.key := fun x hx => by
  obtain ⟨s, e, _⟩ := h.1 x hx
  rw [e]; trivial

section
variable {P : Program} {st : St} {d : Option Nat} {g : Option (Nat × Bool)}
/-- m[k], there -/
theorem q_lookY {z : Value} {ok : Bool} {x y : Operand} {id : Nat} {ob : OB} {s : ByteArray} {v : AV} (hg : gOK st g) (hx : ev st x = .own id) (ho : hl st.h id = some ob) (hrow : ob.row = false) (hsz : ob.sz = 0) (hy : ev st y = .lit (.string s)) (hv : mapGet s ob.es = some (some v)) :
    Step P st ⟨⟨d, g, .look z ok x y⟩, bif ok then .tup [v, .lit (.bool true)] else v, [id], [], 0⟩ :=
  step_val [id] hg fun o C E ac w sx hlow R hr hh => by
    have h1 := hr x (by simp [AOp.opds])
    have h2 := lit_eval (hr y (by simp [AOp.opds])) hy
    rw [hx] at h1
    obtain ⟨hl1, _, hv1⟩ := h1
    have hob := R.heap.ob id ob hl1 (by rw [hh id (by simp)]; exact ho)
    obtain ⟨gg, es, clock, j1, j2, j3, j4⟩ := ob_map hob hrow hsz
    obtain ⟨j, e, q1, q2, q3, q4, q5, q6, q7⟩ := RdM.some_ j3 hv
    obtain ⟨dst, o, ty, pos, after, guard⟩ := o
    obtain ⟨t, e0, q, rfl, hm, hz0, hz⟩ := low_spec hlow
    obtain ⟨k, hu, hk⟩ := strMap_spec hm
    have hf := q1 0
    rw [Nat.zero_add] at hf
    have hrun : (Instr.lookup t (.map (some gg)) (.string s) ok).run P w = .ok (if ok then .tuple #[e.val, .bool true] else e.val) w := by
      simp [Instr.lookup, run_underlying hu, MapKept.run_getObj_map j2, MapKept.run_checkKey hk (k := .string s) trivial, MapKept.run_findKey hk hf, Result.andThen]
    refine ⟨if ok then .tuple #[e.val, .bool true] else e.val, ?_, ?_⟩
    · simp only [execOp, hv1.trans j1, h2, Sem.run_bind, hrun, Result.andThen_ok, Sem.run_pure]
    · cases ok
      · exact q4
      · exact ⟨[e.val, .bool true], rfl, e.val, _, rfl, q4, _, _, rfl, rfl, rfl⟩

/-- m[k], not there -/
theorem q_lookN {z : Value} {ok : Bool} {x y : Operand} {id : Nat} {ob : OB} {s : ByteArray} (hg : gOK st g) (hx : ev st x = .own id) (ho : hl st.h id = some ob) (hrow : ob.row = false) (hsz : ob.sz = 0) (hy : ev st y = .lit (.string s)) (hv : mapGet s ob.es = some none) :
    Step P st ⟨⟨d, g, .look z ok x y⟩, bif ok then .tup [zeroV z, .lit (.bool false)] else zeroV z, [id], [], 0⟩ :=
  step_val [id] hg fun o C E ac w sx hlow R hr hh => by
    have h1 := hr x (by simp [AOp.opds])
    have h2 := lit_eval (hr y (by simp [AOp.opds])) hy
    rw [hx] at h1
    obtain ⟨hl1, _, hv1⟩ := h1
    have hob := R.heap.ob id ob hl1 (by rw [hh id (by simp)]; exact ho)
    obtain ⟨gg, es, clock, j1, j2, j3, j4⟩ := ob_map hob hrow hsz
    obtain ⟨q1, q2, q3, q4⟩ := RdM.none_ j3 hv
    obtain ⟨dst, o, ty, pos, after, guard⟩ := o
    obtain ⟨t, e0, q, rfl, hm, hz0, hz⟩ := low_spec hlow
    obtain ⟨k, hu, hk⟩ := strMap_spec hm
    have hrun : (Instr.lookup t (.map (some gg)) (.string s) ok).run P w = .ok (if ok then .tuple #[z, .bool false] else z) w := by
      simp [Instr.lookup, run_underlying hu, MapKept.run_getObj_map j2, MapKept.run_checkKey hk (k := .string s) trivial, MapKept.run_findKey hk (q1 0), zero_run hz, Result.andThen]
    have hrd : Rd E w (zeroV z) z := zeroV_rd hz0 hz
    refine ⟨if ok then .tuple #[z, .bool false] else z, ?_, ?_⟩
    · simp only [execOp, hv1.trans j1, h2, Sem.run_bind, hrun, Result.andThen_ok, Sem.run_pure]
    · cases ok
      · exact hrd
      · exact ⟨[z, .bool false], rfl, z, _, rfl, hrd, _, _, rfl, rfl, rfl⟩

/-- len(m) -/
theorem q_mlen {x : Operand} {id : Nat} {ob : OB} {n : Int} (hg : gOK st g) (hx : ev st x = .own id) (ho : hl st.h id = some ob) (hrow : ob.row = false) (hsz : ob.sz = 0) (hn : (ob.es.length : Int) = n) :
    Step P st ⟨⟨d, g, .mlen x⟩, .lit (.int .i64 n), [id], [], 0⟩ :=
  step_val [id] hg fun o C E ac w sx hlow R hr hh => by
    have h1 := hr x (by simp [AOp.opds])
    rw [hx] at h1
    obtain ⟨hl1, _, hv1⟩ := h1
    have hob := R.heap.ob id ob hl1 (by rw [hh id (by simp)]; exact ho)
    obtain ⟨gg, es, clock, j1, j2, j3, j4⟩ := ob_map hob hrow hsz
    obtain ⟨dst, o, ty, pos, after, guard⟩ := o
    obtain ⟨t, e, rfl, hm⟩ := low_spec hlow
    obtain ⟨k, hu, hk⟩ := strMap_spec hm
    have hlen := RdM.len j3
    refine ⟨.int .i64 n, ?_, rfl⟩
    have hv2 := hv1.trans j1
    have hes : (es.size : Int) = n := by rw [← hn]; exact_mod_cast (by simpa using hlen : es.size = ob.es.length)
    simp [execOp, resolve, invoke, builtin, Builtin.len_, hv2, run_underlying hu, MapKept.run_getObj_map j2, goInt, hes, Result.andThen]

theorem q_eqvM1 {t k e : TypeId} {x y : Operand} {id : Nat} {ob : OB} (hu : P.underlying t = some (.map k e)) (hg : gOK st g) (hx : ev st x = .own id) (ho : hl st.h id = some ob) (hrow : ob.row = false) (hsz : ob.sz = 0) (hy : ev st y = .lit (.map none)) : Step P st ⟨⟨d, g, .eqv t false x y⟩, .lit (.bool false), [id], [], 0⟩ :=
  step_val [id] hg fun o C E ac w sx hlow R hr hh => by
    have h1 := hr x (by simp [AOp.opds])
    rw [hx] at h1
    obtain ⟨hl1, _, hv1⟩ := h1
    have h2 := lit_eval (hr y (by simp [AOp.opds])) hy
    have hob := R.heap.ob id ob hl1 (by rw [hh id (by simp)]; exact ho)
    obtain ⟨gg, es, clock, j1, _⟩ := ob_map hob hrow hsz
    obtain ⟨dst, o, ty, pos, after, guard⟩ := o
    obtain ⟨t2, rfl⟩ := low_spec hlow
    refine ⟨_, ?_, rfl⟩
    have hq : ∀ a, (eqGuard .eql t x y (.map a) (.map none)).run P w = .ok () w := fun a => rfl
    simp only [execOp, hv1.trans j1, h2, Sem.run_bind, cond_false, hq, Result.andThen_ok, run_eql_map_nil w t k e _ hu, Sem.run_pure]
    rfl
theorem q_eqvM0 {t k e : TypeId} {x y : Operand} (hu : P.underlying t = some (.map k e)) (hg : gOK st g) (hx : ev st x = .lit (.map none)) (hy : ev st y = .lit (.map none)) : Step P st ⟨⟨d, g, .eqv t false x y⟩, .lit (.bool true), [], [], 0⟩ :=
  step_val [] hg fun o C E ac w sx hlow R hr hh => by
    have h1 := lit_eval (hr x (by simp [AOp.opds])) hx
    have h2 := lit_eval (hr y (by simp [AOp.opds])) hy
    obtain ⟨dst, o, ty, pos, after, guard⟩ := o
    obtain ⟨t2, rfl⟩ := low_spec hlow
    refine ⟨_, ?_, rfl⟩
    have hq : ∀ a, (eqGuard .eql t x y (.map a) (.map none)).run P w = .ok () w := fun a => rfl
    simp only [execOp, h1, h2, Sem.run_bind, cond_false, hq, Result.andThen_ok, run_eql_map_nil w t k e _ hu, Sem.run_pure]
    rfl

/-- a new map -/
theorem q_mkmap (hg : gOK st g) : Step P st ⟨⟨d, g, .mkmap⟩, .own st.nx, [], [(st.nx, some ⟨false, false, 0, 0, []⟩)], 1⟩ := by
  intro N ops o hlow C E a w sx hN R hag hh hnw K Q hK
  rw [if_pos (wanted_of hlow R hag hg)]
  obtain ⟨h1, h2, h3, h4⟩ := lower_parts hlow
  obtain ⟨hnl, hnx⟩ := hnw 0 (Nat.lt_succ_self 0)
  rw [Nat.add_zero] at hnl hnx
  obtain ⟨dst, op, ty, pos, after, guard⟩ := o
  obtain ⟨t, e, rfl, hm⟩ := low_spec h3
  have hrun : (execOp a.eval ⟨dst, .makeMap t none, ty, pos, after, guard⟩).run P w = .ok (.value (.map (some w.heap.size))) (w.alloc (.map #[] 0)) := by
    simp [execOp, run_makeMap]
  unfold Oper.wp
  rw [hrun, Oper.upon_value]
  have hgr : w.grownBy (w.alloc (.map #[] 0)) none := World.grownBy_alloc w _ none
  have hob : obOK (newE E st.nx (.map (some w.heap.size)) 0) (w.alloc (.map #[] 0)) st.nx ⟨false, false, 0, 0, []⟩ :=
    ⟨by simp [newE], .inr ⟨rfl, w.heap.size, #[], 0, by simp [newE], heap_alloc_new w _, rfl, (fun m hm => by simp at hm), MapKept.stamped_empty 0⟩⟩
  have hR := Rel.new R hnl hnx none none hgr (fun b hb => by cases hb) (ob := ⟨false, false, 0, 0, []⟩) (V := .map (some w.heap.size)) hob rfl (fun b hb => .inl (by simp only [blkOf, Option.some.injEq] at hb; omega))
  refine hK _ _ (newE E st.nx (.map (some w.heap.size)) 0) ?_ (fun id hid => by rcases hid with h | h; · exact .inl h
                                                                                · exact .inr ⟨0, Nat.lt_succ_self 0, h⟩)
  have := hR.put (d := dst) (fun k hk => by rw [hN]; exact h2 k hk) (v := .own st.nx) (u := .map (some w.heap.size)) ⟨.inr rfl, rfl, by simp [newE]⟩
  simp only [St.appx]
  rw [show d = dst from h1]
  exact this

/-- a map of one's own is written: what its block holds then -/
theorem mapUpd {E : Env} {w : World} {sx : St} {C : Ctx} {a : Act} (R : Rel C E sx a w) {id gg : Nat} {ob : OB} {es es' : Array MapEntry} {clock clock' : Nat} {l' : List (List AV)} (hl1 : E.live id) (ho : hl sx.h id = some ob) (hrow : ob.row = false) (hro : ob.ro = false) (hsz : ob.sz = 0)
    (j1 : E.val id = .map (some gg)) (j2 : w.heap[gg]? = some (.map es clock)) (hk : keyOK es' clock') (hrd : RdM E w l' es'.toList) :
    Rel C E ⟨sx.t, (id, some { ob with es := l' }) :: sx.h, sx.nx⟩ a { w with heap := w.heap.setIfInBounds gg (.map es' clock') } := by
  have hb : blkOf (E.val id) = some gg := by rw [j1]; rfl
  have hset := MapKept.heap_set (o' := .map es' clock') j2
  have hgr : w.grownBy { w with heap := w.heap.setIfInBounds gg (.map es' clock') } (some gg) := ⟨rfl, rfl, rfl, by simp, fun k hk hne => hset.2 k (fun e => hne (by rw [e]))⟩
  have hnim : ¬ E.im gg := fun h => by have := (R.heap.im id ob gg hl1 ho hb).1 h; rw [hro] at this; cases this
  have hw : ∀ k, E.im k → ({ w with heap := w.heap.setIfInBounds gg (.map es' clock') } : World).heap[k]? = w.heap[k]? := fun k hk => hset.2 k (fun e => hnim (e ▸ hk))
  have hob : obOK E { w with heap := w.heap.setIfInBounds gg (.map es' clock') } id { ob with es := l' } := by
    refine ⟨(R.heap.ob id ob hl1 ho).1, ?_⟩
    show (bif ob.row then _ else _)
    rw [hrow, cond_false]
    exact .inr ⟨hsz, gg, es', clock', j1, hset.1, RdM.imp (fun cs vs => RdIL.mono (fun k h => h) hw cs vs) _ _ hrd, hk⟩
  exact R.upd hl1 ho hro hb hgr hob hro

/-- m[k] = v -/
theorem q_mupd {x y z : Operand} {id : Nat} {ob : OB} {s : ByteArray} {v : AV} {r : Option AV} (hg : gOK st g) (hx : ev st x = .own id) (ho : hl st.h id = some ob) (hrow : ob.row = false) (hro : ob.ro = false) (hsz : ob.sz = 0) (hy : ev st y = .lit (.string s)) (hlen : s.size ≤ maxN) (hz : ev st z = v) (hp : mapAV (fun _ => none) v = some v) (hv : mapGet s ob.es = some r) :
    Step P st ⟨⟨d, g, .mupd x y z⟩, .any, [], [(id, some { ob with es := mapPut s v ob.es })], 0⟩ := by
  intro N ops o hlow C E a w sx hN R hag hh hnw K Q hK
  rw [if_pos (wanted_of hlow R hag hg)]
  obtain ⟨h1, h2, h3, h4⟩ := lower_parts hlow
  have hxv := eval_of R hag (x := x) (by simp [AOp.opds])
  have hyv := lit_eval (eval_of R hag (x := y) (by simp [AOp.opds])) hy
  have hzv := eval_of R hag (x := z) (by simp [AOp.opds])
  rw [hx] at hxv; rw [hz] at hzv
  obtain ⟨hl1, _, hxv⟩ := hxv
  have ho' : hl sx.h id = some ob := by rw [hh id (.inr (by simp))]; exact ho
  obtain ⟨gg, es, clock, j1, j2, j3, j4⟩ := ob_map (R.heap.ob id ob hl1 ho') hrow hsz
  obtain ⟨dst, op, ty, pos, after, guard⟩ := o
  obtain ⟨t, e0, rfl, hm⟩ := low_spec h3
  obtain ⟨k, hu, hk⟩ := strMap_spec hm
  have hik : MapKept.IsKey .string (.string s) := trivial
  cases r with
  | none =>
    obtain ⟨q1, q2, q3, q4⟩ := RdM.none_ j3 hv
    have hrun : (Instr.mapUpdate t (.map (some gg)) (.string s) (a.eval z)).run P w = .ok () { w with heap := w.heap.setIfInBounds gg (.map (es.push { key := .string s, val := a.eval z, born := clock }) (clock + 1)) } := by
      simp [Instr.mapUpdate, run_underlying hu, MapKept.run_getObj_map j2, MapKept.run_checkKey hk hik, MapKept.run_findKey hk (q1 0), MapKept.run_setObj_map _ j2, Result.andThen]
    have hex : (execOp a.eval ⟨dst, .mapUpdate t x y z, ty, pos, after, guard⟩).run P w = .ok .skip { w with heap := w.heap.setIfInBounds gg (.map (es.push { key := .string s, val := a.eval z, born := clock }) (clock + 1)) } := by
      simp only [execOp, hxv.trans j1, hyv, Sem.run_bind, hrun, Result.andThen_ok, Sem.run_pure]
    unfold Oper.wp
    rw [hex, Oper.upon_skip]
    refine hK undef _ E ?_ (fun id h => .inl h)
    have hko : keyOK (es.push { key := .string s, val := a.eval z, born := clock }) (clock + 1) := by
      refine ⟨fun m hm => ?_, MapKept.stamped_push j4.2 q2⟩
      simp only [Array.toList_push, List.mem_append, List.mem_singleton] at hm
      rcases hm with hm | rfl
      · exact j4.1 m hm
      · exact ⟨s, rfl, hlen⟩
    have hrd : RdM E w (mapPut s v ob.es) (es.push { key := .string s, val := a.eval z, born := clock }).toList := by
      rw [q3, Array.toList_push]
      exact RdM.app j3 ⟨_, _, rfl, rfl, _, _, rfl, mapAV_rd (fun b h => h) (fun _ _ _ _ h => by cases h) _ _ _ hzv hp, rfl⟩
    have := (mapUpd R hl1 ho' hrow hro hsz j1 j2 hko hrd).put (d := dst) (fun k hk => by rw [hN]; exact h2 k hk) (v := .any) (u := undef) trivial
    simp only [St.appx]
    rw [show d = dst from h1]
    exact this
  | some v0 =>
    obtain ⟨j, e, q1, q2, q3, q4, q5, q6, q7⟩ := RdM.some_ j3 hv
    have hf := q1 0
    rw [Nat.zero_add] at hf
    have hj : es[j]? = some e := by simpa using q2
    have hrun : (Instr.mapUpdate t (.map (some gg)) (.string s) (a.eval z)).run P w = .ok () { w with heap := w.heap.setIfInBounds gg (.map (es.modify j fun e => { e with key := .string s, val := a.eval z }) clock) } := by
      simp [Instr.mapUpdate, run_underlying hu, MapKept.run_getObj_map j2, MapKept.run_checkKey hk hik, MapKept.run_findKey hk hf, hj, q3, MapKept.run_keyThatStays hik, MapKept.run_setObj_map _ j2, Result.andThen]
    have hex : (execOp a.eval ⟨dst, .mapUpdate t x y z, ty, pos, after, guard⟩).run P w = .ok .skip { w with heap := w.heap.setIfInBounds gg (.map (es.modify j fun e => { e with key := .string s, val := a.eval z }) clock) } := by
      simp only [execOp, hxv.trans j1, hyv, Sem.run_bind, hrun, Result.andThen_ok, Sem.run_pure]
    unfold Oper.wp
    rw [hex, Oper.upon_skip]
    refine hK undef _ E ?_ (fun id h => .inl h)
    have hkey : ∀ e' ∈ es.toList, es[j]? = some e' → ({ e' with key := .string s, val := a.eval z } : MapEntry).key = e'.key := fun e' _ he' => by rw [hj] at he'; cases he'; exact q3.symm
    have hlist : (es.modify j fun e => { e with key := .string s, val := a.eval z }).toList = es.toList.set j { e with key := .string s, val := a.eval z } := by
      refine List.ext_getElem? fun i => ?_
      rw [Array.getElem?_toList, Array.getElem?_modify, List.getElem?_set]
      by_cases hij : j = i
      · subst hij
        rw [if_pos rfl, if_pos rfl, hj]
        have : j < es.toList.length := (List.getElem?_eq_some_iff.1 q2).1
        rw [if_pos this]; rfl
      · rw [if_neg hij, if_neg hij, Array.getElem?_toList]
    have hko : keyOK (es.modify j fun e => { e with key := .string s, val := a.eval z }) clock := by
      refine ⟨fun m hm => ?_, MapKept.stamped_modify j4.2 _ _ (fun _ _ => rfl) hkey⟩
      rw [hlist] at hm
      rcases List.mem_or_eq_of_mem_set hm with hm | rfl
      · exact j4.1 m hm
      · exact ⟨s, rfl, hlen⟩
    have hrd : RdM E w (mapPut s v ob.es) (es.modify j fun e => { e with key := .string s, val := a.eval z }).toList := by
      rw [q6, hlist]
      exact RdM.set_ j j3 ⟨_, _, rfl, rfl, _, _, rfl, mapAV_rd (fun b h => h) (fun _ _ _ _ h => by cases h) _ _ _ hzv hp, rfl⟩
    have := (mapUpd R hl1 ho' hrow hro hsz j1 j2 hko hrd).put (d := dst) (fun k hk => by rw [hN]; exact h2 k hk) (v := .any) (u := undef) trivial
    simp only [St.appx]
    rw [show d = dst from h1]
    exact this

/-- delete(m, k) -/
theorem q_mdel {x y : Operand} {id : Nat} {ob : OB} {s : ByteArray} {r : Option AV} (hg : gOK st g) (hx : ev st x = .own id) (ho : hl st.h id = some ob) (hrow : ob.row = false) (hro : ob.ro = false) (hsz : ob.sz = 0) (hy : ev st y = .lit (.string s)) (hv : mapGet s ob.es = some r) :
    Step P st ⟨⟨d, g, .mdel x y⟩, .any, [], [(id, some { ob with es := mapDel s ob.es })], 0⟩ := by
  intro N ops o hlow C E a w sx hN R hag hh hnw K Q hK
  rw [if_pos (wanted_of hlow R hag hg)]
  obtain ⟨h1, h2, h3, h4⟩ := lower_parts hlow
  have hxv := eval_of R hag (x := x) (by simp [AOp.opds])
  have hyv := lit_eval (eval_of R hag (x := y) (by simp [AOp.opds])) hy
  rw [hx] at hxv
  obtain ⟨hl1, _, hxv⟩ := hxv
  have ho' : hl sx.h id = some ob := by rw [hh id (.inr (by simp))]; exact ho
  obtain ⟨gg, es, clock, j1, j2, j3, j4⟩ := ob_map (R.heap.ob id ob hl1 ho') hrow hsz
  obtain ⟨dst, op, ty, pos, after, guard⟩ := o
  obtain ⟨ts, t, e0, rfl, hts, hm⟩ := low_spec h3
  obtain ⟨k, hu, hk⟩ := strMap_spec hm
  have hik : MapKept.IsKey .string (.string s) := trivial
  obtain ⟨es', hrun, hko, hrd⟩ : ∃ es' : Array MapEntry, (Builtin.delete_ ts ty #[.map (some gg), .string s]).run P w = .ok (.tuple #[]) { w with heap := w.heap.setIfInBounds gg (.map es' clock) } ∧ keyOK es' clock ∧ RdM E w (mapDel s ob.es) es'.toList := by
    cases r with
    | none =>
      obtain ⟨q1, q2, q3, q4⟩ := RdM.none_ j3 hv
      exact ⟨es, by simp [Builtin.delete_, hts, run_underlying hu, MapKept.run_getObj_map j2, MapKept.run_checkKey hk hik, MapKept.run_findKey hk (q1 0), MapKept.run_setObj_map _ j2, Result.andThen], j4, by rw [q4]; exact j3⟩
    | some v0 =>
      obtain ⟨j, e, q1, q2, q3, q4, q5, q6, q7⟩ := RdM.some_ j3 hv
      have hf := q1 0
      rw [Nat.zero_add] at hf
      have hj : j < es.size := by simpa using (List.getElem?_eq_some_iff.1 q2).1
      have hlist : (es.eraseIdxIfInBounds j).toList = es.toList.eraseIdx j := by
        unfold Array.eraseIdxIfInBounds; rw [dif_pos hj]; simp
      refine ⟨es.eraseIdxIfInBounds j, by simp [Builtin.delete_, hts, run_underlying hu, MapKept.run_getObj_map j2, MapKept.run_checkKey hk hik, MapKept.run_findKey hk hf, MapKept.run_setObj_map _ j2, Result.andThen], ⟨fun m hm => ?_, MapKept.stamped_erase j4.2 j⟩, ?_⟩
      · rw [hlist] at hm
        exact j4.1 m (List.mem_of_mem_eraseIdx hm)
      · rw [q7, hlist]; exact RdM.erase_ j j3
  have hex : (execOp a.eval ⟨dst, .call { callee := .builtin .delete, args := #[x, y], argTypes := ts }, ty, pos, after, guard⟩).run P w = .ok (.value (.tuple #[])) { w with heap := w.heap.setIfInBounds gg (.map es' clock) } := by
    simp only [execOp, resolve, Sem.run_bind, Sem.run_pure, Result.andThen_ok, invoke, builtin, List.map_toArray, List.map_cons, List.map_nil, hxv.trans j1, hyv, hrun]
  unfold Oper.wp
  rw [hex, Oper.upon_value]
  refine hK _ _ E ?_ (fun id h => .inl h)
  have := (mapUpd R hl1 ho' hrow hro hsz j1 j2 hko hrd).put (d := dst) (fun k hk => by rw [hN]; exact h2 k hk) (v := .any) (u := .tuple #[]) trivial
  simp only [St.appx]
  rw [show d = dst from h1]
  exact this

def strV (op : BinOp) (a b : ByteArray) : Option Bool :=
  match op with
  | .eql => some (a.toList == b.toList)
  | .neq => some (!(a.toList == b.toList))
  | .lss => some (Op.bytesLess a.toList b.toList)
  | .leq => some (Op.bytesLess a.toList b.toList || (a.toList == b.toList))
  | .gtr => some (!(Op.bytesLess a.toList b.toList || (a.toList == b.toList)))
  | .geq => some (!(Op.bytesLess a.toList b.toList))
  | _ => none
theorem str_eq {a b : ByteArray} (h : a = b) : (a.toList == b.toList) = true := by rw [h]; simp
theorem str_ne {a b : ByteArray} (h : a ≠ b) : (a.toList == b.toList) = false := by
  cases hb : a.toList == b.toList with
  | false => rfl
  | true =>
    refine absurd ?_ h
    have := eq_of_beq hb
    rw [ByteArray.toList_eq, ByteArray.toList_eq] at this
    exact Go.WideShapes.bytes_inj this
/-- strings compared -/
theorem q_str {op : BinOp} {x y : Operand} {a b : ByteArray} {v : Bool} (hg : gOK st g) (hx : ev st x = .lit (.string a)) (hy : ev st y = .lit (.string b)) (hv : strV op a b = some v) : Step P st ⟨⟨d, g, .binS op x y⟩, .lit (.bool v), [], [], 0⟩ :=
  step_val [] hg fun o C E ac w sx hlow R hr hh => by
    have h1 := lit_eval (hr x (by simp [AOp.opds])) hx
    have h2 := lit_eval (hr y (by simp [AOp.opds])) hy
    obtain ⟨dst, o, ty, pos, after, guard⟩ := o
    obtain ⟨t, t2, rfl, hu⟩ := low_spec hlow
    refine ⟨.bool v, ?_, rfl⟩
    have hb : (binOp op t (.string a) (.string b)).run P w = .ok (.bool v) w := by
      have e : binOp op t (.string a) (.string b) = Op.stringOp op a b := by cases op <;> rfl
      rw [e]
      cases op <;> simp only [strV, Option.some.injEq] at hv <;> first
        | (cases hv; done)
        | (subst hv; rfl)
    have hq : (eqGuard op t x y (.string a) (.string b)).run P w = .ok () w := by cases op <;> rfl
    simp only [execOp, h1, h2, Sem.run_bind, hq, Result.andThen_ok, hb, Sem.run_pure]
end

section
variable {P : Program} {tt : List (Nat × AV)} {hh : Hp} {nn dd : Nat} {g : Option (Nat × Bool)} {l : List AInst} {acc acc' : List SD} {l' : List AInst} {st' : St}
theorem s_mkmap  (hg : gOK ⟨tt, hh, nn⟩ g)  (h : Runs P (⟨⟨some dd, g, .mkmap⟩, .own nn, [], [(nn, some ⟨false, false, 0, 0, []⟩)], 1⟩ :: acc) l ⟨(dd, .own nn) :: tt, (nn, some ⟨false, false, 0, 0, []⟩) :: hh, nn + 1⟩ acc' l' st') : Runs P acc (⟨some dd, g, .mkmap⟩ :: l) ⟨tt, hh, nn⟩ acc' l' st' := Runs.step' (q_mkmap hg) h
theorem s_lookYF {z : Value} {x y : Operand} {id : Nat} {ob : OB} {s : ByteArray} {v : AV} (hg : gOK ⟨tt, hh, nn⟩ g) (hx : ev ⟨tt, hh, nn⟩ x = .own id) (ho : hl hh id = some ob) (hrow : ob.row = false) (hsz : ob.sz = 0) (hy : ev ⟨tt, hh, nn⟩ y = .lit (.string s)) (hv : mapGet s ob.es = some (some v)) (h : Runs P (⟨⟨some dd, g, .look z false x y⟩, v, [id], [], 0⟩ :: acc) l ⟨(dd, v) :: tt, hh, nn⟩ acc' l' st') : Runs P acc (⟨some dd, g, .look z false x y⟩ :: l) ⟨tt, hh, nn⟩ acc' l' st' := Runs.step' (q_lookY hg hx ho hrow hsz hy hv) h
theorem s_lookYT {z : Value} {x y : Operand} {id : Nat} {ob : OB} {s : ByteArray} {v : AV} (hg : gOK ⟨tt, hh, nn⟩ g) (hx : ev ⟨tt, hh, nn⟩ x = .own id) (ho : hl hh id = some ob) (hrow : ob.row = false) (hsz : ob.sz = 0) (hy : ev ⟨tt, hh, nn⟩ y = .lit (.string s)) (hv : mapGet s ob.es = some (some v)) (h : Runs P (⟨⟨some dd, g, .look z true x y⟩, .tup [v, .lit (.bool true)], [id], [], 0⟩ :: acc) l ⟨(dd, .tup [v, .lit (.bool true)]) :: tt, hh, nn⟩ acc' l' st') : Runs P acc (⟨some dd, g, .look z true x y⟩ :: l) ⟨tt, hh, nn⟩ acc' l' st' := Runs.step' (q_lookY hg hx ho hrow hsz hy hv) h
theorem s_lookNF {z : Value} {x y : Operand} {id : Nat} {ob : OB} {s : ByteArray} (hg : gOK ⟨tt, hh, nn⟩ g) (hx : ev ⟨tt, hh, nn⟩ x = .own id) (ho : hl hh id = some ob) (hrow : ob.row = false) (hsz : ob.sz = 0) (hy : ev ⟨tt, hh, nn⟩ y = .lit (.string s)) (hv : mapGet s ob.es = some none) (h : Runs P (⟨⟨some dd, g, .look z false x y⟩, zeroV z, [id], [], 0⟩ :: acc) l ⟨(dd, zeroV z) :: tt, hh, nn⟩ acc' l' st') : Runs P acc (⟨some dd, g, .look z false x y⟩ :: l) ⟨tt, hh, nn⟩ acc' l' st' := Runs.step' (q_lookN hg hx ho hrow hsz hy hv) h
theorem s_lookNT {z : Value} {x y : Operand} {id : Nat} {ob : OB} {s : ByteArray} (hg : gOK ⟨tt, hh, nn⟩ g) (hx : ev ⟨tt, hh, nn⟩ x = .own id) (ho : hl hh id = some ob) (hrow : ob.row = false) (hsz : ob.sz = 0) (hy : ev ⟨tt, hh, nn⟩ y = .lit (.string s)) (hv : mapGet s ob.es = some none) (h : Runs P (⟨⟨some dd, g, .look z true x y⟩, .tup [zeroV z, .lit (.bool false)], [id], [], 0⟩ :: acc) l ⟨(dd, .tup [zeroV z, .lit (.bool false)]) :: tt, hh, nn⟩ acc' l' st') : Runs P acc (⟨some dd, g, .look z true x y⟩ :: l) ⟨tt, hh, nn⟩ acc' l' st' := Runs.step' (q_lookN hg hx ho hrow hsz hy hv) h
theorem s_mlen {x : Operand} {id : Nat} {ob : OB} {n : Int} (hg : gOK ⟨tt, hh, nn⟩ g) (hx : ev ⟨tt, hh, nn⟩ x = .own id) (ho : hl hh id = some ob) (hrow : ob.row = false) (hsz : ob.sz = 0) (hn : (ob.es.length : Int) = n) (h : Runs P (⟨⟨some dd, g, .mlen x⟩, .lit (.int .i64 n), [id], [], 0⟩ :: acc) l ⟨(dd, .lit (.int .i64 n)) :: tt, hh, nn⟩ acc' l' st') : Runs P acc (⟨some dd, g, .mlen x⟩ :: l) ⟨tt, hh, nn⟩ acc' l' st' := Runs.step' (q_mlen hg hx ho hrow hsz hn) h
theorem s_eqvM1 {t k e : TypeId} {x y : Operand} {id : Nat} {ob : OB} (hg : gOK ⟨tt, hh, nn⟩ g) (hx : ev ⟨tt, hh, nn⟩ x = .own id) (ho : hl hh id = some ob) (hrow : ob.row = false) (hsz : ob.sz = 0) (hy : ev ⟨tt, hh, nn⟩ y = .lit (.map none)) (hu : P.underlying t = some (.map k e)) (h : Runs P (⟨⟨some dd, g, .eqv t false x y⟩, .lit (.bool false), [id], [], 0⟩ :: acc) l ⟨(dd, .lit (.bool false)) :: tt, hh, nn⟩ acc' l' st') : Runs P acc (⟨some dd, g, .eqv t false x y⟩ :: l) ⟨tt, hh, nn⟩ acc' l' st' := Runs.step' (q_eqvM1 hu hg hx ho hrow hsz hy) h
theorem s_eqvM0 {t k e : TypeId} {x y : Operand} (hg : gOK ⟨tt, hh, nn⟩ g) (hx : ev ⟨tt, hh, nn⟩ x = .lit (.map none)) (hy : ev ⟨tt, hh, nn⟩ y = .lit (.map none)) (hu : P.underlying t = some (.map k e)) (h : Runs P (⟨⟨some dd, g, .eqv t false x y⟩, .lit (.bool true), [], [], 0⟩ :: acc) l ⟨(dd, .lit (.bool true)) :: tt, hh, nn⟩ acc' l' st') : Runs P acc (⟨some dd, g, .eqv t false x y⟩ :: l) ⟨tt, hh, nn⟩ acc' l' st' := Runs.step' (q_eqvM0 hu hg hx hy) h
theorem s_strEQT {x y : Operand} {a b : ByteArray} (hg : gOK ⟨tt, hh, nn⟩ g) (hx : ev ⟨tt, hh, nn⟩ x = .lit (.string a)) (hy : ev ⟨tt, hh, nn⟩ y = .lit (.string b)) (h1 : a = b) (h : Runs P (⟨⟨some dd, g, .binS .eql x y⟩, .lit (.bool true), [], [], 0⟩ :: acc) l ⟨(dd, .lit (.bool true)) :: tt, hh, nn⟩ acc' l' st') : Runs P acc (⟨some dd, g, .binS .eql x y⟩ :: l) ⟨tt, hh, nn⟩ acc' l' st' := Runs.step' (q_str hg hx hy (congrArg some (str_eq h1))) h
theorem s_strEQF {x y : Operand} {a b : ByteArray} (hg : gOK ⟨tt, hh, nn⟩ g) (hx : ev ⟨tt, hh, nn⟩ x = .lit (.string a)) (hy : ev ⟨tt, hh, nn⟩ y = .lit (.string b)) (h1 : a ≠ b) (h : Runs P (⟨⟨some dd, g, .binS .eql x y⟩, .lit (.bool false), [], [], 0⟩ :: acc) l ⟨(dd, .lit (.bool false)) :: tt, hh, nn⟩ acc' l' st') : Runs P acc (⟨some dd, g, .binS .eql x y⟩ :: l) ⟨tt, hh, nn⟩ acc' l' st' := Runs.step' (q_str hg hx hy (congrArg some (str_ne h1))) h
theorem s_strNET {x y : Operand} {a b : ByteArray} (hg : gOK ⟨tt, hh, nn⟩ g) (hx : ev ⟨tt, hh, nn⟩ x = .lit (.string a)) (hy : ev ⟨tt, hh, nn⟩ y = .lit (.string b)) (h1 : a ≠ b) (h : Runs P (⟨⟨some dd, g, .binS .neq x y⟩, .lit (.bool true), [], [], 0⟩ :: acc) l ⟨(dd, .lit (.bool true)) :: tt, hh, nn⟩ acc' l' st') : Runs P acc (⟨some dd, g, .binS .neq x y⟩ :: l) ⟨tt, hh, nn⟩ acc' l' st' := Runs.step' (q_str hg hx hy (congrArg some (congrArg (!·) (str_ne h1)))) h
theorem s_strNEF {x y : Operand} {a b : ByteArray} (hg : gOK ⟨tt, hh, nn⟩ g) (hx : ev ⟨tt, hh, nn⟩ x = .lit (.string a)) (hy : ev ⟨tt, hh, nn⟩ y = .lit (.string b)) (h1 : a = b) (h : Runs P (⟨⟨some dd, g, .binS .neq x y⟩, .lit (.bool false), [], [], 0⟩ :: acc) l ⟨(dd, .lit (.bool false)) :: tt, hh, nn⟩ acc' l' st') : Runs P acc (⟨some dd, g, .binS .neq x y⟩ :: l) ⟨tt, hh, nn⟩ acc' l' st' := Runs.step' (q_str hg hx hy (congrArg some (congrArg (!·) (str_eq h1)))) h
theorem s_mupd {x y z : Operand} {id : Nat} {ob : OB} {s : ByteArray} {v : AV} {r : Option AV} {es' : List (List AV)} (hg : gOK ⟨tt, hh, nn⟩ g) (hx : ev ⟨tt, hh, nn⟩ x = .own id) (ho : hl hh id = some ob) (hrow : ob.row = false) (hro : ob.ro = false) (hsz : ob.sz = 0) (hy : ev ⟨tt, hh, nn⟩ y = .lit (.string s)) (hz : ev ⟨tt, hh, nn⟩ z = v) (hp : mapAV (fun _ => none) v = some v) (hlen : s.size ≤ maxN) (hv : mapGet s ob.es = some r) (he : mapPut s v ob.es = es') (h : Runs P (⟨⟨none, g, .mupd x y z⟩, .any, [], [(id, some { ob with es := es' })], 0⟩ :: acc) l ⟨tt, (id, some { ob with es := es' }) :: hh, nn⟩ acc' l' st') : Runs P acc (⟨none, g, .mupd x y z⟩ :: l) ⟨tt, hh, nn⟩ acc' l' st' := Runs.step' (he ▸ q_mupd hg hx ho hrow hro hsz hy hlen hz hp hv) h
theorem s_mdelN {x y : Operand} {id : Nat} {ob : OB} {s : ByteArray} {r : Option AV} {es' : List (List AV)} (hg : gOK ⟨tt, hh, nn⟩ g) (hx : ev ⟨tt, hh, nn⟩ x = .own id) (ho : hl hh id = some ob) (hrow : ob.row = false) (hro : ob.ro = false) (hsz : ob.sz = 0) (hy : ev ⟨tt, hh, nn⟩ y = .lit (.string s)) (hv : mapGet s ob.es = some r) (he : mapDel s ob.es = es') (h : Runs P (⟨⟨none, g, .mdel x y⟩, .any, [], [(id, some { ob with es := es' })], 0⟩ :: acc) l ⟨tt, (id, some { ob with es := es' }) :: hh, nn⟩ acc' l' st') : Runs P acc (⟨none, g, .mdel x y⟩ :: l) ⟨tt, hh, nn⟩ acc' l' st' := Runs.step' (he ▸ q_mdel hg hx ho hrow hro hsz hy hv) h
theorem s_mdelS {x y : Operand} {id : Nat} {ob : OB} {s : ByteArray} {r : Option AV} {es' : List (List AV)} (hg : gOK ⟨tt, hh, nn⟩ g) (hx : ev ⟨tt, hh, nn⟩ x = .own id) (ho : hl hh id = some ob) (hrow : ob.row = false) (hro : ob.ro = false) (hsz : ob.sz = 0) (hy : ev ⟨tt, hh, nn⟩ y = .lit (.string s)) (hv : mapGet s ob.es = some r) (he : mapDel s ob.es = es') (h : Runs P (⟨⟨some dd, g, .mdel x y⟩, .any, [], [(id, some { ob with es := es' })], 0⟩ :: acc) l ⟨(dd, .any) :: tt, (id, some { ob with es := es' }) :: hh, nn⟩ acc' l' st') : Runs P acc (⟨some dd, g, .mdel x y⟩ :: l) ⟨tt, hh, nn⟩ acc' l' st' := Runs.step' (he ▸ q_mdel hg hx ho hrow hro hsz hy hv) h
end

/-- as far as it goes -/
theorem rrun4 {P : Program} {acc : List SD} {l : List AInst} {st : St} {acc' : List SD} {l' : List AInst} {st' : St} {K : List SD → St → Prop} (h : RG P acc' l' st' K) (hR : Runs P acc l st acc' l' st' := by
  ((repeat (first
    | (first
      | apply s_movL (by first | exact True.intro | rfl) (by exact rfl)
      | apply s_movS (by first | exact True.intro | rfl) (by exact rfl)
      | apply s_movA (by first | exact True.intro | rfl) (by exact rfl)
      | apply s_movO (by first | exact True.intro | rfl) (by exact rfl)
      | apply s_movP (by first | exact True.intro | rfl) (by exact rfl)
      | apply s_movE (by first | exact True.intro | rfl) (by exact rfl)
      | apply s_movT (by first | exact True.intro | rfl) (by exact rfl)
      | apply s_movF (by first | exact True.intro | rfl) (by exact rfl)
      | apply s_movX (by first | exact True.intro | rfl) (by exact rfl)
      | apply s_noA (by exact rfl)
      | apply s_noB (by exact rfl)
      | apply s_noC (by exact rfl)
      | apply s_no (by exact rfl)
      | apply s_noN (by exact rfl)
      | apply s_add64 (by first | exact True.intro | rfl) (by exact rfl) (by exact rfl) (by omega) (by omega)
      | apply s_sub64 (by first | exact True.intro | rfl) (by exact rfl) (by exact rfl) (by omega) (by omega)
      | apply s_ltT (by first | exact True.intro | rfl) (by exact rfl) (by exact rfl) (by omega)
      | apply s_ltF (by first | exact True.intro | rfl) (by exact rfl) (by exact rfl) (by omega)
      | apply s_leT (by first | exact True.intro | rfl) (by exact rfl) (by exact rfl) (by omega)
      | apply s_leF (by first | exact True.intro | rfl) (by exact rfl) (by exact rfl) (by omega)
      | apply s_gtT (by first | exact True.intro | rfl) (by exact rfl) (by exact rfl) (by omega)
      | apply s_gtF (by first | exact True.intro | rfl) (by exact rfl) (by exact rfl) (by omega)
      | apply s_geT (by first | exact True.intro | rfl) (by exact rfl) (by exact rfl) (by omega)
      | apply s_geF (by first | exact True.intro | rfl) (by exact rfl) (by exact rfl) (by omega)
      | apply s_eqT (by first | exact True.intro | rfl) (by exact rfl) (by exact rfl) (by omega)
      | apply s_eqF (by first | exact True.intro | rfl) (by exact rfl) (by exact rfl) (by omega)
      | apply s_neT (by first | exact True.intro | rfl) (by exact rfl) (by exact rfl) (by omega)
      | apply s_neF (by first | exact True.intro | rfl) (by exact rfl) (by exact rfl) (by omega)
      | apply s_addU64 (by first | exact True.intro | rfl) (by exact rfl) (by exact rfl) (by omega) (by omega)
      | apply s_subU64 (by first | exact True.intro | rfl) (by exact rfl) (by exact rfl) (by omega) (by omega)
      | apply s_mulU64 (by first | exact True.intro | rfl) (by exact rfl) (by exact rfl) (by omega) (by omega)
      | apply s_divU64 (by first | exact True.intro | rfl) (by exact rfl) (by exact rfl) (by omega) (by omega) (by omega)
      | apply s_addU32 (by first | exact True.intro | rfl) (by exact rfl) (by exact rfl) (by omega) (by omega)
      | apply s_divI64 (by first | exact True.intro | rfl) (by exact rfl) (by exact rfl) (by omega) (by omega) (by omega)
      | apply s_remP (by first | exact True.intro | rfl) (by exact rfl) (by exact rfl) (by omega) (by omega)
      | apply s_mul64 (by first | exact True.intro | rfl) (by exact rfl) (by exact rfl) (by first | assumption | omega)
      | apply s_convU64 (by first | exact True.intro | rfl) (by exact rfl) (by omega) (by omega)
      | apply s_convU32 (by first | exact True.intro | rfl) (by exact rfl) (by omega) (by omega)
      | apply s_int (by first | exact True.intro | rfl) (by exact rfl) (by exact rfl) (by exact rfl)
      | apply s_div (by first | exact True.intro | rfl) (by exact rfl) (by exact rfl) (by omega)
      | apply s_rem (by first | exact True.intro | rfl) (by exact rfl) (by exact rfl) (by omega)
      | apply s_bool (by first | exact True.intro | rfl) (by exact rfl) (by exact rfl) (by exact rfl)
      | apply s_notT (by first | exact True.intro | rfl) (by exact rfl)
      | apply s_notF (by first | exact True.intro | rfl) (by exact rfl)
      | apply s_not (by first | exact True.intro | rfl) (by exact rfl)
      | apply s_pickTL (by first | exact True.intro | rfl) (by exact rfl) (by exact rfl)
      | apply s_pickFL (by first | exact True.intro | rfl) (by exact rfl) (by exact rfl)
      | apply s_pickTS (by first | exact True.intro | rfl) (by exact rfl) (by exact rfl)
      | apply s_pickFS (by first | exact True.intro | rfl) (by exact rfl) (by exact rfl)
      | apply s_pickTA (by first | exact True.intro | rfl) (by exact rfl) (by exact rfl)
      | apply s_pickFA (by first | exact True.intro | rfl) (by exact rfl) (by exact rfl)
      | apply s_pickTO (by first | exact True.intro | rfl) (by exact rfl) (by exact rfl)
      | apply s_pickFO (by first | exact True.intro | rfl) (by exact rfl) (by exact rfl)
      | apply s_pickTP (by first | exact True.intro | rfl) (by exact rfl) (by exact rfl)
      | apply s_pickFP (by first | exact True.intro | rfl) (by exact rfl) (by exact rfl)
      | apply s_pickTE (by first | exact True.intro | rfl) (by exact rfl) (by exact rfl)
      | apply s_pickFE (by first | exact True.intro | rfl) (by exact rfl) (by exact rfl)
      | apply s_pickTT (by first | exact True.intro | rfl) (by exact rfl) (by exact rfl)
      | apply s_pickFT (by first | exact True.intro | rfl) (by exact rfl) (by exact rfl)
      | apply s_pickTF (by first | exact True.intro | rfl) (by exact rfl) (by exact rfl)
      | apply s_pickFF (by first | exact True.intro | rfl) (by exact rfl) (by exact rfl)
      | apply s_pickTX (by first | exact True.intro | rfl) (by exact rfl) (by exact rfl))
    | (first
      | apply s_pickFX (by first | exact True.intro | rfl) (by exact rfl) (by exact rfl)
      | apply s_pickB (by first | exact True.intro | rfl) (by exact rfl) (by exact rfl) (by exact rfl)
      | apply s_conv64 (by first | exact True.intro | rfl) (by exact rfl) (by omega) (by omega)
      | apply s_conv (by first | exact True.intro | rfl) (by exact rfl)
      | apply s_faddr (by first | exact True.intro | rfl) (by exact rfl)
      | apply s_faddrE (by first | exact True.intro | rfl) (by exact rfl)
      | apply s_load1 (by first | exact True.intro | rfl) (by exact rfl) (by exact rfl) (by exact rfl) (by exact rfl)
      | apply s_loadA (by first | exact True.intro | rfl) (by exact rfl) (by exact rfl) (by exact rfl) (by exact rfl)
      | apply s_loadG (by first | exact True.intro | rfl) (by exact rfl) (by exact rfl) (by exact rfl) (by exact rfl)
      | apply s_loadE1 (by first | exact True.intro | rfl) (by exact rfl) (by first | assumption | rfl) (by exact rfl)
      | apply s_loadEA (by first | exact True.intro | rfl) (by exact rfl) (by first | assumption | rfl) (by exact rfl)
      | apply s_loadEG (by first | exact True.intro | rfl) (by exact rfl) (by first | assumption | rfl) (by exact rfl)
      | apply s_extract (by first | exact True.intro | rfl) (by exact rfl) (by exact rfl)
      | apply s_field1 (by first | exact True.intro | rfl) (by exact rfl) (by exact rfl)
      | apply s_fieldG (by first | exact True.intro | rfl) (by exact rfl) (by exact rfl)
      | apply s_len (by first | exact True.intro | rfl) (by exact rfl) (by first | assumption | rfl)
      | apply s_lenN (by first | exact True.intro | rfl) (by exact rfl)
      | apply s_lenO (by first | exact True.intro | rfl) (by exact rfl) (by exact rfl) (by exact rfl) (by first | assumption | rfl)
      | apply s_slen (by first | exact True.intro | rfl) (by exact rfl)
      | apply s_iaddr (by first | exact True.intro | rfl) (by exact rfl) (by exact rfl) (by omega) (by first | omega | assumption)
      | apply s_iaddrO (by first | exact True.intro | rfl) (by exact rfl) (by exact rfl) (by exact rfl) (by exact rfl) (by exact rfl) (by omega) (by first | omega | (dsimp only; omega))
      | apply s_nilckP (by first | exact True.intro | rfl) (by exact rfl)
      | apply s_nilckE (by first | exact True.intro | rfl) (by exact rfl)
      | apply s_nilckF (by first | exact True.intro | rfl) (by exact rfl)
      | apply s_mkfn (by first | exact True.intro | rfl)
      | apply s_alloc (by first | exact True.intro | rfl)
      | apply s_box (by first | exact True.intro | rfl) (by exact rfl) (by exact rfl) (by exact rfl)
      | apply s_build (by first | exact True.intro | rfl) (by exact rfl)
      | apply s_storeB (by first | exact True.intro | rfl) (by exact rfl) (by exact rfl) (by exact rfl) (by exact rfl) (by exact rfl) (by exact rfl) (by exact rfl) (by exact rfl) (by exact rfl) (by exact rfl)
      | apply s_callA (by first | exact True.intro | rfl) (by exact rfl) (by exact rfl) (by assumption)
      | apply s_callS (by first | exact True.intro | rfl) (by exact rfl) (by exact rfl) (by assumption) (by (repeat (first | exact SubL.nil | refine SubL.cons (by first | exact Sub.refl _ | exact Sub.nil _ | exact Sub.any _ | (refine Sub.agg ?_; repeat (first | exact SubL.nil | refine SubL.cons (by first | exact Sub.refl _ | exact Sub.nil _) ?_))) ?_)))
      | apply s_callB (by first | exact True.intro | rfl) (by exact rfl) (by exact rfl) (by assumption) (by exact rfl)
      | apply s_callR (by first | exact True.intro | rfl) (by exact rfl) (by exact rfl) (by assumption)
      | apply s_callF (by first | exact True.intro | rfl) (by exact rfl) (by exact rfl) (by exact rfl) (by exact rfl) (by assumption) (by (repeat (first | exact SubL.nil | refine SubL.cons (by first | exact Sub.refl _ | exact Sub.nil _ | exact Sub.any _ | (refine Sub.agg ?_; repeat (first | exact SubL.nil | refine SubL.cons (by first | exact Sub.refl _ | exact Sub.nil _) ?_))) ?_)))
      | apply s_min (by first | exact True.intro | rfl) (by exact rfl) (by exact rfl) (by first | exact .inl ⟨by omega, Eq.refl _⟩ | exact .inr ⟨by omega, Eq.refl _⟩)
      | apply s_max (by first | exact True.intro | rfl) (by exact rfl) (by exact rfl) (by first | exact .inl ⟨by omega, Eq.refl _⟩ | exact .inr ⟨by omega, Eq.refl _⟩)
      | apply s_cap (by first | exact True.intro | rfl) (by exact rfl)
      | apply s_mx3 (by first | exact True.intro | rfl) (by exact rfl) (by exact rfl) (by exact rfl) (by first | assumption | exact Eq.refl _)
      | apply s_storeR [] (by first | exact True.intro | rfl) (by exact rfl) (by exact rfl) (by exact rfl) (by exact rfl) (by first | assumption | rfl) (by exact rfl) (by exact rfl) (by exact rfl) (by exact rfl) (by exact rfl) (by exact rfl)
      | apply s_rowlit [] (by first | exact True.intro | rfl) (by exact rfl) (by exact rfl) (by exact rfl) (by exact rfl)
      | apply s_append [] (by first | exact True.intro | rfl) (by exact rfl) (by exact rfl) (by exact rfl) (by exact rfl) (by exact rfl) (by exact rfl) (by exact rfl) (by exact rfl) (by first | omega | assumption | (dsimp only; omega) | (simp only [List.length_append, List.length_cons, List.length_nil, List.length_map, List.length_replicate, List.length_take, List.length_drop, chunk, intsA]; omega))
      | apply s_appendN [] (by first | exact True.intro | rfl) (by exact rfl) (by exact rfl) (by exact rfl) (by first | omega | assumption | (dsimp only; omega) | (simp only [List.length_append, List.length_cons, List.length_nil, List.length_map, List.length_replicate, List.length_take, List.length_drop, chunk, intsA]; omega))
      | apply s_storeRR (by first | exact True.intro | rfl) (by exact rfl) (by exact rfl) (by exact rfl) (by exact rfl) (by first | assumption | rfl) (by exact rfl) (by exact rfl) (by exact rfl) (by exact rfl) (by exact rfl) (by exact rfl)
      | apply s_rowlitR (by first | exact True.intro | rfl) (by exact rfl) (by exact rfl) (by exact rfl) (by exact rfl)
      | apply s_appendR (by first | exact True.intro | rfl) (by exact rfl) (by exact rfl) (by exact rfl) (by exact rfl) (by exact rfl) (by exact rfl) (by exact rfl) (by exact rfl) (by first | omega | assumption | (dsimp only; omega) | (simp only [List.length_append, List.length_cons, List.length_nil, List.length_map, List.length_replicate, List.length_take, List.length_drop, chunk, intsA]; omega))
      | apply s_appendNR (by first | exact True.intro | rfl) (by exact rfl) (by exact rfl) (by exact rfl) (by first | omega | assumption | (dsimp only; omega) | (simp only [List.length_append, List.length_cons, List.length_nil, List.length_map, List.length_replicate, List.length_take, List.length_drop, chunk, intsA]; omega))
      | apply s_sliceC (by first | exact True.intro | rfl) (by exact rfl) (by first | exact Eq.refl _ | exact ⟨_, Eq.refl _⟩) (by first | exact Eq.refl _ | exact ⟨_, Eq.refl _⟩) (by assumption)
      | apply s_iaddrO (by first | exact True.intro | rfl) (by exact rfl) (by exact rfl) (by exact rfl) (by exact rfl) (by exact rfl) (by omega) (by simp only [List.length_set, List.length_append, List.length_cons, List.length_nil, List.length_replicate]; omega)
      | apply s_load1 (by first | exact True.intro | rfl) (by exact rfl) (by exact rfl) (by assumption) (by exact rfl)
      | apply s_loadA (by first | exact True.intro | rfl) (by exact rfl) (by exact rfl) (by assumption) (by exact rfl)
      | apply s_loadG (by first | exact True.intro | rfl) (by exact rfl) (by exact rfl) (by assumption) (by exact rfl)
      | apply s_eqvL (by first | exact True.intro | rfl) (by exact rfl) (by exact rfl) (by assumption) (by first | assumption | omega)
      | apply s_neg64 (by first | exact True.intro | rfl) (by exact rfl) (by omega) (by omega)
      | apply s_neg (by first | exact True.intro | rfl) (by exact rfl)
      | apply s_iaddrA (by first | exact True.intro | rfl) (by exact rfl) (by exact rfl) (by omega) (by omega)
      | apply s_iaddrAE (by first | exact True.intro | rfl) (by exact rfl) (by exact rfl) (by omega) (by omega)
      | apply s_load1 (by first | exact True.intro | rfl) (by exact rfl) (by exact rfl) (by exact rfl) (by assumption)
      | apply s_loadE1 (by first | exact True.intro | rfl) (by exact rfl) (by first | assumption | rfl) (by assumption)
      | apply s_storeB (by first | exact True.intro | rfl) (by exact rfl) (by exact rfl) (by exact rfl) (by exact rfl) (by exact rfl) (by exact rfl) (by exact rfl) (by exact rfl) (by assumption) (by assumption)
      | apply s_iaddr (by first | exact True.intro | rfl) (by exact rfl) (by exact rfl) (by omega) (by simp only [List.length_map]; omega)
      | apply s_eqvP0 (by first | exact True.intro | rfl) (by exact rfl) (by exact rfl) (by assumption)
      | apply s_eqvP1 (by first | exact True.intro | rfl) (by exact rfl) (by exact rfl) (by assumption)
      | apply s_eqvPE (by first | exact True.intro | rfl) (by exact rfl) (by exact rfl) (by assumption)
      | apply s_mkmap (by first | exact True.intro | rfl)
      | apply s_lookYF (by first | exact True.intro | rfl) (by exact rfl) (by exact rfl) (by exact rfl) (by exact rfl) (by exact rfl) (by first | assumption | rfl)
      | apply s_lookYT (by first | exact True.intro | rfl) (by exact rfl) (by exact rfl) (by exact rfl) (by exact rfl) (by exact rfl) (by first | assumption | rfl)
      | apply s_lookNF (by first | exact True.intro | rfl) (by exact rfl) (by exact rfl) (by exact rfl) (by exact rfl) (by exact rfl) (by first | assumption | rfl)
      | apply s_lookNT (by first | exact True.intro | rfl) (by exact rfl) (by exact rfl) (by exact rfl) (by exact rfl) (by exact rfl) (by first | assumption | rfl)
      | apply s_mlen (by first | exact True.intro | rfl) (by exact rfl) (by exact rfl) (by exact rfl) (by exact rfl) (by first | assumption | rfl)
      | apply s_eqvM1 (by first | exact True.intro | rfl) (by exact rfl) (by exact rfl) (by exact rfl) (by exact rfl) (by exact rfl) (by assumption)
      | apply s_eqvM0 (by first | exact True.intro | rfl) (by exact rfl) (by exact rfl) (by assumption)
      | apply s_strEQT (by first | exact True.intro | rfl) (by exact rfl) (by exact rfl) (by first | assumption | rfl)
      | apply s_strEQF (by first | exact True.intro | rfl) (by exact rfl) (by exact rfl) (by first | assumption | decide)
      | apply s_strNET (by first | exact True.intro | rfl) (by exact rfl) (by exact rfl) (by first | assumption | decide)
      | apply s_strNEF (by first | exact True.intro | rfl) (by exact rfl) (by exact rfl) (by first | assumption | rfl)
      | apply s_mupd (by first | exact True.intro | rfl) (by exact rfl) (by exact rfl) (by exact rfl) (by exact rfl) (by exact rfl) (by exact rfl) (by exact rfl) (by exact rfl) (by first | assumption | decide) (by first | assumption | rfl) (by first | assumption | rfl)
      | apply s_mdelN (by first | exact True.intro | rfl) (by exact rfl) (by exact rfl) (by exact rfl) (by exact rfl) (by exact rfl) (by exact rfl) (by first | assumption | rfl) (by first | assumption | rfl)
      | apply s_mdelS (by first | exact True.intro | rfl) (by exact rfl) (by exact rfl) (by exact rfl) (by exact rfl) (by exact rfl) (by exact rfl) (by first | assumption | rfl) (by first | assumption | rfl)
      | apply s_make (by first | exact True.intro | rfl) (by exact rfl) (by exact rfl) (by omega) (by omega) (by omega)))); exact Runs.refl _ _ _)) : RG P acc l st K := rg_runs hR h


theorem aw_R4 {P : Program} {C : Ctx} {Q : Exit → St → Prop} {st : St} {d : Bool} {l : List AInst} {free : List (Nat × Nat)} {acc : List SD} {st' : St} (hQ : Q .normal st') (hR : Runs P [] l st acc [] st' := by
  ((repeat (first
    | (first
      | apply s_movL (by first | exact True.intro | rfl) (by exact rfl)
      | apply s_movS (by first | exact True.intro | rfl) (by exact rfl)
      | apply s_movA (by first | exact True.intro | rfl) (by exact rfl)
      | apply s_movO (by first | exact True.intro | rfl) (by exact rfl)
      | apply s_movP (by first | exact True.intro | rfl) (by exact rfl)
      | apply s_movE (by first | exact True.intro | rfl) (by exact rfl)
      | apply s_movT (by first | exact True.intro | rfl) (by exact rfl)
      | apply s_movF (by first | exact True.intro | rfl) (by exact rfl)
      | apply s_movX (by first | exact True.intro | rfl) (by exact rfl)
      | apply s_noA (by exact rfl)
      | apply s_noB (by exact rfl)
      | apply s_noC (by exact rfl)
      | apply s_no (by exact rfl)
      | apply s_noN (by exact rfl)
      | apply s_add64 (by first | exact True.intro | rfl) (by exact rfl) (by exact rfl) (by omega) (by omega)
      | apply s_sub64 (by first | exact True.intro | rfl) (by exact rfl) (by exact rfl) (by omega) (by omega)
      | apply s_ltT (by first | exact True.intro | rfl) (by exact rfl) (by exact rfl) (by omega)
      | apply s_ltF (by first | exact True.intro | rfl) (by exact rfl) (by exact rfl) (by omega)
      | apply s_leT (by first | exact True.intro | rfl) (by exact rfl) (by exact rfl) (by omega)
      | apply s_leF (by first | exact True.intro | rfl) (by exact rfl) (by exact rfl) (by omega)
      | apply s_gtT (by first | exact True.intro | rfl) (by exact rfl) (by exact rfl) (by omega)
      | apply s_gtF (by first | exact True.intro | rfl) (by exact rfl) (by exact rfl) (by omega)
      | apply s_geT (by first | exact True.intro | rfl) (by exact rfl) (by exact rfl) (by omega)
      | apply s_geF (by first | exact True.intro | rfl) (by exact rfl) (by exact rfl) (by omega)
      | apply s_eqT (by first | exact True.intro | rfl) (by exact rfl) (by exact rfl) (by omega)
      | apply s_eqF (by first | exact True.intro | rfl) (by exact rfl) (by exact rfl) (by omega)
      | apply s_neT (by first | exact True.intro | rfl) (by exact rfl) (by exact rfl) (by omega)
      | apply s_neF (by first | exact True.intro | rfl) (by exact rfl) (by exact rfl) (by omega)
      | apply s_addU64 (by first | exact True.intro | rfl) (by exact rfl) (by exact rfl) (by omega) (by omega)
      | apply s_subU64 (by first | exact True.intro | rfl) (by exact rfl) (by exact rfl) (by omega) (by omega)
      | apply s_mulU64 (by first | exact True.intro | rfl) (by exact rfl) (by exact rfl) (by omega) (by omega)
      | apply s_divU64 (by first | exact True.intro | rfl) (by exact rfl) (by exact rfl) (by omega) (by omega) (by omega)
      | apply s_addU32 (by first | exact True.intro | rfl) (by exact rfl) (by exact rfl) (by omega) (by omega)
      | apply s_divI64 (by first | exact True.intro | rfl) (by exact rfl) (by exact rfl) (by omega) (by omega) (by omega)
      | apply s_remP (by first | exact True.intro | rfl) (by exact rfl) (by exact rfl) (by omega) (by omega)
      | apply s_mul64 (by first | exact True.intro | rfl) (by exact rfl) (by exact rfl) (by first | assumption | omega)
      | apply s_convU64 (by first | exact True.intro | rfl) (by exact rfl) (by omega) (by omega)
      | apply s_convU32 (by first | exact True.intro | rfl) (by exact rfl) (by omega) (by omega)
      | apply s_int (by first | exact True.intro | rfl) (by exact rfl) (by exact rfl) (by exact rfl)
      | apply s_div (by first | exact True.intro | rfl) (by exact rfl) (by exact rfl) (by omega)
      | apply s_rem (by first | exact True.intro | rfl) (by exact rfl) (by exact rfl) (by omega)
      | apply s_bool (by first | exact True.intro | rfl) (by exact rfl) (by exact rfl) (by exact rfl)
      | apply s_notT (by first | exact True.intro | rfl) (by exact rfl)
      | apply s_notF (by first | exact True.intro | rfl) (by exact rfl)
      | apply s_not (by first | exact True.intro | rfl) (by exact rfl)
      | apply s_pickTL (by first | exact True.intro | rfl) (by exact rfl) (by exact rfl)
      | apply s_pickFL (by first | exact True.intro | rfl) (by exact rfl) (by exact rfl)
      | apply s_pickTS (by first | exact True.intro | rfl) (by exact rfl) (by exact rfl)
      | apply s_pickFS (by first | exact True.intro | rfl) (by exact rfl) (by exact rfl)
      | apply s_pickTA (by first | exact True.intro | rfl) (by exact rfl) (by exact rfl)
      | apply s_pickFA (by first | exact True.intro | rfl) (by exact rfl) (by exact rfl)
      | apply s_pickTO (by first | exact True.intro | rfl) (by exact rfl) (by exact rfl)
      | apply s_pickFO (by first | exact True.intro | rfl) (by exact rfl) (by exact rfl)
      | apply s_pickTP (by first | exact True.intro | rfl) (by exact rfl) (by exact rfl)
      | apply s_pickFP (by first | exact True.intro | rfl) (by exact rfl) (by exact rfl)
      | apply s_pickTE (by first | exact True.intro | rfl) (by exact rfl) (by exact rfl)
      | apply s_pickFE (by first | exact True.intro | rfl) (by exact rfl) (by exact rfl)
      | apply s_pickTT (by first | exact True.intro | rfl) (by exact rfl) (by exact rfl)
      | apply s_pickFT (by first | exact True.intro | rfl) (by exact rfl) (by exact rfl)
      | apply s_pickTF (by first | exact True.intro | rfl) (by exact rfl) (by exact rfl)
      | apply s_pickFF (by first | exact True.intro | rfl) (by exact rfl) (by exact rfl)
      | apply s_pickTX (by first | exact True.intro | rfl) (by exact rfl) (by exact rfl))
    | (first
      | apply s_pickFX (by first | exact True.intro | rfl) (by exact rfl) (by exact rfl)
      | apply s_pickB (by first | exact True.intro | rfl) (by exact rfl) (by exact rfl) (by exact rfl)
      | apply s_conv64 (by first | exact True.intro | rfl) (by exact rfl) (by omega) (by omega)
      | apply s_conv (by first | exact True.intro | rfl) (by exact rfl)
      | apply s_faddr (by first | exact True.intro | rfl) (by exact rfl)
      | apply s_faddrE (by first | exact True.intro | rfl) (by exact rfl)
      | apply s_load1 (by first | exact True.intro | rfl) (by exact rfl) (by exact rfl) (by exact rfl) (by exact rfl)
      | apply s_loadA (by first | exact True.intro | rfl) (by exact rfl) (by exact rfl) (by exact rfl) (by exact rfl)
      | apply s_loadG (by first | exact True.intro | rfl) (by exact rfl) (by exact rfl) (by exact rfl) (by exact rfl)
      | apply s_loadE1 (by first | exact True.intro | rfl) (by exact rfl) (by first | assumption | rfl) (by exact rfl)
      | apply s_loadEA (by first | exact True.intro | rfl) (by exact rfl) (by first | assumption | rfl) (by exact rfl)
      | apply s_loadEG (by first | exact True.intro | rfl) (by exact rfl) (by first | assumption | rfl) (by exact rfl)
      | apply s_extract (by first | exact True.intro | rfl) (by exact rfl) (by exact rfl)
      | apply s_field1 (by first | exact True.intro | rfl) (by exact rfl) (by exact rfl)
      | apply s_fieldG (by first | exact True.intro | rfl) (by exact rfl) (by exact rfl)
      | apply s_len (by first | exact True.intro | rfl) (by exact rfl) (by first | assumption | rfl)
      | apply s_lenN (by first | exact True.intro | rfl) (by exact rfl)
      | apply s_lenO (by first | exact True.intro | rfl) (by exact rfl) (by exact rfl) (by exact rfl) (by first | assumption | rfl)
      | apply s_slen (by first | exact True.intro | rfl) (by exact rfl)
      | apply s_iaddr (by first | exact True.intro | rfl) (by exact rfl) (by exact rfl) (by omega) (by first | omega | assumption)
      | apply s_iaddrO (by first | exact True.intro | rfl) (by exact rfl) (by exact rfl) (by exact rfl) (by exact rfl) (by exact rfl) (by omega) (by first | omega | (dsimp only; omega))
      | apply s_nilckP (by first | exact True.intro | rfl) (by exact rfl)
      | apply s_nilckE (by first | exact True.intro | rfl) (by exact rfl)
      | apply s_nilckF (by first | exact True.intro | rfl) (by exact rfl)
      | apply s_mkfn (by first | exact True.intro | rfl)
      | apply s_alloc (by first | exact True.intro | rfl)
      | apply s_box (by first | exact True.intro | rfl) (by exact rfl) (by exact rfl) (by exact rfl)
      | apply s_build (by first | exact True.intro | rfl) (by exact rfl)
      | apply s_storeB (by first | exact True.intro | rfl) (by exact rfl) (by exact rfl) (by exact rfl) (by exact rfl) (by exact rfl) (by exact rfl) (by exact rfl) (by exact rfl) (by exact rfl) (by exact rfl)
      | apply s_callA (by first | exact True.intro | rfl) (by exact rfl) (by exact rfl) (by assumption)
      | apply s_callS (by first | exact True.intro | rfl) (by exact rfl) (by exact rfl) (by assumption) (by (repeat (first | exact SubL.nil | refine SubL.cons (by first | exact Sub.refl _ | exact Sub.nil _ | exact Sub.any _ | (refine Sub.agg ?_; repeat (first | exact SubL.nil | refine SubL.cons (by first | exact Sub.refl _ | exact Sub.nil _) ?_))) ?_)))
      | apply s_callB (by first | exact True.intro | rfl) (by exact rfl) (by exact rfl) (by assumption) (by exact rfl)
      | apply s_callR (by first | exact True.intro | rfl) (by exact rfl) (by exact rfl) (by assumption)
      | apply s_callF (by first | exact True.intro | rfl) (by exact rfl) (by exact rfl) (by exact rfl) (by exact rfl) (by assumption) (by (repeat (first | exact SubL.nil | refine SubL.cons (by first | exact Sub.refl _ | exact Sub.nil _ | exact Sub.any _ | (refine Sub.agg ?_; repeat (first | exact SubL.nil | refine SubL.cons (by first | exact Sub.refl _ | exact Sub.nil _) ?_))) ?_)))
      | apply s_min (by first | exact True.intro | rfl) (by exact rfl) (by exact rfl) (by first | exact .inl ⟨by omega, Eq.refl _⟩ | exact .inr ⟨by omega, Eq.refl _⟩)
      | apply s_max (by first | exact True.intro | rfl) (by exact rfl) (by exact rfl) (by first | exact .inl ⟨by omega, Eq.refl _⟩ | exact .inr ⟨by omega, Eq.refl _⟩)
      | apply s_cap (by first | exact True.intro | rfl) (by exact rfl)
      | apply s_mx3 (by first | exact True.intro | rfl) (by exact rfl) (by exact rfl) (by exact rfl) (by first | assumption | exact Eq.refl _)
      | apply s_storeR [] (by first | exact True.intro | rfl) (by exact rfl) (by exact rfl) (by exact rfl) (by exact rfl) (by first | assumption | rfl) (by exact rfl) (by exact rfl) (by exact rfl) (by exact rfl) (by exact rfl) (by exact rfl)
      | apply s_rowlit [] (by first | exact True.intro | rfl) (by exact rfl) (by exact rfl) (by exact rfl) (by exact rfl)
      | apply s_append [] (by first | exact True.intro | rfl) (by exact rfl) (by exact rfl) (by exact rfl) (by exact rfl) (by exact rfl) (by exact rfl) (by exact rfl) (by exact rfl) (by first | omega | assumption | (dsimp only; omega) | (simp only [List.length_append, List.length_cons, List.length_nil, List.length_map, List.length_replicate, List.length_take, List.length_drop, chunk, intsA]; omega))
      | apply s_appendN [] (by first | exact True.intro | rfl) (by exact rfl) (by exact rfl) (by exact rfl) (by first | omega | assumption | (dsimp only; omega) | (simp only [List.length_append, List.length_cons, List.length_nil, List.length_map, List.length_replicate, List.length_take, List.length_drop, chunk, intsA]; omega))
      | apply s_storeRR (by first | exact True.intro | rfl) (by exact rfl) (by exact rfl) (by exact rfl) (by exact rfl) (by first | assumption | rfl) (by exact rfl) (by exact rfl) (by exact rfl) (by exact rfl) (by exact rfl) (by exact rfl)
      | apply s_rowlitR (by first | exact True.intro | rfl) (by exact rfl) (by exact rfl) (by exact rfl) (by exact rfl)
      | apply s_appendR (by first | exact True.intro | rfl) (by exact rfl) (by exact rfl) (by exact rfl) (by exact rfl) (by exact rfl) (by exact rfl) (by exact rfl) (by exact rfl) (by first | omega | assumption | (dsimp only; omega) | (simp only [List.length_append, List.length_cons, List.length_nil, List.length_map, List.length_replicate, List.length_take, List.length_drop, chunk, intsA]; omega))
      | apply s_appendNR (by first | exact True.intro | rfl) (by exact rfl) (by exact rfl) (by exact rfl) (by first | omega | assumption | (dsimp only; omega) | (simp only [List.length_append, List.length_cons, List.length_nil, List.length_map, List.length_replicate, List.length_take, List.length_drop, chunk, intsA]; omega))
      | apply s_sliceC (by first | exact True.intro | rfl) (by exact rfl) (by first | exact Eq.refl _ | exact ⟨_, Eq.refl _⟩) (by first | exact Eq.refl _ | exact ⟨_, Eq.refl _⟩) (by assumption)
      | apply s_iaddrO (by first | exact True.intro | rfl) (by exact rfl) (by exact rfl) (by exact rfl) (by exact rfl) (by exact rfl) (by omega) (by simp only [List.length_set, List.length_append, List.length_cons, List.length_nil, List.length_replicate]; omega)
      | apply s_load1 (by first | exact True.intro | rfl) (by exact rfl) (by exact rfl) (by assumption) (by exact rfl)
      | apply s_loadA (by first | exact True.intro | rfl) (by exact rfl) (by exact rfl) (by assumption) (by exact rfl)
      | apply s_loadG (by first | exact True.intro | rfl) (by exact rfl) (by exact rfl) (by assumption) (by exact rfl)
      | apply s_eqvL (by first | exact True.intro | rfl) (by exact rfl) (by exact rfl) (by assumption) (by first | assumption | omega)
      | apply s_neg64 (by first | exact True.intro | rfl) (by exact rfl) (by omega) (by omega)
      | apply s_neg (by first | exact True.intro | rfl) (by exact rfl)
      | apply s_iaddrA (by first | exact True.intro | rfl) (by exact rfl) (by exact rfl) (by omega) (by omega)
      | apply s_iaddrAE (by first | exact True.intro | rfl) (by exact rfl) (by exact rfl) (by omega) (by omega)
      | apply s_load1 (by first | exact True.intro | rfl) (by exact rfl) (by exact rfl) (by exact rfl) (by assumption)
      | apply s_loadE1 (by first | exact True.intro | rfl) (by exact rfl) (by first | assumption | rfl) (by assumption)
      | apply s_storeB (by first | exact True.intro | rfl) (by exact rfl) (by exact rfl) (by exact rfl) (by exact rfl) (by exact rfl) (by exact rfl) (by exact rfl) (by exact rfl) (by assumption) (by assumption)
      | apply s_iaddr (by first | exact True.intro | rfl) (by exact rfl) (by exact rfl) (by omega) (by simp only [List.length_map]; omega)
      | apply s_eqvP0 (by first | exact True.intro | rfl) (by exact rfl) (by exact rfl) (by assumption)
      | apply s_eqvP1 (by first | exact True.intro | rfl) (by exact rfl) (by exact rfl) (by assumption)
      | apply s_eqvPE (by first | exact True.intro | rfl) (by exact rfl) (by exact rfl) (by assumption)
      | apply s_mkmap (by first | exact True.intro | rfl)
      | apply s_lookYF (by first | exact True.intro | rfl) (by exact rfl) (by exact rfl) (by exact rfl) (by exact rfl) (by exact rfl) (by first | assumption | rfl)
      | apply s_lookYT (by first | exact True.intro | rfl) (by exact rfl) (by exact rfl) (by exact rfl) (by exact rfl) (by exact rfl) (by first | assumption | rfl)
      | apply s_lookNF (by first | exact True.intro | rfl) (by exact rfl) (by exact rfl) (by exact rfl) (by exact rfl) (by exact rfl) (by first | assumption | rfl)
      | apply s_lookNT (by first | exact True.intro | rfl) (by exact rfl) (by exact rfl) (by exact rfl) (by exact rfl) (by exact rfl) (by first | assumption | rfl)
      | apply s_mlen (by first | exact True.intro | rfl) (by exact rfl) (by exact rfl) (by exact rfl) (by exact rfl) (by first | assumption | rfl)
      | apply s_eqvM1 (by first | exact True.intro | rfl) (by exact rfl) (by exact rfl) (by exact rfl) (by exact rfl) (by exact rfl) (by assumption)
      | apply s_eqvM0 (by first | exact True.intro | rfl) (by exact rfl) (by exact rfl) (by assumption)
      | apply s_strEQT (by first | exact True.intro | rfl) (by exact rfl) (by exact rfl) (by first | assumption | rfl)
      | apply s_strEQF (by first | exact True.intro | rfl) (by exact rfl) (by exact rfl) (by first | assumption | decide)
      | apply s_strNET (by first | exact True.intro | rfl) (by exact rfl) (by exact rfl) (by first | assumption | decide)
      | apply s_strNEF (by first | exact True.intro | rfl) (by exact rfl) (by exact rfl) (by first | assumption | rfl)
      | apply s_mupd (by first | exact True.intro | rfl) (by exact rfl) (by exact rfl) (by exact rfl) (by exact rfl) (by exact rfl) (by exact rfl) (by exact rfl) (by exact rfl) (by first | assumption | decide) (by first | assumption | rfl) (by first | assumption | rfl)
      | apply s_mdelN (by first | exact True.intro | rfl) (by exact rfl) (by exact rfl) (by exact rfl) (by exact rfl) (by exact rfl) (by exact rfl) (by first | assumption | rfl) (by first | assumption | rfl)
      | apply s_mdelS (by first | exact True.intro | rfl) (by exact rfl) (by exact rfl) (by exact rfl) (by exact rfl) (by exact rfl) (by exact rfl) (by first | assumption | rfl) (by first | assumption | rfl)
      | apply s_make (by first | exact True.intro | rfl) (by exact rfl) (by exact rfl) (by omega) (by omega) (by omega)))); exact Runs.refl _ _ _)) (hi : (bif d then indepOK acc.reverse free else true) = true := by rfl) : AW P C (.ops d l free) Q st := aw_reg (rg_runs hR (rg_nil ⟨hi, hQ⟩))

/-- all that needs no hint -/
theorem walk4 {P : Program} {C : Ctx} {Q : Exit → St → Prop} {st : St} {c : ACode} {G : Prop} (hG : G) (h : Left G → AW P C c Q st := by
  (intro hG; repeat (first | refine aw_seq ?_ | refine aw_block ?_ | refine aw_skip ?_ | refine aw_exit ?_ | refine aw_ret ?_ | refine aw_cond_t rfl ?_ | refine aw_cond_f rfl ?_ | refine aw_condF rfl ?_ | refine aw_condT rfl ?_ | refine aw_R4 ?_)
   exact hG.out)) : AW P C c Q st := h ⟨hG⟩
end Go.Proofs.Ytmbigpjokpdnkaa
