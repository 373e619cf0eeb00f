/- ScopeNone: scopes that New did not make. -/
import Derived.Test.YtmbigpjokpdnkaaXprS
import Derived.Test.YtmbigpjokpdnkaaScpC
namespace Go.Proofs.Ytmbigpjokpdnkaa
set_option linter.unusedVariables false
open Go.RowKit

theorem Step.freezeN {P : Program} {st : St} {i : AInst} {v : AV} {rd : List Nat} {upd : Hp} {n : Nat} (id : Nat) {o : OB} (ho : hl st.h id = some o) (h : Step P { st with h := (id, some { o with ro := true }) :: st.h } ⟨i, v, rd, upd, n⟩) :
    Step P st ⟨i, v, rd, upd ++ [(id, some { o with ro := true })], n⟩ := by
  intro N ops op hlow C E a w sx hN R hag hh hnw K Q hK
  have ho' : hl sx.h id = some o := by rw [hh id (.inr (by simp))]; exact ho
  obtain ⟨E1, R1, hlv⟩ := freeze_rel R id ho'
  have hcons : ∀ j, (hl sx.h j = hl st.h j) → hl ((id, some { o with ro := true }) :: sx.h) j = hl ((id, some { o with ro := true }) :: st.h) j := fun j hj => by
    have e1 : ∀ h : Hp, hl ((id, some { o with ro := true }) :: h) j = if id = j then some { o with ro := true } else hl h j := fun h => by
      by_cases hj' : id = j
      · subst hj'; simp [hl, look]
      · have : Nat.beq id j = false := by cases hb : Nat.beq id j; rfl; exact absurd (Nat.eq_of_beq_eq_true hb) hj'
        simp [hl, look, this, hj']
    rw [e1, e1, hj]
  refine h N ops op hlow C E1 a w { sx with h := (id, some { o with ro := true }) :: sx.h } hN R1 hag (fun j hj => ?_) (fun j hf => ⟨fun hq => (hnw j hf).1 ((hlv _).1 hq), (hnw j hf).2⟩) K Q (fun v' w' E' hR' hl' => hK v' w' E' ?_ (fun k hk => ?_))
  · by_cases hid : j = id
    · subst hid; simp [hl, look]
    · refine hcons j (hh j ?_)
      rcases hj with hj | hj
      · exact .inl hj
      · exact .inr (by simp only [List.map_append, List.mem_append]; exact .inl hj)
  · simp only [St.appx, List.append_assoc, List.singleton_append] at hR' ⊢
    exact hR'
  · rcases hl' k hk with h | h
    · exact .inl ((hlv k).1 h)
    · exact .inr h

section
variable {P : Program} {tt : List (Nat × AV)} {hh : Hp} {nn dd : Nat} {g : Option (Nat × Bool)} {l : List AInst} {acc : List SD} {K : List SD → St → Prop}
/-- a literal row with pointers to a block that no one writes any more -/
theorem r_rowlitF {e : TypeId} {sz len : Nat} {z : List Value} {ps : List (Nat × Operand)} {avs cs cs' : List AV} {es : List (List AV)} (id : Nat) {o : OB} (h : RG P (⟨⟨some dd, g, .rowlit e sz len z ps⟩, .own nn, [id], [(nn, some ⟨true, false, e, sz, es⟩), (id, some { o with ro := true })], 1⟩ :: acc) l ⟨(dd, .own nn) :: tt, (nn, some ⟨true, false, e, sz, es⟩) :: (id, some { o with ro := true }) :: hh, nn + 1⟩ K) (hg : gOK ⟨tt, hh, nn⟩ g := by first | exact True.intro | rfl) (ho : hl hh id = some o := by rfl)
    (hv : optAll (viewN true (restr [id] ((id, some { o with ro := true }) :: hh)) 4) (ps.map fun p => ev ⟨tt, hh, nn⟩ p.2) = some avs := by rfl) (hf : fillA (List.replicate len (z.map .lit)).flatten ((ps.zip avs).map fun p => (p.1.1 * sz, sz, p.2)) = some cs := by rfl) (hp : mapL (fun _ => none) cs = some cs' := by rfl) (he : chunk sz len cs' = es := by rfl) : RG P acc (⟨some dd, g, .rowlit e sz len z ps⟩ :: l) ⟨tt, hh, nn⟩ K :=
  RG.step (he ▸ Step.freezeN (upd := [(nn, some ⟨true, false, e, sz, chunk sz len cs'⟩)]) id ho (q_rowlit (st := ⟨tt, (id, some { o with ro := true }) :: hh, nn⟩) [id] hg hv hf hp)) (he ▸ h)
end

/-- no scope, or one that New did not make -/
abbrev noS : AV := .lit (.pointer none)
abbrev emptyS : AV := .ep 3 [[.lit (.map none), .lit (.map none), i64A 0]] 0 0
def isNo (r : AV) : Prop := r = noS ∨ r = emptyS

set_option maxRecDepth 10000 in
theorem noneS_a (r : AV) (h : isNo r) : ACalls Try.prog 43 [r] (.lit (.bool true)) := by
  have hu := Try.underlying63
  have hp := Try.underlying37
  rcases h with rfl | rfl
  · refine acalls_of code_scope_Scope_none (by simp [fn_scope_Scope_none]) fun C hC => ?_
    refine walk4 ?_
    exact fin
  · refine acalls_of code_scope_Scope_none (by simp [fn_scope_Scope_none]) fun C hC => ?_
    refine walk4 ?_
    exact fin

abbrev funV (b : Nat) (x : Xpr) : AV := .agg (labV b :: xprV x)
abbrev fun00 : AV := .agg [.lit (.int .u64 0), i64A 0, i64A 0, .lit (.string ⟨#[]⟩), .lit (.bool false), nilS, nilS, nilS, nilS]
abbrev slot00 : AV := .agg [.lit (.int .u64 0), .lit (.int .u64 0), nilS, nilS]

set_option maxRecDepth 10000 in
theorem putS_a (r : AV) (h : isNo r) (s : ByteArray) (b : Nat) (A : Arr) : ACalls Try.prog 21 [r, strA s, slotV b A] (.tup []) := by
  have c := noneS_a r h
  rcases h with rfl | rfl <;> (refine acalls_of code_scope_Scope_Put (by simp [fn_scope_Scope_Put]) fun C hC => ?_; refine walk4 ?_; exact fin)
set_option maxRecDepth 10000 in
theorem defS_a (r : AV) (h : isNo r) (s : ByteArray) (b : Nat) (x : Xpr) : ACalls Try.prog 22 [r, strA s, funV b x] (.tup []) := by
  have c := noneS_a r h
  rcases h with rfl | rfl <;> (refine acalls_of code_scope_Scope_Define (by simp [fn_scope_Scope_Define]) fun C hC => ?_; refine walk4 ?_; exact fin)
set_option maxRecDepth 10000 in
theorem getS_a (r : AV) (h : isNo r) (s : ByteArray) : ACalls Try.prog 17 [r, strA s] (.tup [slot00, .lit (.bool false)]) := by
  have c := noneS_a r h
  rcases h with rfl | rfl <;> (refine acalls_of code_scope_Scope_Get (by simp [fn_scope_Scope_Get]) fun C hC => ?_; refine walk4 ?_; exact fin)
set_option maxRecDepth 10000 in
theorem funS_a (r : AV) (h : isNo r) (s : ByteArray) : ACalls Try.prog 18 [r, strA s] (.tup [fun00, .lit (.bool false)]) := by
  have c := noneS_a r h
  rcases h with rfl | rfl <;> (refine acalls_of code_scope_Scope_Fun (by simp [fn_scope_Scope_Fun]) fun C hC => ?_; refine walk4 ?_; exact fin)
set_option maxRecDepth 10000 in
theorem namesS_a (r : AV) (h : isNo r) : ACalls Try.prog 23 [r] (.tup [nilS, nilS]) := by
  have c := noneS_a r h
  rcases h with rfl | rfl <;> (refine acalls_of code_scope_Scope_Names (by simp [fn_scope_Scope_Names]) fun C hC => ?_; refine walk4 ?_; exact fin)
set_option maxRecDepth 10000 in
theorem cellsS_a (r : AV) (h : isNo r) : ACalls Try.prog 24 [r] (i64A 0) := by
  have c := noneS_a r h
  rcases h with rfl | rfl <;> (refine acalls_of code_scope_Scope_Cells (by simp [fn_scope_Scope_Cells]) fun C hC => ?_; refine walk4 ?_; exact fin)
set_option maxRecDepth 10000 in
theorem dropS_a (r : AV) (h : isNo r) (s : ByteArray) : ACalls Try.prog 25 [r, strA s] (.lit (.bool false)) := by
  have c := noneS_a r h
  rcases h with rfl | rfl <;> (refine acalls_of code_scope_Scope_Drop (by simp [fn_scope_Scope_Drop]) fun C hC => ?_; refine walk4 ?_; exact fin)

/-! the law's deeds -/
structure SDeed where
  kind : Int
  name : ByteArray
  b : Nat
  v : Arr
  f : Xpr
abbrev sdeedV (d : SDeed) : List AV := [i64A d.kind, strA d.name, labV d.b, .lit (.int .u64 d.v.s), .sl 1 (intsA .i64 d.v.shape), .sl 7 (d.v.cells.map cellR),
  .lit (.int .i64 d.f.kind), .lit (.int .i64 d.f.op), .lit (.string d.f.name), .lit (.bool d.f.n.neg), .sl 1 (intsA .u32 d.f.n.top), .sl 1 (intsA .u32 d.f.n.bot), .sl 1 (intsA .i64 d.f.text), .sl 8 (d.f.kids.map xprR)]
def smallP (d : SDeed) : Bool := decide ((d.name.size : Int) ≤ 100) && (fewP d.v && fewX d.f)
def sdeedOK (d : SDeed) : Prop := arrOK d.v ∧ xprOK d.f ∧ d.b < 18446744073709551616 ∧ d.name.size ≤ reachBytes

set_option maxRecDepth 10000 in
theorem small_a (d : SDeed) (h : sdeedOK d) : ACalls Try.prog 14 [.agg (sdeedV d)] (.lit (.bool (smallP d))) := by
  have c1 := few_a d.v h.1
  have c2 := fewX_a d.f h.2.1
  refine acalls_of code_scrimlaw24_small (by simp [fn_scrimlaw24_small]) fun C hC => ?_
  unfold smallP
  by_cases h1 : (d.name.size : Int) ≤ 100
  · rw [decide_eq_true h1, Bool.true_and]
    cases h2 : fewP d.v
    · rw [h2] at c1
      refine walk4 ?_
      exact fin
    · rw [h2] at c1
      rw [Bool.true_and]
      generalize fewX d.f = q at *
      refine walk4 ?_
      exact fin
  · rw [decide_eq_false h1, Bool.false_and]
    refine walk4 ?_
    exact fin

set_option maxHeartbeats 8000000 in
set_option maxRecDepth 10000 in
theorem scopeNone_a (d : SDeed) (h : sdeedOK d) : ACalls Try.prog 5 [.agg (sdeedV d)] (.lit (.bool true)) := by
  have cs := small_a d h
  have aw := awake24_a
  have i0 : isNo noS := .inl rfl
  have i1 : isNo emptyS := .inr rfl
  have a1 := putS_a _ i0 d.name d.b d.v
  have a2 := defS_a _ i0 d.name d.b d.f
  have a3 := getS_a _ i0 d.name
  have a4 := funS_a _ i0 d.name
  have a5 := namesS_a _ i0
  have a6 := cellsS_a _ i0
  have a7 := dropS_a _ i0 d.name
  have b1 := putS_a _ i1 d.name d.b d.v
  have b2 := defS_a _ i1 d.name d.b d.f
  have b3 := getS_a _ i1 d.name
  have b4 := funS_a _ i1 d.name
  have b5 := namesS_a _ i1
  have b6 := cellsS_a _ i1
  have b7 := dropS_a _ i1 d.name
  refine acalls_of code_scrimlaw24_ScopeNone (by simp [fn_scrimlaw24_ScopeNone]) fun C hC => ?_
  cases hs : smallP d
  · rw [hs] at cs
    refine walk4 ?_
    exact fin
  · rw [hs] at cs
    refine walk4 ?_
    refine aw_reg (rrun4 ?_)
    refine r_rowlitF (es := [[noS], [emptyS]]) (o := ⟨false, false, 66, 3, [[.lit (.map none), .lit (.map none), i64A 0]]⟩) 1 ?_
    dsimp only [Nat.reduceAdd]
    refine rrun4 ?_
    refine rg_nil ⟨rfl, ?_⟩
    refine walk4 ?_
    refine aw_unroll 3 ?_
    refine awr_one ?_
    refine walk4 ?_
    exact fin
end Go.Proofs.Ytmbigpjokpdnkaa
