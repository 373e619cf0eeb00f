/- Expressions as data. -/
import Derived.Test.YtmbigpjokpdnkaaFewP
import Derived.Test.YtmbigpjokpdnkaaScpB
namespace Go.Proofs.Ytmbigpjokpdnkaa
set_option linter.unusedVariables false
open Go.RowKit

inductive Xpr where
  | mk (kind op : Int) (name : ByteArray) (n : Num) (text : List Int) (kids : List Xpr)
def Xpr.kind : Xpr → Int | .mk k _ _ _ _ _ => k
def Xpr.op : Xpr → Int | .mk _ o _ _ _ _ => o
def Xpr.name : Xpr → ByteArray | .mk _ _ s _ _ _ => s
def Xpr.n : Xpr → Num | .mk _ _ _ n _ _ => n
def Xpr.text : Xpr → List Int | .mk _ _ _ _ t _ => t
def Xpr.kids : Xpr → List Xpr | .mk _ _ _ _ _ ks => ks

mutual
def xprR : Xpr → List AV
  | .mk k o s n t ks => [.lit (.int .i64 k), .lit (.int .i64 o), .lit (.string s), .lit (.bool n.neg), .sl 1 (intsA .u32 n.top), .sl 1 (intsA .u32 n.bot), .sl 1 (intsA .i64 t), .sl 8 (xprsR ks)]
def xprsR : List Xpr → List (List AV)
  | [] => []
  | x :: l => xprR x :: xprsR l
end
theorem xprsR_map : ∀ (l : List Xpr), xprsR l = l.map xprR
  | [] => rfl
  | a :: l => by simp only [xprsR, List.map_cons, xprsR_map l]
def xprV (x : Xpr) : List AV := [.lit (.int .i64 x.kind), .lit (.int .i64 x.op), .lit (.string x.name), .lit (.bool x.n.neg), .sl 1 (intsA .u32 x.n.top), .sl 1 (intsA .u32 x.n.bot), .sl 1 (intsA .i64 x.text), .sl 8 (x.kids.map xprR)]
theorem xprR_eq (x : Xpr) : xprR x = xprV x := by cases x; simp only [xprR, xprV, xprsR_map, Xpr.kind, Xpr.op, Xpr.name, Xpr.n, Xpr.text, Xpr.kids]
theorem xpr_at {l : List Xpr} {i : Nat} {a : Xpr} (h : l[i]? = some a) : (l.map xprR)[i]? = some (xprV a) := by simp [h, xprR_eq]

mutual
def xprOK : Xpr → Prop
  | .mk k o s n t ks => (Lit.int .i64 k).wf = true ∧ (Lit.int .i64 o).wf = true ∧ s.size ≤ reachBytes ∧ numOK n ∧ (∀ z ∈ t, (Lit.int .i64 z).wf = true) ∧ t.length ≤ reachBytes ∧ ks.length ≤ reachBytes ∧ xprsOK ks
def xprsOK : List Xpr → Prop
  | [] => True
  | x :: l => xprOK x ∧ xprsOK l
end
theorem xprsOK_mem : ∀ {l : List Xpr}, xprsOK l ↔ ∀ a ∈ l, xprOK a
  | [] => by simp [xprsOK]
  | a :: l => by simp only [xprsOK, List.mem_cons, forall_eq_or_imp, xprsOK_mem]
theorem xprOK.parts {x : Xpr} (h : xprOK x) : x.name.size ≤ reachBytes ∧ numOK x.n ∧ x.text.length ≤ reachBytes ∧ x.kids.length ≤ reachBytes ∧ xprsOK x.kids := by
  obtain ⟨k, o, s, n, t, ks⟩ := x
  simp only [xprOK] at h
  exact ⟨h.2.2.1, h.2.2.2.1, h.2.2.2.2.2.1, h.2.2.2.2.2.2.1, h.2.2.2.2.2.2.2⟩

mutual
def leftX : Xpr → Nat → Int → Int
  | .mk _ _ _ _ t ks, d, n => if d = 0 then -1 else leftXs ks (d - 1) (n - 1 - (t.length : Int).tdiv 8)
def leftXs : List Xpr → Nat → Int → Int
  | [], _, n => n
  | x :: xs, d, n => if 0 ≤ n then leftXs xs d (leftX x d n) else n
end
theorem leftXs_neg (xs : List Xpr) (d : Nat) (n : Int) (h : n < 0) : leftXs xs d n = n := by
  cases xs with
  | nil => simp [leftXs]
  | cons c cs => simp only [leftXs]; rw [if_neg (by omega)]
theorem tdiv8 (k : Nat) : (k : Int).tdiv 8 = ((k / 8 : Nat) : Int) := by
  rw [Int.tdiv_eq_ediv_of_nonneg (by omega)]; rfl
mutual
theorem leftX_range : ∀ (x : Xpr) (d : Nat) (n : Int), xprOK x → 0 ≤ n → n ≤ 3000 → -1000000000000000 ≤ leftX x d n ∧ leftX x d n ≤ 3000
  | .mk k o s nm t ks, d, n, h, h0, h1 => by
    simp only [xprOK] at h
    have hr : reachBytes = 140737488351232 := rfl
    simp only [leftX]
    have := tdiv8 t.length
    split
    · omega
    · exact leftXs_range ks _ _ h.2.2.2.2.2.2.2 (by omega) (by omega)
theorem leftXs_range : ∀ (xs : List Xpr) (d : Nat) (n : Int), xprsOK xs → -1000000000000000 ≤ n → n ≤ 3000 → -1000000000000000 ≤ leftXs xs d n ∧ leftXs xs d n ≤ 3000
  | [], d, n, h, h0, h1 => by simp only [leftXs]; omega
  | a :: xs, d, n, h, h0, h1 => by
    simp only [xprsOK] at h
    simp only [leftXs]
    split
    · rename_i hn
      obtain ⟨k1, k2⟩ := leftX_range a d n h.1 hn h1
      exact leftXs_range xs d _ h.2 k1 k2
    · omega
end
theorem leftXs_at {xs : List Xpr} {k : Nat} {a : Xpr} (h : xs[k]? = some a) (d : Nat) (n : Int) (hn : 0 ≤ n) : leftXs (xs.drop k) d n = leftXs (xs.drop (k + 1)) d (leftX a d n) := by
  obtain ⟨hk, rfl⟩ := List.getElem?_eq_some_iff.1 h
  rw [List.drop_eq_getElem_cons hk, leftXs, if_pos hn]
theorem kids_len (x : Xpr) : ((x.kids.map xprR).length : Int) = x.kids.length := by simp
def fewX (x : Xpr) : Bool := decide (0 ≤ leftX x 60 3000)

set_option maxHeartbeats 1000000 in
theorem leftX_a : ∀ (d : Nat) (x : Xpr) (q n : Int), q = d → d ≤ 60 → xprOK x → 0 ≤ n → n ≤ 3000 → ACalls Try.prog 51 [.agg (xprV x), .lit (.int .i64 q), .lit (.int .i64 n)] (.lit (.int .i64 (leftX x d n)))
  | d, x, q, n, hq, hd, hx, hn0, hn1 => by
    have hr : reachBytes = 140737488351232 := rfl
    have ltx := intsA_len .i64 x.text
    have lks := kids_len x
    obtain ⟨a1, a2, a3, a4, a5⟩ := hx.parts
    have ht8 := tdiv8 x.text.length
    refine acalls_of code_scrimref21_left (by simp [fn_scrimref21_left]) fun C hC => ?_
    cases d with
    | zero =>
      have e : leftX x 0 n = -1 := by cases x; simp [leftX]
      rw [e]
      refine walk4 ?_
      exact fin
    | succ d =>
      have e : leftX x (d + 1) n = leftXs (x.kids.drop 0) d (n - 1 - (x.text.length : Int).tdiv 8) := by cases x; simp [leftX, Xpr.kids, Xpr.text]
      refine walk4 ?_
      refine aw_loopB [1, 3, 6] [0] (fun p : Nat × Int => [(2, .lit (.int .i64 p.2)), (7, .lit (.int .i64 p.1))]) (fun _ => []) 1
        (fun p => p.1 ≤ x.kids.length ∧ (-1000000000000000 ≤ p.2 ∧ p.2 ≤ 3000) ∧ leftX x (d + 1) n = leftXs (x.kids.drop p.1) d p.2) (fun p => x.kids.length - p.1) (0, n - 1 - (x.text.length : Int).tdiv 8) ⟨Nat.zero_le _, ⟨by simp only; omega, by simp only; omega⟩, e⟩ ?_
      rintro ⟨k, nn⟩ ⟨hk, ⟨hb1, hb2⟩, hE⟩
      simp only at hk hb1 hb2 hE
      dsimp only [List.cons_append, List.nil_append]
      by_cases hlt : k < x.kids.length
      · by_cases h0 : 0 ≤ nn
        · obtain ⟨c, hc⟩ : ∃ c, x.kids[k]? = some c := ⟨_, List.getElem?_eq_getElem hlt⟩
          have hck := xpr_at hc
          have hcok := xprsOK_mem.1 a5 c (List.mem_of_getElem? hc)
          rw [leftXs_at hc _ _ h0] at hE
          obtain ⟨r1, r2⟩ := leftX_range c d nn hcok h0 hb2
          have cc := leftX_a d c (q - 1) nn (by omega) (by omega) hcok h0 hb2
          refine walk4 ?_
          exact ⟨(k + 1, leftX c d nn), by simp only; omega, ⟨by simp only; omega, ⟨r1, r2⟩, hE⟩, wkR hC.m []⟩
        · rw [leftXs_neg _ _ _ (by omega)] at hE
          rw [hE]
          refine walk4 ?_
          exact fin
      · rw [List.drop_eq_nil_of_le (by omega), leftXs] at hE
        rw [hE]
        refine walk4 ?_
        exact fin
  termination_by d => d

set_option maxRecDepth 10000 in
theorem fewX_a (x : Xpr) (hx : xprOK x) : ACalls Try.prog 37 [.agg (xprV x)] (.lit (.bool (fewX x))) := by
  have c := leftX_a 60 x 60 3000 rfl (by omega) hx (by omega) (by omega)
  refine acalls_of code_scrimref21_Few (by simp [fn_scrimref21_Few]) fun C hC => ?_
  by_cases h : 0 ≤ leftX x 60 3000
  · rw [show fewX x = true from decide_eq_true h]
    refine walk4 ?_
    exact fin
  · rw [show fewX x = false from decide_eq_false h]
    refine walk4 ?_
    exact fin

theorem intsP_refl (xs : List Int) : intsP xs xs = true := beq_self_eq_true _
theorem numP_refl (n : Num) : numP n n = true := by simp [numP, intsP_refl]
theorem ints01_a (xs : List Int) : ACalls Try.prog 54 [.sl 1 (intsA .i64 xs), .sl 1 (intsA .i64 xs)] (.lit (.bool true)) := by
  have lx := intsA_len .i64 xs
  refine acalls_of code_scrimref01_Ints (by simp [fn_scrimref01_Ints]) fun C hC => ?_
  refine aw_know 0 ((intsA .i64 xs).length ≤ 281474976710656) (fun E w v h => know_sl h) fun hx => ?_
  refine walk4 ?_
  refine aw_loopB [0, 1, 4] [] (fun k : Nat => [(5, .lit (.int .i64 k))]) (fun _ => []) 0 (fun k => k ≤ xs.length) (fun k => xs.length - k) 0 (Nat.zero_le _) ?_
  intro k hk
  dsimp only [List.cons_append, List.nil_append]
  by_cases hlt : k < xs.length
  · obtain ⟨x, hx'⟩ : ∃ x, xs[k]? = some x := ⟨_, List.getElem?_eq_getElem hlt⟩
    have hxk := int_at (k := .i64) hx'
    refine walk4 ?_
    exact ⟨k + 1, by omega, by omega, wkR hC.m []⟩
  · refine walk4 ?_
    exact fin

theorem Xpr.size (x : Xpr) : SizeOf.sizeOf x.kids < SizeOf.sizeOf x := by cases x; simp [Xpr.kids]; omega
set_option maxHeartbeats 1000000 in
set_option maxRecDepth 10000 in
theorem sameX_a : ∀ (x : Xpr), xprOK x → ACalls Try.prog 42 [.agg (xprV x), .agg (xprV x)] (.lit (.bool true))
  | x, hx => by
    have hr : reachBytes = 140737488351232 := rfl
    have ltx := intsA_len .i64 x.text
    have lks := kids_len x
    obtain ⟨a1, a2, a3, a4, a5⟩ := hx.parts
    have cn := rnum_a x.n x.n
    have ci := ints01_a x.text
    rw [numP_refl] at cn
    refine acalls_of code_scrimref21_Same (by simp [fn_scrimref21_Same]) fun C hC => ?_
    refine walk4 ?_
    refine aw_loopB [2, 3, 4] [0, 1] (fun k : Nat => [(5, .lit (.int .i64 k))]) (fun _ => []) 2
      (fun k => k ≤ x.kids.length) (fun k => x.kids.length - k) 0 (Nat.zero_le _) ?_
    intro k hk
    dsimp only [List.cons_append, List.nil_append]
    by_cases hlt : k < x.kids.length
    · obtain ⟨c, hc⟩ : ∃ c, x.kids[k]? = some c := ⟨_, List.getElem?_eq_getElem hlt⟩
      have hck := xpr_at hc
      have hcm := List.mem_of_getElem? hc
      have hcok := xprsOK_mem.1 a5 c hcm
      have ht : SizeOf.sizeOf c < SizeOf.sizeOf x := Nat.lt_trans (List.sizeOf_lt_of_mem hcm) x.size
      have cc := sameX_a c hcok
      refine walk4 ?_
      exact ⟨k + 1, by omega, by omega, wkR hC.m []⟩
    · refine walk4 ?_
      exact fin
  termination_by x => SizeOf.sizeOf x
end Go.Proofs.Ytmbigpjokpdnkaa
namespace Go.Proofs.Ytmbigpjokpdnkaa
set_option linter.unusedVariables false
open Go.RowKit

theorem Step.freezeN {P : Program} {st : St} {i : AInst} {v : AV} {rd : List Nat} {upd : Hp} {n : Nat} (id : Nat) {o : OB} (ho : hl st.h id = some o) (h : Step P { st with h := (id, some { o with ro := true }) :: st.h } ⟨i, v, rd, upd, n⟩) :
    Step P st ⟨i, v, rd, upd ++ [(id, some { o with ro := true })], n⟩ := by
  intro N ops op hlow C E a w sx hN R hag hh hnw K Q hK
  have ho' : hl sx.h id = some o := by rw [hh id (.inr (by simp))]; exact ho
  obtain ⟨E1, R1, hlv⟩ := freeze_rel R id ho'
  have hcons : ∀ j, (hl sx.h j = hl st.h j) → hl ((id, some { o with ro := true }) :: sx.h) j = hl ((id, some { o with ro := true }) :: st.h) j := fun j hj => by
    have e1 : ∀ h : Hp, hl ((id, some { o with ro := true }) :: h) j = if id = j then some { o with ro := true } else hl h j := fun h => by
      by_cases hj' : id = j
      · subst hj'; simp [hl, look]
      · have : Nat.beq id j = false := by cases hb : Nat.beq id j; rfl; exact absurd (Nat.eq_of_beq_eq_true hb) hj'
        simp [hl, look, this, hj']
    rw [e1, e1, hj]
  refine h N ops op hlow C E1 a w { sx with h := (id, some { o with ro := true }) :: sx.h } hN R1 hag (fun j hj => ?_) (fun j hf => ⟨fun hq => (hnw j hf).1 ((hlv _).1 hq), (hnw j hf).2⟩) K Q (fun v' w' E' hR' hl' => hK v' w' E' ?_ (fun k hk => ?_))
  · by_cases hid : j = id
    · subst hid; simp [hl, look]
    · refine hcons j (hh j ?_)
      rcases hj with hj | hj
      · exact .inl hj
      · exact .inr (by simp only [List.map_append, List.mem_append]; exact .inl hj)
  · simp only [St.appx, List.append_assoc, List.singleton_append] at hR' ⊢
    exact hR'
  · rcases hl' k hk with h | h
    · exact .inl ((hlv k).1 h)
    · exact .inr h

section
variable {P : Program} {tt : List (Nat × AV)} {hh : Hp} {nn dd : Nat} {g : Option (Nat × Bool)} {l : List AInst} {acc : List SD} {K : List SD → St → Prop}
/-- a literal row with pointers to a block that no one writes any more -/
theorem r_rowlitF {e : TypeId} {sz len : Nat} {z : List Value} {ps : List (Nat × Operand)} {avs cs cs' : List AV} {es : List (List AV)} (id : Nat) {o : OB} (h : RG P (⟨⟨some dd, g, .rowlit e sz len z ps⟩, .own nn, [id], [(nn, some ⟨true, false, e, sz, es⟩), (id, some { o with ro := true })], 1⟩ :: acc) l ⟨(dd, .own nn) :: tt, (nn, some ⟨true, false, e, sz, es⟩) :: (id, some { o with ro := true }) :: hh, nn + 1⟩ K) (hg : gOK ⟨tt, hh, nn⟩ g := by first | exact True.intro | rfl) (ho : hl hh id = some o := by rfl)
    (hv : optAll (viewN true (restr [id] ((id, some { o with ro := true }) :: hh)) 4) (ps.map fun p => ev ⟨tt, hh, nn⟩ p.2) = some avs := by rfl) (hf : fillA (List.replicate len (z.map .lit)).flatten ((ps.zip avs).map fun p => (p.1.1 * sz, sz, p.2)) = some cs := by rfl) (hp : mapL (fun _ => none) cs = some cs' := by rfl) (he : chunk sz len cs' = es := by rfl) : RG P acc (⟨some dd, g, .rowlit e sz len z ps⟩ :: l) ⟨tt, hh, nn⟩ K :=
  RG.step (he ▸ Step.freezeN (upd := [(nn, some ⟨true, false, e, sz, chunk sz len cs'⟩)]) id ho (q_rowlit (st := ⟨tt, (id, some { o with ro := true }) :: hh, nn⟩) [id] hg hv hf hp)) (he ▸ h)
end

/-- no scope, or one that New did not make -/
abbrev noS : AV := .lit (.pointer none)
abbrev emptyS : AV := .ep 3 [[.lit (.map none), .lit (.map none), i64A 0]] 0 0
def isNo (r : AV) : Prop := r = noS ∨ r = emptyS

set_option maxRecDepth 10000 in
theorem noneS_a (r : AV) (h : isNo r) : ACalls Try.prog 43 [r] (.lit (.bool true)) := by
  have hu := Try.underlying63
  have hp := Try.underlying37
  rcases h with rfl | rfl
  · refine acalls_of code_scope_Scope_none (by simp [fn_scope_Scope_none]) fun C hC => ?_
    refine walk4 ?_
    exact fin
  · refine acalls_of code_scope_Scope_none (by simp [fn_scope_Scope_none]) fun C hC => ?_
    refine walk4 ?_
    exact fin

abbrev funV (b : Nat) (x : Xpr) : AV := .agg (labV b :: xprV x)
abbrev fun00 : AV := .agg [.lit (.int .u64 0), i64A 0, i64A 0, .lit (.string ⟨#[]⟩), .lit (.bool false), nilS, nilS, nilS, nilS]
abbrev slot00 : AV := .agg [.lit (.int .u64 0), .lit (.int .u64 0), nilS, nilS]

set_option maxRecDepth 10000 in
theorem putS_a (r : AV) (h : isNo r) (s : ByteArray) (b : Nat) (A : Arr) : ACalls Try.prog 21 [r, strA s, slotV b A] (.tup []) := by
  have c := noneS_a r h
  rcases h with rfl | rfl <;> (refine acalls_of code_scope_Scope_Put (by simp [fn_scope_Scope_Put]) fun C hC => ?_; refine walk4 ?_; exact fin)
set_option maxRecDepth 10000 in
theorem defS_a (r : AV) (h : isNo r) (s : ByteArray) (b : Nat) (x : Xpr) : ACalls Try.prog 22 [r, strA s, funV b x] (.tup []) := by
  have c := noneS_a r h
  rcases h with rfl | rfl <;> (refine acalls_of code_scope_Scope_Define (by simp [fn_scope_Scope_Define]) fun C hC => ?_; refine walk4 ?_; exact fin)
set_option maxRecDepth 10000 in
theorem getS_a (r : AV) (h : isNo r) (s : ByteArray) : ACalls Try.prog 17 [r, strA s] (.tup [slot00, .lit (.bool false)]) := by
  have c := noneS_a r h
  rcases h with rfl | rfl <;> (refine acalls_of code_scope_Scope_Get (by simp [fn_scope_Scope_Get]) fun C hC => ?_; refine walk4 ?_; exact fin)
set_option maxRecDepth 10000 in
theorem funS_a (r : AV) (h : isNo r) (s : ByteArray) : ACalls Try.prog 18 [r, strA s] (.tup [fun00, .lit (.bool false)]) := by
  have c := noneS_a r h
  rcases h with rfl | rfl <;> (refine acalls_of code_scope_Scope_Fun (by simp [fn_scope_Scope_Fun]) fun C hC => ?_; refine walk4 ?_; exact fin)
set_option maxRecDepth 10000 in
theorem namesS_a (r : AV) (h : isNo r) : ACalls Try.prog 23 [r] (.tup [nilS, nilS]) := by
  have c := noneS_a r h
  rcases h with rfl | rfl <;> (refine acalls_of code_scope_Scope_Names (by simp [fn_scope_Scope_Names]) fun C hC => ?_; refine walk4 ?_; exact fin)
set_option maxRecDepth 10000 in
theorem cellsS_a (r : AV) (h : isNo r) : ACalls Try.prog 24 [r] (i64A 0) := by
  have c := noneS_a r h
  rcases h with rfl | rfl <;> (refine acalls_of code_scope_Scope_Cells (by simp [fn_scope_Scope_Cells]) fun C hC => ?_; refine walk4 ?_; exact fin)
set_option maxRecDepth 10000 in
theorem dropS_a (r : AV) (h : isNo r) (s : ByteArray) : ACalls Try.prog 25 [r, strA s] (.lit (.bool false)) := by
  have c := noneS_a r h
  rcases h with rfl | rfl <;> (refine acalls_of code_scope_Scope_Drop (by simp [fn_scope_Scope_Drop]) fun C hC => ?_; refine walk4 ?_; exact fin)

/-! the law's deeds -/
structure SDeed where
  kind : Int
  name : ByteArray
  b : Nat
  v : Arr
  f : Xpr
abbrev sdeedV (d : SDeed) : List AV := [i64A d.kind, strA d.name, labV d.b, .lit (.int .u64 d.v.s), .sl 1 (intsA .i64 d.v.shape), .sl 7 (d.v.cells.map cellR),
  .lit (.int .i64 d.f.kind), .lit (.int .i64 d.f.op), .lit (.string d.f.name), .lit (.bool d.f.n.neg), .sl 1 (intsA .u32 d.f.n.top), .sl 1 (intsA .u32 d.f.n.bot), .sl 1 (intsA .i64 d.f.text), .sl 8 (d.f.kids.map xprR)]
def smallP (d : SDeed) : Bool := decide ((d.name.size : Int) ≤ 100) && (fewP d.v && fewX d.f)
def sdeedOK (d : SDeed) : Prop := arrOK d.v ∧ xprOK d.f ∧ d.b < 18446744073709551616 ∧ d.name.size ≤ reachBytes

set_option maxRecDepth 10000 in
theorem small_a (d : SDeed) (h : sdeedOK d) : ACalls Try.prog 14 [.agg (sdeedV d)] (.lit (.bool (smallP d))) := by
  have c1 := few_a d.v h.1
  have c2 := fewX_a d.f h.2.1
  refine acalls_of code_scrimlaw24_small (by simp [fn_scrimlaw24_small]) fun C hC => ?_
  unfold smallP
  by_cases h1 : (d.name.size : Int) ≤ 100
  · rw [decide_eq_true h1, Bool.true_and]
    cases h2 : fewP d.v
    · rw [h2] at c1
      refine walk4 ?_
      exact fin
    · rw [h2] at c1
      rw [Bool.true_and]
      generalize fewX d.f = q at *
      refine walk4 ?_
      exact fin
  · rw [decide_eq_false h1, Bool.false_and]
    refine walk4 ?_
    exact fin

set_option maxHeartbeats 8000000 in
set_option maxRecDepth 10000 in
theorem scopeNone_a (d : SDeed) (h : sdeedOK d) : ACalls Try.prog 5 [.agg (sdeedV d)] (.lit (.bool true)) := by
  have cs := small_a d h
  have aw := awake24_a
  have i0 : isNo noS := .inl rfl
  have i1 : isNo emptyS := .inr rfl
  have a1 := putS_a _ i0 d.name d.b d.v
  have a2 := defS_a _ i0 d.name d.b d.f
  have a3 := getS_a _ i0 d.name
  have a4 := funS_a _ i0 d.name
  have a5 := namesS_a _ i0
  have a6 := cellsS_a _ i0
  have a7 := dropS_a _ i0 d.name
  have b1 := putS_a _ i1 d.name d.b d.v
  have b2 := defS_a _ i1 d.name d.b d.f
  have b3 := getS_a _ i1 d.name
  have b4 := funS_a _ i1 d.name
  have b5 := namesS_a _ i1
  have b6 := cellsS_a _ i1
  have b7 := dropS_a _ i1 d.name
  refine acalls_of code_scrimlaw24_ScopeNone (by simp [fn_scrimlaw24_ScopeNone]) fun C hC => ?_
  cases hs : smallP d
  · rw [hs] at cs
    refine walk4 ?_
    exact fin
  · rw [hs] at cs
    refine walk4 ?_
    refine aw_reg (rrun4 ?_)
    refine r_rowlitF (es := [[noS], [emptyS]]) (o := ⟨false, false, 66, 3, [[.lit (.map none), .lit (.map none), i64A 0]]⟩) 1 ?_
    dsimp only [Nat.reduceAdd]
    refine rrun4 ?_
    refine rg_nil ⟨rfl, ?_⟩
    refine walk4 ?_
    refine aw_unroll 3 ?_
    refine awr_one ?_
    refine walk4 ?_
    exact fin
end Go.Proofs.Ytmbigpjokpdnkaa
