/- What a slice in memory reads as: plain facts on worlds, with no program in sight. -/
import Derived.WalkKit
import Derived.WalkSpells
import Derived.WalkLawsBesides
import Derived.Lib.Hide
import Derived.Handy
import Derived.Laws.AppendOwnNone
import Derived.Deep.AppendLies
namespace Go.Proofs.Ytdnoidocmcpeaaa
set_option linter.unusedVariables false
open Go.RowKit

/-- the flat cells at a slice's address are cs -/
structure RdS (w : World) (a : Option Addr) (cs : List Value) : Prop where
  here : ∀ i v, cs[i]? = some v → ∃ b off, a = some ⟨b, off, none⟩ ∧ b < w.heap.size ∧ w.cell? ⟨b, off + i, none⟩ = some v
  le : cs.length ≤ 140737488351232

/-- the same of whole numbers -/
def RdI (w : World) (k : IntKind) (a : Option Addr) (zs : List Int) : Prop := RdS w a (zs.map (Value.int k))

theorem RdI.get {w : World} {k : IntKind} {a : Option Addr} {zs : List Int} (h : RdI w k a zs) {i : Nat} (hi : i < zs.length) :
    ∃ b off z, a = some ⟨b, off, none⟩ ∧ b < w.heap.size ∧ zs[i]? = some z ∧ w.cell? ⟨b, off + i, none⟩ = some (.int k z) := by
  obtain ⟨b, off, e, hb, hc⟩ := h.here i (.int k zs[i]) (by simp [hi])
  exact ⟨b, off, zs[i], e, hb, by simp [hi], hc⟩

theorem RdI.le {w : World} {k : IntKind} {a : Option Addr} {zs : List Int} (h : RdI w k a zs) : zs.length ≤ 140737488351232 := by
  have := RdS.le h; simpa using this

theorem RdS.below {w w' : World} {B : Nat} {a : Option Addr} {cs : List Value} (h : RdS w a cs) (hb : Below B w w') (hB : w.heap.size ≤ B) : RdS w' a cs :=
  ⟨fun i v hi => by
    obtain ⟨b, off, e, hlt, hc⟩ := h.here i v hi
    exact ⟨b, off, e, Nat.lt_of_lt_of_le hlt hb.size, by rw [hb.cell (by show b < B; omega)]; exact hc⟩, h.le⟩

theorem RdI.below {w w' : World} {B : Nat} {k : IntKind} {a : Option Addr} {zs : List Int} (h : RdI w k a zs) (hb : Below B w w') (hB : w.heap.size ≤ B) : RdI w' k a zs := RdS.below h hb hB

theorem RdI.alloc {w : World} {k : IntKind} {a : Option Addr} {zs : List Int} (h : RdI w k a zs) (o : Obj) : RdI (w.alloc o) k a zs :=
  RdI.below h ((Below.refl w.heap.size w).alloc (Nat.le_refl _) o) (Nat.le_refl _)

theorem RdI.nil (w : World) (k : IntKind) (a : Option Addr) : RdI w k a [] := ⟨fun i v h => by simp at h, by simp⟩

/-- a suffix -/
theorem RdI.drop {w : World} {k : IntKind} {b off : Nat} {zs : List Int} (h : RdI w k (some ⟨b, off, none⟩) zs) (n : Nat) : RdI w k (some ⟨b, off + n, none⟩) (zs.drop n) :=
  ⟨fun i v hv => by
    rw [List.getElem?_map, List.getElem?_drop] at hv
    obtain ⟨b', off', e, hlt, hc⟩ := h.here (n + i) v (by simpa using hv)
    simp only [Option.some.injEq, Addr.mk.injEq] at e
    obtain ⟨rfl, rfl, _⟩ := e
    exact ⟨b, off + n, rfl, hlt, by rw [Nat.add_assoc]; exact hc⟩, by have := RdI.le h; simp; omega⟩

/-- the first n -/
theorem RdI.take {w : World} {k : IntKind} {a : Option Addr} {zs : List Int} (h : RdI w k a zs) (n : Nat) : RdI w k a (zs.take n) :=
  ⟨fun i v hv => by
    rw [List.getElem?_map, List.getElem?_take] at hv
    split at hv
    · exact h.here i v (by simpa using hv)
    · simp at hv, by have := RdI.le h; simp; omega⟩

theorem drop_cons {zs : List Int} {k : Nat} {z : Int} (h : zs[k]? = some z) : zs.drop k = z :: zs.drop (k + 1) := by
  obtain ⟨hk, rfl⟩ := List.getElem?_eq_some_iff.1 h
  rw [List.drop_eq_getElem_cons hk]

theorem drop_end {α : Type} {zs : List α} {k : Nat} (h : zs.length ≤ k) : zs.drop k = [] := List.drop_eq_nil_of_le h

/-- cells of a block that is known whole -/
theorem RdI.block {w : World} {k : IntKind} {b : Nat} {zs : List Int} {t : TypeId} {fr : Nat × Nat} (h : w.heap[b]? = some (.cells (zs.map (Value.int k)).toArray t fr)) (hl : zs.length ≤ 140737488351232) : RdI w k (some ⟨b, 0, none⟩) zs :=
  ⟨fun i v hv => ⟨b, 0, rfl, (Array.getElem?_eq_some_iff.1 h).1, by simp only [World.cell?, h]; simpa using hv⟩, by simpa using hl⟩

theorem RdI.lit {w : World} {k : IntKind} {b : Nat} (zs : List Int) {cs : Array Value} {t : TypeId} {fr : Nat × Nat} (h : w.heap[b]? = some (.cells cs t fr)) (e : cs = (zs.map (Value.int k)).toArray) (hl : zs.length ≤ 140737488351232) : RdI w k (some ⟨b, 0, none⟩) zs :=
  RdI.block (e ▸ h) hl

theorem bcell {W w1 : World} {B : Nat} (hb : Below B W w1) : (∀ b o, b < B → w1.cell? ⟨b, o, none⟩ = W.cell? ⟨b, o, none⟩) ∧ (∀ b o, b < B → w1.frozen? ⟨b, o, none⟩ = W.frozen? ⟨b, o, none⟩) :=
  ⟨fun b o h => hb.cell (p := ⟨b, o, none⟩) h, fun b o h => hb.frozen (p := ⟨b, o, none⟩) h⟩

theorem addr_add (b off i : Nat) : (⟨b, off, none⟩ : Addr).add i = ⟨b, off + i, none⟩ := by unfold Addr.add; split <;> simp_all

/-- a slice's value: its address, length and capacity; its flat cells, sz an element -/
structure Sl (w : World) (a : Option Addr) (len cap sz : Nat) (cs : List Value) : Prop where
  size : cs.length = len * sz
  empty : a = none → cap = 0
  fits : len ≤ cap
  rd : RdS w a cs
  one : ∀ v ∈ cs, v.oneCell' = true

theorem Sl.below {w w' : World} {B : Nat} {a : Option Addr} {len cap sz : Nat} {cs : List Value} (h : Sl w a len cap sz cs) (hb : Below B w w') (hB : w.heap.size ≤ B) : Sl w' a len cap sz cs :=
  ⟨h.size, h.empty, h.fits, h.rd.below hb hB, h.one⟩

theorem Sl.alloc {w : World} {a : Option Addr} {len cap sz : Nat} {cs : List Value} (h : Sl w a len cap sz cs) (o : Obj) : Sl (w.alloc o) a len cap sz cs :=
  h.below ((Below.refl w.heap.size w).alloc (Nat.le_refl _) o) (Nat.le_refl _)

/-- what the call owns reads as its cells -/
theorem rdS_own {w : World} {base : Nat} {e : TypeId} {sz n cap : Nat} {a : Option Addr} {xs : List Value} (h : w.ownsRow base e sz (.slice a n cap) n xs) (hl : xs.length ≤ 140737488351232) : RdS w a xs := by
  refine ⟨fun i v hv => ?_, hl⟩
  have h' := h
  rcases h.2 with ⟨hn, h0⟩ | ⟨g, cap', cur, hv', hb, hg, hc, hm, hs, ht⟩
  · have : xs.length = 0 := by rw [h.1, h0, Nat.zero_mul]
    have := (List.getElem?_eq_some_iff.1 hv).1
    omega
  · simp only [Value.slice.injEq] at hv'
    obtain ⟨rfl, _, rfl⟩ := hv'
    have := h'.cells (g := g) rfl i v hv
    rw [addr_add] at this
    exact ⟨g, 0, rfl, (Array.getElem?_eq_some_iff.1 hg).1, this⟩

theorem rdI_own {w : World} {base : Nat} {e : TypeId} {k : IntKind} {n cap : Nat} {a : Option Addr} {zs : List Int} (h : w.ownsRow base e 1 (.slice a n cap) n (zs.map (Value.int k))) (hl : zs.length ≤ 140737488351232) : RdI w k a zs := rdS_own h (by simpa using hl)

theorem sl_own {w : World} {base : Nat} {e : TypeId} {sz n cap : Nat} {a : Option Addr} {xs : List Value} (h : w.ownsRow base e sz (.slice a n cap) n xs) (hl : xs.length ≤ 140737488351232) (h1 : ∀ v ∈ xs, v.oneCell' = true) : Sl w a n cap sz xs := by
  refine ⟨h.1, ?_, ?_, rdS_own h hl, h1⟩
  · rcases h.2 with ⟨hn, h0⟩ | ⟨g, cap', cur, hv', _⟩
    · simp only [Value.slice.injEq] at hn; intro _; exact hn.2.2
    · simp only [Value.slice.injEq] at hv'
      obtain ⟨rfl, _, _⟩ := hv'
      intro h; cases h
  · rcases h.2 with ⟨hn, h0⟩ | ⟨g, cap', cur, hv', _, _, hc, _⟩
    · simp only [Value.slice.injEq] at hn; omega
    · simp only [Value.slice.injEq] at hv'; omega

theorem oneI (k : IntKind) (zs : List Int) : ∀ v ∈ zs.map (Value.int k), v.oneCell' = true := ints_oneCell k zs

/-- a slice of whole numbers, as a value -/
def SlI (w : World) (k : IntKind) (a : Option Addr) (len cap : Nat) (zs : List Int) : Prop := Sl w a len cap 1 (zs.map (Value.int k))

theorem SlI.len {w : World} {k : IntKind} {a : Option Addr} {len cap : Nat} {zs : List Int} (h : SlI w k a len cap zs) : zs.length = len := by simpa using h.size
theorem SlI.rdI {w : World} {k : IntKind} {a : Option Addr} {len cap : Nat} {zs : List Int} (h : SlI w k a len cap zs) : RdI w k a zs := h.rd

/-- what of the table of types the laws on memory want: t a slice of e -/
structure ElemT (P : Program) (t e : TypeId) (z : Value) (sz bytes : Nat) : Prop where
  under : P.underlying t = some (.slice e)
  info : (P.info? e).map (fun i => (i.zero, i.size, i.bytes)) = some (some z, sz, bytes)
  zsz : z.cells.size = sz
  pos : 0 < sz

/-- a part of a slice: 's[l:h]': its value at one name, in whatever world -/
theorem Sl.part {P : Program} {t e : TypeId} {z : Value} {sz bytes : Nat} (E : ElemT P t e z sz bytes) {w : World} {a : Option Addr} {len cap : Nat} {cs : List Value} (h : Sl w a len cap sz cs) (l m : Nat) (hlm : l ≤ m) (hm : m ≤ len) :
    ∃ a', Sl w a' (m - l) (cap - l) sz ((cs.drop (l * sz)).take ((m - l) * sz)) ∧ a' = (if cap = l then a else a.map (·.add (l * sz))) := by
  refine ⟨_, ⟨?_, ?_, ?_, ⟨fun i v hv => ?_, ?_⟩, fun v hv => h.one v (List.mem_of_mem_drop (List.mem_of_mem_take hv))⟩, rfl⟩
  · have := h.size
    rw [List.length_take, List.length_drop, this, ← Nat.sub_mul]
    exact Nat.min_eq_left (Nat.mul_le_mul_right _ (by omega))
  · intro hn
    split at hn
    · have := h.empty hn; omega
    · cases a with
      | none => have := h.empty rfl; omega
      | some x => simp at hn
  · have := h.fits; omega
  · rw [List.getElem?_take] at hv
    split at hv
    case isFalse => cases hv
    case isTrue hi =>
      rw [List.getElem?_drop] at hv
      obtain ⟨b, off, rfl, hb, hc⟩ := h.rd.here _ _ hv
      have hlt : l * sz + i < len * sz := by
        have := (List.getElem?_eq_some_iff.1 hv).1
        rw [h.size] at this; exact this
      have hlc : ¬ cap = l := by
        have := h.fits
        intro e
        have : (m - l) * sz = 0 := by rw [show m - l = 0 by omega, Nat.zero_mul]
        omega
      rw [if_neg hlc]
      exact ⟨b, off + l * sz, by simp only [Option.map_some, addr_add], hb, by rw [Nat.add_assoc]; exact hc⟩
  · have := h.rd.le
    rw [List.length_take, List.length_drop]; omega

/-- append onto a row of the call's own, from whatever slice -/
theorem wpl_append {P : Program} {w : World} {ops : Array Oper} {rest : List Oper} {o : Oper} {a : Act} {Q : Exit → Act → World → Prop} {t e : TypeId} {z : Value} {size bytes : Nat} (E : ElemT P t e z size bytes)
    (hgd : o.guard = none) (s x : Operand) (ho : o.op = .call { callee := .builtin .append, args := #[s, x], argTypes := #[t, t] })
    (base : Nat) (v : Value) (n : Nat) (xs : List Value) (hs : a.eval s = v) (hown : w.ownsRow base e size v n xs)
    (ao : Option Addr) (m c : Nat) (news : List Value) (hx : a.eval x = .slice ao m c) (hS : Sl w ao m c size news)
    (h63 : n + m ≤ maxLen) (hbytes : (n + m) * bytes ≤ 140737488355328) (hbase : base ≤ w.heap.size)
    (h : ∀ v' w', w'.ownsRow base e size v' (n + m) (xs ++ news) → w.grownBy w' v.ownBlock → wpList P ops Q rest (a.put o.dst v') w') : wpList P ops Q (o :: rest) a w := by
  obtain ⟨i, hi, hz0, hz1, hz2⟩ := info_parts E.info
  cases ao with
  | none =>
    have hc := hS.empty rfl
    have hm : m = 0 := by have := hS.fits; omega
    subst hc; subst hm
    have hnews : news = [] := List.eq_nil_of_length_eq_zero (by simpa using hS.size)
    subst hnews
    exact wpList_append_own_none hgd s x t ho base e i size E.under hi v n xs hs hown hx (h v w (by simpa using hown) (World.grownBy.refl _ _))
  | some ad =>
    refine wpList_append_own w hgd s x t ho base e i z size bytes E.under hi hz0 hz1 hz2 E.zsz E.pos v n xs hs hown ad m c news hx hS.size (fun j u hu => ?_) hS.one h63 hbytes hbase (fun v' w' h2 h3 _ => h v' w' h2 h3)
    obtain ⟨b, off, hab, hb, hc⟩ := hS.rd.here j u hu
    simp only [Option.some.injEq] at hab
    subst hab
    rw [addr_add]; exact hc

/-- make with a length -/
theorem wpl_make {P : Program} {w : World} {ops : Array Oper} {rest : List Oper} {o : Oper} {a : Act} {Q : Exit → Act → World → Prop} {t e : TypeId} {z : Value} {size bytes : Nat} (E : ElemT P t e z size bytes)
    (hg : o.guard = none) (l c : Operand) (hop : o.op = Op.makeSlice t l c) (base : Nat)
    (kl kc : IntKind) (L C : Int) (n : Nat) (hl : a.eval l = .int kl L) (hc : a.eval c = .int kc C) (hL : L = (n : Int)) (hC : C = (n : Int)) (b2 : bytes * n ≤ 281474976710656) (b3 : n ≤ maxLen) (b4 : base ≤ w.heap.size)
    (hK : ∀ w', w'.ownsRow base e size (.slice (some ⟨w.heap.size, 0, none⟩) n n) n (madeCells z.cells (n * size)).toList → w.grownBy w' none → wpList P ops Q rest (a.put o.dst (.slice (some ⟨w.heap.size, 0, none⟩) n n)) w') :
    wpList P ops Q (o :: rest) a w := by
  obtain ⟨i, hi, hz0, hz1, hz2⟩ := info_parts E.info
  exact wpList_make_full w hg l c t hop base e i z size E.under hi hz0 hz1 kl kc L C n hl hc hL hC (by rw [hz2]; exact b2) b3 b4 hK

/-- make with a capacity alone -/
theorem wpl_makeCap {P : Program} {w : World} {ops : Array Oper} {rest : List Oper} {o : Oper} {a : Act} {Q : Exit → Act → World → Prop} {t e : TypeId} {z : Value} {size bytes : Nat} (E : ElemT P t e z size bytes)
    (hg : o.guard = none) (l c : Operand) (hop : o.op = Op.makeSlice t l c) (base : Nat)
    (kl kc : IntKind) (C : Int) (n : Nat) (hl : a.eval l = .int kl 0) (hc : a.eval c = .int kc C) (hC : C = (n : Int)) (b2 : bytes * n ≤ 281474976710656) (b3 : n ≤ maxLen) (b4 : base ≤ w.heap.size)
    (hK : ∀ w', w'.ownsRow base e size (.slice (some ⟨w.heap.size, 0, none⟩) 0 n) 0 [] → w.grownBy w' none → wpList P ops Q rest (a.put o.dst (.slice (some ⟨w.heap.size, 0, none⟩) 0 n)) w') :
    wpList P ops Q (o :: rest) a w := by
  obtain ⟨i, hi, hz0, hz1, hz2⟩ := info_parts E.info
  exact wpList_make_own w hg l c t hop base e i z size E.under hi hz0 hz1 kl kc C n hl hc hC (by rw [hz2]; exact b2) b3 b4 hK

theorem below_grown {B : Nat} {a w w' : World} {row : Option Nat} (h : Below B a w) (hg : w.grownBy w' row) (hB : B ≤ w.heap.size) (hr : ∀ k, row = some k → B ≤ k) : Below B a w' := h.grown hg hB hr

/-- the row of a value that is owned lies at or above the base -/
theorem own_ge {w : World} {base : Nat} {e : TypeId} {size : Nat} {v : Value} {n : Nat} {xs : List Value} (h : w.ownsRow base e size v n xs) : ∀ k, v.ownBlock = some k → base ≤ k := fun k hk => (h.lt k hk).1

end Go.Proofs.Ytdnoidocmcpeaaa
