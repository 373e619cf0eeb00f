/- What a slice in memory reads as: plain facts on worlds, with no program in sight. -/
import Derived.WalkKit
import Derived.WalkSpells
import Derived.WalkLawsBesides
import Derived.Lib.Hide
import Derived.Handy
namespace Go.Proofs.Ytdnoidocmcpeaaa
set_option linter.unusedVariables false
open Go.RowKit

/-- the flat cells at a slice's address are cs -/
structure RdS (w : World) (a : Option Addr) (cs : List Value) : Prop where
  here : ∀ i v, cs[i]? = some v → ∃ b off, a = some ⟨b, off, none⟩ ∧ b < w.heap.size ∧ w.cell? ⟨b, off + i, none⟩ = some v
  le : cs.length ≤ 140737488351232

/-- the same of whole numbers -/
def RdI (w : World) (k : IntKind) (a : Option Addr) (zs : List Int) : Prop := RdS w a (zs.map (Value.int k))

theorem RdI.get {w : World} {k : IntKind} {a : Option Addr} {zs : List Int} (h : RdI w k a zs) {i : Nat} (hi : i < zs.length) :
    ∃ b off z, a = some ⟨b, off, none⟩ ∧ b < w.heap.size ∧ zs[i]? = some z ∧ w.cell? ⟨b, off + i, none⟩ = some (.int k z) := by
  obtain ⟨b, off, e, hb, hc⟩ := h.here i (.int k zs[i]) (by simp [hi])
  exact ⟨b, off, zs[i], e, hb, by simp [hi], hc⟩

theorem RdI.le {w : World} {k : IntKind} {a : Option Addr} {zs : List Int} (h : RdI w k a zs) : zs.length ≤ 140737488351232 := by
  have := RdS.le h; simpa using this

theorem RdS.below {w w' : World} {B : Nat} {a : Option Addr} {cs : List Value} (h : RdS w a cs) (hb : Below B w w') (hB : w.heap.size ≤ B) : RdS w' a cs :=
  ⟨fun i v hi => by
    obtain ⟨b, off, e, hlt, hc⟩ := h.here i v hi
    exact ⟨b, off, e, Nat.lt_of_lt_of_le hlt hb.size, by rw [hb.cell (by show b < B; omega)]; exact hc⟩, h.le⟩

theorem RdI.below {w w' : World} {B : Nat} {k : IntKind} {a : Option Addr} {zs : List Int} (h : RdI w k a zs) (hb : Below B w w') (hB : w.heap.size ≤ B) : RdI w' k a zs := RdS.below h hb hB

theorem RdI.alloc {w : World} {k : IntKind} {a : Option Addr} {zs : List Int} (h : RdI w k a zs) (o : Obj) : RdI (w.alloc o) k a zs :=
  RdI.below h ((Below.refl w.heap.size w).alloc (Nat.le_refl _) o) (Nat.le_refl _)

theorem RdI.nil (w : World) (k : IntKind) (a : Option Addr) : RdI w k a [] := ⟨fun i v h => by simp at h, by simp⟩

/-- a suffix -/
theorem RdI.drop {w : World} {k : IntKind} {b off : Nat} {zs : List Int} (h : RdI w k (some ⟨b, off, none⟩) zs) (n : Nat) : RdI w k (some ⟨b, off + n, none⟩) (zs.drop n) :=
  ⟨fun i v hv => by
    rw [List.getElem?_map, List.getElem?_drop] at hv
    obtain ⟨b', off', e, hlt, hc⟩ := h.here (n + i) v (by simpa using hv)
    simp only [Option.some.injEq, Addr.mk.injEq] at e
    obtain ⟨rfl, rfl, _⟩ := e
    exact ⟨b, off + n, rfl, hlt, by rw [Nat.add_assoc]; exact hc⟩, by have := RdI.le h; simp; omega⟩

/-- the first n -/
theorem RdI.take {w : World} {k : IntKind} {a : Option Addr} {zs : List Int} (h : RdI w k a zs) (n : Nat) : RdI w k a (zs.take n) :=
  ⟨fun i v hv => by
    rw [List.getElem?_map, List.getElem?_take] at hv
    split at hv
    · exact h.here i v (by simpa using hv)
    · simp at hv, by have := RdI.le h; simp; omega⟩

theorem drop_cons {zs : List Int} {k : Nat} {z : Int} (h : zs[k]? = some z) : zs.drop k = z :: zs.drop (k + 1) := by
  obtain ⟨hk, rfl⟩ := List.getElem?_eq_some_iff.1 h
  rw [List.drop_eq_getElem_cons hk]

theorem drop_end {α : Type} {zs : List α} {k : Nat} (h : zs.length ≤ k) : zs.drop k = [] := List.drop_eq_nil_of_le h

/-- cells of a block that is known whole -/
theorem RdI.block {w : World} {k : IntKind} {b : Nat} {zs : List Int} {t : TypeId} {fr : Nat × Nat} (h : w.heap[b]? = some (.cells (zs.map (Value.int k)).toArray t fr)) (hl : zs.length ≤ 140737488351232) : RdI w k (some ⟨b, 0, none⟩) zs :=
  ⟨fun i v hv => ⟨b, 0, rfl, (Array.getElem?_eq_some_iff.1 h).1, by simp only [World.cell?, h]; simpa using hv⟩, by simpa using hl⟩

theorem RdI.lit {w : World} {k : IntKind} {b : Nat} (zs : List Int) {cs : Array Value} {t : TypeId} {fr : Nat × Nat} (h : w.heap[b]? = some (.cells cs t fr)) (e : cs = (zs.map (Value.int k)).toArray) (hl : zs.length ≤ 140737488351232) : RdI w k (some ⟨b, 0, none⟩) zs :=
  RdI.block (e ▸ h) hl

theorem bcell {W w1 : World} {B : Nat} (hb : Below B W w1) : (∀ b o, b < B → w1.cell? ⟨b, o, none⟩ = W.cell? ⟨b, o, none⟩) ∧ (∀ b o, b < B → w1.frozen? ⟨b, o, none⟩ = W.frozen? ⟨b, o, none⟩) :=
  ⟨fun b o h => hb.cell (p := ⟨b, o, none⟩) h, fun b o h => hb.frozen (p := ⟨b, o, none⟩) h⟩

end Go.Proofs.Ytdnoidocmcpeaaa
