/- The keys of a map, collected and sorted, as contracts of the layer. -/
import Derived.Test.YtmbigpjokpdnkaaRisW
import Derived.Test.YtmbigpjokpdnkaaAbsM
namespace Go.Proofs.Ytmbigpjokpdnkaa
set_option linter.unusedVariables false
open Go.RowKit Go.Maps Go.Sort

/-- a map's keys, in the entries' order -/
def keyStr : List AV → List UInt8
  | .lit (.string s) :: _ => s.data.toList
  | _ => []
/-- the keys, rising -/
def sortedKeys (l : List (List AV)) : List (List UInt8) := (l.map keyStr).mergeSort leB
def sortedRow (l : List (List AV)) : List (List AV) := (sortedKeys l).map fun s => [.lit (encStr s)]

theorem RdM.keys {E : Env} {w : World} : ∀ {l : List (List AV)} {es : List MapEntry}, RdM E w l es → (∀ e ∈ l, ∃ s v, e = [.lit (.string s), v]) → es.map (fun m => m.key) = l.map (fun e => encStr (keyStr e)) ∧ es.length = l.length
  | [], es, h, _ => by simp only [RdM] at h; subst h; exact ⟨rfl, rfl⟩
  | e :: l, es, h, hk => by
    obtain ⟨m, rest, rfl, h2, h3⟩ := h
    obtain ⟨i1, i2⟩ := RdM.keys h3 (fun x hx => hk x (List.mem_cons_of_mem _ hx))
    obtain ⟨s, v, rfl⟩ := hk e (by simp)
    simp only [RdIL] at h2
    obtain ⟨x, r, h4, h5, _⟩ := h2
    simp only [List.cons.injEq] at h4
    obtain ⟨rfl, _⟩ := h4
    simp only [RdI] at h5
    refine ⟨?_, by simp [i2]⟩
    simp only [List.map_cons, i1, h5]
    simp [keyStr, encStr]

theorem rdIE_strs {im : Nat → Prop} {w : World} : ∀ ss : List (List UInt8), RdIE im w 1 (ss.map fun s => [.lit (encStr s)]) (ss.map encStr)
  | [] => by simp [RdIE]
  | s :: ss => by
    simp only [List.map_cons, RdIE]
    exact ⟨[encStr s], ss.map encStr, rfl, rfl, ⟨encStr s, [], rfl, rfl, rfl⟩, rdIE_strs ss⟩

def anyR {H : Type} : Value → Option (DataW H × List MemPlace) := fun _ => some (.nil, [])

theorem owns_of {E : Env} {w : World} {id : Nat} {l : List (List AV)} {k : TypeId} {P : Program} (hP : P.underlying k = some .string) (ho : obMap E w id ⟨false, false, 0, 0, l⟩) (hk : ∀ e ∈ l, ∃ s v, e = [.lit (.string s), v]) (hn : l.length ≤ 1000) :
    ∃ b D0, E.val id = .map (some b) ∧ w.ownsMap (H := Unit) P k anyR b l.length D0 ∧ Maps.size D0 ≤ 1000 ∧ (strKeys D0).Perm (l.map keyStr) := by
  obtain ⟨g, es, clock, h1, h2, h3, h4, h5⟩ := ho
  obtain ⟨k1, k2⟩ := h3.keys hk
  have k1 : es.toList.map (fun m => m.key) = l.map (fun e => encStr (keyStr e)) := k1
  have k2 : es.toList.length = l.length := k2
  have hrd : ∀ x ∈ es.toList, ∃ s : ByteArray, x.key = .string s ∧ Go.WideElems.rd (H := Unit) P k anyR x = some (.string s.data.toList, .nil) := fun x hx => by
    obtain ⟨s, hs, hsz⟩ := h4 x hx
    refine ⟨s, hs, ?_⟩
    simp only [Go.WideElems.rd]
    rw [hs, Go.WideMaps.keyOf_string_mk hP (by unfold maxLen; unfold maxN at hsz; omega)]
    rfl
  refine ⟨g, _, h1, ⟨es, clock, h2, ⟨by rw [← Array.length_toList, k2]; unfold maxLen; omega, h5, fun x hx => ?_⟩, by rw [← Array.length_toList, k2]; exact Nat.le_refl _, rfl⟩, ?_, ?_⟩
  · obtain ⟨s, _, h⟩ := hrd x hx; exact ⟨_, h⟩
  · show ((es.toList.map _).foldr DataW.insert []).length ≤ 1000
    rw [(Go.WideShapes.sorted_perm _).length_eq, List.length_map, k2]; exact hn
  · show (((es.toList.map (Go.WideElems.rg P k anyR)).foldr DataW.insert []).map fun p => strOf p.1).Perm _
    refine ((Go.WideShapes.sorted_perm _).map _).trans ?_
    rw [List.map_map]
    have e : es.toList.map ((fun p => strOf p.1) ∘ Go.WideElems.rg (H := Unit) P k anyR) = l.map keyStr := by
      have e1 : (l.map keyStr).map encStr = (es.toList.map ((fun p => strOf p.1) ∘ Go.WideElems.rg (H := Unit) P k anyR)).map encStr := by
        rw [List.map_map, show (encStr ∘ keyStr) = (fun e => encStr (keyStr e)) from rfl, ← k1, List.map_map]
        refine List.map_congr_left fun x hx => ?_
        obtain ⟨s, hs, hr⟩ := hrd x hx
        simp only [Function.comp, Go.WideElems.rg_of hr, hs, strOf, encStr]
      exact ((List.map_inj_right (fun x y h => encStr_inj h)).1 e1).symm
    rw [e]

theorem rising_M {f : FuncId} (hable : Callable Try.prog f) (hr : ∀ {H : Type} (R : Value → Option (DataW H × List MemPlace)) (b n : Nat) (D0 : DataW H) (w : World), w.ownsMap Try.prog 9 R b n D0 → Maps.size D0 ≤ maxLen → 16 * Maps.size D0 ≤ 140737488355328 →
    Calls Try.prog f #[.map (some b)] w fun e w' => ∃ (g cap : Nat) (ss : List (List UInt8)), e = .returned (.slice (some ⟨g, 0, none⟩) ss.length cap) ∧ ss.Perm (strKeys D0) ∧
      w'.ownsRow w.heap.size 9 1 (.slice (some ⟨g, 0, none⟩) ss.length cap) ss.length ((ss.mergeSort (fun x y => decide (x ≤ y))).map encStr) ∧ Below w.heap.size w w')
    {l : List (List AV)} (hk : ∀ e ∈ l, ∃ s v, e = [.lit (.string s), v]) (hn : l.length ≤ 1000) :
    AMut Try.prog f [.own 0] [(0, some ⟨false, false, 0, 0, l⟩)] 1 (.own 1) [(0, some ⟨false, false, 0, 0, l⟩), (1, some ⟨true, false, 9, 1, sortedRow l⟩)] 2 := by
  refine ⟨hable, ?_⟩
  intro E0 w vs hrd H0 hlv
  have hl0 : E0.live 0 := (hlv 0).2 (by omega)
  have hob := H0.ob 0 _ hl0 rfl
  obtain ⟨_, hob⟩ := hob
  have hob : obBox E0 w 0 ⟨false, false, 0, 0, l⟩ := hob
  rcases hob with ⟨h, _⟩ | ⟨_, hob⟩
  · exact absurd h (by simp)
  obtain ⟨b, D0, hv, hown, hsz, hperm⟩ := owns_of Try.underlying9 hob hk hn
  simp only [RdL, Rd] at hrd
  obtain ⟨v, rest, rfl, ⟨_, _, rfl⟩, rfl⟩ := hrd
  rw [hv]
  refine (hr anyR b _ D0 w hown (by unfold maxLen; omega) (by omega)).mono ?_
  rintro e w' ⟨g, cap, ss, rfl, hp, hrow, hb⟩
  have hss : ss.mergeSort (fun x y => decide (x ≤ y)) = sortedKeys l := mergeSort_of_perm (hp.trans hperm)
  have hlen : (sortedRow l).length = ss.length := by
    have := congrArg List.length hss
    rw [List.length_mergeSort] at this
    rw [sortedRow, List.length_map, ← this]
  have hbl : b < w.heap.size := hown.lt
  have hgb : w.heap.size ≤ g := by
    rcases hrow.2 with ⟨h, _⟩ | ⟨g', _, _, h, hb', _⟩
    · cases h
    · simp only [Value.slice.injEq, Option.some.injEq, Addr.mk.injEq] at h; omega
  have hn1 : ¬ E0.live 1 := fun h => by have := (hlv 1).1 h; omega
  have hvv : (newE E0 1 (.slice (some ⟨g, 0, none⟩) ss.length cap) 1).val 1 = .slice (some ⟨g, 0, none⟩) ss.length cap := by simp [newE]
  have hv0 : (newE E0 1 (.slice (some ⟨g, 0, none⟩) ss.length cap) 1).val 0 = .map (some b) := by rw [((newE_live hn1) 0 hl0).2.1, hv]
  have hlv1 : ∀ id, (newE E0 1 (.slice (some ⟨g, 0, none⟩) ss.length cap) 1).live id → id = 0 ∨ id = 1 := fun id h => by
    rcases h with h | h
    · have := (hlv id).1 h; omega
    · exact .inr h
  have hss1 : ss.length ≤ 1000 := by
    rw [hp.length_eq, hperm.length_eq, List.length_map]; exact hn
  refine ⟨_, newE E0 1 (.slice (some ⟨g, 0, none⟩) ss.length cap) 1, rfl, ⟨.inr rfl, rfl, hvv.symm⟩, ⟨?_, ?_, ?_, ?_⟩, ?_, ?_, fun b h => h, fun b h => .inl h, ?_, ?_⟩
  · intro id o hli ho
    rcases hlv1 id hli with rfl | rfl
    · obtain rfl : (⟨false, false, 0, 0, l⟩ : OB) = o := Option.some.inj ho
      obtain ⟨g0, es, clock, q1, q2, q3, q4⟩ := hob
      rw [hv] at q1
      simp only [Value.map.injEq, Option.some.injEq] at q1
      subst q1
      refine ⟨by rw [((newE_live hn1) 0 hl0).2.2]; exact (H0.ob 0 _ hl0 rfl).1, .inr ⟨rfl, b, es, clock, hv0, (hb.block b hbl).trans q2, ?_, q4⟩⟩
      refine RdM.imp (E := E0) (w := w) ?_ _ _ q3
      exact fun cs us h => RdIL.mono (im := E0.im) (im' := E0.im) (fun _ h => h) (fun k hk => hb.block k (H0.lt k hk)) cs us h
    · obtain rfl : (⟨true, false, 9, 1, sortedRow l⟩ : OB) = o := Option.some.inj ho
      refine ⟨by simp [newE], ?_⟩
      show obRow _ _ 1 _
      refine ⟨(sortedKeys l).map encStr, some ⟨g, 0, none⟩, cap, by rw [hvv, hlen], ?_, rdIE_strs _, ?_, by rw [hlen]; unfold maxN; omega⟩
      · rw [hvv, hlen, ← hss]; exact ⟨hrow.1, hrow.2.elim .inl fun ⟨g', c', u', j1, j2, j3⟩ => .inr ⟨g', c', u', j1, Nat.zero_le _, j3⟩⟩
      · intro u hu
        obtain ⟨s, _, rfl⟩ := List.mem_map.1 hu
        rfl
  · intro id id' o o' b' h1 h2 _ _ h3 h4
    rcases hlv1 id h1 with rfl | rfl <;> rcases hlv1 id' h2 with rfl | rfl <;> first | rfl | (rw [hv0] at *; rw [hvv] at *; simp only [blkOf, Option.some.injEq] at h3 h4; omega)
  · intro id o b' h1 h2 h3
    rcases hlv1 id h1 with rfl | rfl
    · obtain rfl : (⟨false, false, 0, 0, l⟩ : OB) = o := Option.some.inj h2
      exact H0.im 0 _ b' hl0 rfl (by rw [← ((newE_live hn1) 0 hl0).2.1]; exact h3)
    · obtain rfl : (⟨true, false, 9, 1, sortedRow l⟩ : OB) = o := Option.some.inj h2
      rw [hvv] at h3
      simp only [blkOf, Option.some.injEq] at h3
      exact ⟨fun h => by have : b' < w.heap.size := H0.lt b' h; omega, fun h => by cases h⟩
  · intro b' hb'
    exact Nat.lt_of_lt_of_le (H0.lt b' hb') hb.size
  · intro id hid
    rcases hlv1 id hid with rfl | rfl <;> omega
  · intro id hid
    exact newE_live hn1 id ((hlv id).2 hid)
  · intro id o b' h1 h2 h3
    rcases hlv1 id h1 with rfl | rfl
    · exact .inr ⟨0, _, hl0, rfl, by rw [← ((newE_live hn1) 0 hl0).2.1]; exact h3⟩
    · rw [hvv] at h3
      simp only [blkOf, Option.some.injEq] at h3
      exact .inl (by omega)
  · exact ⟨hb.os, hb.tape, hb.output, hb.size, fun k hk _ => hb.block k hk⟩

set_option maxRecDepth 100000 in
theorem able_rising_held : Callable Try.prog 45 :=
  ⟨_, Try.func45, by kernel_rfl, by kernel_rfl⟩

theorem rising_held_M {l : List (List AV)} (hk : ∀ e ∈ l, ∃ s v, e = [.lit (.string s), v]) (hn : l.length ≤ 1000) :
    AMut Try.prog 45 [.own 0] [(0, some ⟨false, false, 0, 0, l⟩)] 1 (.own 1) [(0, some ⟨false, false, 0, 0, l⟩), (1, some ⟨true, false, 9, 1, sortedRow l⟩)] 2 :=
  rising_M able_rising_held (fun {H} R b n D0 w => rising_held (H := H) R b n D0 w) hk hn

set_option maxRecDepth 100000 in
theorem able_rising_fun : Callable Try.prog 46 :=
  ⟨_, Try.func46, by kernel_rfl, by kernel_rfl⟩

theorem rising_fun_M {l : List (List AV)} (hk : ∀ e ∈ l, ∃ s v, e = [.lit (.string s), v]) (hn : l.length ≤ 1000) :
    AMut Try.prog 46 [.own 0] [(0, some ⟨false, false, 0, 0, l⟩)] 1 (.own 1) [(0, some ⟨false, false, 0, 0, l⟩), (1, some ⟨true, false, 9, 1, sortedRow l⟩)] 2 :=
  rising_M able_rising_fun (fun {H} R b n D0 w => rising_fun (H := H) R b n D0 w) hk hn
end Go.Proofs.Ytmbigpjokpdnkaa
