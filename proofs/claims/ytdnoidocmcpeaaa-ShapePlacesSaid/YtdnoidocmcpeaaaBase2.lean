/- More plain facts on worlds: appends that tell where the row lies behind them; rows of slices. -/
import Derived.Test.YtdnoidocmcpeaaaBase
import Derived.ArgAppend
namespace Go.Proofs.Ytdnoidocmcpeaaa
set_option linter.unusedVariables false
open Go.RowKit

theorem grownBy_any {w w' : World} (h : w.grownBy w' none) (row : Option Nat) : w.grownBy w' row := ⟨h.os, h.tape, h.output, h.size, fun k hk _ => h.block k hk (by simp)⟩

theorem ownsRow_base {w : World} {base base' : Nat} {e : TypeId} {size n : Nat} {v : Value} {xs : List Value} (h : w.ownsRow base e size v n xs) (hb : base' ≤ base) : w.ownsRow base' e size v n xs := by
  refine ⟨h.1, ?_⟩
  rcases h.2 with hn | ⟨g, cap, cur, h1, h2, rest⟩
  · exact .inl hn
  · exact .inr ⟨g, cap, cur, h1, Nat.le_trans hb h2, rest⟩

/-- the address leads to no cell of this row -/
def Apart (a : Option Addr) (row : Option Nat) : Prop := ∀ x, a = some x → some x.block ≠ row

theorem Sl.grown {w w' : World} {row : Option Nat} {a : Option Addr} {len cap sz : Nat} {cs : List Value} (h : Sl w a len cap sz cs) (hg : w.grownBy w' row) (hr : Apart a row) : Sl w' a len cap sz cs :=
  ⟨h.size, h.empty, h.fits, ⟨fun i v hv => by
    obtain ⟨b, off, e, hlt, hc⟩ := h.rd.here i v hv
    exact ⟨b, off, e, Nat.lt_of_lt_of_le hlt hg.size, hg.cell hc (by have := hr _ e; exact this)⟩, h.rd.le⟩, h.one⟩

theorem Apart.lt {a : Option Addr} {n k : Nat} (h : ∀ x, a = some x → x.block < n) (hk : n ≤ k) : Apart a (some k) := fun x hx => by
  have := h x hx
  simp; omega

/-- append onto a row of the call's own: and where the new row lies: where the old one did, or in a new block -/
theorem wpl_append2 {P : Program} {w : World} {ops : Array Oper} {rest : List Oper} {o : Oper} {a : Act} {Q : Exit → Act → World → Prop} {t e : TypeId} {z : Value} {size bytes : Nat} (E : ElemT P t e z size bytes)
    (hgd : o.guard = none) (s x : Operand) (ho : o.op = .call { callee := .builtin .append, args := #[s, x], argTypes := #[t, t] })
    (base : Nat) (av : Option Addr) (n cap : Nat) (xs : List Value) (hs : a.eval s = .slice av n cap) (hown : w.ownsRow base e size (.slice av n cap) n xs)
    (ao : Option Addr) (m c : Nat) (news : List Value) (hx : a.eval x = .slice ao m c) (hS : Sl w ao m c size news)
    (h63 : n + m ≤ maxLen) (hbytes : (n + m) * bytes ≤ 140737488355328) (hbase : base ≤ w.heap.size)
    (h : ∀ av' cap' w', w'.ownsRow base e size (.slice av' (n + m) cap') (n + m) (xs ++ news) → w.grownBy w' ((Value.slice av n cap).ownBlock) → (av' = av ∨ ∀ x, av' = some x → w.heap.size ≤ x.block) → wpList P ops Q rest (a.put o.dst (.slice av' (n + m) cap')) w') : wpList P ops Q (o :: rest) a w := by
  obtain ⟨i, hi, hz0, hz1, hz2⟩ := info_parts E.info
  have cells : ∀ ad, ao = some ad → ∀ j u, news[j]? = some u → w.cell? (ad.add j) = some u := fun ad had j u hu => by
    obtain ⟨b, off, hab, hb, hc⟩ := hS.rd.here j u hu
    rw [had] at hab
    simp only [Option.some.injEq] at hab
    subst hab
    rw [addr_add]; exact hc
  by_cases hfit : n + m ≤ cap ∧ av ≠ none
  · obtain ⟨g, rfl⟩ : ∃ g, av = some ⟨g, 0, none⟩ := by
      rcases hown.2 with ⟨h1, h2⟩ | ⟨g, c, cur, h1, _⟩
      · simp only [Value.slice.injEq] at h1; exact absurd h1.1 hfit.2
      · simp only [Value.slice.injEq] at h1; exact ⟨g, h1.1⟩
    refine wpList_append_fits_any w hgd s x t ho base e i size E.under hi hz1 g n cap xs hs hown ao m c news hx hS.size (fun hn => ⟨?_, hS.empty hn⟩) cells hS.one hfit.1 (fun w' r1 r2 => h _ _ w' r1 r2 (.inl rfl))
    have := hS.empty hn
    have := hS.fits
    omega
  · cases ao with
    | none =>
      have hc := hS.empty rfl
      have hm : m = 0 := by have := hS.fits; omega
      subst hc; subst hm
      have hnews : news = [] := List.eq_nil_of_length_eq_zero (by simpa using hS.size)
      subst hnews
      exact wpList_append_own_none hgd s x t ho base e i size E.under hi _ n xs hs hown hx (h av cap w (by simpa using hown) (World.grownBy.refl _ _) (.inl rfl))
    | some ad =>
      by_cases hfull : cap < n + m
      · refine wpList_append_grows w hgd s x t ho e i z size bytes E.under hi hz0 hz1 hz2 E.zsz E.pos av n cap xs hs (fun hn => ?_) hown.1 (fun b hb j u hu => hown.cells (g := b.block) (by rw [hb]; rfl) j u hu |> fun hc => ?_) ad m c news hx hS.size (cells ad rfl) hS.one hfull h63 hbytes (fun v' w' r1 r2 => ?_)
        · rcases hown.2 with ⟨h1, h2⟩ | ⟨g, c, cur, h1, _⟩
          · simp only [Value.slice.injEq] at h1; exact ⟨h2, h1.2.2⟩
          · simp only [Value.slice.injEq] at h1; rw [hn] at h1; cases h1.1
        · rcases hown.2 with ⟨h1, h2⟩ | ⟨g, c, cur, h1, _⟩
          · simp only [Value.slice.injEq] at h1; rw [hb] at h1; cases h1.1
          · simp only [Value.slice.injEq] at h1
            rw [hb] at h1
            obtain ⟨h1, _⟩ := h1
            simp only [Option.some.injEq] at h1
            subst h1; exact hc
        · obtain ⟨av', cap', rfl⟩ : ∃ av' cap', v' = .slice av' (n + m) cap' := by
            rcases r1.2 with ⟨h1, h2⟩ | ⟨g, c, cur, h1, _⟩
            · exact ⟨none, 0, by rw [h1, h2]⟩
            · exact ⟨_, _, h1⟩
          exact h av' cap' w' (ownsRow_base r1 hbase) (grownBy_any r2 _) (.inr fun x hx => by
            have := (r1.lt x.block (by rw [hx]; rfl)).1
            exact this)
      · have hav : av = none := by
          rcases av with _ | x
          · rfl
          · exact absurd ⟨by omega, by simp⟩ hfit
        subst hav
        have h0 : n = 0 ∧ cap = 0 := by
          rcases hown.2 with ⟨h1, h2⟩ | ⟨g, c, cur, h1, _⟩
          · simp only [Value.slice.injEq] at h1; exact ⟨h2, h1.2.2⟩
          · simp only [Value.slice.injEq] at h1; cases h1.1
        obtain ⟨rfl, rfl⟩ := h0
        have hm : m = 0 := by omega
        subst hm
        have hnews : news = [] := List.eq_nil_of_length_eq_zero (by simpa using hS.size)
        subst hnews
        refine wpList_append_own w hgd s x t ho base e i z size bytes E.under hi hz0 hz1 hz2 E.zsz E.pos (.slice none 0 0) 0 xs hs hown ad 0 c [] hx (by simp) (fun j u hu => by simp at hu) (fun u hu => by simp at hu) h63 hbytes hbase (fun v' w' h2 h3 h4 => ?_)
        have hv : v' = .slice none 0 0 := h4.2 ⟨rfl, rfl⟩
        subst hv
        exact h none 0 w' h2 h3 (.inl rfl)

/-- one value in a block of its own -/
theorem sl_one (w : World) (v : Value) (t : TypeId) (h1 : v.oneCell' = true) : Sl (w.alloc (.cells #[v] t)) (some ⟨w.heap.size, 0, none⟩) 1 1 1 [v] :=
  ⟨by simp, (fun h => by cases h), Nat.le_refl _, ⟨fun i u hu => ⟨w.heap.size, 0, rfl, by simp, by
    have hi : i = 0 := by have := (List.getElem?_eq_some_iff.1 hu).1; simp at this; exact this
    subst hi
    simp only [List.getElem?_cons_zero, Option.some.injEq] at hu
    subst hu
    simp only [World.cell?, heap_alloc_new]; rfl⟩, by simp⟩, fun u hu => by simp at hu; subst hu; exact h1⟩

/-- the address of what is owned -/
theorem own_block {w : World} {base : Nat} {e : TypeId} {size n cap : Nat} {a : Option Addr} {xs : List Value} (h : w.ownsRow base e size (.slice a n cap) n xs) : ∀ x, a = some x → base ≤ x.block ∧ x.block < w.heap.size ∧ x = ⟨x.block, 0, none⟩ := fun x hx => by
  subst hx
  have h1 := h.lt x.block rfl
  refine ⟨h1.1, h1.2, ?_⟩
  rcases h.2 with ⟨h1, h2⟩ | ⟨g, c, cur, h1, _⟩
  · simp at h1
  · simp only [Value.slice.injEq, Option.some.injEq] at h1; rw [h1.1]

end Go.Proofs.Ytdnoidocmcpeaaa
