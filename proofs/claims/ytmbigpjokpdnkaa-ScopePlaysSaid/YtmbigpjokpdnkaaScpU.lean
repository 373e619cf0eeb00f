/- Scopes: that both have the same; the law ScopePlays. -/
import Derived.Test.YtmbigpjokpdnkaaScpQ
import Derived.Test.YtmbigpjokpdnkaaScpT
namespace Go.Proofs.Ytmbigpjokpdnkaa
set_option linter.unusedVariables false
open Go.RowKit

/-- both sides have the same -/
structure Twin (W V : VL) (U F : FL) (m : Nat) : Prop where
  pv : W.Perm V
  pf : U.Perm F
  rv : Ris V
  rf : Ris F
  zv : ∀ p ∈ V, szOK p.2 ∧ arrOK p.2.2 ∧ p.2.1 < 18446744073709551616
  zf : ∀ p ∈ F, xprOK p.2.2 ∧ p.2.1 < 18446744073709551616
  lv : V.length ≤ m
  lf : F.length ≤ m

abbrev rowN (l : List (List AV)) : OB := ⟨true, false, 9, 1, l⟩

set_option maxHeartbeats 4000000 in
set_option maxRecDepth 10000 in
theorem same24_m (W V : VL) (U F : FL) (T : Twin W V U F 1000) :
    AMut Try.prog 16 [.optr 0 0 0, .optr 3 0 0] (dH (sumV W) (vaOf W) (fuOf U) (.own 4) (.own 5) V F) 6 (.lit (.bool true)) (dH (sumV W) (vaOf W) (fuOf U) (.own 4) (.own 5) V F) 6 := by
  have lW : W.length = V.length := T.pv.length_eq
  have lU : U.length = F.length := T.pf.length_eq
  have c1 := scNames_m (sumV W) (vaOf W) (fuOf U) (ent_str hE) (ent_str fE) (by rw [List.length_map, lW]; exact T.lv) (by rw [List.length_map, lU]; exact T.lf)
  rw [sorted_names hE T.pv T.rv, sorted_names fE T.pf T.rf] at c1
  have hl1 : (((V.map varE).length : Nat) : Int) = (V.length : Nat) := by simp
  have hl2 : (((F.map funE).length : Nat) : Int) = (F.length : Nat) := by simp
  have hl3 : (((V.map fun p => [strA p.1]).length : Nat) : Int) = (V.length : Nat) := by simp
  have hl4 : (((F.map fun p => [strA p.1]).length : Nat) : Int) = (F.length : Nat) := by simp
  have c2 := scCells_m (sumV W) (vaOf W) (fuOf U)
  have c3 := rCells_m V F T.lv (fun p hp => (T.zv p hp).1)
  rw [← sumV_perm T.pv] at c3
  have hgv : ∀ p ∈ V, mapGet p.1 (vaOf W) = some (some (hE p.2)) := fun p hp => by
    rw [map_get hE p.1 W, getL_perm T.pv T.rv.uni, getL_mem T.rv.uni hp]; rfl
  have hgf : ∀ p ∈ F, mapGet p.1 (fuOf U) = some (some (fE p.2)) := fun p hp => by
    rw [map_get fE p.1 U, getL_perm T.pf T.rf.uni, getL_mem T.rf.uni hp]; rfl
  have tv := T.lv
  have tf := T.lf
  generalize sumV W = n at *
  generalize vaOf W = va at *
  generalize fuOf U = fu at *
  refine amut_of code_scrimlaw24_Same (by simp [fn_scrimlaw24_Same]) fun C hC => ?_
  refine walk4 ?_
  refine aw_reg (rrun4 ?_)
  refine r_callN2 [(0, 0), (1, 1), (2, 2)] c1 ?_
  refine rrun4 ?_
  refine rg_nil ⟨rfl, ?_⟩
  refine aw_keepK [0, 1, 4, 5, 6] [0, 1, 2, 3, 4, 5, 6, 7] 8 (kt := [(0, .optr 0 0 0), (1, .optr 3 0 0), (4, .lit (.bool false)), (5, .own 6), (6, .own 7)])
    (kh := [(0, some (scB n)), (1, some (mpB va)), (2, some (mpB fu)), (3, some (rsB (.own 4) (.own 5))), (4, some (rowVs V)), (5, some (rowFs F)), (6, some (rowN (V.map fun p => [strA p.1]))), (7, some (rowN (F.map fun p => [strA p.1])))]) ?_
  refine walk4 ?_
  refine aw_reg (rrun4 ?_)
  refine r_callM [(0, 0), (1, 1), (2, 2)] c2 ?_
  refine rrun4 ?_
  refine r_callM [(3, 0), (4, 1), (5, 2)] c3 ?_
  refine rrun4 ?_
  refine rg_nil ⟨rfl, ?_⟩
  refine walk4 ?_
  refine aw_loopB [0, 1, 4, 5, 6] [0, 1, 2, 3, 4, 5, 6, 7] (fun k : Nat => [(7, i64A k)]) (fun _ => []) 8 (fun k => k ≤ V.length) (fun k => V.length - k) 0 (Nat.zero_le _) ?_
  rintro k hk
  dsimp only [List.cons_append, List.nil_append]
  by_cases hlt : k < V.length
  · obtain ⟨p, hp⟩ : ∃ p, V[k]? = some p := ⟨_, List.getElem?_eq_getElem hlt⟩
    have hpm := List.mem_of_getElem? hp
    have hpk := nl_at (E := varE) hp
    have hpn := nl_at (E := fun p : ByteArray × (Nat × Arr) => [strA p.1]) hp
    have cg := scGet_yes n va fu p.1 p.2.1 p.2.2 (sizA p.2.2 : Nat) (hgv p hpm)
    have cs := same_a p.2.2 p.2.2 (T.zv p hpm).2.1 (T.zv p hpm).2.1
    rw [sameA_refl] at cs
    refine walk4 ?_
    refine aw_reg (rrun4 ?_)
    refine r_callM [(0, 0), (1, 1), (2, 2)] cg ?_
    refine rrun4 ?_
    refine rg_nil ⟨rfl, ?_⟩
    refine walk4 ?_
    exact ⟨k + 1, by omega, by omega, wkR hC.m []⟩
  · refine walk4 ?_
    refine aw_loopB [0, 1, 4, 5, 6] [0, 1, 2, 3, 4, 5, 6, 7] (fun k : Nat => [(10, i64A k)]) (fun _ => []) 8 (fun k => k ≤ F.length) (fun k => F.length - k) 0 (Nat.zero_le _) ?_
    rintro j hj
    dsimp only [List.cons_append, List.nil_append]
    by_cases hlj : j < F.length
    · obtain ⟨p, hp⟩ : ∃ p, F[j]? = some p := ⟨_, List.getElem?_eq_getElem hlj⟩
      have hpm := List.mem_of_getElem? hp
      have hpk := nl_at (E := funE) hp
      have hpn := nl_at (E := fun p : ByteArray × (Nat × Xpr) => [strA p.1]) hp
      have cg := scFun_yes n va fu p.1 p.2.1 p.2.2 (hgf p hpm)
      have cs := sameX_a p.2.2 (T.zf p hpm).1
      refine walk4 ?_
      refine aw_reg (rrun4 ?_)
      refine r_callM [(0, 0), (1, 1), (2, 2)] cg ?_
      refine rrun4 ?_
      refine rg_nil ⟨rfl, ?_⟩
      refine walk4 ?_
      exact ⟨j + 1, by omega, by omega, wkR hC.m []⟩
    · refine walk4 ?_
      exact fin_m []

theorem Twin.mono {W V : VL} {U F : FL} {m n : Nat} (T : Twin W V U F m) (h : m ≤ n) : Twin W V U F n := ⟨T.pv, T.pf, T.rv, T.rf, T.zv, T.zf, Nat.le_trans T.lv h, Nat.le_trans T.lf h⟩
theorem len_putL {β : Type} (s : ByteArray) (v : β) {V : NL β} (h : Ris V) {m : Nat} (hm : V.length ≤ m) : (putL s v V).length ≤ m + 1 := by
  rw [(putL_perm s v h).length_eq, List.length_cons]
  have : (delL s V).length ≤ V.length := List.length_filter_le _ _
  omega
theorem len_delL {β : Type} (s : ByteArray) {V : NL β} {m : Nat} (hm : V.length ≤ m) : (delL s V).length ≤ m := Nat.le_trans (List.length_filter_le _ _) hm
theorem Twin.put {W V : VL} {U F : FL} {m : Nat} (T : Twin W V U F m) (s : ByteArray) (v : Nat × Arr) (hv : szOK v ∧ arrOK v.2 ∧ v.1 < 18446744073709551616) : Twin (putW s v W) (putL s v V) U F (m + 1) :=
  ⟨put_perm s v T.pv T.rv, T.pf, putL_ris s v T.rv, T.rf, fun p hp => by
    have hp := (putL_perm s v T.rv).mem_iff.1 hp
    rcases List.mem_cons.1 hp with rfl | hp
    · exact hv
    · exact T.zv p (mem_delL.1 hp).1, T.zf, len_putL s v T.rv T.lv, Nat.le_succ_of_le T.lf⟩
theorem Twin.def_ {W V : VL} {U F : FL} {m : Nat} (T : Twin W V U F m) (s : ByteArray) (v : Nat × Xpr) (hv : xprOK v.2 ∧ v.1 < 18446744073709551616) : Twin W V (putW s v U) (putL s v F) (m + 1) :=
  ⟨T.pv, put_perm s v T.pf T.rf, T.rv, putL_ris s v T.rf, T.zv, fun p hp => by
    have hp := (putL_perm s v T.rf).mem_iff.1 hp
    rcases List.mem_cons.1 hp with rfl | hp
    · exact hv
    · exact T.zf p (mem_delL.1 hp).1, Nat.le_succ_of_le T.lv, len_putL s v T.rf T.lf⟩
theorem Twin.drop {W V : VL} {U F : FL} {m : Nat} (T : Twin W V U F m) (s : ByteArray) : Twin (delL s W) (delL s V) (delL s U) (delL s F) (m + 1) :=
  ⟨del_perm s T.pv, del_perm s T.pf, delL_ris T.rv, delL_ris T.rf, fun p hp => T.zv p (mem_delL.1 hp).1, fun p hp => T.zf p (mem_delL.1 hp).1, Nat.le_succ_of_le (len_delL s T.lv), Nat.le_succ_of_le (len_delL s T.lf)⟩
theorem Twin.uw {W V : VL} {U F : FL} {m : Nat} (T : Twin W V U F m) : Uni W := T.pv.symm.pairwise T.rv.uni (fun {x y} hxy => hxy.symm)
theorem Twin.uu {W V : VL} {U F : FL} {m : Nat} (T : Twin W V U F m) : Uni U := T.pf.symm.pairwise T.rf.uni (fun {x y} hxy => hxy.symm)
theorem Twin.zw {W V : VL} {U F : FL} {m : Nat} (T : Twin W V U F m) : ∀ p ∈ W, szOK p.2 := fun p hp => (T.zv p (T.pv.mem_iff.1 hp)).1

theorem Twin.zero : Twin [] [] [] [] 0 := ⟨List.Perm.refl _, List.Perm.refl _, List.Pairwise.nil, List.Pairwise.nil, fun p h => absurd h (List.not_mem_nil), fun p h => absurd h (List.not_mem_nil), Nat.le_refl _, Nat.le_refl _⟩
structure QSt where
  k : Nat
  W : VL
  V : VL
  U : FL
  F : FL
theorem sdeed_at {l : List SDeed} {k : Nat} {r : SDeed} (h : l[k]? = some r) : (l.map sdeedV)[k]? = some (sdeedV r) := by simp [h]

/-- the law, behind its loop -/
def playsRest : ACode := match fn_scrimlaw24_ScopePlays.body with | .seq _ (.seq _ (.seq _ (.seq _ r))) => r | c => c
set_option maxHeartbeats 4000000 in
set_option maxRecDepth 10000 in
theorem playsRest_w {C : Ctx} (hC : Pure C fn_scrimlaw24_ScopePlays.N) (W V : VL) (U F : FL) (T : Twin W V U F 1000) (name : ByteArray) :
    AW Try.prog C playsRest (retQ fn_scrimlaw24_ScopePlays.res (.lit (.bool true))) ⟨[(1, strA name), (4, .lit (.bool false)), (5, .optr 0 0 0), (6, .optr 3 0 0)], dH (sumV W) (vaOf W) (fuOf U) (.own 4) (.own 5) V F, 6⟩ := by
  have ca := awake24_a
  have c3 := rGet_m name V F T.lv
  have c4 := rFun_m name V F T.lf
  have g1 := map_get hE name W
  have g2 := map_get fE name U
  rw [getL_perm T.pv T.rv.uni] at g1
  rw [getL_perm T.pf T.rf.uni] at g2
  have a1 := atL_ge (s := name) (V := V) (k := 0)
  have a2 := atL_ge (s := name) (V := F) (k := 0)
  generalize atL name V 0 = z1 at *
  generalize atL name F 0 = z2 at *
  cases h1 : getL name V with
  | none =>
    rw [h1] at g1 a1
    simp only [Option.isSome_none, Bool.false_eq_true, iff_false] at a1
    have c1 := scGet_no (sumV W) (vaOf W) (fuOf U) name g1
    cases h2 : getL name F with
    | none =>
      rw [h2] at g2 a2
      simp only [Option.isSome_none, Bool.false_eq_true, iff_false] at a2
      have c2 := scFun_no (sumV W) (vaOf W) (fuOf U) name g2
      refine walk4 ?_
      refine aw_reg (rrun4 ?_)
      refine r_callM [(0, 0), (1, 1), (2, 2)] c1 ?_
      refine rrun4 ?_
      refine rg_nil ⟨rfl, ?_⟩
      refine walk4 ?_
      refine aw_reg (rrun4 ?_)
      refine r_callM [(0, 0), (1, 1), (2, 2)] c2 ?_
      refine rrun4 ?_
      refine rg_nil ⟨rfl, ?_⟩
      refine walk4 ?_
      refine aw_reg (rrun4 ?_)
      refine r_callM [(3, 0), (4, 1), (5, 2)] c3 ?_
      refine rrun4 ?_
      refine r_callM [(3, 0), (4, 1), (5, 2)] c4 ?_
      refine rrun4 ?_
      refine rg_nil ⟨rfl, ?_⟩
      refine walk4 ?_
      exact fin
    | some v2 =>
      rw [h2] at g2 a2
      simp only [Option.isSome_some, iff_true] at a2
      have c2 := scFun_yes (sumV W) (vaOf W) (fuOf U) name v2.1 v2.2 g2
      refine walk4 ?_
      refine aw_reg (rrun4 ?_)
      refine r_callM [(0, 0), (1, 1), (2, 2)] c1 ?_
      refine rrun4 ?_
      refine rg_nil ⟨rfl, ?_⟩
      refine walk4 ?_
      refine aw_reg (rrun4 ?_)
      refine r_callM [(0, 0), (1, 1), (2, 2)] c2 ?_
      refine rrun4 ?_
      refine rg_nil ⟨rfl, ?_⟩
      refine walk4 ?_
      refine aw_reg (rrun4 ?_)
      refine r_callM [(3, 0), (4, 1), (5, 2)] c3 ?_
      refine rrun4 ?_
      refine r_callM [(3, 0), (4, 1), (5, 2)] c4 ?_
      refine rrun4 ?_
      refine rg_nil ⟨rfl, ?_⟩
      refine walk4 ?_
      exact fin
  | some v1 =>
    rw [h1] at g1 a1
    simp only [Option.isSome_some, iff_true] at a1
    have c1 := scGet_yes (sumV W) (vaOf W) (fuOf U) name v1.1 v1.2 _ g1
    cases h2 : getL name F with
    | none =>
      rw [h2] at g2 a2
      simp only [Option.isSome_none, Bool.false_eq_true, iff_false] at a2
      have c2 := scFun_no (sumV W) (vaOf W) (fuOf U) name g2
      refine walk4 ?_
      refine aw_reg (rrun4 ?_)
      refine r_callM [(0, 0), (1, 1), (2, 2)] c1 ?_
      refine rrun4 ?_
      refine rg_nil ⟨rfl, ?_⟩
      refine walk4 ?_
      refine aw_reg (rrun4 ?_)
      refine r_callM [(0, 0), (1, 1), (2, 2)] c2 ?_
      refine rrun4 ?_
      refine rg_nil ⟨rfl, ?_⟩
      refine walk4 ?_
      refine aw_reg (rrun4 ?_)
      refine r_callM [(3, 0), (4, 1), (5, 2)] c3 ?_
      refine rrun4 ?_
      refine r_callM [(3, 0), (4, 1), (5, 2)] c4 ?_
      refine rrun4 ?_
      refine rg_nil ⟨rfl, ?_⟩
      refine walk4 ?_
      exact fin
    | some v2 =>
      rw [h2] at g2 a2
      simp only [Option.isSome_some, iff_true] at a2
      have c2 := scFun_yes (sumV W) (vaOf W) (fuOf U) name v2.1 v2.2 g2
      refine walk4 ?_
      refine aw_reg (rrun4 ?_)
      refine r_callM [(0, 0), (1, 1), (2, 2)] c1 ?_
      refine rrun4 ?_
      refine rg_nil ⟨rfl, ?_⟩
      refine walk4 ?_
      refine aw_reg (rrun4 ?_)
      refine r_callM [(0, 0), (1, 1), (2, 2)] c2 ?_
      refine rrun4 ?_
      refine rg_nil ⟨rfl, ?_⟩
      refine walk4 ?_
      refine aw_reg (rrun4 ?_)
      refine r_callM [(3, 0), (4, 1), (5, 2)] c3 ?_
      refine rrun4 ?_
      refine r_callM [(3, 0), (4, 1), (5, 2)] c4 ?_
      refine rrun4 ?_
      refine rg_nil ⟨rfl, ?_⟩
      refine walk4 ?_
      exact fin

set_option maxHeartbeats 8000000 in
set_option maxRecDepth 10000 in
theorem scopePlays_a (l : List SDeed) (name : ByteArray) (hd : ∀ d ∈ l, sdeedOK d) (hlen : l.length ≤ reachBytes) (hname : name.size ≤ maxLen) :
    ACalls Try.prog 4 [.sl 14 (l.map sdeedV), strA name] (.lit (.bool true)) := by
  have hR : reachBytes = 140737488351232 := rfl
  have hL : (((l.map sdeedV).length : Nat) : Int) = (l.length : Nat) := by simp
  have ca := awake24_a
  have cn := scNew_m
  refine acalls_of code_scrimlaw24_ScopePlays (by simp [fn_scrimlaw24_ScopePlays]) fun C hC => ?_
  refine walk4 ?_
  refine aw_reg (rrun4 ?_)
  refine r_callN3 [] cn ?_
  refine rrun4 ?_
  refine rg_nil ⟨rfl, ?_⟩
  refine walk4 ?_
  refine aw_nilF 3 0 92 5 rfl rfl rfl rfl ?_
  refine aw_nilF 3 1 95 10 rfl rfl rfl rfl ?_
  refine aw_loopB [0, 1, 4, 5, 6] [] (fun x : QSt => [(7, i64A x.k)]) (fun x => dH (sumV x.W) (vaOf x.W) (fuOf x.U) (.own 4) (.own 5) x.V x.F) 6
    (fun x => x.k ≤ 30 ∧ x.k ≤ l.length ∧ Twin x.W x.V x.U x.F x.k) (fun x => 30 - x.k) ⟨0, [], [], [], []⟩ ⟨by simp, by simp, Twin.zero⟩ ?_
  rintro ⟨k, W, V, U, F⟩ ⟨i1, i2, T⟩
  dsimp only [List.cons_append, List.nil_append] at i1 i2 T ⊢
  have T3 : Twin W V U F 1000 := T.mono (by omega)
  by_cases hlt : k < l.length ∧ k < 30
  · obtain ⟨hl1, hl2⟩ := hlt
    obtain ⟨d, hdk⟩ : ∃ d, l[k]? = some d := ⟨_, List.getElem?_eq_getElem hl1⟩
    have hda := sdeed_at hdk
    have hdo := hd d (List.mem_of_getElem? hdk)
    have cw := small_a d hdo
    cases hw : smallP d with
    | false =>
      rw [hw] at cw
      refine walk4 ?_
      exact fin
    | true =>
    rw [hw] at cw
    simp only [smallP, Bool.and_eq_true, decide_eq_true_eq] at hw
    obtain ⟨hnm, hfa, hfx⟩ := hw
    have hA : szOK (d.b, d.v) ∧ arrOK d.v ∧ d.b < 18446744073709551616 := ⟨⟨few_ok hdo.1 hfa, few_siz hfa⟩, hdo.1, hdo.2.2.1⟩
    have hX : xprOK d.f ∧ d.b < 18446744073709551616 := ⟨hdo.2.1, hdo.2.2.1⟩
    have hs : d.name.size ≤ maxN := by unfold maxN; omega
    have lW : W.length ≤ 1000 := by rw [T.pv.length_eq]; exact T3.lv
    by_cases hk : d.kind = 0 ∨ d.kind = 1 ∨ d.kind = 2
    · have cd := does_put d hk hs W V U F hA.1 T.zw T.uw lW T3.lv
      have T' := T.put d.name (d.b, d.v) hA
      have cs := same24_m _ _ _ _ (T'.mono (show k + 1 ≤ 1000 by omega))
      refine walk4 ?_
      refine aw_reg (rrun4 ?_)
      refine r_callN [(0, 0), (1, 1), (2, 2), (3, 3), (4, 4), (5, 5)] cd ?_
      refine rrun4 ?_
      refine r_callM [(0, 0), (1, 1), (2, 2), (3, 3), (6, 4), (5, 5)] cs ?_
      refine rrun4 ?_
      refine rg_nil ⟨rfl, ?_⟩
      refine walk4 ?_
      exact ⟨⟨k + 1, putW d.name (d.b, d.v) W, putL d.name (d.b, d.v) V, U, F⟩, by dsimp only; omega, ⟨by dsimp only; omega, by dsimp only; omega, T'⟩, wkR hC.m [(4, 6)]⟩
    · obtain ⟨kd, nm, b, v, f⟩ := d
      dsimp only at hk hnm hs hA hX
      have hk0 : kd ≠ 0 := fun e => hk (.inl e)
      have hk1 : kd ≠ 1 := fun e => hk (.inr (.inl e))
      have hk2 : kd ≠ 2 := fun e => hk (.inr (.inr e))
      by_cases hk3 : kd = 3
      · subst hk3
        have cd := does_def nm b v f hs (sumV W) W V U F T3.lf
        have T' := T.def_ nm (b, f) hX
        have cs := same24_m _ _ _ _ (T'.mono (show k + 1 ≤ 1000 by omega))
        refine walk4 ?_
        refine aw_reg (rrun4 ?_)
        refine r_callN [(0, 0), (1, 1), (2, 2), (3, 3), (4, 4), (5, 5)] cd ?_
        refine rrun4 ?_
        refine r_callM [(0, 0), (1, 1), (2, 2), (3, 3), (4, 4), (6, 5)] cs ?_
        refine rrun4 ?_
        refine rg_nil ⟨rfl, ?_⟩
        refine walk4 ?_
        exact ⟨⟨k + 1, W, V, putW nm (b, f) U, putL nm (b, f) F⟩, by dsimp only; omega, ⟨by dsimp only; omega, by dsimp only; omega, T'⟩, wkR hC.m [(5, 6)]⟩
      · by_cases hk4 : kd = 4
        · subst hk4
          have cd := does_drop nm b v f W V U F T.zw T.uw T.uu lW T3.lv T3.lf (getL_perm T.pv T.rv.uni) (getL_perm T.pf T.rf.uni)
          have T' := T.drop nm
          have cs := same24_m _ _ _ _ (T'.mono (show k + 1 ≤ 1000 by omega))
          refine walk4 ?_
          refine aw_reg (rrun4 ?_)
          refine r_callN2 [(0, 0), (1, 1), (2, 2), (3, 3), (4, 4), (5, 5)] cd ?_
          refine rrun4 ?_
          refine r_callM [(0, 0), (1, 1), (2, 2), (3, 3), (6, 4), (7, 5)] cs ?_
          refine rrun4 ?_
          refine rg_nil ⟨rfl, ?_⟩
          refine walk4 ?_
          exact ⟨⟨k + 1, delL nm W, delL nm V, delL nm U, delL nm F⟩, by dsimp only; omega, ⟨by dsimp only; omega, by dsimp only; omega, T'⟩, wkR hC.m [(4, 6), (5, 7)]⟩
        · have cd := does_no kd hk0 hk1 hk2 hk3 hk4 nm b v f (sumV W) (vaOf W) (fuOf U) V F
          have cs := same24_m _ _ _ _ T3
          refine walk4 ?_
          refine aw_reg (rrun4 ?_)
          refine r_callM [(0, 0), (1, 1), (2, 2), (3, 3), (4, 4), (5, 5)] cd ?_
          refine rrun4 ?_
          refine r_callM [(0, 0), (1, 1), (2, 2), (3, 3), (4, 4), (5, 5)] cs ?_
          refine rrun4 ?_
          refine rg_nil ⟨rfl, ?_⟩
          refine walk4 ?_
          exact ⟨⟨k + 1, W, V, U, F⟩, by dsimp only; omega, ⟨by dsimp only; omega, by dsimp only; omega, T.mono (Nat.le_succ k)⟩, wkR hC.m []⟩
  · have rest := playsRest_w hC W V U F T3 name
    by_cases hl1 : k < l.length
    · have hl2 : ¬ k < 30 := fun h => hlt ⟨hl1, h⟩
      refine aw_seq ?_
      refine aw_seq ?_
      refine aw_R4 ?_
      refine aw_cond_f rfl ?_
      refine aw_exit ?_
      exact aw_keepK [1, 4, 5, 6] [0, 1, 2, 3, 4, 5] 6 rest
    · refine aw_seq ?_
      refine aw_seq ?_
      refine aw_R4 ?_
      refine aw_cond_f rfl ?_
      refine aw_exit ?_
      exact aw_keepK [1, 4, 5, 6] [0, 1, 2, 3, 4, 5] 6 rest
end Go.Proofs.Ytmbigpjokpdnkaa
