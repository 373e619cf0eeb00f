/- An abstract layer over the walk, part 8: calls by contracts out of the context; loops whose state is told by what changes. -/
import Derived.Test.YtkgnnnehmnoleaaAbsT
import Derived.Test.YtkgnnnehmnoleaaLabP
namespace Go.Proofs.Ytkgnnnehmnoleaa
set_option linter.unusedVariables false
open Go.RowKit

def refsA (h : Hp) (avs : List AV) : List Nat := avs.flatMap (refsN h 4)

section
variable {P : Program} {tt : List (Nat × AV)} {hh : Hp} {nn dd : Nat} {g : Option (Nat × Bool)} {l : List AInst} {acc acc' : List SD} {l' : List AInst} {st' : St}
theorem s_callA {fo : Operand} {args : List Operand} {f : FuncId} {fi ca avs : List AV} {r : AV} (hg : gOK ⟨tt, hh, nn⟩ g) (hf : ev ⟨tt, hh, nn⟩ fo = .fn f fi ca) (hv : optAll (viewN true (restr [] hh) 4) (fi ++ (args.map (ev ⟨tt, hh, nn⟩) ++ ca)) = some avs) (hc : ACalls P f avs r) (h : Runs P (⟨⟨some dd, g, .call fo args⟩, r, [], [], false⟩ :: acc) l ⟨(dd, r) :: tt, hh, nn⟩ acc' l' st') : Runs P acc (⟨some dd, g, .call fo args⟩ :: l) ⟨tt, hh, nn⟩ acc' l' st' := s_call true [] hg hf hv hc (SubL.refl _) rfl h
theorem s_callS {fo : Operand} {args : List Operand} {f : FuncId} {fi ca avs avs' : List AV} {r : AV} (hg : gOK ⟨tt, hh, nn⟩ g) (hf : ev ⟨tt, hh, nn⟩ fo = .fn f fi ca) (hv : optAll (viewN true (restr [] hh) 4) (fi ++ (args.map (ev ⟨tt, hh, nn⟩) ++ ca)) = some avs) (hc : ACalls P f avs' r) (hs : SubL avs avs') (h : Runs P (⟨⟨some dd, g, .call fo args⟩, r, [], [], false⟩ :: acc) l ⟨(dd, r) :: tt, hh, nn⟩ acc' l' st') : Runs P acc (⟨some dd, g, .call fo args⟩ :: l) ⟨tt, hh, nn⟩ acc' l' st' := s_call true [] hg hf hv hc hs rfl h
theorem s_callB {fo : Operand} {args : List Operand} {f : FuncId} {fi ca avs : List AV} {r : AV} (hg : gOK ⟨tt, hh, nn⟩ g) (hf : ev ⟨tt, hh, nn⟩ fo = .fn f fi ca) (hv : optAll (viewN false (restr (refsA hh (args.map (ev ⟨tt, hh, nn⟩))) hh) 4) (fi ++ (args.map (ev ⟨tt, hh, nn⟩) ++ ca)) = some avs) (hc : ACalls P f avs r) (hr : scal r = true) (h : Runs P (⟨⟨some dd, g, .call fo args⟩, r, refsA hh (args.map (ev ⟨tt, hh, nn⟩)), [], false⟩ :: acc) l ⟨(dd, r) :: tt, hh, nn⟩ acc' l' st') : Runs P acc (⟨some dd, g, .call fo args⟩ :: l) ⟨tt, hh, nn⟩ acc' l' st' := s_call false _ hg hf hv hc (SubL.refl _) hr h
theorem s_callR {fo : Operand} {args : List Operand} {f : FuncId} {fi ca avs : List AV} {r : AV} (hg : gOK ⟨tt, hh, nn⟩ g) (hf : ev ⟨tt, hh, nn⟩ fo = .fn f fi ca) (hv : optAll (viewN true (restr (refsA hh (args.map (ev ⟨tt, hh, nn⟩))) hh) 4) (fi ++ (args.map (ev ⟨tt, hh, nn⟩) ++ ca)) = some avs) (hc : ACalls P f avs r) (h : Runs P (⟨⟨some dd, g, .call fo args⟩, r, refsA hh (args.map (ev ⟨tt, hh, nn⟩)), [], false⟩ :: acc) l ⟨(dd, r) :: tt, hh, nn⟩ acc' l' st') : Runs P acc (⟨some dd, g, .call fo args⟩ :: l) ⟨tt, hh, nn⟩ acc' l' st' := s_call true _ hg hf hv hc (SubL.refl _) rfl h
theorem s_storeRR {n id i off : Nat} {p x : Operand} {ob : OB} {av av' : AV} {e cs cs' : List AV} (hg : gOK ⟨tt, hh, nn⟩ g) (hp : ev ⟨tt, hh, nn⟩ p = .optr id i off) (ho : hl hh id = some ob) (hrow : ob.row = true) (hro : ob.ro = false) (he : ob.es[i]? = some e) (hx : ev ⟨tt, hh, nn⟩ x = av) (hv : viewN true (restr (refsA hh [av]) hh) 4 av = some av') (hc : cellsA av' = some cs) (hpu : mapL (fun _ => none) cs = some cs') (hn : cs.length = n) (hle : Nat.ble (off + n) e.length = true) (h : Runs P (⟨⟨none, g, .store n p x⟩, .any, refsA hh [av], [(id, some { ob with es := ob.es.set i (e.take off ++ (cs' ++ e.drop (off + n))) })], false⟩ :: acc) l ⟨tt, (id, some { ob with es := ob.es.set i (e.take off ++ (cs' ++ e.drop (off + n))) }) :: hh, nn⟩ acc' l' st') : Runs P acc (⟨none, g, .store n p x⟩ :: l) ⟨tt, hh, nn⟩ acc' l' st' := s_storeR _ hg hp ho hrow hro he hx hv hc hpu hn hle h
theorem s_rowlitR {e : TypeId} {sz len : Nat} {z : List Value} {ps : List (Nat × Operand)} {avs cs cs' : List AV} {es : List (List AV)} (hg : gOK ⟨tt, hh, nn⟩ g) (hv : optAll (viewN true (restr (refsA hh (ps.map fun p => ev ⟨tt, hh, nn⟩ p.2)) hh) 4) (ps.map fun p => ev ⟨tt, hh, nn⟩ p.2) = some avs) (hf : fillA (List.replicate len (z.map .lit)).flatten ((ps.zip avs).map fun p => (p.1.1 * sz, sz, p.2)) = some cs) (hp : mapL (fun _ => none) cs = some cs') (he : chunk sz len cs' = es) (h : Runs P (⟨⟨some dd, g, .rowlit e sz len z ps⟩, .own nn, refsA hh (ps.map fun p => ev ⟨tt, hh, nn⟩ p.2), [(nn, some ⟨true, false, e, sz, es⟩)], true⟩ :: acc) l ⟨(dd, .own nn) :: tt, (nn, some ⟨true, false, e, sz, es⟩) :: hh, nn + 1⟩ acc' l' st') : Runs P acc (⟨some dd, g, .rowlit e sz len z ps⟩ :: l) ⟨tt, hh, nn⟩ acc' l' st' := s_rowlit _ hg hv hf hp he h
theorem s_appendR {e : TypeId} {sz by_ id : Nat} {z : List Value} {s x : Operand} {ob : OB} {av : AV} {news : List (List AV)} (hg : gOK ⟨tt, hh, nn⟩ g) (hs : ev ⟨tt, hh, nn⟩ s = .own id) (ho : hl hh id = some ob) (hr : ob.row = true) (hro : ob.ro = false) (hsz : ob.sz = sz) (he : ob.e = e) (hx : ev ⟨tt, hh, nn⟩ x = av) (hn : srcA (restr (refsA hh [av]) hh) sz av = some news) (hb : (ob.es.length + news.length) * by_ ≤ 140737488355328) (h : Runs P (⟨⟨some dd, g, .append e sz by_ z s x⟩, .own nn, refsA hh [av], [(nn, some ⟨true, false, e, sz, ob.es ++ news⟩), (id, none)], true⟩ :: acc) l ⟨(dd, .own nn) :: tt, (nn, some ⟨true, false, e, sz, ob.es ++ news⟩) :: (id, none) :: hh, nn + 1⟩ acc' l' st') : Runs P acc (⟨some dd, g, .append e sz by_ z s x⟩ :: l) ⟨tt, hh, nn⟩ acc' l' st' := s_append _ hg hs ho hr hro hsz he hx hn hb h
theorem s_appendNR {e : TypeId} {sz by_ : Nat} {z : List Value} {s x : Operand} {av : AV} {news : List (List AV)} (hg : gOK ⟨tt, hh, nn⟩ g) (hs : ev ⟨tt, hh, nn⟩ s = .lit (.slice none 0 0)) (hx : ev ⟨tt, hh, nn⟩ x = av) (hn : srcA (restr (refsA hh [av]) hh) sz av = some news) (hb : news.length * by_ ≤ 140737488355328) (h : Runs P (⟨⟨some dd, g, .append e sz by_ z s x⟩, .own nn, refsA hh [av], [(nn, some ⟨true, false, e, sz, news⟩)], true⟩ :: acc) l ⟨(dd, .own nn) :: tt, (nn, some ⟨true, false, e, sz, news⟩) :: hh, nn + 1⟩ acc' l' st') : Runs P acc (⟨some dd, g, .append e sz by_ z s x⟩ :: l) ⟨tt, hh, nn⟩ acc' l' st' := s_appendN _ hg hs hx hn hb h
end

/-- as far as it goes, with contracts out of the context -/
theorem rrun2 {P : Program} {acc : List SD} {l : List AInst} {st : St} {acc' : List SD} {l' : List AInst} {st' : St} {K : List SD → St → Prop} (h : RG P acc' l' st' K) (hR : Runs P acc l st acc' l' st' := by
  ((repeat (first
    | apply s_movL (by first | exact True.intro | rfl) (by exact rfl)
    | apply s_movS (by first | exact True.intro | rfl) (by exact rfl)
    | apply s_movA (by first | exact True.intro | rfl) (by exact rfl)
    | apply s_movO (by first | exact True.intro | rfl) (by exact rfl)
    | apply s_movP (by first | exact True.intro | rfl) (by exact rfl)
    | apply s_movE (by first | exact True.intro | rfl) (by exact rfl)
    | apply s_movT (by first | exact True.intro | rfl) (by exact rfl)
    | apply s_movF (by first | exact True.intro | rfl) (by exact rfl)
    | apply s_movX (by first | exact True.intro | rfl) (by exact rfl)
    | apply s_no (by exact rfl)
    | apply s_noN (by exact rfl)
    | apply s_add64 (by first | exact True.intro | rfl) (by exact rfl) (by exact rfl) (by omega) (by omega)
    | apply s_sub64 (by first | exact True.intro | rfl) (by exact rfl) (by exact rfl) (by omega) (by omega)
    | apply s_ltT (by first | exact True.intro | rfl) (by exact rfl) (by exact rfl) (by omega)
    | apply s_ltF (by first | exact True.intro | rfl) (by exact rfl) (by exact rfl) (by omega)
    | apply s_leT (by first | exact True.intro | rfl) (by exact rfl) (by exact rfl) (by omega)
    | apply s_leF (by first | exact True.intro | rfl) (by exact rfl) (by exact rfl) (by omega)
    | apply s_gtT (by first | exact True.intro | rfl) (by exact rfl) (by exact rfl) (by omega)
    | apply s_gtF (by first | exact True.intro | rfl) (by exact rfl) (by exact rfl) (by omega)
    | apply s_geT (by first | exact True.intro | rfl) (by exact rfl) (by exact rfl) (by omega)
    | apply s_geF (by first | exact True.intro | rfl) (by exact rfl) (by exact rfl) (by omega)
    | apply s_eqT (by first | exact True.intro | rfl) (by exact rfl) (by exact rfl) (by omega)
    | apply s_eqF (by first | exact True.intro | rfl) (by exact rfl) (by exact rfl) (by omega)
    | apply s_neT (by first | exact True.intro | rfl) (by exact rfl) (by exact rfl) (by omega)
    | apply s_neF (by first | exact True.intro | rfl) (by exact rfl) (by exact rfl) (by omega)
    | apply s_int (by first | exact True.intro | rfl) (by exact rfl) (by exact rfl) (by exact rfl)
    | apply s_div (by first | exact True.intro | rfl) (by exact rfl) (by exact rfl) (by omega)
    | apply s_rem (by first | exact True.intro | rfl) (by exact rfl) (by exact rfl) (by omega)
    | apply s_bool (by first | exact True.intro | rfl) (by exact rfl) (by exact rfl) (by exact rfl)
    | apply s_notT (by first | exact True.intro | rfl) (by exact rfl)
    | apply s_notF (by first | exact True.intro | rfl) (by exact rfl)
    | apply s_not (by first | exact True.intro | rfl) (by exact rfl)
    | apply s_pickTL (by first | exact True.intro | rfl) (by exact rfl) (by exact rfl)
    | apply s_pickFL (by first | exact True.intro | rfl) (by exact rfl) (by exact rfl)
    | apply s_pickTS (by first | exact True.intro | rfl) (by exact rfl) (by exact rfl)
    | apply s_pickFS (by first | exact True.intro | rfl) (by exact rfl) (by exact rfl)
    | apply s_pickTA (by first | exact True.intro | rfl) (by exact rfl) (by exact rfl)
    | apply s_pickFA (by first | exact True.intro | rfl) (by exact rfl) (by exact rfl)
    | apply s_pickTO (by first | exact True.intro | rfl) (by exact rfl) (by exact rfl)
    | apply s_pickFO (by first | exact True.intro | rfl) (by exact rfl) (by exact rfl)
    | apply s_pickTP (by first | exact True.intro | rfl) (by exact rfl) (by exact rfl)
    | apply s_pickFP (by first | exact True.intro | rfl) (by exact rfl) (by exact rfl)
    | apply s_pickTE (by first | exact True.intro | rfl) (by exact rfl) (by exact rfl)
    | apply s_pickFE (by first | exact True.intro | rfl) (by exact rfl) (by exact rfl)
    | apply s_pickTT (by first | exact True.intro | rfl) (by exact rfl) (by exact rfl)
    | apply s_pickFT (by first | exact True.intro | rfl) (by exact rfl) (by exact rfl)
    | apply s_pickTF (by first | exact True.intro | rfl) (by exact rfl) (by exact rfl)
    | apply s_pickFF (by first | exact True.intro | rfl) (by exact rfl) (by exact rfl)
    | apply s_pickTX (by first | exact True.intro | rfl) (by exact rfl) (by exact rfl)
    | apply s_pickFX (by first | exact True.intro | rfl) (by exact rfl) (by exact rfl)
    | apply s_pickB (by first | exact True.intro | rfl) (by exact rfl) (by exact rfl) (by exact rfl)
    | apply s_conv64 (by first | exact True.intro | rfl) (by exact rfl) (by omega) (by omega)
    | apply s_conv (by first | exact True.intro | rfl) (by exact rfl)
    | apply s_faddr (by first | exact True.intro | rfl) (by exact rfl)
    | apply s_faddrE (by first | exact True.intro | rfl) (by exact rfl)
    | apply s_load1 (by first | exact True.intro | rfl) (by exact rfl) (by exact rfl) (by exact rfl) (by exact rfl)
    | apply s_loadA (by first | exact True.intro | rfl) (by exact rfl) (by exact rfl) (by exact rfl) (by exact rfl)
    | apply s_loadG (by first | exact True.intro | rfl) (by exact rfl) (by exact rfl) (by exact rfl) (by exact rfl)
    | apply s_loadE1 (by first | exact True.intro | rfl) (by exact rfl) (by first | assumption | rfl) (by exact rfl)
    | apply s_loadEA (by first | exact True.intro | rfl) (by exact rfl) (by first | assumption | rfl) (by exact rfl)
    | apply s_loadEG (by first | exact True.intro | rfl) (by exact rfl) (by first | assumption | rfl) (by exact rfl)
    | apply s_extract (by first | exact True.intro | rfl) (by exact rfl) (by exact rfl)
    | apply s_field1 (by first | exact True.intro | rfl) (by exact rfl) (by exact rfl)
    | apply s_fieldG (by first | exact True.intro | rfl) (by exact rfl) (by exact rfl)
    | apply s_len (by first | exact True.intro | rfl) (by exact rfl) (by first | assumption | rfl)
    | apply s_lenN (by first | exact True.intro | rfl) (by exact rfl)
    | apply s_lenO (by first | exact True.intro | rfl) (by exact rfl) (by exact rfl) (by exact rfl) (by first | assumption | rfl)
    | apply s_slen (by first | exact True.intro | rfl) (by exact rfl)
    | apply s_iaddr (by first | exact True.intro | rfl) (by exact rfl) (by exact rfl) (by omega) (by first | omega | assumption)
    | apply s_iaddrO (by first | exact True.intro | rfl) (by exact rfl) (by exact rfl) (by exact rfl) (by exact rfl) (by exact rfl) (by omega) (by first | omega | (dsimp only; omega))
    | apply s_nilckP (by first | exact True.intro | rfl) (by exact rfl)
    | apply s_nilckE (by first | exact True.intro | rfl) (by exact rfl)
    | apply s_nilckF (by first | exact True.intro | rfl) (by exact rfl)
    | apply s_mkfn (by first | exact True.intro | rfl)
    | apply s_alloc (by first | exact True.intro | rfl)
    | apply s_box (by first | exact True.intro | rfl) (by exact rfl) (by exact rfl) (by exact rfl)
    | apply s_build (by first | exact True.intro | rfl) (by exact rfl)
    | apply s_storeB (by first | exact True.intro | rfl) (by exact rfl) (by exact rfl) (by exact rfl) (by exact rfl) (by exact rfl) (by exact rfl) (by exact rfl) (by exact rfl) (by exact rfl) (by exact rfl)
    | apply s_callA (by first | exact True.intro | rfl) (by exact rfl) (by exact rfl) (by assumption)
    | apply s_callS (by first | exact True.intro | rfl) (by exact rfl) (by exact rfl) (by assumption) (by (repeat (first | exact SubL.nil | refine SubL.cons (by first | exact Sub.refl _ | exact Sub.nil _ | exact Sub.any _ | (refine Sub.agg ?_; repeat (first | exact SubL.nil | refine SubL.cons (by first | exact Sub.refl _ | exact Sub.nil _) ?_))) ?_)))
    | apply s_callB (by first | exact True.intro | rfl) (by exact rfl) (by exact rfl) (by assumption) (by exact rfl)
    | apply s_callR (by first | exact True.intro | rfl) (by exact rfl) (by exact rfl) (by assumption)
    | apply s_storeR [] (by first | exact True.intro | rfl) (by exact rfl) (by exact rfl) (by exact rfl) (by exact rfl) (by first | assumption | rfl) (by exact rfl) (by exact rfl) (by exact rfl) (by exact rfl) (by exact rfl) (by exact rfl)
    | apply s_rowlit [] (by first | exact True.intro | rfl) (by exact rfl) (by exact rfl) (by exact rfl) (by exact rfl)
    | apply s_append [] (by first | exact True.intro | rfl) (by exact rfl) (by exact rfl) (by exact rfl) (by exact rfl) (by exact rfl) (by exact rfl) (by exact rfl) (by exact rfl) (by first | omega | (simp only [List.length_append, List.length_cons, List.length_nil, List.length_map, List.length_replicate, chunk, intsA]; omega))
    | apply s_appendN [] (by first | exact True.intro | rfl) (by exact rfl) (by exact rfl) (by exact rfl) (by first | omega | (simp only [List.length_append, List.length_cons, List.length_nil, List.length_map, List.length_replicate, chunk, intsA]; omega))
    | apply s_storeRR (by first | exact True.intro | rfl) (by exact rfl) (by exact rfl) (by exact rfl) (by exact rfl) (by first | assumption | rfl) (by exact rfl) (by exact rfl) (by exact rfl) (by exact rfl) (by exact rfl) (by exact rfl)
    | apply s_rowlitR (by first | exact True.intro | rfl) (by exact rfl) (by exact rfl) (by exact rfl) (by exact rfl)
    | apply s_appendR (by first | exact True.intro | rfl) (by exact rfl) (by exact rfl) (by exact rfl) (by exact rfl) (by exact rfl) (by exact rfl) (by exact rfl) (by exact rfl) (by first | omega | (simp only [List.length_append, List.length_cons, List.length_nil, List.length_map, List.length_replicate, chunk, intsA]; omega))
    | apply s_appendNR (by first | exact True.intro | rfl) (by exact rfl) (by exact rfl) (by exact rfl) (by first | omega | (simp only [List.length_append, List.length_cons, List.length_nil, List.length_map, List.length_replicate, chunk, intsA]; omega))
    | apply s_make (by first | exact True.intro | rfl) (by exact rfl) (by exact rfl) (by omega) (by omega) (by omega))); exact Runs.refl _ _ _)) : RG P acc l st K := rg_runs hR h

theorem aw_R2 {P : Program} {C : Ctx} {Q : Exit → St → Prop} {st : St} {d : Bool} {l : List AInst} {free : List (Nat × Nat)} {acc : List SD} {st' : St} (hQ : Q .normal st') (hR : Runs P [] l st acc [] st' := by
  ((repeat (first
    | apply s_movL (by first | exact True.intro | rfl) (by exact rfl)
    | apply s_movS (by first | exact True.intro | rfl) (by exact rfl)
    | apply s_movA (by first | exact True.intro | rfl) (by exact rfl)
    | apply s_movO (by first | exact True.intro | rfl) (by exact rfl)
    | apply s_movP (by first | exact True.intro | rfl) (by exact rfl)
    | apply s_movE (by first | exact True.intro | rfl) (by exact rfl)
    | apply s_movT (by first | exact True.intro | rfl) (by exact rfl)
    | apply s_movF (by first | exact True.intro | rfl) (by exact rfl)
    | apply s_movX (by first | exact True.intro | rfl) (by exact rfl)
    | apply s_no (by exact rfl)
    | apply s_noN (by exact rfl)
    | apply s_add64 (by first | exact True.intro | rfl) (by exact rfl) (by exact rfl) (by omega) (by omega)
    | apply s_sub64 (by first | exact True.intro | rfl) (by exact rfl) (by exact rfl) (by omega) (by omega)
    | apply s_ltT (by first | exact True.intro | rfl) (by exact rfl) (by exact rfl) (by omega)
    | apply s_ltF (by first | exact True.intro | rfl) (by exact rfl) (by exact rfl) (by omega)
    | apply s_leT (by first | exact True.intro | rfl) (by exact rfl) (by exact rfl) (by omega)
    | apply s_leF (by first | exact True.intro | rfl) (by exact rfl) (by exact rfl) (by omega)
    | apply s_gtT (by first | exact True.intro | rfl) (by exact rfl) (by exact rfl) (by omega)
    | apply s_gtF (by first | exact True.intro | rfl) (by exact rfl) (by exact rfl) (by omega)
    | apply s_geT (by first | exact True.intro | rfl) (by exact rfl) (by exact rfl) (by omega)
    | apply s_geF (by first | exact True.intro | rfl) (by exact rfl) (by exact rfl) (by omega)
    | apply s_eqT (by first | exact True.intro | rfl) (by exact rfl) (by exact rfl) (by omega)
    | apply s_eqF (by first | exact True.intro | rfl) (by exact rfl) (by exact rfl) (by omega)
    | apply s_neT (by first | exact True.intro | rfl) (by exact rfl) (by exact rfl) (by omega)
    | apply s_neF (by first | exact True.intro | rfl) (by exact rfl) (by exact rfl) (by omega)
    | apply s_int (by first | exact True.intro | rfl) (by exact rfl) (by exact rfl) (by exact rfl)
    | apply s_div (by first | exact True.intro | rfl) (by exact rfl) (by exact rfl) (by omega)
    | apply s_rem (by first | exact True.intro | rfl) (by exact rfl) (by exact rfl) (by omega)
    | apply s_bool (by first | exact True.intro | rfl) (by exact rfl) (by exact rfl) (by exact rfl)
    | apply s_notT (by first | exact True.intro | rfl) (by exact rfl)
    | apply s_notF (by first | exact True.intro | rfl) (by exact rfl)
    | apply s_not (by first | exact True.intro | rfl) (by exact rfl)
    | apply s_pickTL (by first | exact True.intro | rfl) (by exact rfl) (by exact rfl)
    | apply s_pickFL (by first | exact True.intro | rfl) (by exact rfl) (by exact rfl)
    | apply s_pickTS (by first | exact True.intro | rfl) (by exact rfl) (by exact rfl)
    | apply s_pickFS (by first | exact True.intro | rfl) (by exact rfl) (by exact rfl)
    | apply s_pickTA (by first | exact True.intro | rfl) (by exact rfl) (by exact rfl)
    | apply s_pickFA (by first | exact True.intro | rfl) (by exact rfl) (by exact rfl)
    | apply s_pickTO (by first | exact True.intro | rfl) (by exact rfl) (by exact rfl)
    | apply s_pickFO (by first | exact True.intro | rfl) (by exact rfl) (by exact rfl)
    | apply s_pickTP (by first | exact True.intro | rfl) (by exact rfl) (by exact rfl)
    | apply s_pickFP (by first | exact True.intro | rfl) (by exact rfl) (by exact rfl)
    | apply s_pickTE (by first | exact True.intro | rfl) (by exact rfl) (by exact rfl)
    | apply s_pickFE (by first | exact True.intro | rfl) (by exact rfl) (by exact rfl)
    | apply s_pickTT (by first | exact True.intro | rfl) (by exact rfl) (by exact rfl)
    | apply s_pickFT (by first | exact True.intro | rfl) (by exact rfl) (by exact rfl)
    | apply s_pickTF (by first | exact True.intro | rfl) (by exact rfl) (by exact rfl)
    | apply s_pickFF (by first | exact True.intro | rfl) (by exact rfl) (by exact rfl)
    | apply s_pickTX (by first | exact True.intro | rfl) (by exact rfl) (by exact rfl)
    | apply s_pickFX (by first | exact True.intro | rfl) (by exact rfl) (by exact rfl)
    | apply s_pickB (by first | exact True.intro | rfl) (by exact rfl) (by exact rfl) (by exact rfl)
    | apply s_conv64 (by first | exact True.intro | rfl) (by exact rfl) (by omega) (by omega)
    | apply s_conv (by first | exact True.intro | rfl) (by exact rfl)
    | apply s_faddr (by first | exact True.intro | rfl) (by exact rfl)
    | apply s_faddrE (by first | exact True.intro | rfl) (by exact rfl)
    | apply s_load1 (by first | exact True.intro | rfl) (by exact rfl) (by exact rfl) (by exact rfl) (by exact rfl)
    | apply s_loadA (by first | exact True.intro | rfl) (by exact rfl) (by exact rfl) (by exact rfl) (by exact rfl)
    | apply s_loadG (by first | exact True.intro | rfl) (by exact rfl) (by exact rfl) (by exact rfl) (by exact rfl)
    | apply s_loadE1 (by first | exact True.intro | rfl) (by exact rfl) (by first | assumption | rfl) (by exact rfl)
    | apply s_loadEA (by first | exact True.intro | rfl) (by exact rfl) (by first | assumption | rfl) (by exact rfl)
    | apply s_loadEG (by first | exact True.intro | rfl) (by exact rfl) (by first | assumption | rfl) (by exact rfl)
    | apply s_extract (by first | exact True.intro | rfl) (by exact rfl) (by exact rfl)
    | apply s_field1 (by first | exact True.intro | rfl) (by exact rfl) (by exact rfl)
    | apply s_fieldG (by first | exact True.intro | rfl) (by exact rfl) (by exact rfl)
    | apply s_len (by first | exact True.intro | rfl) (by exact rfl) (by first | assumption | rfl)
    | apply s_lenN (by first | exact True.intro | rfl) (by exact rfl)
    | apply s_lenO (by first | exact True.intro | rfl) (by exact rfl) (by exact rfl) (by exact rfl) (by first | assumption | rfl)
    | apply s_slen (by first | exact True.intro | rfl) (by exact rfl)
    | apply s_iaddr (by first | exact True.intro | rfl) (by exact rfl) (by exact rfl) (by omega) (by first | omega | assumption)
    | apply s_iaddrO (by first | exact True.intro | rfl) (by exact rfl) (by exact rfl) (by exact rfl) (by exact rfl) (by exact rfl) (by omega) (by first | omega | (dsimp only; omega))
    | apply s_nilckP (by first | exact True.intro | rfl) (by exact rfl)
    | apply s_nilckE (by first | exact True.intro | rfl) (by exact rfl)
    | apply s_nilckF (by first | exact True.intro | rfl) (by exact rfl)
    | apply s_mkfn (by first | exact True.intro | rfl)
    | apply s_alloc (by first | exact True.intro | rfl)
    | apply s_box (by first | exact True.intro | rfl) (by exact rfl) (by exact rfl) (by exact rfl)
    | apply s_build (by first | exact True.intro | rfl) (by exact rfl)
    | apply s_storeB (by first | exact True.intro | rfl) (by exact rfl) (by exact rfl) (by exact rfl) (by exact rfl) (by exact rfl) (by exact rfl) (by exact rfl) (by exact rfl) (by exact rfl) (by exact rfl)
    | apply s_callA (by first | exact True.intro | rfl) (by exact rfl) (by exact rfl) (by assumption)
    | apply s_callS (by first | exact True.intro | rfl) (by exact rfl) (by exact rfl) (by assumption) (by (repeat (first | exact SubL.nil | refine SubL.cons (by first | exact Sub.refl _ | exact Sub.nil _ | exact Sub.any _ | (refine Sub.agg ?_; repeat (first | exact SubL.nil | refine SubL.cons (by first | exact Sub.refl _ | exact Sub.nil _) ?_))) ?_)))
    | apply s_callB (by first | exact True.intro | rfl) (by exact rfl) (by exact rfl) (by assumption) (by exact rfl)
    | apply s_callR (by first | exact True.intro | rfl) (by exact rfl) (by exact rfl) (by assumption)
    | apply s_storeR [] (by first | exact True.intro | rfl) (by exact rfl) (by exact rfl) (by exact rfl) (by exact rfl) (by first | assumption | rfl) (by exact rfl) (by exact rfl) (by exact rfl) (by exact rfl) (by exact rfl) (by exact rfl)
    | apply s_rowlit [] (by first | exact True.intro | rfl) (by exact rfl) (by exact rfl) (by exact rfl) (by exact rfl)
    | apply s_append [] (by first | exact True.intro | rfl) (by exact rfl) (by exact rfl) (by exact rfl) (by exact rfl) (by exact rfl) (by exact rfl) (by exact rfl) (by exact rfl) (by first | omega | (simp only [List.length_append, List.length_cons, List.length_nil, List.length_map, List.length_replicate, chunk, intsA]; omega))
    | apply s_appendN [] (by first | exact True.intro | rfl) (by exact rfl) (by exact rfl) (by exact rfl) (by first | omega | (simp only [List.length_append, List.length_cons, List.length_nil, List.length_map, List.length_replicate, chunk, intsA]; omega))
    | apply s_storeRR (by first | exact True.intro | rfl) (by exact rfl) (by exact rfl) (by exact rfl) (by exact rfl) (by first | assumption | rfl) (by exact rfl) (by exact rfl) (by exact rfl) (by exact rfl) (by exact rfl) (by exact rfl)
    | apply s_rowlitR (by first | exact True.intro | rfl) (by exact rfl) (by exact rfl) (by exact rfl) (by exact rfl)
    | apply s_appendR (by first | exact True.intro | rfl) (by exact rfl) (by exact rfl) (by exact rfl) (by exact rfl) (by exact rfl) (by exact rfl) (by exact rfl) (by exact rfl) (by first | omega | (simp only [List.length_append, List.length_cons, List.length_nil, List.length_map, List.length_replicate, chunk, intsA]; omega))
    | apply s_appendNR (by first | exact True.intro | rfl) (by exact rfl) (by exact rfl) (by exact rfl) (by first | omega | (simp only [List.length_append, List.length_cons, List.length_nil, List.length_map, List.length_replicate, chunk, intsA]; omega))
    | apply s_make (by first | exact True.intro | rfl) (by exact rfl) (by exact rfl) (by omega) (by omega) (by omega))); exact Runs.refl _ _ _)) (hi : (bif d then indepOK acc.reverse free else true) = true := by rfl) : AW P C (.ops d l free) Q st := aw_reg (rg_runs hR (rg_nil ⟨hi, hQ⟩))

/-- all that needs no hint -/
theorem walk2 {P : Program} {C : Ctx} {Q : Exit → St → Prop} {st : St} {c : ACode} {G : Prop} (hG : G) (h : Left G → AW P C c Q st := by
  (intro hG; repeat (first | refine aw_seq ?_ | refine aw_block ?_ | refine aw_skip ?_ | refine aw_exit ?_ | refine aw_ret ?_ | refine aw_cond_t rfl ?_ | refine aw_cond_f rfl ?_ | refine aw_R2 ?_)
   exact hG.out)) : AW P C c Q st := h ⟨hG⟩


section
variable {P : Program} {C : Ctx} {Q : Exit → St → Prop} {st : St}

/-- which names stand for which: each its own, but those told (new, old) -/
def sigR (ren : List (Nat × Nat)) (h : Hp) : List (Nat × Nat) := h.map fun p => ((match look ren p.1 with | some o => o | none => p.1), p.1)

/-- less is said: the slots and blocks that s' has -/
theorem wkR {N : Nat} {s s' : St} (hC : Pure C N) (ren : List (Nat × Nat)) (e : canonWith (sigR ren s'.h) (s'.t.map (·.1)) s'.nx s = s' := by rfl) (h : okR s'.nx (sigR ren s'.h) = true := by rfl) : Weak C s s' := weak_canon _ _ _ h (fun i hi => absurd hi (by rw [hC.m]; omega)) e

/-- the first that is told of a slot, of a block -/
def pickT : List (Nat × AV) → Nat → AV
  | [], _ => .any
  | p :: r, n => if p.1 = n then p.2 else pickT r n
def pickH : Hp → Nat → Option OB
  | [], _ => none
  | p :: r, n => if p.1 = n then p.2 else pickH r n
theorem pickT_eq : ∀ (t : List (Nat × AV)) (n : Nat), pickT t n = getT t n
  | [], n => rfl
  | (k, v) :: r, n => by
    have ih := pickT_eq r n
    simp only [pickT, getT, look]
    by_cases h : k = n
    · subst h; simp
    · have hb : Nat.beq k n = false := beq_ne h
      rw [if_neg h, hb]; exact ih
theorem pickH_eq : ∀ (t : Hp) (n : Nat), pickH t n = hl t n
  | [], n => rfl
  | (k, v) :: r, n => by
    have ih := pickH_eq r n
    simp only [pickH, hl, look]
    by_cases h : k = n
    · subst h; cases v <;> simp
    · have hb : Nat.beq k n = false := beq_ne h
      rw [if_neg h, hb]; exact ih

/-- what is told of some slots and blocks is told, and no more -/
theorem weak_keep {C : Ctx} {N : Nat} {s : St} (hC : Pure C N) (L H : List Nat) (n : Nat) (hn : s.nx ≤ n) : Weak C s ⟨L.map fun k => (k, getT s.t k), H.map fun k => (k, hl s.h k), n⟩ := fun E a w R => by
  refine ⟨E, R.defers, R.size, fun k => ?_, ⟨?_, ?_, ?_, R.heap.lt⟩, fun id h => Nat.lt_of_lt_of_le (R.nx id h) hn, ?_, R.ext, R.imx, R.imn, R.frm⟩
  · show Rd E w (getT (L.map fun k => (k, getT s.t k)) k) _
    rw [getT_map]
    split
    · exact R.tm k
    · trivial
  all_goals
    have key : ∀ id o, hl (H.map fun k => (k, hl s.h k)) id = some o → hl s.h id = some o := fun id o ho => by
      obtain ⟨x, hx, hxo⟩ : ∃ x, look (H.map fun k => (k, hl s.h k)) id = some x ∧ x = some o := by
        simp only [hl] at ho
        split at ho
        · rename_i x' hx'
          cases ho; exact ⟨_, hx', rfl⟩
        · cases ho
      have := look_mem hx
      rw [List.mem_map] at this
      obtain ⟨k, _, e⟩ := this
      simp only [Prod.mk.injEq] at e
      obtain ⟨rfl, e⟩ := e
      rw [e, hxo]
  · exact fun id o h1 h2 => R.heap.ob id o h1 (key id o h2)
  · exact fun id id' o o' b h1 h2 h3 h4 => R.heap.apart id id' o o' b h1 h2 (key _ _ h3) (key _ _ h4)
  · exact fun id o b h1 h2 => R.heap.im id o b h1 (key _ _ h2)
  · exact fun id o b h1 h2 => R.own id o b h1 (key _ _ h2)

theorem Weak.trans {C : Ctx} {s s' s'' : St} (h : Weak C s s') (k : Weak C s' s'') : Weak C s s'' := fun E a w R => let ⟨E', R'⟩ := h E a w R; k E' a w R'

/-- the state, told anew: the slots L and the blocks H -/
theorem aw_keep {N : Nat} {c : ACode} (hC : Pure C N) (L H : List Nat) {kt : List (Nat × AV)} {kh : Hp} (h : AW P C c Q ⟨kt, kh, st.nx⟩)
    (et : (L.map fun k => (k, pickT st.t k)) = kt := by (simp only [List.map_cons, List.map_nil, pickT, pickH, argT, ↓reduceIte, Nat.reduceEqDiff, Nat.reduceAdd, List.length_cons, List.length_nil, List.take_zero, List.take_succ_cons, List.take_nil, List.drop_zero, List.drop_succ_cons, List.drop_nil, List.nil_append, List.cons_append, List.append_nil]; exact rfl))
    (eh : (H.map fun k => (k, pickH st.h k)) = kh := by (simp only [List.map_cons, List.map_nil, pickT, pickH, argT, ↓reduceIte, Nat.reduceEqDiff, Nat.reduceAdd, List.length_cons, List.length_nil, List.take_zero, List.take_succ_cons, List.take_nil, List.drop_zero, List.drop_succ_cons, List.drop_nil, List.nil_append, List.cons_append, List.append_nil]; exact rfl)) : AW P C c Q st := by
  simp only [pickT_eq] at et
  simp only [pickH_eq] at eh
  subst et eh
  exact aw_weak (weak_keep hC L H st.nx (Nat.le_refl _)) h

/-- a loop: the slots L and the blocks H stay, ov and oh tell the others -/
theorem aw_loopA {X : Type} {c : ACode} (L H : List Nat) (ov : X → List (Nat × AV)) (oh : X → Hp) (n : Nat) (I : X → Prop) (μ : X → Nat) (x0 : X) {kt : List (Nat × AV)} {kh : Hp}
    (et : (L.map fun k => (k, pickT st.t k)) = kt) (eh : (H.map fun k => (k, pickH st.h k)) = kh)
    (h0 : Weak C st ⟨ov x0 ++ kt, oh x0 ++ kh, n⟩) (hI : I x0)
    (round : ∀ x, I x → AW P C c (thenQ (fun s' => ∃ x', μ x' < μ x ∧ I x' ∧ Weak C s' ⟨ov x' ++ kt, oh x' ++ kh, n⟩) Q) ⟨ov x ++ kt, oh x ++ kh, n⟩) : AW P C (.loop c) Q st :=
  aw_loop (fun x => ⟨ov x ++ kt, oh x ++ kh, n⟩) I μ x0 h0 hI round

/-- likewise: the entry told in full -/
theorem aw_loopB {N : Nat} {X : Type} {c : ACode} (hC : Pure C N) (L H : List Nat) (ov : X → List (Nat × AV)) (oh : X → Hp) (n : Nat) (I : X → Prop) (μ : X → Nat) (x0 : X) {kt : List (Nat × AV)} {kh : Hp}
    (hI : I x0)
    (round : ∀ x, I x → AW P C c (thenQ (fun s' => ∃ x', μ x' < μ x ∧ I x' ∧ Weak C s' ⟨ov x' ++ kt, oh x' ++ kh, n⟩) Q) ⟨ov x ++ kt, oh x ++ kh, n⟩)
    (et : (L.map fun k => (k, pickT st.t k)) = kt := by (simp only [List.map_cons, List.map_nil, pickT, pickH, argT, ↓reduceIte, Nat.reduceEqDiff, Nat.reduceAdd, List.length_cons, List.length_nil, List.take_zero, List.take_succ_cons, List.take_nil, List.drop_zero, List.drop_succ_cons, List.drop_nil, List.nil_append, List.cons_append, List.append_nil]; exact rfl))
    (eh : (H.map fun k => (k, pickH st.h k)) = kh := by (simp only [List.map_cons, List.map_nil, pickT, pickH, argT, ↓reduceIte, Nat.reduceEqDiff, Nat.reduceAdd, List.length_cons, List.length_nil, List.take_zero, List.take_succ_cons, List.take_nil, List.drop_zero, List.drop_succ_cons, List.drop_nil, List.nil_append, List.cons_append, List.append_nil]; exact rfl))
    (ht : (ov x0 ++ kt).map (fun p => (p.1, st.get p.1)) = ov x0 ++ kt := by rfl)
    (hh : (oh x0 ++ kh).map (fun p => (p.1, hl st.h p.1)) = oh x0 ++ kh := by rfl)
    (hn : Nat.ble st.nx n = true := by rfl) : AW P C (.loop c) Q st := by
  refine aw_loop (fun x => ⟨ov x ++ kt, oh x ++ kh, n⟩) I μ x0 ?_ hI round
  have := weak_keep (s := st) hC ((ov x0 ++ kt).map (·.1)) ((oh x0 ++ kh).map (·.1)) n (Nat.ble_eq ▸ hn)
  rw [List.map_map, List.map_map] at this
  have e1 : (ov x0 ++ kt).map ((fun k => (k, getT st.t k)) ∘ (·.1)) = ov x0 ++ kt := ht
  have e2 : (oh x0 ++ kh).map ((fun k => (k, hl st.h k)) ∘ (·.1)) = oh x0 ++ kh := hh
  rw [e1, e2] at this
  exact this

/-- an empty list that nobody has made yet is a block of one's own -/
theorem aw_nil {c : ACode} (n : Nat) (e : TypeId) (sz : Nat) (hn : st.get n = .lit (.slice none 0 0)) (h : AW P C c Q ⟨(n, .own st.nx) :: st.t, (st.nx, some ⟨true, false, e, sz, []⟩) :: st.h, st.nx + 1⟩) : AW P C c Q st := by
  refine aw_weak (fun E a w R => ?_) h
  have hid : ¬ E.live st.nx := fun hl => absurd (R.nx _ hl) (Nat.lt_irrefl _)
  have hl0 := newE_live (V := .slice none 0 0) (sz := sz) hid
  have hval : (newE E st.nx (.slice none 0 0) sz).val st.nx = .slice none 0 0 := by simp [newE]
  have hsz : (newE E st.nx (.slice none 0 0) sz).sz st.nx = sz := by simp [newE]
  have hne : ∀ k, E.live k → k ≠ st.nx := fun k hk e => hid (e ▸ hk)
  have hlv : ∀ k, (newE E st.nx (.slice none 0 0) sz).live k → k ≠ st.nx → E.live k := fun k hk h => by
    rcases hk with hk | hk
    · exact hk
    · exact absurd hk h
  refine ⟨newE E st.nx (.slice none 0 0) sz, R.defers, R.size, fun k => ?_, ⟨?_, ?_, ?_, R.heap.lt⟩, ?_, ?_, ?_, R.imx, R.imn, R.frm⟩
  · by_cases hk : k = n
    · subst hk
      have h1 : a.tmps.getD k undef = .slice none 0 0 := by have := R.tm k; rw [hn] at this; exact this
      have e1 : St.get ⟨(k, .own st.nx) :: st.t, (st.nx, some ⟨true, false, e, sz, []⟩) :: st.h, st.nx + 1⟩ k = .own st.nx := getT_same st.t k _
      rw [h1, e1]
      exact ⟨.inr rfl, rfl, hval.symm⟩
    · have e1 : St.get ⟨(n, .own st.nx) :: st.t, (st.nx, some ⟨true, false, e, sz, []⟩) :: st.h, st.nx + 1⟩ k = st.get k := getT_ne st.t (some n) _ k (by simpa using fun h => hk h.symm)
      rw [e1]
      exact Rd.mono hl0 (fun b hb => hb) (fun b _ => rfl) _ _ (R.tm k)
  · intro k o hk ho
    rcases hl_new ho with ⟨rfl, e1⟩ | ⟨hkn, e1⟩
    · simp only [Option.some.injEq] at e1
      subst e1
      refine ⟨hsz, [], none, 0, hval, ?_, rfl, (fun u hu => by cases hu), Nat.zero_le _⟩
      rw [hval]
      exact ⟨by simp, .inl ⟨rfl, rfl⟩⟩
    · have hlk := hlv k hk hkn
      obtain ⟨k1, k2, k3⟩ := hl0 k hlk
      exact (R.heap.ob k o hlk e1).mono ⟨k2, k3⟩ hl0 (fun b hb => hb) (fun b _ => rfl) (fun b _ => rfl)
  · intro k k' o o' b hk hk' ho ho' hb hb'
    by_cases h1 : k = st.nx
    · subst h1; rw [hval] at hb; cases hb
    by_cases h2 : k' = st.nx
    · subst h2; rw [hval] at hb'; cases hb'
    have l1 := hlv k hk h1
    have l2 := hlv k' hk' h2
    rw [(hl0 k l1).2.1] at hb
    rw [(hl0 k' l2).2.1] at hb'
    rcases hl_new ho with ⟨e1, _⟩ | ⟨_, e1⟩
    · exact absurd e1 h1
    rcases hl_new ho' with ⟨e2, _⟩ | ⟨_, e2⟩
    · exact absurd e2 h2
    exact R.heap.apart k k' o o' b l1 l2 e1 e2 hb hb'
  · intro k o b hk ho hb
    by_cases h1 : k = st.nx
    · subst h1; rw [hval] at hb; cases hb
    have l1 := hlv k hk h1
    rw [(hl0 k l1).2.1] at hb
    rcases hl_new ho with ⟨e1, _⟩ | ⟨_, e1⟩
    · exact absurd e1 h1
    exact R.heap.im k o b l1 e1 hb
  · intro k hk
    by_cases h1 : k = st.nx
    · subst h1; exact Nat.lt_succ_self _
    · exact Nat.lt_succ_of_lt (R.nx k (hlv k hk h1))
  · intro k o b hk ho hb
    by_cases h1 : k = st.nx
    · subst h1; rw [hval] at hb; cases hb
    have l1 := hlv k hk h1
    rw [(hl0 k l1).2.1] at hb
    rcases hl_new ho with ⟨e1, _⟩ | ⟨_, e1⟩
    · exact absurd e1 h1
    exact R.own k o b l1 e1 hb
  · intro k hk
    obtain ⟨k1, k2, k3⟩ := R.ext k hk
    obtain ⟨j1, j2, j3⟩ := hl0 k k1
    exact ⟨j1, by rw [j2]; exact k2, by rw [j3]; exact k3⟩
end
end Go.Proofs.Ytkgnnnehmnoleaa
