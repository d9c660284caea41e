/- card.Copy, card.Means and the reference's, OverParts: told. -/
import Derived.Test.YtlppecefalblmaaGreatDoorFz05
import Derived.Test.YtlppecefalblmaaGreatDoorZtCdRefC
import Derived.Test.YtlppecefalblmaaGreatDoorZtCdRow
import Derived.Test.YtlppecefalblmaaGreatDoorZtCdApart
namespace Go.Proofs.Cards
set_option maxRecDepth 100000
set_option maxHeartbeats 32000000
open Go Go.Fs
set_option linter.unusedSimpArgs false
set_option linter.unusedVariables false
variable {orc : Orc}
def cf10 : CF := ⟨8, [(.cell 2 (some 9))], (.seq (.region [Zo 1 (.box (.t 0)), Zo 2 (.alloc [(.str []), (.int .u8 0), (.int .u8 0), (.int .i64 0), (.int .i64 0), (.int .i64 0), (.int .u16 0), (.bool false), (.slice none 0 (.exact 0))])]) (.seq (.region [Zf 3 8 1, Zl 4 3, Zo 5 (.append 8 40 (.c (.slice none 0 (.exact 0))) (.t 4)), Zf 6 8 1, Zn (.store 1 (.t 6) (.t 5))]) (.seq (.region [Zo 7 (.load (some 9) (.t 1)), Zn (.store 9 (.t 2) (.t 7))]) .ret)))⟩
def cf11 : CF := ⟨6, [(.tmp 2)], (.seq (.region [Zo 1 (.box (.t 0)), Zo 2 (.mv (.c (.bool false)))]) (.seq (.region [Zf 3 8 1, Zl 4 3, Zo 5 (.call (.f 45) [(.t 4), (.f 46)]), Zm 2 5]) .ret))⟩
def cf46 : CF := ⟨11, [(.tmp 2)], (.seq (.region [Zo 1 (.box (.t 0)), Zo 2 (.mv (.c (.bool false)))]) (.seq (.region [Zf 3 0 1, Zl 4 3, Zb 5 .eql (.t 4) (.c (.int .u8 1)), Zm 6 5, Zg 7 (.faddr 2 (.t 1)) 6 true, Zg 8 (.load none (.t 7)) 6 true, Zg 9 (.bin .eql .other (.t 8) (.c (.int .u8 3))) 6 true, Zo 10 (.pick (.t 6) (.t 9) (.c (.bool false))), Zm 2 10]) .ret))⟩
def cf45 : CF := ⟨9, [(.tmp 4)], (.seq (.region [Zo 4 (.mv (.c (.bool false)))]) (.seq (.region [Zm 5 0, Zm 6 1, Zo 7 (.call (.f 103) [(.t 5), (.t 6)]), Zb 8 .geq (.t 7) (.c (.int .i64 0)), Zm 4 8]) .ret))⟩
def cf103 : CF := ⟨19, [(.tmp 4)], (.seq (.region [Zo 4 (.mv (.c (.int .i64 0)))]) (.seq (.seq (.region [Zm 6 0, Zo 7 (.lenV (.t 6)), Zo 8 (.mv (.c (.int .i64 0)))]) (.block 0 (.loop (.seq (.region [Zb 9 .lss (.t 8) (.t 7)]) (.seq (.cond (.t 9) .skip (.exit 0)) (.seq (.block 1 (.seq (.region [Zm 10 8, Zm 5 10]) (.seq (.region [Zm 11 1, Zm 12 0, Zm 13 5, Zo 14 (.iaddrS 8 (.t 12) (.t 13)), Zo 15 (.load (some 8) (.t 14)), Zo 16 (.call (.t 11) [(.t 15)])]) (.cond (.t 16) (.seq (.region [Zm 17 5, Zm 4 17]) .ret) .skip)))) (.region [Zb 18 .add (.t 8) (.c (.int .i64 1)), Zm 8 18]))))))) (.seq (.region [Zo 4 (.mv (.c (.int .i64 (-1))))]) .ret)))⟩
def cf14 : CF := ⟨27, [(.tmp 2)], (.seq (.region [Zo 1 (.box (.t 0)), Zo 2 (.mv (.c (.bool false)))]) (.seq (.seq (.region [Zo 3 (.mv (.c (.int .i64 0)))]) (.block 0 (.loop (.seq (.seq (.region [Zm 4 3, Zf 5 8 1, Zl 6 5, Zo 7 (.lenV (.t 6)), Zb 8 .lss (.t 4) (.t 7)]) (.cond (.t 8) .skip (.exit 0))) (.seq (.block 1 (.seq (.region [Zf 11 8 1, Zl 12 11, Zm 13 3, Zo 14 (.iaddrS 8 (.t 12) (.t 13)), Zf 15 0 14, Zl 16 15, Zb 17 .eql (.t 16) (.c (.int .u8 1)), Zm 18 17, Zg 19 (.faddr 8 (.t 1)) 18 true, Zg 20 (.load none (.t 19)) 18 true, Zg 21 (.mv (.t 3)) 18 true, Zg 22 (.iaddrS 8 (.t 20) (.t 21)) 18 true, Zg 23 (.faddr 2 (.t 22)) 18 true, Zg 24 (.load none (.t 23)) 18 true, Zg 25 (.bin .eql .other (.t 24) (.c (.int .u8 3))) 18 true, Zo 26 (.pick (.t 18) (.t 25) (.c (.bool false)))]) (.cond (.t 26) (.seq (.region [Zo 2 (.mv (.c (.bool true)))]) .ret) .skip))) (.region [Zm 9 3, Zb 10 .add (.t 9) (.c (.int .i64 1)), Zm 3 10])))))) (.seq (.region [Zo 2 (.mv (.c (.bool false)))]) .ret)))⟩
def cf16 : CF := ⟨13, [], (.seq (.region [Zo 2 (.mv (.c (.int .i64 0)))]) (.block 0 (.loop (.seq (.seq (.region [Zm 3 2, Zm 4 0, Zo 5 (.lenV (.t 4)), Zb 6 .lss (.t 3) (.t 5)]) (.cond (.t 6) .skip (.exit 0))) (.seq (.block 1 (.region [Zm 9 0, Zm 10 2, Zo 11 (.build [(.int .u8 0), (.int .u8 0), (.int .u8 0), (.int .i64 0), (.int .u8 0), (.int .u8 0), (.int .u8 0), (.str [])] [(7, (1, (.c (.str [111, 118, 101, 114]))))]), Zo 12 (.iaddrS 8 (.t 9) (.t 10)), Zn (.store 8 (.t 12) (.t 11))])) (.region [Zm 7 2, Zb 8 .add (.t 7) (.c (.int .i64 1)), Zm 2 8]))))))⟩
theorem tbl10 : tbl Tryz.prog 10 = some cf10 := by kernel_rfl
theorem tbl11 : tbl Tryz.prog 11 = some cf11 := by kernel_rfl
theorem tbl46 : tbl Tryz.prog 46 = some cf46 := by kernel_rfl
theorem tbl45 : tbl Tryz.prog 45 = some cf45 := by kernel_rfl
theorem tbl103 : tbl Tryz.prog 103 = some cf103 := by kernel_rfl
theorem tbl14 : tbl Tryz.prog 14 = some cf14 := by kernel_rfl
theorem tbl16 : tbl Tryz.prog 16 = some cf16 := by kernel_rfl
theorem res_card {tm : List AV} {h : AH} {N : Nat} {c : Crd} {v : AV} {ro : Bool} (t2 : tm.getD 2 AV.undef = .ptr (some (N, 0))) (hN : h.get N = some (.cells (c.cells v) ro)) : resAll tm h [CRes.cell 2 (some 9)] = some (.agg (c.cells v)) := by
 have hv : readVar h N 0 (some 9) = some (.agg (c.cells v)) := by
  simp [readVar, readCells, hN, cut, cells_len, cells_take]
 unfold resAll
 simp only [List.mapM_cons, List.mapM_nil, resOne, t2, hv]
 try rfl
theorem ccopy_spec (N : Nat) (ho : orc 10 = none) (c : Crd) (v : AV) (ps : List Prt) {h : AH} (hN : N ≤ h.n) (hp : Parts h v ps) (hl : ps.length * 40 ≤ 140737488355328) :
    ∃ v1 h1, acall orc T 10 [.agg (c.cells v)] h = some (v1, h1) ∧ ∃ v', v1 = .agg (c.cells v') ∧ Ef.Kp N h h1 ∧ Parts h1 v' ps ∧ Own h.n h1 v' ps := by
 refine acall_facts (R := fun v1 h1 => ∃ v', v1 = .agg (c.cells v') ∧ Ef.Kp N h h1 ∧ Parts h1 v' ps ∧ Own h.n h1 v' ps) ho tbl10 ?_
 simp only [Ef.settle_fst1]
 have hp0 := hp
 obtain ⟨a, cap, rfl, hbig, _⟩ := hp
 have bx : ∀ (hh : AH), boxV (.agg (c.cells (.slice a ps.length cap))) hh = some (.ptr (some (hh.n, 0)), hh.push (.cells (c.cells (.slice a ps.length cap)) false)) := fun hh => boxV_agg _ rfl
 obtain ⟨x0, x1, x2, x3, x4, x5, x6, x7, x8⟩ := cells_all c (.slice a ps.length cap)
 have hp2 : Parts (((h.withLow h.n).push (.cells (c.cells (.slice a ps.length cap)) false)).push (.cells (zeroC.cells nilV) false)) (.slice a ps.length cap) ps := hp0.mono (by simp; omega) fun b hb => by rw [Hp.get_push_ne _ _ _ (by simp; omega), Hp.get_push_ne _ _ _ (by simp; omega)]; rfl
 have ha := append_nil hp2 hl
 refine GD ?_
 simp only [show ([AV.str [], AV.int .u8 0, AV.int .u8 0, AV.int .i64 0, AV.int .i64 0, AV.int .i64 0, AV.int .u16 0, AV.bool false, AV.slice none 0 (.exact 0)] : List AV) = zeroC.cells nilV from rfl]
 have y1 : (h.n + 1 = h.n) = False := by simp
 have y2 : (h.n = h.n + 1) = False := by simp
 by_cases hz : ps.length = 0
 · have e : ps = [] := List.eq_nil_of_length_eq_zero hz
   rw [if_pos hz] at ha
   have z5 : (c.cells (.slice none 0 (.exact 0))).all AV.one = true := rfl
   (have fct := Fj @bx (Fj @x8 (Fj @op_append (Fj @ha (Fj @ov_8 (Fj @y1 (Fj @y2 (Fj @z5 (Fj @cells_len (Fj @cells_take @ov_9))))))))); refine GO ?_; clear fct)
   subst e
   refine ⟨.inr rfl, _, res_card rfl (Hp.get_set_self _ _ _), nilV, rfl, Ef.kp_settle (by simp <;> omega) (fun b hb => ?_) (by simp <;> omega), ⟨_, _, rfl, by simp, .inl rfl⟩, .inl ⟨rfl, rfl⟩⟩
   rw [Hp.get_set_ne _ _ _ _ (by omega), Hp.get_set_ne _ _ _ _ (by omega), Hp.get_push_ne _ _ _ (by simp; omega), Hp.get_push_ne _ _ _ (by simp; omega)]; rfl
 · rw [if_neg hz] at ha
   simp only [Hp.n_push, Hp.n_withLow] at ha
   have z5 : ∀ b, (c.cells (.slice (some (b, 0)) ps.length (.opn 8))).all AV.one = true := fun _ => rfl
   have y3 : (h.n = h.n + 1 + 1) = False := by simp; omega
   have y4 : (h.n + 1 = h.n + 1 + 1) = False := by simp
   (have fct := Fj @bx (Fj @x8 (Fj @op_append (Fj @ha (Fj @ov_8 (Fj @y1 (Fj @y2 (Fj @y3 (Fj @y4 (Fj @z5 (Fj @cells_len (Fj @cells_take @ov_9))))))))))); refine GO ?_; clear fct)
   have hun : (AV.agg (c.cells (.slice (some (h.n + 1 + 1, 0)) ps.length (.opn 8)))).under h.n = false := by
    simp [AV.under, AV.unders, Crd.cells]; omega
   refine ⟨.inr rfl, _, res_card rfl (Hp.get_set_self _ _ _), _, rfl, Ef.kp_settle (by simp <;> omega) (fun b hb => ?_) (by simp <;> omega), ?_, ?_⟩
   · rw [Hp.get_set_ne _ _ _ _ (by omega), Hp.get_set_ne _ _ _ _ (by omega), Hp.get_push_ne _ _ _ (by simp; omega), Hp.get_push_ne _ _ _ (by simp; omega), Hp.get_push_ne _ _ _ (by simp; omega)]; rfl
   · rw [settle_new hun]
     refine parts_block (ps := ps) (qs := []) (ro := false) ?_ (by simp) rfl (by omega)
     rw [List.append_nil, Hp.get_withLow, Hp.get_set_ne _ _ _ _ (by omega), Hp.get_set_ne _ _ _ _ (by omega)]
     exact Hp.get_push_self _ _
   · rw [settle_new hun]
     refine .inr ⟨h.n + 1 + 1, by omega, by simp, rfl, ?_, fun e => hz (by rw [e]; rfl)⟩
     rw [Hp.get_withLow, Hp.get_set_ne _ _ _ _ (by omega), Hp.get_set_ne _ _ _ _ (by omega)]
     exact Hp.get_push_self _ _
def meansP (p : Prt) : Bool := p.a == 1 && p.c == 3
def idxM : List Prt → Nat → Int
 | [], _ => -1
 | p :: r, i => if meansP p = true then (i : Int) else idxM r (i + 1)
theorem idxM_any : ∀ (ps : List Prt) (i : Nat), decide (0 ≤ idxM ps i) = ps.any meansP
 | [], _ => rfl
 | p :: r, i => by
   rw [idxM, List.any_cons]
   cases h : meansP p with
   | true => rw [if_pos rfl, Bool.true_or, decide_eq_true_eq]; omega
   | false => rw [if_neg (by decide), Bool.false_or]; exact idxM_any r (i + 1)
theorem idxM_at {ps : List Prt} {i : Nat} {p : Prt} (h : ps[i]? = some p) : idxM (ps.drop i) i = if meansP p = true then (i : Int) else idxM (ps.drop (i + 1)) (i + 1) := by
 obtain ⟨hi, e⟩ := List.getElem?_eq_some_iff.1 h
 rw [List.drop_eq_getElem_cons hi, e, idxM]
theorem meansF_spec (ho : orc 46 = none) (p : Prt) (h : AH) : acall orc T 46 [.agg p.cells] h = some (.bool (meansP p), h) := by
 refine acall_sym ho tbl46 ?_
 have bx : ∀ (hh : AH), boxV (.agg p.cells) hh = some (.ptr (some (hh.n, 0)), hh.push (.cells p.cells false)) := fun hh => boxV_agg _ rfl
 have x0 : p.cells[0]? = some (.int .u8 p.a) := rfl
 have x2 : p.cells[2]? = some (.int .u8 p.c) := rfl
 unfold meansP
 refine GD ?_
 cases h1 : (p.a == 1) with
 | true =>
   (have fct := Fj @bx (Fj @x0 (Fj @x2 @h1)); refine GO ?_; clear fct)
   (have fct := @Bool.true_and; refine A_end ?_; clear fct; try exact trivial)
 | false =>
   (have fct := Fj @bx (Fj @x0 (Fj @x2 @h1)); refine GO ?_; clear fct)
   (have fct := @Bool.false_and; refine A_end ?_; clear fct; try exact trivial)
structure IxI (ps : List Prt) (v : AV) (h0 : AH) (n : Nat) (tm : List AV) (h : AH) : Prop where
 len : tm.length = 19
 t0 : tm.getD 0 AV.undef = v
 t1 : tm.getD 1 AV.undef = .func (.func 46) [] []
 t7 : tm.getD 7 AV.undef = .int .i64 (ps.length : Int)
 hp : h = h0.withLow h0.n
 st : ∃ i : Nat, n = ps.length - i ∧ i ≤ ps.length ∧ tm.getD 8 AV.undef = .int .i64 (i : Int) ∧ idxM ps 0 = idxM (ps.drop i) i
theorem indexF_spec (ho : orc 103 = none) (ho1 : orc 46 = none) (v : AV) (ps : List Prt) (h : AH) (hp : Parts h v ps) : acall orc T 103 [v, .func (.func 46) [] []] h = some (.int .i64 (idxM ps 0), h) := by
 have hp0 := hp
 obtain ⟨a, cap, rfl, hbig, _⟩ := hp
 refine acall_sym ho tbl103 ?_
 refine GD ?_
 (have fct := @op_mv; refine GO ?_; clear fct)
 refine CodeK_loop (IxI ps (.slice a ps.length cap) h) ps.length ?_ ?_
 · exact ⟨rfl, rfl, rfl, rfl, rfl, 0, rfl, by omega, rfl, rfl⟩
 intro n tm H I
 obtain ⟨i, hn, hi, e8, hx⟩ := I.st
 have el := I.len
 have e0 := I.t0
 have e1 := I.t1
 have e7 := I.t7
 obtain rfl := I.hp
 clear I
 by_cases hlt : i < ps.length
 case neg =>
  obtain rfl : i = ps.length := by omega
  have l1 : decide ((ps.length : Int) < (ps.length : Int)) = false := by rw [decide_eq_false_iff_not]; omega
  rw [List.drop_length] at hx
  rw [hx]
  (have fct := Fj @el (Fj @e0 (Fj @e1 (Fj @e7 (Fj @e8 @l1)))); refine GO ?_; clear fct)
  (have fct := @el; refine A_end ?_; clear fct; try exact trivial)
  rfl
 case pos =>
 have l1 : decide ((i : Int) < (ps.length : Int)) = true := by rw [decide_eq_true_eq]; omega
 obtain ⟨p, hpi⟩ : ∃ p, ps[i]? = some p := ⟨_, List.getElem?_eq_getElem hlt⟩
 obtain ⟨b, o, cells, ro, c', ev, hb, hg, hc⟩ := parts_get hp0 hpi
 cases ev
 have hg' : (h.withLow h.n).get b = some (.cells cells ro) := hg
 have a1 := fun (hh : AH) => iaddrV_nat (h := hh) (esz := 8) (b := b) (o := o) (c := cap) (k := .i64) hlt
 have w1 : IntKind.wrap .i64 ((i : Int) + 1) = ((i + 1 : Nat) : Int) := by rw [wrap_i64 (by omega) (by omega)]; omega
 have hc1 : (o + (i * 8 + 8) ≤ cells.length) = True := by have := (cut_parts hc).1; simp; omega
 have hc2 := (cut_parts hc).2
 have cM := meansF_spec (orc := orc) ho1 p
 rw [idxM_at hpi] at hx
 cases hq : meansP p with
 | true =>
   rw [hq, if_pos rfl] at hx
   rw [hx]
   rw [hq] at cM
   have cV : ∀ (hh : AH), callV (acall orc T) (.func (.func 46) [] []) [.agg p.cells] hh = _ := fun hh => cM hh
   (have fct := Fj @el (Fj @e0 (Fj @e1 (Fj @e7 (Fj @e8 (Fj @l1 (Fj @a1 (Fj @hg' (Fj @hc1 (Fj @hc2 (Fj @cV @op_callV)))))))))); refine GO ?_; clear fct)
   (have fct := @el; refine A_end ?_; clear fct; try exact trivial)
 | false =>
   rw [hq, if_neg (by decide)] at hx
   rw [hq] at cM
   have cV : ∀ (hh : AH), callV (acall orc T) (.func (.func 46) [] []) [.agg p.cells] hh = _ := fun hh => cM hh
   (have fct := Fj @el (Fj @e0 (Fj @e1 (Fj @e7 (Fj @e8 (Fj @l1 (Fj @a1 (Fj @hg' (Fj @hc1 (Fj @hc2 (Fj @cV (Fj @w1 @op_callV))))))))))); refine GO ?_; clear fct)
   exact ⟨ps.length - (i + 1), by omega, by simp only [List.length_set, el], by simp only [fsTm, Nat.reduceBEq, Nat.reduceLT, el, e0], by simp only [fsTm, Nat.reduceBEq, Nat.reduceLT, el, e1], by simp only [fsTm, Nat.reduceBEq, Nat.reduceLT, el, e7], rfl, i + 1, rfl, by omega, by simp only [fsTm, Nat.reduceBEq, Nat.reduceLT, el], hx⟩
theorem contains_spec (ho : orc 45 = none) (ho2 : orc 103 = none) (ho1 : orc 46 = none) (v : AV) (ps : List Prt) (h : AH) (hp : Parts h v ps) : acall orc T 45 [v, .func (.func 46) [] []] h = some (.bool (ps.any meansP), h) := by
 have c1 := indexF_spec (orc := orc) ho2 ho1 v ps (h.withLow h.n) (hp.mono (Nat.le_refl _) fun _ _ => rfl)
 obtain ⟨a, cap, rfl, _⟩ := hp
 refine acall_sym ho tbl45 ?_
 have e := idxM_any ps 0
 rw [← e]
 refine GD ?_
 (have fct := @c1; refine GO ?_; clear fct)
 (have fct := trivial; refine A_end ?_; clear fct; try exact trivial)
theorem means_spec (ho : ∀ f, f ∈ [11, 45, 103, 46] → orc f = none) (c : Crd) (v : AV) (ps : List Prt) (h : AH) (hp : Parts h v ps) : acall orc T 11 [.agg (c.cells v)] h = some (.bool (ps.any meansP), h) := by
 have hp0 := hp
 obtain ⟨a, cap, rfl, hbig, _⟩ := hp
 have bx : ∀ (hh : AH), boxV (.agg (c.cells (.slice a ps.length cap))) hh = some (.ptr (some (hh.n, 0)), hh.push (.cells (c.cells (.slice a ps.length cap)) false)) := fun hh => boxV_agg _ rfl
 obtain ⟨x0, x1, x2, x3, x4, x5, x6, x7, x8⟩ := cells_all c (.slice a ps.length cap)
 have hpN : Parts ((h.withLow h.n).push (.cells (c.cells (.slice a ps.length cap)) false)) (.slice a ps.length cap) ps := hp0.mono (by simp) fun b hb => by rw [Hp.get_push_ne _ _ _ (by simp; omega)]; rfl
 have c1 := contains_spec (orc := orc) (ho _ (by simp)) (ho _ (by simp)) (ho _ (by simp)) _ ps _ hpN
 refine acall_sym (ho _ (by simp)) tbl11 ?_
 refine GD ?_
 (have fct := Fj @bx (Fj @x8 @c1); refine GO ?_; clear fct)
 (have fct := trivial; refine A_end ?_; clear fct; try exact trivial)
structure RmI (c : Crd) (ps : List Prt) (v : AV) (h0 : AH) (n : Nat) (tm : List AV) (h : AH) : Prop where
 len : tm.length = 27
 t1 : tm.getD 1 AV.undef = .ptr (some (h0.n, 0))
 hp : h = (h0.withLow h0.n).push (.cells (c.cells v) false)
 st : ∃ i : Nat, n = ps.length - i ∧ i ≤ ps.length ∧ tm.getD 3 AV.undef = .int .i64 (i : Int) ∧ ps.any meansP = (ps.drop i).any meansP
theorem rmeans_spec (ho : orc 14 = none) (c : Crd) (v : AV) (ps : List Prt) (h : AH) (hp : Parts h v ps) : acall orc T 14 [.agg (c.cells v)] h = some (.bool (ps.any meansP), h) := by
 have hp0 := hp
 obtain ⟨a, cap, rfl, hbig, _⟩ := hp
 have bx : ∀ (hh : AH), boxV (.agg (c.cells (.slice a ps.length cap))) hh = some (.ptr (some (hh.n, 0)), hh.push (.cells (c.cells (.slice a ps.length cap)) false)) := fun hh => boxV_agg _ rfl
 obtain ⟨x0, x1, x2, x3, x4, x5, x6, x7, x8⟩ := cells_all c (.slice a ps.length cap)
 refine acall_sym ho tbl14 ?_
 refine GD ?_
 (have fct := @bx; refine GO ?_; clear fct)
 refine CodeK_loop (RmI c ps (.slice a ps.length cap) h) ps.length ?_ ?_
 · exact ⟨rfl, rfl, rfl, 0, rfl, by omega, rfl, rfl⟩
 clear bx
 intro n tm H I
 obtain ⟨i, hn, hi, e3, hx⟩ := I.st
 have el := I.len
 have t1 := I.t1
 obtain rfl := I.hp
 clear I
 by_cases hlt : i < ps.length
 case neg =>
  obtain rfl : i = ps.length := by omega
  have l1 : decide ((ps.length : Int) < (ps.length : Int)) = false := by rw [decide_eq_false_iff_not]; omega
  rw [List.drop_length] at hx
  rw [hx]
  (have fct := Fj @el (Fj @t1 (Fj @e3 (Fj @l1 @x8))); refine GO ?_; clear fct)
  (have fct := @el; refine A_end ?_; clear fct; try exact trivial)
  all_goals rfl
 case pos =>
 have l1 : decide ((i : Int) < (ps.length : Int)) = true := by rw [decide_eq_true_eq]; omega
 obtain ⟨p, hpi⟩ : ∃ p, ps[i]? = some p := ⟨_, List.getElem?_eq_getElem hlt⟩
 obtain ⟨b, o, cells, ro, c', ev, hb, hg, hc⟩ := parts_get hp0 hpi
 cases ev
 have hg' : ∀ blk : Blk, ((h.withLow h.n).push blk).get b = some (.cells cells ro) := fun blk => by rw [Hp.get_push_ne _ _ _ (by simp; omega)]; exact hg
 have a1 := fun (hh : AH) => iaddrV_nat (h := hh) (esz := 8) (b := b) (o := o) (c := cap) (k := .i64) hlt
 have w1 : IntKind.wrap .i64 ((i : Int) + 1) = ((i + 1 : Nat) : Int) := by rw [wrap_i64 (by omega) (by omega)]; omega
 have y2 : (b = h.n) = False := by simp; omega
 have hc2 := (cut_parts hc).2
 have hc3 : cells[o + i * 8]? = some (.int .u8 p.a) := by
  have e := congrArg (·[0]?) hc2
  simpa [List.getElem?_take, List.getElem?_drop, Prt.cells] using e
 have hc4 : cells[o + (i * 8 + 2)]? = some (.int .u8 p.c) := by
  have e := congrArg (·[2]?) hc2
  simpa [List.getElem?_take, List.getElem?_drop, Prt.cells, Nat.add_assoc] using e
 have hd : (ps.drop i).any meansP = (meansP p || (ps.drop (i + 1)).any meansP) := by
  obtain ⟨hi', e⟩ := List.getElem?_eq_some_iff.1 hpi
  rw [List.drop_eq_getElem_cons hi', e, List.any_cons]
 rw [hd] at hx
 cases hA : (p.a == 1) with
 | true =>
   cases hB : (p.c == 3) with
   | true =>
     rw [show meansP p = true by unfold meansP; rw [hA, hB]; rfl, Bool.true_or] at hx
     rw [hx]
     (have fct := Fj @el (Fj @t1 (Fj @e3 (Fj @l1 (Fj @x8 (Fj @a1 (Fj @hg' (Fj @hc3 (Fj @hc4 (Fj @y2 (Fj @hA @hB)))))))))); refine GO ?_; clear fct)
     (have fct := @el; refine A_end ?_; clear fct; try exact trivial)
   | false =>
     rw [show meansP p = false by unfold meansP; rw [hA, hB]; rfl, Bool.false_or] at hx
     (have fct := Fj @el (Fj @t1 (Fj @e3 (Fj @l1 (Fj @x8 (Fj @a1 (Fj @hg' (Fj @hc3 (Fj @hc4 (Fj @y2 (Fj @hA (Fj @hB @w1))))))))))); refine GO ?_; clear fct)
     exact ⟨ps.length - (i + 1), by omega, by simp only [List.length_set, el], by simp only [fsTm, Nat.reduceBEq, Nat.reduceLT, el, t1], rfl, i + 1, rfl, by omega, by simp only [fsTm, Nat.reduceBEq, Nat.reduceLT, el], hx⟩
 | false =>
   rw [show meansP p = false by unfold meansP; rw [hA]; rfl, Bool.false_or] at hx
   (have fct := Fj @el (Fj @t1 (Fj @e3 (Fj @l1 (Fj @x8 (Fj @a1 (Fj @hg' (Fj @hc3 (Fj @hc4 (Fj @y2 (Fj @hA @w1)))))))))); refine GO ?_; clear fct)
   exact ⟨ps.length - (i + 1), by omega, by simp only [List.length_set, el], by simp only [fsTm, Nat.reduceBEq, Nat.reduceLT, el, t1], rfl, i + 1, rfl, by omega, by simp only [fsTm, Nat.reduceBEq, Nat.reduceLT, el], hx⟩
def ovP : List AV := [.int .u8 0, .int .u8 0, .int .u8 0, .int .i64 0, .int .u8 0, .int .u8 0, .int .u8 0, .str [111, 118, 101, 114]]
structure OvI (b m : Nat) (h0 : AH) (k : Nat) (tm : List AV) (h : AH) : Prop where
 len : tm.length = 13
 t0 : tm.getD 0 AV.undef = .slice (some (b, 0)) m (.exact m)
 row : ∃ cs, h.get b = some (.cells cs false) ∧ cs.length = m * 8
 old : ∀ b', b' ≠ b → h.get b' = h0.get b'
 nn : h.n = h0.n
 low : min h0.n b ≤ h.low
 st : ∃ i : Nat, k = m - i ∧ i ≤ m ∧ tm.getD 2 AV.undef = .int .i64 (i : Int)
theorem over_spec (ho : orc 16 = none) {b n : Nat} {cs : List AV} {h : AH} (hg : h.get b = some (.cells cs false)) (hl : cs.length = n * 8) (hb : b < h.n) (hn : n ≤ 1152921504606846976) :
    ∃ v1 h1, acall orc T 16 [.slice (some (b, 0)) n (.exact n)] h = some (v1, h1) ∧ h1.n = h.n ∧ (∀ b', b' ≠ b → h1.get b' = h.get b') ∧ (∃ cs', h1.get b = some (.cells cs' false) ∧ cs'.length = n * 8) ∧ min h.low b ≤ h1.low := by
 refine acall_facts (R := fun v1 h1 => h1.n = h.n ∧ (∀ b', b' ≠ b → h1.get b' = h.get b') ∧ (∃ cs', h1.get b = some (.cells cs' false) ∧ cs'.length = n * 8) ∧ min h.low b ≤ h1.low) ho tbl16 ?_
 refine GD ?_
 (have fct := @op_mv; refine GO ?_; clear fct)
 refine CodeK_loop (OvI b n h) n ?_ ?_
 · exact ⟨rfl, rfl, ⟨cs, hg, hl⟩, fun _ _ => rfl, rfl, by simp; omega, 0, rfl, by omega, rfl⟩
 intro k tm H I
 obtain ⟨i, hk, hi, e2⟩ := I.st
 obtain ⟨cs1, hg1, hl1⟩ := I.row
 have el := I.len
 have e0 := I.t0
 by_cases hlt : i < n
 case pos =>
  have l1 : decide ((i : Int) < (n : Int)) = true := by rw [decide_eq_true_eq]; omega
  have a1 := fun (hh : AH) => iaddrV_nat (h := hh) (esz := 8) (b := b) (o := 0) (c := .exact n) (k := .i64) hlt
  have w1 : IntKind.wrap .i64 ((i : Int) + 1) = ((i + 1 : Nat) : Int) := by rw [wrap_i64 (by omega) (by omega)]; omega
  have k3 : (i * 8 + 8 ≤ cs1.length) = True := by simp; omega
  have o7 : Fs.over [.int .u8 0, .int .u8 0, .int .u8 0, .int .i64 0, .int .u8 0, .int .u8 0, .int .u8 0, .str []] 7 [.str [111, 118, 101, 114]] = ovP := rfl
  have z2 : ovP.length = 8 := rfl
  have z3 : ovP.all AV.one = true := rfl
  (have fct := Fj @el (Fj @e0 (Fj @e2 (Fj @l1 (Fj @a1 (Fj @hg1 (Fj @k3 (Fj @o7 (Fj @z2 (Fj @z3 (Fj @w1 @Nat.zero_add)))))))))); refine GO ?_; clear fct)
  refine ⟨n - (i + 1), by omega, by simp only [List.length_set, el], by simp only [fsTm, Nat.reduceBEq, Nat.reduceLT, el, e0], ⟨_, Hp.get_set_self _ _ _, by rw [length_over (by rw [z2]; omega)]; exact hl1⟩, fun b' hb' => by rw [Hp.get_set_ne _ _ _ _ hb']; exact I.old b' hb', I.nn, by have := I.low; simp; omega, i + 1, rfl, by omega, by simp only [fsTm, Nat.reduceBEq, Nat.reduceLT, el]⟩
 case neg =>
  obtain rfl : i = n := by omega
  have l1 : decide ((i : Int) < (i : Int)) = false := by rw [decide_eq_false_iff_not]; omega
  (have fct := Fj @el (Fj @e0 (Fj @e2 @l1)); refine GO ?_; clear fct)
  refine ⟨.inl rfl, _, rfl, ?_⟩
  unfold Fs.settle
  split
  · exact ⟨rfl, fun _ _ => rfl, ⟨cs, hg, hl⟩, by simp only; omega⟩
  · refine ⟨I.nn, fun b' hb' => by simp only [Hp.get_withLow]; exact I.old b' hb', ⟨cs1, by simp only [Hp.get_withLow]; exact hg1, hl1⟩, ?_⟩
    have := I.low
    simp only [Hp.low_withLow]; omega
end Go.Proofs.Cards
