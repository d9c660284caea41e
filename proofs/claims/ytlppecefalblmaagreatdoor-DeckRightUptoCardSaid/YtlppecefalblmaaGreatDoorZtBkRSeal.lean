/- The reference's book, sealed. -/
import Derived.Test.YtlppecefalblmaaGreatDoorFz05
import Derived.Test.YtlppecefalblmaaGreatDoorZtBkSeal
namespace Go.Proofs.Cards
set_option maxRecDepth 100000
set_option maxHeartbeats 32000000
open Go Go.Fs
set_option linter.unusedSimpArgs false
set_option linter.unusedVariables false
variable {orc : Orc}
theorem row_cell {α : Type} {f : α → List AV} {k : Nat} (hk : ∀ a, (f a).length = k) {l : List α} {i j : Nat} {a : α} (h : l[i]? = some a) (hj : j < k) : (l.flatMap f)[i * k + j]? = (f a)[j]? := by
 have := rows_cell (pre := []) (post := []) hk h hj
 simpa using this
structure RoI (h : AH) (pb : Nat) (ds : List Cd) (n : Nat) (tm : List AV) (H : AH) : Prop where
 len : tm.length = 67
 t0 : tm.getD 0 AV.undef = .ptr (some (pb, 0))
 hn : h.n ≤ H.n
 old : ∀ b, b < h.n → H.get b = h.get b
 low : h.n ≤ H.low
 st : ∃ i : Nat, n = ds.length - i ∧ i ≤ ds.length ∧ tm.getD 3 AV.undef = .int .i64 (i : Int) ∧ sealE ds = firstZ ((ds.drop i).map (cardSE ds))
structure RiI (h : AH) (pb : Nat) (ds : List Cd) (i : Nat) (ps : List Prt) (n : Nat) (tm : List AV) (H : AH) : Prop where
 len : tm.length = 67
 t0 : tm.getD 0 AV.undef = .ptr (some (pb, 0))
 t3 : tm.getD 3 AV.undef = .int .i64 (i : Int)
 hn : h.n ≤ H.n
 old : ∀ b, b < h.n → H.get b = h.get b
 low : h.n ≤ H.low
 st : ∃ j : Nat, n = ps.length - j ∧ j ≤ ps.length ∧ tm.getD 4 AV.undef = .int .i64 (j : Int) ∧ firstZ (ps.map (callE ds)) = firstZ ((ps.drop j).map (callE ds))
theorem rseal_spec (ho : orc 67 = none) {pb N : Nat} {xs : List Cv} {lv : AV} {ms : List Mrk} {ds : List Cd} {h : AH} (hb : h.get pb = some (.cells (rbC false lv ms) false)) (hpb : pb < h.n) (hl : xs.length ≤ 64) (hr : RowW Cv.cells 9 (pb + 1) h lv xs) (hA : Ares N h xs ds)
    (hS : ∀ (H : AH) (cs : List AV), H.get pb = some (.cells cs false) → cs[0]? = some (.bool true) → acall orc T 120 [.ptr (some (pb, 0))] H = some (.bool false, H))
    (hP : ∀ (s : List UInt8) (H : AH), H.get pb = some (.cells (rbC false lv ms) false) → RowW Cv.cells 9 (pb + 1) H lv xs → acall orc T 121 [.ptr (some (pb, 0)), .str s] H = some (.int .i64 (plc (nms ds) s 0), H)) :
    ∃ v1 h1, acall orc T 67 [.ptr (some (pb, 0))] h = some (v1, h1) ∧ v1 = .int .i64 (sealE ds) ∧ (sealE ds ≠ 0 → h1 = h) ∧
     (sealE ds = 0 → h1.get pb = some (.cells (rbC true lv ms) false)) ∧ h.n ≤ h1.n ∧ (∀ b, b < h.n → b ≠ pb → h1.get b = h.get b) ∧ (∀ N, N ≤ pb → N ≤ h.low → N ≤ h1.low) := by
 refine acall_facts (R := fun v1 h1 => v1 = .int .i64 (sealE ds) ∧ (sealE ds ≠ 0 → h1 = h) ∧
     (sealE ds = 0 → h1.get pb = some (.cells (rbC true lv ms) false)) ∧ h.n ≤ h1.n ∧ (∀ b, b < h.n → b ≠ pb → h1.get b = h.get b) ∧ (∀ N, N ≤ pb → N ≤ h.low → N ≤ h1.low)) ho tbl67 ?_
 simp only [Ef.settle_fst1]
 have f1 := hS (h.withLow h.n) _ hb (rb_0 _ _ _)
 have k1 := rb_1 false lv ms
 have k2 := rb_2 false lv ms
 have hxd := hA.1
 obtain ⟨la, lcap, hlv⟩ := Go.Fs.RowW.lenV hr
 have lvL : ∀ hh, lenV lv hh = some (.int .i64 (ds.length : Int), hh) := fun hh => by rw [hlv, ← hxd]; rfl
 have stay : ∀ (H : AH) (e : Int), h.n ≤ H.low → Fs.settle h H (.int .i64 e) = (.int .i64 e, h) := fun H e hh => settle_keep hh rfl
 refine GD ?_
 have done : ∀ e : Int, sealE ds = e → e ≠ 0 → ∀ H : AH, h.n ≤ H.low → (AV.int .i64 e = .int .i64 (sealE ds) ∧ (sealE ds ≠ 0 → (Fs.settle h H (.int .i64 e)).2 = h) ∧
     (sealE ds = 0 → (Fs.settle h H (.int .i64 e)).2.get pb = some (.cells (rbC true lv ms) false)) ∧ h.n ≤ (Fs.settle h H (.int .i64 e)).2.n ∧ (∀ b, b < h.n → b ≠ pb → (Fs.settle h H (.int .i64 e)).2.get b = h.get b) ∧ (∀ N, N ≤ pb → N ≤ h.low → N ≤ (Fs.settle h H (.int .i64 e)).2.low)) := fun e e1 e2 H hh => by
  rw [stay H e hh]
  exact ⟨by rw [e1], fun _ => rfl, fun q => absurd (e1.symm.trans q) e2, Nat.le_refl _, fun _ _ _ => rfl, fun _ _ hN => hN⟩
 (have fct := Fj @f1 (Fj @hb (Fj @k1 (Fj @k2 (Fj @op_nilchk @nilcV_ptr)))); refine GOD ?_; clear fct)
 refine CodeK_loop (RoI h pb ds) ds.length ?_ ?_
 · exact ⟨rfl, rfl, by simp, fun _ _ => rfl, by simp, 0, rfl, by omega, rfl, rfl⟩
 clear f1
 intro n tm H I
 obtain ⟨i, hni, hi, e3, hse⟩ := I.st
 have el := I.len
 have e0 := I.t0
 have Hn := I.hn
 have old := I.old
 have lo := I.low
 clear I
 by_cases hlt : i < ds.length
 case neg =>
  obtain rfl : i = ds.length := by omega
  have l1 : decide ((ds.length : Int) < (ds.length : Int)) = false := by rw [decide_eq_false_iff_not]; omega
  rw [List.drop_length] at hse
  have e2 : sealE ds = 0 := hse
  have pbH := (old pb hpb).trans hb
  have o1 := rb_seal false true lv ms
  have l9 : (1 < (rbC false lv ms).length) = True := by rw [rb_len]; simp; omega
  have l8 : (2 ≤ (rbC false lv ms).length) = True := by rw [rb_len]; simp; omega
  (have fct := Fj @el (Fj @e0 (Fj @e3 (Fj @l1 (Fj @lvL (Fj @pbH (Fj @k2 (Fj @o1 (Fj @l9 (Fj @l8 (Fj @op_nilchk @nilcV_ptr)))))))))); refine GOD ?_; clear fct)
  refine ⟨.inr rfl, .int .i64 0, by simp [resAll, resOne, el], ?_⟩
  have hst2 : ∀ cs : List AV, Fs.settle h (H.set pb (.cells cs false)) (.int .i64 0) = (.int .i64 0, (H.set pb (.cells cs false)).withLow (min h.low (min H.low pb))) := fun cs => by
   unfold Fs.settle
   rw [if_neg (fun hh => by have := hh.1; simp at this; omega)]
   rfl
  rw [hst2]
  refine ⟨by rw [e2], fun hh => absurd e2 hh, fun _ => Hp.get_set_self _ _ _, by simp; omega, fun b hb hne => ?_, fun N hN1 hN2 => by simp; omega⟩
  rw [Hp.get_withLow, Hp.get_set_ne _ _ _ _ hne, old b hb]
 case pos =>
 have l1 : decide ((i : Int) < (ds.length : Int)) = true := by rw [decide_eq_true_eq]; omega
 obtain ⟨x, hx⟩ : ∃ x, xs[i]? = some x := ⟨_, List.getElem?_eq_getElem (by omega)⟩
 obtain ⟨d, hd, hxc, hown, hprt⟩ := hA.ext hx
 obtain ⟨rb, hlv2, hrb1, hrb2, hrg⟩ := RowW.read hr hx
 have pbH := (old pb hpb).trans hb
 rw [firstZ_at hd] at hse
 (have fct := Fj @el (Fj @e0 (Fj @e3 (Fj @l1 (Fj @lvL (Fj @pbH (Fj @k2 (Fj @op_nilchk @nilcV_ptr))))))); refine GOD ?_; clear fct)
 refine CodeK_loop (RiI h pb ds i d.2) d.2.length ?_ ?_
 · exact ⟨by simp only [List.length_set, el], by simp only [fsTm, Nat.reduceBEq, Nat.reduceLT, el, e0], by simp only [fsTm, Nat.reduceBEq, Nat.reduceLT, el, e3], Hn, old, lo, 0, rfl, by omega, by simp only [fsTm, Nat.reduceBEq, Nat.reduceLT, el]; rfl, rfl⟩
 clear el e0 e3 Hn old lo pbH tm H
 intro n2 tm H I
 obtain ⟨j, hnj, hj, e4, hce⟩ := I.st
 have el := I.len
 have e0 := I.t0
 have e3 := I.t3
 have Hn := I.hn
 have old := I.old
 have lo := I.low
 clear I
 have hdl := (hA.2 i x d hx hd).2.2
 have pbH := (old pb hpb).trans hb
 have hrH := (old rb hrb2).trans hrg
 rw [hxd] at hlv2
 have a1 := fun (hh : AH) => iaddrV_nat (h := hh) (esz := 9) (b := rb) (o := 0) (c := .opn 9) (k := .i64) hlt
 have c8 : (xs.flatMap Cv.cells)[i * 9 + 8]? = some x.sl := row_cell cv_len hx (by decide)
 obtain ⟨xa, xcap, hsl⟩ := hown.slice
 have lv2 : ∀ hh, lenV x.sl hh = some (.int .i64 (d.2.length : Int), hh) := fun hh => by rw [hsl]; rfl
 rw [hlv2] at k2
 by_cases hltj : j < d.2.length
 case neg =>
  obtain rfl : j = d.2.length := by omega
  have l2 : decide ((d.2.length : Int) < (d.2.length : Int)) = false := by rw [decide_eq_false_iff_not]; omega
  rw [List.drop_length] at hce
  have hc0 : cardSE ds d = 0 := hce
  rw [if_neg (by simpa using hc0)] at hse
  have w1 : IntKind.wrap .i64 ((i : Int) + 1) = ((i + 1 : Nat) : Int) := by rw [wrap_i64 (by omega) (by omega)]; omega
  rw [← hlv2] at k2
  rw [hlv2] at k2 pbH
  (have fct := Fj @el (Fj @e0 (Fj @e3 (Fj @e4 (Fj @l2 (Fj @w1 (Fj @pbH (Fj @hrH (Fj @k2 (Fj @a1 (Fj @c8 (Fj @lv2 (Fj @Nat.zero_add (Fj @op_nilchk @nilcV_ptr))))))))))))); refine GOD ?_; clear fct)
  exact ⟨ds.length - (i + 1), by omega, by simp only [List.length_set, el], by simp only [fsTm, Nat.reduceBEq, Nat.reduceLT, el, e0], Hn, old, lo, i + 1, rfl, by omega, by simp only [fsTm, Nat.reduceBEq, Nat.reduceLT, el], hse⟩
 case pos =>
 have l2 : decide ((j : Int) < (d.2.length : Int)) = true := by rw [decide_eq_true_eq]; omega
 obtain ⟨p, hp⟩ : ∃ p, d.2[j]? = some p := ⟨_, List.getElem?_eq_getElem hltj⟩
 obtain ⟨b, o, cells, ro, c', ev, hbn, hg, hcut⟩ := parts_get hprt hp
 have hgH := (old b hbn).trans hg
 have a2 := fun (hh : AH) => iaddrV_nat (h := hh) (esz := 8) (b := b) (o := o) (c := c') (k := .i64) hltj
 have hc1 : (o + (j * 8 + 8) ≤ cells.length) = True := by have := (cut_parts hcut).1; simp; omega
 have hc2 := (cut_parts hcut).2
 have c8' := c8
 rw [ev] at c8' lv2
 have p1 : p.cells[1]? = some (.int .u8 p.b) := rfl
 have p7 : p.cells[7]? = some (.str p.s) := rfl
 have z8 : p.cells.length = 8 := rfl
 have z9 := one_cells p
 have o8 : Fs.over [AV.int .u8 0, AV.int .u8 0, AV.int .u8 0, AV.int .i64 0, AV.int .u8 0, AV.int .u8 0, AV.int .u8 0, AV.str []] 0 p.cells = p.cells := rfl
 have w2 : IntKind.wrap .i64 ((j : Int) + 1) = ((j + 1 : Nat) : Int) := by rw [wrap_i64 (by omega) (by omega)]; omega
 have y2 : (pb = H.n) = False := by simp; omega
 have y3 : (b = H.n) = False := by simp; omega
 have y4 : (rb = H.n) = False := by simp; omega
 rw [firstZ_at hp] at hce
 have gN : ∀ q, q < H.n → ((H.push (.cells [AV.int .u8 0, AV.int .u8 0, AV.int .u8 0, AV.int .i64 0, AV.int .u8 0, AV.int .u8 0, AV.int .u8 0, AV.str []] false)).set H.n (.cells p.cells false)).get q = H.get q := fun q hq => by rw [Hp.get_set_ne _ _ _ _ (by omega), Hp.get_push_ne _ _ _ (by omega)]
 have pP := hP p.s ((H.push (.cells [AV.int .u8 0, AV.int .u8 0, AV.int .u8 0, AV.int .i64 0, AV.int .u8 0, AV.int .u8 0, AV.int .u8 0, AV.str []] false)).set H.n (.cells p.cells false)) (by rw [gN _ (by omega)]; exact pbH) (hr.keep (by simp; omega) fun q _ hq => by rw [gN _ (by omega)]; exact old q hq)
 have rng := plc_range (nms ds) p.s 0
 have nl : (nms ds).length = ds.length := by unfold nms; rw [List.length_map]
 have step : callE ds p = 0 → ∀ tm2 : List AV, tm2.length = 67 → tm2.getD 0 AV.undef = .ptr (some (pb, 0)) → tm2.getD 3 AV.undef = .int .i64 (i : Int) → tm2.getD 4 AV.undef = .int .i64 ((j + 1 : Nat) : Int) →
     ∃ m, m < n2 ∧ RiI h pb ds i d.2 m tm2 ((H.push (.cells [AV.int .u8 0, AV.int .u8 0, AV.int .u8 0, AV.int .i64 0, AV.int .u8 0, AV.int .u8 0, AV.int .u8 0, AV.str []] false)).set H.n (.cells p.cells false)) := fun hz tm2 a b' c d' => by
  rw [if_neg (by simpa using hz)] at hce
  exact ⟨d.2.length - (j + 1), by omega, a, b', c, by simp; omega, fun b hb => by rw [gN b (by omega)]; exact old b hb, by simp; omega, j + 1, rfl, by omega, d', hce⟩
 have bad : ∀ e : Int, e ≠ 0 → callE ds p = e → sealE ds = e := fun e he hc => by
  have h1 : cardSE ds d = e := by
   unfold cardSE
   rw [hce, hc, if_pos he]
  rw [hse, h1, if_pos he]
 rw [hlv2] at pbH
 cases hv : (p.b != 7) with
 | true =>
   have hz : callE ds p = 0 := by unfold callE; rw [if_pos (by simpa using hv)]
   (have fct := Fj @el (Fj @e0 (Fj @e3 (Fj @e4 (Fj @l2 (Fj @pbH (Fj @hrH (Fj @k2 (Fj @a1 (Fj @c8' (Fj @lv2 (Fj @a2 (Fj @hgH (Fj @hc1 (Fj @hc2 (Fj @p1 (Fj @p7 (Fj @z8 (Fj @z9 (Fj @o8 (Fj @y2 (Fj @y3 (Fj @y4 (Fj @hv (Fj @w2 (Fj @Nat.zero_add (Fj @op_nilchk @nilcV_ptr)))))))))))))))))))))))))); refine GOD ?_; clear fct)
   exact step hz _ (by simp only [List.length_set, el]) (by simp only [fsTm, Nat.reduceBEq, Nat.reduceLT, el, e0]) (by simp only [fsTm, Nat.reduceBEq, Nat.reduceLT, el, e3]) (by simp only [fsTm, Nat.reduceBEq, Nat.reduceLT, el])
 | false =>
   have hv' : ¬ p.b ≠ 7 := by simpa using hv
   by_cases hq : plc (nms ds) p.s 0 < 0
   · have d1 : decide (plc (nms ds) p.s 0 < 0) = true := decide_eq_true hq
     have hz : callE ds p = 6 := by unfold callE; rw [if_neg hv', if_pos hq]
     (have fct := Fj @el (Fj @e0 (Fj @e3 (Fj @e4 (Fj @l2 (Fj @pbH (Fj @hrH (Fj @k2 (Fj @a1 (Fj @c8' (Fj @lv2 (Fj @a2 (Fj @hgH (Fj @hc1 (Fj @hc2 (Fj @p1 (Fj @p7 (Fj @z8 (Fj @z9 (Fj @o8 (Fj @y2 (Fj @y3 (Fj @y4 (Fj @hv (Fj @pP (Fj @d1 (Fj @Nat.zero_add (Fj @op_nilchk @nilcV_ptr))))))))))))))))))))))))))); refine GOD ?_; clear fct)
     exact ⟨.inr rfl, .int .i64 6, by simp [resAll, resOne, el], done 6 (bad 6 (by decide) hz) (by decide) _ (by simp; omega)⟩
   · have d1 : decide (plc (nms ds) p.s 0 < 0) = false := decide_eq_false hq
     obtain ⟨k, hk⟩ : ∃ k : Nat, plc (nms ds) p.s 0 = (k : Int) := ⟨(plc (nms ds) p.s 0).toNat, by omega⟩
     have hk1 : k < ds.length := by omega
     obtain ⟨y, hy⟩ : ∃ y, xs[k]? = some y := ⟨_, List.getElem?_eq_getElem (by omega)⟩
     obtain ⟨dy, hdy, hyc, _, _⟩ := hA.ext hy
     have c3 : (xs.flatMap Cv.cells)[k * 9 + 2]? = some (.int .u8 y.c.kind) := row_cell cv_len hy (by decide)
     have a3 := fun (hh : AH) => iaddrV_nat (h := hh) (esz := 9) (b := rb) (o := 0) (c := .opn 9) (k := .i64) hk1
     have hz : callE ds p = if (dy.1.kind == 2) = true then 8 else 0 := by
      unfold callE
      rw [if_neg hv', if_neg hq, hk, Int.toNat_natCast, hdy]
     rw [hk] at pP d1
     rw [hyc] at c3
     cases hkd : (dy.1.kind == 2) with
     | true =>
       rw [hkd, if_pos rfl] at hz
       (have fct := Fj @el (Fj @e0 (Fj @e3 (Fj @e4 (Fj @l2 (Fj @pbH (Fj @hrH (Fj @k2 (Fj @a1 (Fj @c8' (Fj @lv2 (Fj @a2 (Fj @hgH (Fj @hc1 (Fj @hc2 (Fj @p1 (Fj @p7 (Fj @z8 (Fj @z9 (Fj @o8 (Fj @y2 (Fj @y3 (Fj @y4 (Fj @hv (Fj @pP (Fj @d1 (Fj @a3 (Fj @c3 (Fj @hkd (Fj @Nat.zero_add (Fj @op_nilchk @nilcV_ptr)))))))))))))))))))))))))))))); refine GOD ?_; clear fct)
       exact ⟨.inr rfl, .int .i64 8, by simp [resAll, resOne, el], done 8 (bad 8 (by decide) hz) (by decide) _ (by simp; omega)⟩
     | false =>
       rw [hkd, if_neg (by decide)] at hz
       (have fct := Fj @el (Fj @e0 (Fj @e3 (Fj @e4 (Fj @l2 (Fj @pbH (Fj @hrH (Fj @k2 (Fj @a1 (Fj @c8' (Fj @lv2 (Fj @a2 (Fj @hgH (Fj @hc1 (Fj @hc2 (Fj @p1 (Fj @p7 (Fj @z8 (Fj @z9 (Fj @o8 (Fj @y2 (Fj @y3 (Fj @y4 (Fj @hv (Fj @pP (Fj @d1 (Fj @a3 (Fj @c3 (Fj @hkd (Fj @w2 (Fj @Nat.zero_add (Fj @op_nilchk @nilcV_ptr))))))))))))))))))))))))))))))); refine GOD ?_; clear fct)
       exact step hz _ (by simp only [List.length_set, el]) (by simp only [fsTm, Nat.reduceBEq, Nat.reduceLT, el, e0]) (by simp only [fsTm, Nat.reduceBEq, Nat.reduceLT, el, e3]) (by simp only [fsTm, Nat.reduceBEq, Nat.reduceLT, el])
end Go.Proofs.Cards
