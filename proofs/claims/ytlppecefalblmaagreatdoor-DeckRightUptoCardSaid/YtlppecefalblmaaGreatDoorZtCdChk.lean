/- Which cards may be, with their parts. -/
import Derived.Test.YtlppecefalblmaaGreatDoorFz05
import Derived.Test.YtlppecefalblmaaGreatDoorZtCdCheck
namespace Go.Proofs.Cards
set_option maxRecDepth 100000
set_option maxHeartbeats 32000000
open Go Go.Fs
set_option linter.unusedSimpArgs false
set_option linter.unusedVariables false
variable {orc : Orc}
def Prt.chk (p : Prt) : Int := Ef.chk p.a p.b p.c p.d p.e p.f p.g p.s
def clash (k : Int) (w : Int) : Bool := k == 2 && w != 1 || k == 3 && w == 4
def partE (k : Int) (p : Prt) : Int := if p.chk = 0 then (if clash k p.a = true then 8 else 0) else p.chk
def firstE (k : Int) : List Prt → Int
 | [] => 0
 | p :: r => if partE k p = 0 then firstE k r else partE k p
def chkC (c : Crd) (ps : List Prt) : Int := if faceE c ps.length = 0 then firstE c.kind ps else faceE c ps.length
theorem firstE_zero {k : Int} : ∀ {ps : List Prt}, (∀ (j : Nat) p, ps[j]? = some p → partE k p = 0) → firstE k ps = 0
 | [], _ => rfl
 | p :: r, h => by
   rw [firstE, if_pos (h 0 p rfl)]
   exact firstE_zero fun j q hq => h (j + 1) q (by simpa using hq)
theorem firstE_at {k : Int} {p : Prt} : ∀ {ps : List Prt} {i : Nat}, ps[i]? = some p → (∀ (j : Nat) q, j < i → ps[j]? = some q → partE k q = 0) → partE k p ≠ 0 → firstE k ps = partE k p
 | [], i, h, _, _ => by simp at h
 | q :: r, 0, h, _, hp => by
   simp at h; subst h
   rw [firstE, if_neg hp]
 | q :: r, i + 1, h, ha, hp => by
   rw [firstE, if_pos (ha 0 q (by omega) rfl)]
   exact firstE_at (by simpa using h) (fun j q' hj hq => ha (j + 1) q' (by omega) (by simpa using hq)) hp
theorem parts_get {h : AH} {v : AV} {ps : List Prt} (hp : Parts h v ps) {i : Nat} {p : Prt} (hi : ps[i]? = some p) : ∃ (b o : Nat) (cells : List AV) (ro : Bool) (c : Cap), v = .slice (some (b, o)) ps.length c ∧ b < h.n ∧ h.get b = some (.cells cells ro) ∧ cut cells (o + i * 8) 8 = some p.cells := by
 obtain ⟨a, c, rfl, _, h3⟩ := hp
 rcases h3 with rfl | ⟨b, o, cells, ro, rfl, hb, hg, hc⟩
 · simp at hi
 · exact ⟨b, o, cells, ro, c, rfl, hb, hg, hc i p hi⟩
structure ChI (c : Crd) (ps : List Prt) (v : AV) (h0 : AH) (n : Nat) (tm : List AV) (h : AH) : Prop where
 len : tm.length = 43
 t1 : tm.getD 1 AV.undef = .ptr (some (h0.n, 0))
 t13 : tm.getD 13 AV.undef = v
 t14 : tm.getD 14 AV.undef = .int .i64 (ps.length : Int)
 box : h.get h0.n = some (.cells (c.cells v) false)
 old : ∀ b, b < h0.n → h.get b = h0.get b
 low : h0.n ≤ h.low
 hn : h0.n < h.n
 st : ∃ i : Nat, n = ps.length - i ∧ i ≤ ps.length ∧ tm.getD 15 AV.undef = .int .i64 (i : Int) ∧ ∀ (j : Nat) p, j < i → ps[j]? = some p → partE c.kind p = 0
theorem cells_at (c : Crd) (v : AV) : (c.cells v)[2]? = some (.int .u8 c.kind) ∧ (c.cells v)[8]? = some v ∧ (c.cells v).length = 9 ∧ (c.cells v).take 9 = c.cells v := ⟨rfl, rfl, rfl, rfl⟩
theorem check_spec (ho : ∀ f, f ∈ [8, 36, 86, 87, 38, 39, 88, 37, 89, 90, 91, 92, 93, 94, 95, 96, 97, 132, 133, 134] → orc f = none) (ht : Ef.Trims orc) (c : Crd) (v : AV) (ps : List Prt) (h : AH) (hp : Parts h v ps) : acall orc T 8 [.agg (c.cells v)] h = some (.int .i64 (chkC c ps), h) := by
 have sub : ∀ l : List Nat, (∀ f ∈ l, f ∈ [8, 36, 86, 87, 38, 39, 88, 37, 89, 90, 91, 92, 93, 94, 95, 96, 97, 132, 133, 134]) → ∀ f, f ∈ l → orc f = none := fun l hl f hf => ho f (hl f hf)
 have hp0 := hp
 obtain ⟨a, cap, rfl, hbig, _⟩ := hp
 have cF := face_spec (orc := orc) (sub _ (by decide)) ht c a ps.length cap
 have bx : ∀ (hh : AH), boxV (.agg (c.cells (.slice a ps.length cap))) hh = some (.ptr (some (hh.n, 0)), hh.push (.cells (c.cells (.slice a ps.length cap)) false)) := fun hh => boxV_agg _ rfl
 obtain ⟨x1, x2, x3, x4⟩ := cells_at c (.slice a ps.length cap)
 refine acall_sym (ho _ (by simp)) tbl8 ?_
 have eC : ∀ p : Prt, ∀ hh : AH, acall orc T 37 [.agg p.cells] hh = some (.int .i64 p.chk, hh) := fun p hh => Ef.check_spec (orc := orc) (sub _ (by decide)) ht p.a p.b p.c p.d p.e p.f p.g p.s hh
 clear sub
 refine GD ?_
 by_cases hF : faceE c ps.length = 0
 case neg =>
  have e1 : (faceE c ps.length != 0) = true := by simpa using hF
  have e2 : chkC c ps = faceE c ps.length := by unfold chkC; rw [if_neg hF]
  rw [e2]
  (have fct := Fj @cF (Fj @bx (Fj @x1 (Fj @x2 (Fj @x3 (Fj @x4 @e1))))); refine GO ?_; clear fct)
  (have fct := trivial; refine A_end ?_; clear fct; try exact trivial)
 case pos =>
 have e1 : ((0 : Int) != 0) = false := rfl
 have e2 : chkC c ps = firstE c.kind ps := by unfold chkC; rw [if_pos hF]
 rw [e2]
 rw [hF] at cF
 (have fct := Fj @cF (Fj @bx (Fj @x1 (Fj @x2 (Fj @x3 (Fj @x4 @e1))))); refine GO ?_; clear fct)
 refine CodeK_loop (ChI c ps (.slice a ps.length cap) h) ps.length ?_ ?_
 · exact ⟨rfl, rfl, rfl, rfl, Hp.get_push_self _ _, fun b hb => by rw [Hp.get_push_ne _ _ _ (by simp; omega)]; rfl, by simp, by simp, 0, rfl, by omega, rfl, fun j p hj => by omega⟩
 intro n tm H I
 obtain ⟨i, hn, hi, e15, ha⟩ := I.st
 have el := I.len
 have t1 := I.t1
 have t13 := I.t13
 have t14 := I.t14
 have box := I.box
 have old := I.old
 have low := I.low
 have hHn := I.hn
 clear I
 by_cases hlt : i < ps.length
 case neg =>
  obtain rfl : i = ps.length := by omega
  have l1 : decide ((ps.length : Int) < (ps.length : Int)) = false := by rw [decide_eq_false_iff_not]; omega
  rw [firstE_zero fun j p hj => ha j p (List.getElem?_eq_some_iff.1 hj).1 hj]
  (have fct := Fj @el (Fj @t1 (Fj @t13 (Fj @t14 (Fj @e15 @l1)))); refine GO ?_; clear fct)
  (have fct := @el; refine A_end ?_; clear fct; try exact trivial)
  exact low
 case pos =>
 have l1 : decide ((i : Int) < (ps.length : Int)) = true := by rw [decide_eq_true_eq]; omega
 obtain ⟨p, hpi⟩ : ∃ p, ps[i]? = some p := ⟨_, List.getElem?_eq_getElem hlt⟩
 obtain ⟨b, o, cells, ro, c', ev, hb, hg, hc⟩ := parts_get hp0 hpi
 cases ev
 have hg' : H.get b = some (.cells cells ro) := by rw [old b hb]; exact hg
 have a1 := fun (hh : AH) => iaddrV_nat (h := hh) (esz := 8) (b := b) (o := o) (c := cap) (k := .i64) hlt
 have w1 : IntKind.wrap .i64 ((i : Int) + 1) = ((i + 1 : Nat) : Int) := by rw [wrap_i64 (by omega) (by omega)]; omega
 have ce := eC p
 have z1 : ∀ a b c d e f g i : AV, Fs.over [a, b, c, d, e, f, g, i] 0 p.cells = p.cells := fun _ _ _ _ _ _ _ _ => rfl
 have z2 : p.cells.length = 8 := rfl
 have z3 : p.cells.all AV.one = true := rfl
 have z4 : p.cells.take 8 = p.cells := rfl
 have z5 : p.cells[0]? = some (.int .u8 p.a) := rfl
 have y1 : (h.n = H.n) = False := by simp; omega
 have y2 : (b = H.n) = False := by simp; omega
 have hc1 : (o + (i * 8 + 8) ≤ cells.length) = True := by have := (cut_parts hc).1; simp; omega
 have hc2 := (cut_parts hc).2
 by_cases hk : p.chk = 0
 case neg =>
  have e3 : (p.chk != 0) = true := by simpa using hk
  have e4 : firstE c.kind ps = p.chk := by
   have h6 : partE c.kind p = p.chk := by unfold partE; rw [if_neg hk]
   rw [firstE_at hpi (fun j q hj hq => ha j q hj hq) (by rw [h6]; exact hk), h6]
  rw [e4]
  (have fct := Fj @el (Fj @t1 (Fj @t13 (Fj @t14 (Fj @e15 (Fj @l1 (Fj @a1 (Fj @hg' (Fj @hc1 (Fj @hc2 (Fj @ce (Fj @z1 (Fj @z2 (Fj @z3 (Fj @z4 (Fj @z5 (Fj @y1 (Fj @y2 @e3))))))))))))))))); refine GO ?_; clear fct)
  (have fct := @el; refine A_end ?_; clear fct; try exact trivial)
  omega
 case pos =>
  have e3 : ((0 : Int) != 0) = false := rfl
  rw [hk] at ce
  have bk : H.get h.n = some (.cells (c.cells (.slice (some (b, o)) ps.length cap)) false) := box
  cases k2 : (c.kind == 2) with
  | true =>
    have k3 : (c.kind == 3) = false := by simp only [beq_iff_eq, beq_eq_false_iff_ne] at k2 ⊢; omega
    cases w1' : (p.a != 1) with
    | true =>
      have hcl : partE c.kind p = 8 := by unfold partE clash; rw [if_pos hk, k2, w1']; rfl
      have e4 : firstE c.kind ps = 8 := by rw [firstE_at hpi (fun j q hj hq => ha j q hj hq) (by rw [hcl]; decide), hcl]
      rw [e4]
      (have fct := Fj @el (Fj @t1 (Fj @t13 (Fj @t14 (Fj @e15 (Fj @l1 (Fj @a1 (Fj @hg' (Fj @hc1 (Fj @hc2 (Fj @ce (Fj @z1 (Fj @z2 (Fj @z3 (Fj @z4 (Fj @z5 (Fj @y1 (Fj @y2 (Fj @e3 (Fj @bk (Fj @x1 (Fj @x3 (Fj @k2 @w1')))))))))))))))))))))); refine GO ?_; clear fct)
      (have fct := @el; refine A_end ?_; clear fct; try exact trivial)
      omega
    | false =>
      have hcl : partE c.kind p = 0 := by unfold partE clash; rw [if_pos hk, k2, w1', k3]; rfl
      (have fct := Fj @el (Fj @t1 (Fj @t13 (Fj @t14 (Fj @e15 (Fj @l1 (Fj @a1 (Fj @hg' (Fj @hc1 (Fj @hc2 (Fj @ce (Fj @z1 (Fj @z2 (Fj @z3 (Fj @z4 (Fj @z5 (Fj @y1 (Fj @y2 (Fj @e3 (Fj @bk (Fj @x1 (Fj @x3 (Fj @k2 (Fj @k3 (Fj @w1' @w1)))))))))))))))))))))))); refine GO ?_; clear fct)
      refine ⟨ps.length - (i + 1), by omega, by simp only [List.length_set, el], by simp only [fsTm, Nat.reduceBEq, Nat.reduceLT, el, t1], by simp only [fsTm, Nat.reduceBEq, Nat.reduceLT, el, t13], by simp only [fsTm, Nat.reduceBEq, Nat.reduceLT, el, t14], by rw [Hp.get_set_ne _ _ _ _ (by omega), Hp.get_push_ne _ _ _ (by omega)]; exact box, fun b' hb' => by rw [Hp.get_set_ne _ _ _ _ (by omega), Hp.get_push_ne _ _ _ (by omega)]; exact old b' hb', by simp only [Hp.low_set, Hp.low_push]; omega, by simp only [Hp.n_set, Hp.n_push]; omega, i + 1, rfl, by omega, by simp only [fsTm, Nat.reduceBEq, Nat.reduceLT, el], fun j q hj hq => ?_⟩
      rcases Nat.lt_succ_iff_lt_or_eq.1 hj with hj | rfl
      · exact ha j q hj hq
      · rw [hpi] at hq; cases hq; exact hcl
  | false =>
    cases k3 : (c.kind == 3) with
    | false =>
      have hcl : partE c.kind p = 0 := by unfold partE clash; rw [if_pos hk, k2, k3]; rfl
      (have fct := Fj @el (Fj @t1 (Fj @t13 (Fj @t14 (Fj @e15 (Fj @l1 (Fj @a1 (Fj @hg' (Fj @hc1 (Fj @hc2 (Fj @ce (Fj @z1 (Fj @z2 (Fj @z3 (Fj @z4 (Fj @z5 (Fj @y1 (Fj @y2 (Fj @e3 (Fj @bk (Fj @x1 (Fj @x3 (Fj @k2 (Fj @k3 @w1))))))))))))))))))))))); refine GO ?_; clear fct)
      refine ⟨ps.length - (i + 1), by omega, by simp only [List.length_set, el], by simp only [fsTm, Nat.reduceBEq, Nat.reduceLT, el, t1], by simp only [fsTm, Nat.reduceBEq, Nat.reduceLT, el, t13], by simp only [fsTm, Nat.reduceBEq, Nat.reduceLT, el, t14], by rw [Hp.get_set_ne _ _ _ _ (by omega), Hp.get_push_ne _ _ _ (by omega)]; exact box, fun b' hb' => by rw [Hp.get_set_ne _ _ _ _ (by omega), Hp.get_push_ne _ _ _ (by omega)]; exact old b' hb', by simp only [Hp.low_set, Hp.low_push]; omega, by simp only [Hp.n_set, Hp.n_push]; omega, i + 1, rfl, by omega, by simp only [fsTm, Nat.reduceBEq, Nat.reduceLT, el], fun j q hj hq => ?_⟩
      rcases Nat.lt_succ_iff_lt_or_eq.1 hj with hj | rfl
      · exact ha j q hj hq
      · rw [hpi] at hq; cases hq; exact hcl
    | true =>
      cases w4 : (p.a == 4) with
      | true =>
        have hcl : partE c.kind p = 8 := by unfold partE clash; rw [if_pos hk, k2, k3, w4]; rfl
        have e4 : firstE c.kind ps = 8 := by rw [firstE_at hpi (fun j q hj hq => ha j q hj hq) (by rw [hcl]; decide), hcl]
        rw [e4]
        (have fct := Fj @el (Fj @t1 (Fj @t13 (Fj @t14 (Fj @e15 (Fj @l1 (Fj @a1 (Fj @hg' (Fj @hc1 (Fj @hc2 (Fj @ce (Fj @z1 (Fj @z2 (Fj @z3 (Fj @z4 (Fj @z5 (Fj @y1 (Fj @y2 (Fj @e3 (Fj @bk (Fj @x1 (Fj @x3 (Fj @k2 (Fj @k3 @w4))))))))))))))))))))))); refine GO ?_; clear fct)
        (have fct := @el; refine A_end ?_; clear fct; try exact trivial)
        omega
      | false =>
        have hcl : partE c.kind p = 0 := by unfold partE clash; rw [if_pos hk, k2, k3, w4]; rfl
        (have fct := Fj @el (Fj @t1 (Fj @t13 (Fj @t14 (Fj @e15 (Fj @l1 (Fj @a1 (Fj @hg' (Fj @hc1 (Fj @hc2 (Fj @ce (Fj @z1 (Fj @z2 (Fj @z3 (Fj @z4 (Fj @z5 (Fj @y1 (Fj @y2 (Fj @e3 (Fj @bk (Fj @x1 (Fj @x3 (Fj @k2 (Fj @k3 (Fj @w4 @w1)))))))))))))))))))))))); refine GO ?_; clear fct)
        refine ⟨ps.length - (i + 1), by omega, by simp only [List.length_set, el], by simp only [fsTm, Nat.reduceBEq, Nat.reduceLT, el, t1], by simp only [fsTm, Nat.reduceBEq, Nat.reduceLT, el, t13], by simp only [fsTm, Nat.reduceBEq, Nat.reduceLT, el, t14], by rw [Hp.get_set_ne _ _ _ _ (by omega), Hp.get_push_ne _ _ _ (by omega)]; exact box, fun b' hb' => by rw [Hp.get_set_ne _ _ _ _ (by omega), Hp.get_push_ne _ _ _ (by omega)]; exact old b' hb', by simp only [Hp.low_set, Hp.low_push]; omega, by simp only [Hp.n_set, Hp.n_push]; omega, i + 1, rfl, by omega, by simp only [fsTm, Nat.reduceBEq, Nat.reduceLT, el], fun j q hj hq => ?_⟩
        rcases Nat.lt_succ_iff_lt_or_eq.1 hj with hj | rfl
        · exact ha j q hj hq
        · rw [hpi] at hq; cases hq; exact hcl
end Go.Proofs.Cards
