/- The reference's book: a card's copy, a card put into its list. -/
import Derived.Test.YtlppecefalblmaaGreatDoorFz05
import Derived.Test.YtlppecefalblmaaGreatDoorZtBkCard
namespace Go.Proofs.Cards
set_option maxRecDepth 100000
set_option maxHeartbeats 32000000
open Go Go.Fs
set_option linter.unusedSimpArgs false
set_option linter.unusedVariables false
variable {orc : Orc}
def cf123 : CF := ⟨10, [(.cell 2 (some 9))], (.seq (.region [Zo 1 (.box (.t 0)), Zo 2 (.alloc [(.str []), (.int .u8 0), (.int .u8 0), (.int .i64 0), (.int .i64 0), (.int .i64 0), (.int .u16 0), (.bool false), (.slice none 0 (.exact 0))])]) (.seq (.region [Zo 3 (.mv (.c (.slice none 0 (.exact 0))))]) (.seq (.region [Zm 4 3, Zf 5 8 1, Zl 6 5, Zo 7 (.append 8 40 (.t 4) (.t 6)), Zf 8 8 1, Zn (.store 1 (.t 8) (.t 7))]) (.seq (.region [Zo 9 (.load (some 9) (.t 1)), Zn (.store 9 (.t 2) (.t 9))]) .ret))))⟩
theorem tbl123 : tbl Tryz.prog 123 = some cf123 := by kernel_rfl
theorem rccopy_spec (N : Nat) (ho : orc 123 = none) (c : Crd) (v : AV) (ps : List Prt) {h : AH} (hN : N ≤ h.n) (hp : Parts h v ps) (hl : ps.length * 40 ≤ 140737488355328) :
    ∃ v1 h1, acall orc T 123 [.agg (c.cells v)] h = some (v1, h1) ∧ ∃ v', v1 = .agg (c.cells v') ∧ Ef.Kp N h h1 ∧ Parts h1 v' ps ∧ Own h.n h1 v' ps := by
 refine acall_facts (R := fun v1 h1 => ∃ v', v1 = .agg (c.cells v') ∧ Ef.Kp N h h1 ∧ Parts h1 v' ps ∧ Own h.n h1 v' ps) ho tbl123 ?_
 simp only [Ef.settle_fst1]
 have hp0 := hp
 obtain ⟨a, cap, rfl, hbig, _⟩ := hp
 have bx : ∀ (hh : AH), boxV (.agg (c.cells (.slice a ps.length cap))) hh = some (.ptr (some (hh.n, 0)), hh.push (.cells (c.cells (.slice a ps.length cap)) false)) := fun hh => boxV_agg _ rfl
 obtain ⟨x0, x1, x2, x3, x4, x5, x6, x7, x8⟩ := cells_all c (.slice a ps.length cap)
 have hp2 : Parts (((h.withLow h.n).push (.cells (c.cells (.slice a ps.length cap)) false)).push (.cells (zeroC.cells nilV) false)) (.slice a ps.length cap) ps := hp0.mono (by simp; omega) fun b hb => by rw [Hp.get_push_ne _ _ _ (by simp; omega), Hp.get_push_ne _ _ _ (by simp; omega)]; rfl
 have ha := append_nil hp2 hl
 refine GD ?_
 simp only [show ([AV.str [], AV.int .u8 0, AV.int .u8 0, AV.int .i64 0, AV.int .i64 0, AV.int .i64 0, AV.int .u16 0, AV.bool false, AV.slice none 0 (.exact 0)] : List AV) = zeroC.cells nilV from rfl]
 have y1 : (h.n + 1 = h.n) = False := by simp
 have y2 : (h.n = h.n + 1) = False := by simp
 by_cases hz : ps.length = 0
 · have e : ps = [] := List.eq_nil_of_length_eq_zero hz
   rw [if_pos hz] at ha
   have z5 : (c.cells (.slice none 0 (.exact 0))).all AV.one = true := rfl
   (have fct := Fj @bx (Fj @x8 (Fj @op_append (Fj @ha (Fj @ov_8 (Fj @y1 (Fj @y2 (Fj @z5 (Fj @cells_len (Fj @cells_take @ov_9))))))))); refine GO ?_; clear fct)
   subst e
   refine ⟨.inr rfl, _, res_card rfl (Hp.get_set_self _ _ _), nilV, rfl, Ef.kp_settle (by simp <;> omega) (fun b hb => ?_) (by simp <;> omega), ⟨_, _, rfl, by simp, .inl rfl⟩, .inl ⟨rfl, rfl⟩⟩
   rw [Hp.get_set_ne _ _ _ _ (by omega), Hp.get_set_ne _ _ _ _ (by omega), Hp.get_push_ne _ _ _ (by simp; omega), Hp.get_push_ne _ _ _ (by simp; omega)]; rfl
 · rw [if_neg hz] at ha
   simp only [Hp.n_push, Hp.n_withLow] at ha
   have z5 : ∀ b, (c.cells (.slice (some (b, 0)) ps.length (.opn 8))).all AV.one = true := fun _ => rfl
   have y3 : (h.n = h.n + 1 + 1) = False := by simp; omega
   have y4 : (h.n + 1 = h.n + 1 + 1) = False := by simp
   (have fct := Fj @bx (Fj @x8 (Fj @op_append (Fj @ha (Fj @ov_8 (Fj @y1 (Fj @y2 (Fj @y3 (Fj @y4 (Fj @z5 (Fj @cells_len (Fj @cells_take @ov_9))))))))))); refine GO ?_; clear fct)
   have hun : (AV.agg (c.cells (.slice (some (h.n + 1 + 1, 0)) ps.length (.opn 8)))).under h.n = false := by
    simp [AV.under, AV.unders, Crd.cells]; omega
   refine ⟨.inr rfl, _, res_card rfl (Hp.get_set_self _ _ _), _, rfl, Ef.kp_settle (by simp <;> omega) (fun b hb => ?_) (by simp <;> omega), ?_, ?_⟩
   · rw [Hp.get_set_ne _ _ _ _ (by omega), Hp.get_set_ne _ _ _ _ (by omega), Hp.get_push_ne _ _ _ (by simp; omega), Hp.get_push_ne _ _ _ (by simp; omega), Hp.get_push_ne _ _ _ (by simp; omega)]; rfl
   · rw [settle_new hun]
     refine parts_block (ps := ps) (qs := []) (ro := false) ?_ (by simp) rfl (by omega)
     rw [List.append_nil, Hp.get_withLow, Hp.get_set_ne _ _ _ _ (by omega), Hp.get_set_ne _ _ _ _ (by omega)]
     exact Hp.get_push_self _ _
   · rw [settle_new hun]
     refine .inr ⟨h.n + 1 + 1, by omega, by simp, rfl, ?_, fun e => hz (by rw [e]; rfl)⟩
     rw [Hp.get_withLow, Hp.get_set_ne _ _ _ _ (by omega), Hp.get_set_ne _ _ _ _ (by omega)]
     exact Hp.get_push_self _ _
end Go.Proofs.Cards
