/- The reference's numbers; a set with one trait more. -/
import Derived.Test.YtjmhjipacmlojaaGreatDoorFz05
import Derived.Test.YtjmhjipacmlojaaGreatDoorZcCdPieces
namespace Go.Proofs.Cards
set_option maxRecDepth 100000
set_option maxHeartbeats 32000000
open Go Go.Fs
set_option linter.unusedSimpArgs false
set_option linter.unusedVariables false
variable {orc : Orc}
def numN (w : List UInt8) : Int := if (w.take 3).all Ef.digB = true then (w.take 3).foldl Ef.stepN 0 else 0
structure NnI (w : List UInt8) (h0 : AH) (n : Nat) (tm : List AV) (h : AH) : Prop where
 len : tm.length = 34
 t0 : tm.getD 0 AV.undef = .str w
 hp : h = h0.withLow h0.n
 st : ∃ i : Nat, n = min 3 w.length - i ∧ i ≤ min 3 w.length ∧ tm.getD 4 AV.undef = .int .i64 (i : Int) ∧ tm.getD 3 AV.undef = .int .i64 ((w.take i).foldl Ef.stepN 0) ∧ (w.take i).all Ef.digB = true
theorem num6_spec (ho : orc 113 = none) (w : List UInt8) (h : AH) : acall orc T 113 [.str w] h = some (.int .i64 (numN w), h) := by
 refine acall_sym ho tbl113 ?_
 refine GD ?_
 (have fct := @op_mv; refine GO ?_; clear fct)
 refine CodeK_loop (NnI w h) (min 3 w.length) ?_ ?_
 · exact ⟨rfl, rfl, rfl, 0, rfl, Nat.zero_le _, rfl, rfl, rfl⟩
 intro n tm h' I
 obtain ⟨i, hn, hi, e4, e3, ha⟩ := I.st
 have el := I.len
 have e0 := I.t0
 obtain rfl := I.hp
 clear I
 have hb3 := Ef.fold_small (w.take i) (by rw [List.length_take]; omega)
 by_cases hlt : i < min 3 w.length
 case neg =>
  have hi : i = min 3 w.length := by omega
  have et : w.take i = w.take 3 := by
   rw [hi]
   by_cases h3 : 3 ≤ w.length
   · rw [Nat.min_eq_left h3]
   · rw [Nat.min_eq_right (by omega), List.take_of_length_le (Nat.le_refl _), List.take_of_length_le (by omega)]
  rw [et] at ha e3
  have eN : numN w = (w.take 3).foldl Ef.stepN 0 := by unfold numN; rw [if_pos ha]
  rw [eN]
  cases hl : decide ((i : Int) < (w.length : Int)) with
  | true =>
    have hl2 : decide ((i : Int) < 3) = false := by have := of_decide_eq_true hl; rw [decide_eq_false_iff_not]; omega
    (have fct := Fj @el (Fj @e0 (Fj @e3 (Fj @e4 (Fj @hl @hl2)))); refine GO ?_; clear fct)
    (have fct := Fj @el @e3; refine A_end ?_; clear fct; try exact trivial)
  | false =>
    (have fct := Fj @el (Fj @e0 (Fj @e3 (Fj @e4 @hl))); refine GO ?_; clear fct)
    (have fct := Fj @el @e3; refine A_end ?_; clear fct; try exact trivial)
 case pos =>
  have l1 : decide ((i : Int) < (w.length : Int)) = true := by rw [decide_eq_true_eq]; omega
  have l2 : decide ((i : Int) < 3) = true := by rw [decide_eq_true_eq]; omega
  have w1 : IntKind.wrap .i64 ((i : Int) + 1) = ((i + 1 : Nat) : Int) := by rw [Ef.wrap_small (by omega) (by omega)]; omega
  obtain ⟨b, hb⟩ : ∃ b, w[i]? = some b := ⟨_, List.getElem?_eq_getElem (by omega)⟩
  have x1 := fun (hh : AH) => Ef.idxSV_nat hb .i64 hh
  have hf : (w.take (i + 1)).foldl Ef.stepN 0 = Ef.stepN ((w.take i).foldl Ef.stepN 0) b := by rw [List.take_add_one, hb]; simp
  have hg : (w.take (i + 1)).all Ef.digB = Ef.digB b := by rw [List.take_add_one, hb, List.all_append, ha]; simp
  have hbad : Ef.digB b = false → numN w = 0 := fun hd => by
   have hm : b ∈ w.take 3 := by
    refine List.mem_iff_getElem?.2 ⟨i, ?_⟩
    rw [List.getElem?_take_of_lt (by omega), hb]
   unfold numN
   rw [if_neg (fun e => by rw [List.all_eq_true] at e; rw [e b hm] at hd; cases hd)]
  generalize hM : (w.take i).foldl Ef.stepN 0 = M at *
  cases d1 : decide ((b.toNat : Int) < 48) with
  | true =>
    have hd : Ef.digB b = false := by
     have := of_decide_eq_true d1
     unfold Ef.digB; rw [decide_eq_false (by omega)]; rfl
    rw [hbad hd]
    (have fct := Fj @el (Fj @e0 (Fj @e3 (Fj @e4 (Fj @l1 (Fj @l2 (Fj @w1 (Fj @Ef.op_idxS (Fj @x1 @d1)))))))); refine GO ?_; clear fct)
    (have fct := @el; refine A_end ?_; clear fct; try exact trivial)
  | false =>
    cases d2 : decide ((57 : Int) < (b.toNat : Int)) with
    | true =>
      have hd : Ef.digB b = false := by
       have := of_decide_eq_true d2
       unfold Ef.digB; rw [decide_eq_false (p := (b.toNat : Int) ≤ 57) (by omega), Bool.and_false]
      rw [hbad hd]
      (have fct := Fj @el (Fj @e0 (Fj @e3 (Fj @e4 (Fj @l1 (Fj @l2 (Fj @w1 (Fj @Ef.op_idxS (Fj @x1 (Fj @d1 @d2))))))))); refine GO ?_; clear fct)
      (have fct := @el; refine A_end ?_; clear fct; try exact trivial)
    | false =>
      have k1 := of_decide_eq_false d1
      have k2 := of_decide_eq_false d2
      have hd : Ef.digB b = true := by unfold Ef.digB; rw [decide_eq_true (by omega), decide_eq_true (by omega)]; rfl
      have hs : Ef.stepN M b = 10 * M + ((b.toNat : Int) - 48) := by unfold Ef.stepN; rw [hd]; rfl
      rw [hs] at hf
      rw [hd] at hg
      have v1 := Ef.wrap_small (n := 10 * M) (by omega) (by omega)
      have v2 := Ef.wrap_dig hd
      have v3 := Ef.wrap_small (n := (b.toNat : Int) - 48) (by omega) (by omega)
      have v4 := Ef.wrap_small (n := 10 * M + ((b.toNat : Int) - 48)) (by omega) (by omega)
      (have fct := Fj @el (Fj @e0 (Fj @e3 (Fj @e4 (Fj @l1 (Fj @l2 (Fj @w1 (Fj @Ef.op_idxS (Fj @x1 (Fj @d1 (Fj @d2 (Fj @v1 (Fj @v2 (Fj @v3 @v4))))))))))))); refine GO ?_; clear fct)
      exact ⟨min 3 w.length - (i + 1), by omega, by simp only [List.length_set, el], by simp only [fsTm, Nat.reduceBEq, Nat.reduceLT, el, e0], rfl, i + 1, rfl, by omega, by simp only [fsTm, Nat.reduceBEq, Nat.reduceLT, el], by simp only [fsTm, Nat.reduceBEq, Nat.reduceLT, el, hf], hg⟩
theorem with6_spec (ho : ∀ f, f ∈ [114, 119] → orc f = none) (s t : Int) (h1 : 0 ≤ t) (h8 : t ≤ 8) (h : AH) : acall orc T 114 [.int .u16 s, .int .u8 t] h = some (.int .u16 (withT s t), h) := by
 have c1 : ∀ h : AH, acall orc T 119 [.int .u8 t] h = some (.int .u16 (if isT t = true then bitT t else 0), h) := fun h => by
  by_cases ht : 1 ≤ t
  · have e1 : isT t = true := by simp [isT, ht, h8]
    rw [e1, if_pos rfl]
    exact rtbit_spec (ho _ (by simp)) t ht h8 h
  · obtain rfl : t = 0 := by omega
    rw [show isT 0 = false from rfl]
    refine acall_sym (ho _ (by simp)) tbl119 ?_
    refine GD ?_
    (have fct := @op_mv; refine GO ?_; clear fct)
    (have fct := trivial; refine A_end ?_; clear fct; try exact trivial)
 refine acall_sym (ho _ (by simp)) tbl114 ?_
 refine GD ?_
 (have fct := @c1; refine GO ?_; clear fct)
 (have fct := @withT.eq_1; refine A_end ?_; clear fct; try exact trivial)
end Go.Proofs.Cards
