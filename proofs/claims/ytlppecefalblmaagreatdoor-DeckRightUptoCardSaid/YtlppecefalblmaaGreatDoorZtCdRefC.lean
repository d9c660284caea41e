/- The reference's check of a card: it is the code's own. -/
import Derived.Test.YtlppecefalblmaaGreatDoorFz05
import Derived.Test.YtlppecefalblmaaGreatDoorZtCdRef
import Derived.Test.YtlppecefalblmaaGreatDoorZtCdArgs
namespace Go.Proofs.Cards
set_option maxRecDepth 100000
set_option maxHeartbeats 32000000
open Go Go.Fs
set_option linter.unusedSimpArgs false
set_option linter.unusedVariables false
variable {orc : Orc}
def cf13 : CF := ⟨126, [(.tmp 2)], (.seq (.region [Zo 1 (.box (.t 0)), Zo 2 (.mv (.c (.int .i64 0)))]) (.seq (.region [Zf 6 2 1, Zl 7 6, Zb 8 .eql (.t 7) (.c (.int .u8 1)), Zm 3 8]) (.seq (.block 0 (.seq (.region [Zf 10 0 1, Zl 11 10, Zo 12 (.call (.f 52) [(.t 11)]), Zo 13 (.un .not (.t 12)), Zm 9 13]) (.cond (.t 9) (.seq (.region [Zo 2 (.mv (.c (.int .i64 4)))]) .ret) (.seq (.region [Zf 15 1 1, Zl 16 15, Zo 17 (.toInt .i64 (.t 16)), Zo 18 (.call (.f 53) [(.t 17), (.c (.int .i64 1)), (.c (.int .i64 6))]), Zo 19 (.un .not (.t 18)), Zm 20 19, Zg 21 (.faddr 2 (.t 1)) 20 false, Zg 22 (.load none (.t 21)) 20 false, Zg 23 (.toInt .i64 (.t 22)) 20 false, Zg 24 (.call (.f 53) [(.t 23), (.c (.int .i64 1)), (.c (.int .i64 3))]) 20 false, Zg 25 (.un .not (.t 24)) 20 false, Zo 26 (.pick (.t 20) (.c (.bool true)) (.t 25)), Zm 14 26]) (.cond (.t 14) (.seq (.region [Zo 2 (.mv (.c (.int .i64 8)))]) .ret) (.seq (.region [Zf 28 3 1, Zl 29 28, Zo 30 (.call (.f 53) [(.t 29), (.c (.int .i64 0)), (.c (.int .i64 10))]), Zo 31 (.un .not (.t 30)), Zm 32 31, Zg 33 (.faddr 4 (.t 1)) 32 false, Zg 34 (.load none (.t 33)) 32 false, Zg 35 (.call (.f 53) [(.t 34), (.c (.int .i64 0)), (.c (.int .i64 99))]) 32 false, Zg 36 (.un .not (.t 35)) 32 false, Zo 37 (.pick (.t 32) (.c (.bool true)) (.t 36)), Zm 38 37, Zg 39 (.faddr 5 (.t 1)) 38 false, Zg 40 (.load none (.t 39)) 38 false, Zg 41 (.call (.f 53) [(.t 40), (.c (.int .i64 0)), (.c (.int .i64 99))]) 38 false, Zg 42 (.un .not (.t 41)) 38 false, Zo 43 (.pick (.t 38) (.c (.bool true)) (.t 42)), Zm 27 43]) (.cond (.t 27) (.seq (.region [Zo 2 (.mv (.c (.int .i64 2)))]) .ret) (.seq (.region [Zm 45 3, Zm 46 45, Zg 47 (.faddr 5 (.t 1)) 46 true, Zg 48 (.load none (.t 47)) 46 true, Zg 49 (.bin .eql .other (.t 48) (.c (.int .i64 0))) 46 true, Zo 50 (.pick (.t 46) (.t 49) (.c (.bool false))), Zm 51 50, Zg 52 (.mv (.t 3)) 51 false, Zg 53 (.un .not (.t 52)) 51 false, Zg 54 (.mv (.t 53)) 51 false, Zg 55 (.faddr 4 (.t 1)) 54 true, Zg 56 (.load none (.t 55)) 54 true, Zg 57 (.bin .neq .other (.t 56) (.c (.int .i64 0))) 54 true, Zg 58 (.mv (.t 57)) 54 true, Zg 59 (.faddr 5 (.t 1)) 58 false, Zg 60 (.load none (.t 59)) 58 false, Zg 61 (.bin .neq .other (.t 60) (.c (.int .i64 0))) 58 false, Zg 62 (.pick (.t 58) (.c (.bool true)) (.t 61)) 54 true, Zg 63 (.pick (.t 54) (.t 62) (.c (.bool false))) 51 false, Zo 64 (.pick (.t 51) (.c (.bool true)) (.t 63)), Zm 44 64]) (.cond (.t 44) (.seq (.region [Zo 2 (.mv (.c (.int .i64 8)))]) .ret) (.seq (.region [Zf 66 6 1, Zl 67 66, Zo 68 (.call (.f 54) [(.t 67)]), Zo 69 (.un .not (.t 68)), Zm 70 69, Zg 71 (.faddr 2 (.t 1)) 70 false, Zg 72 (.load none (.t 71)) 70 false, Zg 73 (.bin .eql .other (.t 72) (.c (.int .u8 2))) 70 false, Zg 74 (.mv (.t 73)) 70 false, Zg 75 (.faddr 7 (.t 1)) 74 true, Zg 76 (.load none (.t 75)) 74 true, Zg 77 (.pick (.t 74) (.t 76) (.c (.bool false))) 70 false, Zo 78 (.pick (.t 70) (.c (.bool true)) (.t 77)), Zm 65 78]) (.cond (.t 65) (.seq (.region [Zo 2 (.mv (.c (.int .i64 8)))]) .ret) (.seq (.region [Zf 80 8 1, Zl 81 80, Zo 82 (.lenV (.t 81)), Zb 83 .gtr (.t 82) (.c (.int .i64 4)), Zm 79 83]) (.cond (.t 79) (.seq (.region [Zo 2 (.mv (.c (.int .i64 3)))]) .ret) .skip))))))))))))) (.seq (.seq (.region [Zo 4 (.mv (.c (.int .i64 0)))]) (.block 1 (.loop (.seq (.seq (.region [Zm 84 4, Zf 85 8 1, Zl 86 85, Zo 87 (.lenV (.t 86)), Zb 88 .lss (.t 84) (.t 87)]) (.cond (.t 88) .skip (.exit 1))) (.seq (.block 2 (.seq (.region [Zf 91 8 1, Zl 92 91, Zm 93 4, Zo 94 (.iaddrS 8 (.t 92) (.t 93)), Zo 95 (.load (some 8) (.t 94)), Zo 96 (.call (.f 55) [(.t 95)]), Zm 5 96]) (.seq (.seq (.region [Zm 97 5, Zb 98 .neq (.t 97) (.c (.int .i64 0))]) (.cond (.t 98) (.seq (.region [Zm 99 5, Zm 2 99]) .ret) .skip)) (.seq (.region [Zf 100 2 1, Zl 101 100, Zb 102 .eql (.t 101) (.c (.int .u8 2)), Zm 103 102, Zg 104 (.faddr 8 (.t 1)) 103 true, Zg 105 (.load none (.t 104)) 103 true, Zg 106 (.mv (.t 4)) 103 true, Zg 107 (.iaddrS 8 (.t 105) (.t 106)) 103 true, Zg 108 (.faddr 0 (.t 107)) 103 true, Zg 109 (.load none (.t 108)) 103 true, Zg 110 (.bin .neq .other (.t 109) (.c (.int .u8 1))) 103 true, Zo 111 (.pick (.t 103) (.t 110) (.c (.bool false))), Zm 112 111, Zg 113 (.faddr 2 (.t 1)) 112 false, Zg 114 (.load none (.t 113)) 112 false, Zg 115 (.bin .eql .other (.t 114) (.c (.int .u8 3))) 112 false, Zg 116 (.mv (.t 115)) 112 false, Zg 117 (.faddr 8 (.t 1)) 116 true, Zg 118 (.load none (.t 117)) 116 true, Zg 119 (.mv (.t 4)) 116 true, Zg 120 (.iaddrS 8 (.t 118) (.t 119)) 116 true, Zg 121 (.faddr 0 (.t 120)) 116 true, Zg 122 (.load none (.t 121)) 116 true, Zg 123 (.bin .eql .other (.t 122) (.c (.int .u8 4))) 116 true, Zg 124 (.pick (.t 116) (.t 123) (.c (.bool false))) 112 false, Zo 125 (.pick (.t 112) (.c (.bool true)) (.t 124))]) (.cond (.t 125) (.seq (.region [Zo 2 (.mv (.c (.int .i64 8)))]) .ret) .skip))))) (.region [Zm 89 4, Zb 90 .add (.t 89) (.c (.int .i64 1)), Zm 4 90])))))) (.seq (.region [Zo 2 (.mv (.c (.int .i64 0)))]) .ret)))))⟩
theorem tbl13 : tbl Tryz.prog 13 = some cf13 := by kernel_rfl
theorem wl_suit (s : Int) : wlB s 1 6 = !decide (snm s = []) := by
 unfold wlB snm
 by_cases h : 1 ≤ s ∧ s ≤ 6
 · have h2 : Ef.sN s ≠ [] := by
     have : s = 1 ∨ s = 2 ∨ s = 3 ∨ s = 4 ∨ s = 5 ∨ s = 6 := by omega
     rcases this with rfl | rfl | rfl | rfl | rfl | rfl <;> decide
   rw [if_pos h]; simp [h.1, h.2, h2]
 · rw [if_neg h]
   rw [Bool.eq_iff_iff]; simp; omega
theorem wl_kind (s : Int) : wlB s 1 3 = !decide (wrd s = []) := by
 unfold wlB wrd
 by_cases h : 1 ≤ s ∧ s ≤ 3
 · have : s = 1 ∨ s = 2 ∨ s = 3 := by omega
   rcases this with rfl | rfl | rfl <;> rfl
 · rw [if_neg (by omega), if_neg (by omega), if_neg (by omega)]
   rw [Bool.eq_iff_iff]; simp; omega
theorem faceB_good {b1 b2 b3 b4 b5 b6 b7 b8 b9 b10 b11 b12 b14 b13 : Bool} (h : faceB b1 b2 b3 b4 b5 b6 b7 b8 b9 b10 b11 b12 b14 b13 = 0) :
    b1 = true ∧ b2 = false ∧ b3 = false ∧ b4 = true ∧ b5 = true ∧ b6 = true ∧ b11 = true ∧ b13 = false ∧ ((b7 = true ∧ b8 = false) ∨ (b7 = false ∧ b9 = false ∧ b10 = false)) ∧ (b12 = false ∨ (b12 = true ∧ b14 = false)) := by
 unfold faceB at h
 split at h
 · cases h
 split at h
 · cases h
 split at h
 · cases h
 split at h
 · cases h
 split at h
 · cases h
 split at h
 · cases h
 clear h
 rename_i h1 h2 h3 h4 h5 h6
 cases b1
 · exact absurd rfl h1
 cases b13
 case true => exact absurd rfl h6
 cases b2
 case true => exact absurd rfl h2
 cases b3
 case true => exact absurd rfl h2
 cases b4
 case false => exact absurd rfl h3
 cases b5
 case false => exact absurd rfl h3
 cases b6
 case false => exact absurd rfl h3
 cases b11
 case false => exact absurd rfl h5
 refine ⟨rfl, rfl, rfl, rfl, rfl, rfl, rfl, rfl, ?_, ?_⟩
 · clear h5
   cases b7 <;> cases b8 <;> cases b9 <;> cases b10 <;> first | exact .inl ⟨rfl, rfl⟩ | exact .inr ⟨rfl, rfl, rfl⟩ | exact absurd rfl h4
 · clear h4
   cases b12 <;> cases b14 <;> first | exact .inl rfl | exact .inr ⟨rfl, rfl⟩ | exact absurd rfl h5
structure RcI (c : Crd) (ps : List Prt) (v : AV) (h0 : AH) (n : Nat) (tm : List AV) (h : AH) : Prop where
 len : tm.length = 126
 t1 : tm.getD 1 AV.undef = .ptr (some (h0.n, 0))
 hp : h = (h0.withLow h0.n).push (.cells (c.cells v) false)
 st : ∃ i : Nat, n = ps.length - i ∧ i ≤ ps.length ∧ tm.getD 4 AV.undef = .int .i64 (i : Int) ∧ ∀ (j : Nat) p, j < i → ps[j]? = some p → partE c.kind p = 0
theorem cells_all (c : Crd) (v : AV) : (c.cells v)[0]? = some (.str c.name) ∧ (c.cells v)[1]? = some (.int .u8 c.suit) ∧ (c.cells v)[2]? = some (.int .u8 c.kind) ∧ (c.cells v)[3]? = some (.int .i64 c.cost) ∧ (c.cells v)[4]? = some (.int .i64 c.power) ∧ (c.cells v)[5]? = some (.int .i64 c.health) ∧ (c.cells v)[6]? = some (.int .u16 c.traits) ∧ (c.cells v)[7]? = some (.bool c.token) ∧ (c.cells v)[8]? = some v := ⟨rfl, rfl, rfl, rfl, rfl, rfl, rfl, rfl, rfl⟩
theorem rchk_spec (ho : ∀ f, f ∈ [13, 52, 53, 54, 55, 109, 141, 111, 112, 113, 114, 115, 116] → orc f = none) (c : Crd) (v : AV) (ps : List Prt) (hc : c.rng) (hr : ∀ p ∈ ps, p.rng) (h : AH) (hp : Parts h v ps) : acall orc T 13 [.agg (c.cells v)] h = some (.int .i64 (chkC c ps), h) := by
 have sub : ∀ l : List Nat, (∀ f ∈ l, f ∈ [13, 52, 53, 54, 55, 109, 141, 111, 112, 113, 114, 115, 116]) → ∀ f, f ∈ l → orc f = none := fun l hl f hf => ho f (hl f hf)
 have hp0 := hp
 obtain ⟨a, cap, rfl, hbig, _⟩ := hp
 have bx : ∀ (hh : AH), boxV (.agg (c.cells (.slice a ps.length cap))) hh = some (.ptr (some (hh.n, 0)), hh.push (.cells (c.cells (.slice a ps.length cap)) false)) := fun hh => boxV_agg _ rfl
 obtain ⟨x0, x1, x2, x3, x4, x5, x6, x7, x8⟩ := cells_all c (.slice a ps.length cap)
 have c1 := namemay_spec (orc := orc) (ho _ (by simp)) c.name
 have c2 := rwi_spec (orc := orc) (ho _ (by simp)) c.suit 1 6
 have c3 := rwi_spec (orc := orc) (ho _ (by simp)) c.kind 1 3
 have c4 := rwi_spec (orc := orc) (ho _ (by simp)) c.cost 0 10
 have c5 := rwi_spec (orc := orc) (ho _ (by simp)) c.power 0 99
 have c6 := rwi_spec (orc := orc) (ho _ (by simp)) c.health 0 99
 have c7 := rtcheck_spec (orc := orc) (ho _ (by simp)) c.traits hc.2.2.1 hc.2.2.2
 have w1 := Ef.wrap_byte hc.1.1 hc.1.2
 have w2 := Ef.wrap_byte hc.2.1.1 hc.2.1.2
 rw [wl_suit] at c2
 rw [wl_kind] at c3
 rw [show wlB c.cost 0 10 = wiB c.cost 10 from rfl] at c4
 rw [show wlB c.power 0 99 = wiB c.power 99 from rfl] at c5
 rw [show wlB c.health 0 99 = wiB c.health 99 from rfl] at c6
 refine acall_sym (ho _ (by simp)) tbl13 ?_
 have eC : ∀ p : Prt, p.rng → ∀ hh : AH, acall orc T 55 [.agg p.cells] hh = some (.int .i64 p.chk, hh) := fun p q hh => Ef.rcheck_spec (orc := orc) (sub _ (by decide)) p.a p.b p.c p.d p.e p.f p.g p.s q.1 q.2.1 q.2.2 hh
 clear sub ho hc
 have eK : chkC c ps = if faceE c ps.length = 0 then firstE c.kind ps else faceE c ps.length := rfl
 rw [eK]
 unfold faceE
 have g7 : (c.kind == 1) = true → (c.kind == 2) = false := fun e => by simp only [beq_iff_eq, beq_eq_false_iff_ne] at e ⊢; omega
 generalize Ef.isName c.name = b1 at *
 generalize e2 : decide (snm c.suit = []) = b2 at *
 generalize e3 : decide (wrd c.kind = []) = b3 at *
 generalize wiB c.cost 10 = b4 at *
 generalize wiB c.power 99 = b5 at *
 generalize wiB c.health 99 = b6 at *
 generalize e7 : (c.kind == 1) = b7 at *
 generalize e8 : (c.health == 0) = b8 at *
 generalize e9 : (c.power != 0) = b9 at *
 generalize e10 : (c.health != 0) = b10 at *
 generalize tcB c.traits = b11 at *
 generalize e12 : (c.kind == 2) = b12 at *
 generalize e14 : c.token = b14 at *
 generalize e13 : decide (4 < (ps.length : Int)) = b13 at *
 refine GD ?_
 by_cases hF : faceB b1 b2 b3 b4 b5 b6 b7 b8 b9 b10 b11 b12 b14 b13 = 0
 case neg =>
  rw [if_neg hF]
  have fct := Fj @bx (Fj @x0 (Fj @x1 (Fj @x2 (Fj @x3 (Fj @x4 (Fj @x5 (Fj @x6 (Fj @x7 (Fj @x8 (Fj @e14 (Fj @c1 (Fj @c2 (Fj @c3 (Fj @c4 (Fj @c5 (Fj @c6 (Fj @c7 (Fj @e2 (Fj @e3 (Fj @e7 (Fj @e8 (Fj @e9 (Fj @e10 (Fj @e12 (Fj @e13 (Fj @w1 (Fj @w2 (Fj @op_toInt (Fj @toIntV_int fsAstr)))))))))))))))))))))))))))))
  cases b1
  case true =>
   cases b2
   case true =>
    refine GO ?_
    (refine A_end ?_; try exact trivial)
    all_goals rfl
   case false =>
    cases b3
    case true =>
     refine GO ?_
     (refine A_end ?_; try exact trivial)
     all_goals rfl
    case false =>
     cases b4
     case true =>
      cases b5
      case true =>
       cases b6
       case true =>
        cases b7
        case true =>
         cases b8
         case true =>
          refine GO ?_
          (refine A_end ?_; try exact trivial)
          all_goals rfl
         case false =>
          cases b11
          case true =>
           cases b12
           case true =>
            cases b14
            case true =>
             refine GO ?_
             (refine A_end ?_; try exact trivial)
             all_goals rfl
            case false =>
             cases b13
             case true =>
              refine GO ?_
              (refine A_end ?_; try exact trivial)
              all_goals rfl
             case false =>
              exact absurd rfl hF
           case false =>
            cases b13
            case true =>
             refine GO ?_
             (refine A_end ?_; try exact trivial)
             all_goals rfl
            case false =>
             exact absurd rfl hF
          case false =>
           refine GO ?_
           (refine A_end ?_; try exact trivial)
           all_goals rfl
        case false =>
         cases b9
         case true =>
          refine GO ?_
          (refine A_end ?_; try exact trivial)
          all_goals rfl
         case false =>
          cases b10
          case true =>
           refine GO ?_
           (refine A_end ?_; try exact trivial)
           all_goals rfl
          case false =>
           cases b11
           case true =>
            cases b12
            case true =>
             cases b14
             case true =>
              refine GO ?_
              (refine A_end ?_; try exact trivial)
              all_goals rfl
             case false =>
              cases b13
              case true =>
               refine GO ?_
               (refine A_end ?_; try exact trivial)
               all_goals rfl
              case false =>
               exact absurd rfl hF
            case false =>
             cases b13
             case true =>
              refine GO ?_
              (refine A_end ?_; try exact trivial)
              all_goals rfl
             case false =>
              exact absurd rfl hF
           case false =>
            refine GO ?_
            (refine A_end ?_; try exact trivial)
            all_goals rfl
       case false =>
        refine GO ?_
        (refine A_end ?_; try exact trivial)
        all_goals rfl
      case false =>
       refine GO ?_
       (refine A_end ?_; try exact trivial)
       all_goals rfl
     case false =>
      refine GO ?_
      (refine A_end ?_; try exact trivial)
      all_goals rfl
  case false =>
   refine GO ?_
   (refine A_end ?_; try exact trivial)
   all_goals rfl
 case pos =>
  rw [if_pos hF]
  obtain ⟨rfl, rfl, rfl, rfl, rfl, rfl, rfl, rfl, h7, h12⟩ := faceB_good hF
  have key : (b7 = true ∧ b8 = false) ∨ (b7 = false ∧ b9 = false ∧ b10 = false) := h7
  clear hF g7
  have fct := Fj @bx (Fj @x0 (Fj @x1 (Fj @x2 (Fj @x3 (Fj @x4 (Fj @x5 (Fj @x6 (Fj @x7 (Fj @x8 (Fj @e14 (Fj @c1 (Fj @c2 (Fj @c3 (Fj @c4 (Fj @c5 (Fj @c6 (Fj @c7 (Fj @e2 (Fj @e3 (Fj @e7 (Fj @e8 (Fj @e9 (Fj @e10 (Fj @e12 (Fj @e13 (Fj @w1 (Fj @w2 (Fj @op_toInt (Fj @toIntV_int fsAstr)))))))))))))))))))))))))))))
  rcases key with ⟨rfl, rfl⟩ | ⟨rfl, rfl, rfl⟩ <;> rcases h12 with rfl | ⟨rfl, rfl⟩
  all_goals refine GO ?_
  all_goals refine CodeK_loop (RcI c ps (.slice a ps.length cap) h) ps.length ⟨rfl, rfl, by rfl, 0, rfl, by omega, rfl, fun j p hj => by omega⟩ ?_
  all_goals (
   clear fct
   clear c1 c2 c3 c4 c5 c6 c7 bx w1 w2 eK
   intro n tm H I
   obtain ⟨i, hn, hi, e4', ha⟩ := I.st
   have el := I.len
   have t1 := I.t1
   obtain rfl := I.hp
   clear I
   by_cases hlt : i < ps.length
   case neg =>
    obtain rfl : i = ps.length := by omega
    have l1 : decide ((ps.length : Int) < (ps.length : Int)) = false := by rw [decide_eq_false_iff_not]; omega
    rw [firstE_zero fun j p hj => ha j p (List.getElem?_eq_some_iff.1 hj).1 hj]
    (have fct := Fj @el (Fj @t1 (Fj @e4' (Fj @l1 @x8))); refine GO ?_; clear fct)
    (have fct := @el; refine A_end ?_; clear fct; try exact trivial)
   case pos =>
   have l1 : decide ((i : Int) < (ps.length : Int)) = true := by rw [decide_eq_true_eq]; omega
   obtain ⟨p, hpi⟩ : ∃ p, ps[i]? = some p := ⟨_, List.getElem?_eq_getElem hlt⟩
   obtain ⟨b, o, cells, ro, c', ev, hb, hg, hc⟩ := parts_get hp0 hpi
   cases ev
   have hg' : ∀ blk : Blk, ((h.withLow h.n).push blk).get b = some (.cells cells ro) := fun blk => by rw [Hp.get_push_ne _ _ _ (by simp; omega)]; exact hg
   have a1 := fun (hh : AH) => iaddrV_nat (h := hh) (esz := 8) (b := b) (o := o) (c := cap) (k := .i64) hlt
   have w1 : IntKind.wrap .i64 ((i : Int) + 1) = ((i + 1 : Nat) : Int) := by rw [wrap_i64 (by omega) (by omega)]; omega
   have ce := eC p (hr p (List.mem_of_getElem? hpi))
   have z2 : p.cells.length = 8 := rfl
   have y2 : (b = h.n) = False := by simp; omega
   have hc1 : (o + (i * 8 + 8) ≤ cells.length) = True := by have := (cut_parts hc).1; simp; omega
   have hc2 := (cut_parts hc).2
   have hc3 : cells[o + i * 8]? = some (.int .u8 p.a) := by
    have e := congrArg (·[0]?) hc2
    simpa [List.getElem?_take, List.getElem?_drop, Prt.cells] using e
   have hst : ∀ j q, partE c.kind p = 0 → j < i + 1 → ps[j]? = some q → partE c.kind q = 0 := fun j q hz hj hq => by
    rcases Nat.lt_succ_iff_lt_or_eq.1 hj with hj | rfl
    · exact ha j q hj hq
    · rw [hpi] at hq; cases hq; exact hz
   by_cases hk : p.chk = 0
   case neg =>
    have e3 : (p.chk != 0) = true := by simpa using hk
    have e4 : firstE c.kind ps = p.chk := by
     have h6 : partE c.kind p = p.chk := by unfold partE; rw [if_neg hk]
     rw [firstE_at hpi (fun j q hj hq => ha j q hj hq) (by rw [h6]; exact hk), h6]
    rw [e4]
    (have fct := Fj @el (Fj @t1 (Fj @e4' (Fj @l1 (Fj @a1 (Fj @hg' (Fj @hc1 (Fj @hc2 (Fj @x8 (Fj @ce (Fj @e3 @y2)))))))))); refine GO ?_; clear fct)
    (have fct := @el; refine A_end ?_; clear fct; try exact trivial)
   case pos =>
   have e3 : ((0 : Int) != 0) = false := rfl
   rw [hk] at ce
   cases w4 : (p.a == 4)
   case true =>
    have w1' : (p.a != 1) = true := by simp only [beq_iff_eq, bne_iff_ne] at w4 ⊢; omega
    cases k2 : (c.kind == 2)
    case true =>
     have hcl : partE c.kind p = 8 := by unfold partE clash; rw [if_pos hk, k2, w1']; rfl
     have e4 : firstE c.kind ps = 8 := by rw [firstE_at hpi (fun j q hj hq => ha j q hj hq) (by rw [hcl]; decide), hcl]
     rw [e4]
     (have fct := Fj @el (Fj @t1 (Fj @e4' (Fj @l1 (Fj @a1 (Fj @hg' (Fj @hc1 (Fj @hc2 (Fj @hc3 (Fj @x2 (Fj @x8 (Fj @ce (Fj @e3 (Fj @y2 (Fj @k2 (Fj @w4 @w1'))))))))))))))); refine GO ?_; clear fct)
     (have fct := @el; refine A_end ?_; clear fct; try exact trivial)
    case false =>
     cases k3 : (c.kind == 3)
     case true =>
      have hcl : partE c.kind p = 8 := by unfold partE clash; rw [if_pos hk, k2, k3, w4]; rfl
      have e4 : firstE c.kind ps = 8 := by rw [firstE_at hpi (fun j q hj hq => ha j q hj hq) (by rw [hcl]; decide), hcl]
      rw [e4]
      (have fct := Fj @el (Fj @t1 (Fj @e4' (Fj @l1 (Fj @a1 (Fj @hg' (Fj @hc1 (Fj @hc2 (Fj @hc3 (Fj @x2 (Fj @x8 (Fj @ce (Fj @e3 (Fj @y2 (Fj @k2 (Fj @k3 (Fj @w4 @w1')))))))))))))))); refine GO ?_; clear fct)
      (have fct := @el; refine A_end ?_; clear fct; try exact trivial)
     case false =>
      have hcl : partE c.kind p = 0 := by unfold partE clash; rw [if_pos hk, k2, k3]; rfl
      (have fct := Fj @el (Fj @t1 (Fj @e4' (Fj @l1 (Fj @a1 (Fj @hg' (Fj @hc1 (Fj @hc2 (Fj @hc3 (Fj @x2 (Fj @x8 (Fj @ce (Fj @e3 (Fj @y2 (Fj @k2 (Fj @k3 (Fj @w4 (Fj @w1' @w1))))))))))))))))); refine GO ?_; clear fct)
      exact ⟨ps.length - (i + 1), by omega, by simp only [List.length_set, el], by simp only [fsTm, Nat.reduceBEq, Nat.reduceLT, el, t1], rfl, i + 1, rfl, by omega, by simp only [fsTm, Nat.reduceBEq, Nat.reduceLT, el], fun j q hj hq => hst j q hcl hj hq⟩
   case false =>
    cases k2 : (c.kind == 2)
    case true =>
     have k3 : (c.kind == 3) = false := by simp only [beq_iff_eq, beq_eq_false_iff_ne] at k2 ⊢; omega
     cases w1' : (p.a != 1)
     case true =>
      have hcl : partE c.kind p = 8 := by unfold partE clash; rw [if_pos hk, k2, w1']; rfl
      have e4 : firstE c.kind ps = 8 := by rw [firstE_at hpi (fun j q hj hq => ha j q hj hq) (by rw [hcl]; decide), hcl]
      rw [e4]
      (have fct := Fj @el (Fj @t1 (Fj @e4' (Fj @l1 (Fj @a1 (Fj @hg' (Fj @hc1 (Fj @hc2 (Fj @hc3 (Fj @x2 (Fj @x8 (Fj @ce (Fj @e3 (Fj @y2 (Fj @k2 (Fj @k3 (Fj @w4 @w1')))))))))))))))); refine GO ?_; clear fct)
      (have fct := @el; refine A_end ?_; clear fct; try exact trivial)
     case false =>
      have hcl : partE c.kind p = 0 := by unfold partE clash; rw [if_pos hk, k2, w1', k3]; rfl
      (have fct := Fj @el (Fj @t1 (Fj @e4' (Fj @l1 (Fj @a1 (Fj @hg' (Fj @hc1 (Fj @hc2 (Fj @hc3 (Fj @x2 (Fj @x8 (Fj @ce (Fj @e3 (Fj @y2 (Fj @k2 (Fj @k3 (Fj @w4 (Fj @w1' @w1))))))))))))))))); refine GO ?_; clear fct)
      exact ⟨ps.length - (i + 1), by omega, by simp only [List.length_set, el], by simp only [fsTm, Nat.reduceBEq, Nat.reduceLT, el, t1], rfl, i + 1, rfl, by omega, by simp only [fsTm, Nat.reduceBEq, Nat.reduceLT, el], fun j q hj hq => hst j q hcl hj hq⟩
    case false =>
     have hcl : partE c.kind p = 0 := by unfold partE clash; rw [if_pos hk, k2, w4, Bool.and_false]; rfl
     cases k3 : (c.kind == 3)
     case true =>
      (have fct := Fj @el (Fj @t1 (Fj @e4' (Fj @l1 (Fj @a1 (Fj @hg' (Fj @hc1 (Fj @hc2 (Fj @hc3 (Fj @x2 (Fj @x8 (Fj @ce (Fj @e3 (Fj @y2 (Fj @k2 (Fj @k3 (Fj @w4 @w1)))))))))))))))); refine GO ?_; clear fct)
      exact ⟨ps.length - (i + 1), by omega, by simp only [List.length_set, el], by simp only [fsTm, Nat.reduceBEq, Nat.reduceLT, el, t1], rfl, i + 1, rfl, by omega, by simp only [fsTm, Nat.reduceBEq, Nat.reduceLT, el], fun j q hj hq => hst j q hcl hj hq⟩
     case false =>
      (have fct := Fj @el (Fj @t1 (Fj @e4' (Fj @l1 (Fj @a1 (Fj @hg' (Fj @hc1 (Fj @hc2 (Fj @hc3 (Fj @x2 (Fj @x8 (Fj @ce (Fj @e3 (Fj @y2 (Fj @k2 (Fj @k3 (Fj @w4 @w1)))))))))))))))); refine GO ?_; clear fct)
      exact ⟨ps.length - (i + 1), by omega, by simp only [List.length_set, el], by simp only [fsTm, Nat.reduceBEq, Nat.reduceLT, el, t1], rfl, i + 1, rfl, by omega, by simp only [fsTm, Nat.reduceBEq, Nat.reduceLT, el], fun j q hj hq => hst j q hcl hj hq⟩)
end Go.Proofs.Cards
