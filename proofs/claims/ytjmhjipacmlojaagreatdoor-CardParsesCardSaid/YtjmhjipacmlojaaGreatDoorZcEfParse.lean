/- The parts of the parser: the place in a list, the next word, a trait's number. -/
import Derived.Test.YtjmhjipacmlojaaGreatDoorFz05
import Derived.Test.YtjmhjipacmlojaaGreatDoorZcEfPrint
import Derived.Test.YtjmhjipacmlojaaGreatDoorFz05
namespace Go.Proofs.Ef
set_option maxRecDepth 100000
set_option maxHeartbeats 32000000
open Go Go.Fs
set_option linter.unusedSimpArgs false
set_option linter.unusedVariables false
variable {orc : Orc}
def cf52 : CF := ⟨19, [(.tmp 4)], (.seq (.region [Zo 4 (.mv (.c (.int .i64 0)))]) (.seq (.seq (.region [Zm 6 0, Zo 7 (.lenV (.t 6)), Zo 8 (.mv (.c (.int .i64 0)))]) (.block 0 (.loop (.seq (.region [Zb 9 .lss (.t 8) (.t 7)]) (.seq (.cond (.t 9) .skip (.exit 0)) (.seq (.block 1 (.seq (.region [Zm 10 8, Zm 5 10]) (.seq (.region [Zm 11 1, Zm 12 0, Zm 13 5, Zo 14 (.iaddrS 1 (.t 12) (.t 13)), Zl 15 14, Zb 16 .eql (.t 11) (.t 15)]) (.cond (.t 16) (.seq (.region [Zm 17 5, Zm 4 17]) .ret) .skip)))) (.region [Zb 18 .add (.t 8) (.c (.int .i64 1)), Zm 8 18]))))))) (.seq (.region [Zo 4 (.mv (.c (.int .i64 (-1))))]) .ret)))⟩
def cf53 : CF := ⟨18, [(.tmp 3)], (.seq (.region [Zo 3 (.mv (.c (.str [])))]) (.seq (.seq (.region [Zm 5 0, Zo 6 (.un .not (.t 5)), Zm 7 6, Zg 8 (.load none (.t 1)) 7 false, Zg 9 (.lenV (.t 8)) 7 false, Zg 10 (.bin .eql .other (.t 9) (.c (.int .i64 0))) 7 false, Zo 11 (.pick (.t 7) (.c (.bool true)) (.t 10))]) (.cond (.t 11) (.seq (.region [Zo 3 (.mv (.c (.str [])))]) .ret) .skip)) (.seq (.region [Zl 12 1, Zo 13 (.iaddrS 1 (.t 12) (.c (.int .i64 0))), Zl 14 13, Zm 4 14]) (.seq (.region [Zl 15 1, Zo 16 (.slcV 1 (.t 15) (some (.c (.int .i64 1))) none none), Zn (.store 1 (.t 1) (.t 16))]) (.seq (.region [Zm 17 4, Zm 3 17]) .ret)))))⟩
def cf57 : CF := ⟨14, [(.tmp 2), (.tmp 3)], (.seq (.region [Zo 2 (.mv (.c (.int .u8 0))), Zo 3 (.mv (.c (.bool false)))]) (.seq (.seq (.region [Zo 4 (.mv (.c (.int .u8 1)))]) (.block 0 (.loop (.seq (.seq (.region [Zm 5 4, Zb 6 .leq (.t 5) (.c (.int .u8 8))]) (.cond (.t 6) .skip (.exit 0))) (.seq (.block 1 (.seq (.region [Zm 9 4, Zo 10 (.call (.f 34) [(.t 9)]), Zm 11 0, Zb 12 .eql (.t 10) (.t 11)]) (.cond (.t 12) (.seq (.region [Zm 13 4, Zm 2 13, Zo 3 (.mv (.c (.bool true)))]) .ret) .skip))) (.region [Zm 7 4, Zb 8 .add (.t 7) (.c (.int .u8 1)), Zm 4 8])))))) (.seq (.region [Zo 2 (.mv (.c (.int .u8 0))), Zo 3 (.mv (.c (.bool false)))]) .ret)))⟩
theorem tbl52 : tbl Tryz.prog 52 = some cf52 := by kernel_rfl
theorem tbl53 : tbl Tryz.prog 53 = some cf53 := by kernel_rfl
theorem tbl57 : tbl Tryz.prog 57 = some cf57 := by kernel_rfl
def posI (L : List (List UInt8)) (x : List UInt8) : Int := match L.findIdx? (fun y => decide (x = y)) with
 | some i => (i : Int)
 | none => -1
theorem find_none {L : List (List UInt8)} {x : List UInt8} (h : ∀ (j : Nat) y, L[j]? = some y → x ≠ y) : posI L x = -1 := by
 have : L.findIdx? (fun y => decide (x = y)) = none := by
  rw [List.findIdx?_eq_none_iff]
  intro y hy
  obtain ⟨j, hj⟩ := List.getElem?_of_mem hy
  simpa using h j y hj
 rw [posI, this]
theorem find_some {L : List (List UInt8)} {x : List UInt8} {i : Nat} (hi : L[i]? = some x) (h : ∀ (j : Nat) y, j < i → L[j]? = some y → x ≠ y) : posI L x = (i : Int) := by
 have hl : i < L.length := (List.getElem?_eq_some_iff.1 hi).1
 have : L.findIdx? (fun y => decide (x = y)) = some i := by
  rw [List.findIdx?_eq_some_iff_getElem]
  refine ⟨hl, by rw [(List.getElem?_eq_some_iff.1 hi).2]; simp, fun j hj => ?_⟩
  have := h j L[j] hj (List.getElem?_eq_getElem _)
  simpa using this
 rw [posI, this]
structure IxI (L : List (List UInt8)) (x : List UInt8) (v : AV) (h0 : AH) (n : Nat) (tm : List AV) (h : AH) : Prop where
 len : tm.length = 19
 t0 : tm.getD 0 AV.undef = v
 t1 : tm.getD 1 AV.undef = .str x
 t6 : tm.getD 6 AV.undef = v
 t7 : tm.getD 7 AV.undef = .int .i64 (L.length : Int)
 hp : h = h0.withLow h0.n
 st : ∃ i : Nat, n = L.length - i ∧ i ≤ L.length ∧ tm.getD 8 AV.undef = .int .i64 (i : Int) ∧ ∀ (j : Nat) y, j < i → L[j]? = some y → x ≠ y
theorem index_spec (ho : orc 52 = none) (L : List (List UInt8)) (x : List UInt8) (b : Nat) (cap : Cap) (ro : Bool) (hl : L.length ≤ 1000) {h : AH} (hb : h.get b = some (.cells (L.map AV.str) ro)) :
    acall orc T 52 [.slice (some (b, 0)) L.length cap, .str x] h = some (.int .i64 (posI L x), h) := by
 refine acall_sym ho tbl52 ?_
 refine GD ?_
 (have fct := trivial; (repeat' first | refine A_walk ?_ | exact trivial | refine GuardK_split (fun hb => ?_) (fun hb => ?_) | refine CondK_split (fun hb => ?_) (fun hb => ?_) | refine CodeK_regionD _ ?_ | refine DGuardK_split (fun hb => ?_) (fun hb => ?_)); all_goals try clear fct)
 refine CodeK_loop (IxI L x (.slice (some (b, 0)) L.length cap) h) L.length ?_ ?_
 · exact ⟨rfl, rfl, rfl, rfl, rfl, rfl, 0, rfl, Nat.zero_le _, rfl, fun j y hj => by omega⟩
 intro n tm h' I
 obtain ⟨i, hn, hi, e8, ha⟩ := I.st
 have el := I.len
 have e0 := I.t0
 have e1 := I.t1
 have e6 := I.t6
 have e7 := I.t7
 obtain rfl := I.hp
 clear I
 by_cases hlt : i < L.length
 case neg =>
  obtain rfl : i = L.length := by omega
  have l1 : decide ((L.length : Int) < (L.length : Int)) = false := by rw [decide_eq_false_iff_not]; omega
  rw [find_none (fun j y hj => ha j y (List.getElem?_eq_some_iff.1 hj).1 hj)]
  clear ha
  (have fct := Fj @el (Fj @e0 (Fj @e1 (Fj @e6 (Fj @e7 (Fj @e8 @l1))))); (repeat' first | refine A_walk ?_ | exact trivial | refine GuardK_split (fun hb => ?_) (fun hb => ?_) | refine CondK_split (fun hb => ?_) (fun hb => ?_) | refine CodeK_regionD _ ?_ | refine DGuardK_split (fun hb => ?_) (fun hb => ?_)); all_goals try clear fct)
 case pos =>
  have l1 : decide ((i : Int) < (L.length : Int)) = true := by rw [decide_eq_true_eq]; omega
  have w1 : IntKind.wrap .i64 ((i : Int) + 1) = ((i + 1 : Nat) : Int) := by rw [wrap_i64 (by omega) (by omega)]; omega
  obtain ⟨y, hy⟩ : ∃ y, L[i]? = some y := ⟨_, List.getElem?_eq_getElem hlt⟩
  have hm : (L.map AV.str)[i]? = some (.str y) := by rw [List.getElem?_map, hy]; rfl
  have a1 := fun (hh : AH) => iaddrV_nat (h := hh) (esz := 1) (b := b) (o := 0) (c := cap) (k := .i64) hlt
  cases hq : decide (x = y) with
  | true =>
    have hxy : x = y := of_decide_eq_true hq
    rw [find_some (hxy ▸ hy) ha]
    clear ha hxy hy
    (have fct := Fj @el (Fj @e0 (Fj @e1 (Fj @e6 (Fj @e7 (Fj @e8 (Fj @l1 (Fj @a1 (Fj @hb (Fj @hm (Fj @hq (Fj fsAstr @Nat.mul_one))))))))))); (repeat' first | refine A_walk ?_ | exact trivial | refine GuardK_split (fun hb => ?_) (fun hb => ?_) | refine CondK_split (fun hb => ?_) (fun hb => ?_) | refine CodeK_regionD _ ?_ | refine DGuardK_split (fun hb => ?_) (fun hb => ?_)); all_goals try clear fct)
  | false =>
    have hxy : x ≠ y := of_decide_eq_false hq
    have KA : Hidden ((∀ (j : Nat) y, j < i → L[j]? = some y → x ≠ y) ∧ x ≠ y ∧ L[i]? = some y) := ⟨ha, hxy, hy⟩
    clear ha hxy hy
    (have fct := Fj @el (Fj @e0 (Fj @e1 (Fj @e6 (Fj @e7 (Fj @e8 (Fj @l1 (Fj @a1 (Fj @hb (Fj @hm (Fj @hq (Fj fsAstr (Fj @w1 @Nat.mul_one)))))))))))); (repeat' first | refine A_walk ?_ | exact trivial | refine GuardK_split (fun hb => ?_) (fun hb => ?_) | refine CondK_split (fun hb => ?_) (fun hb => ?_) | refine CodeK_regionD _ ?_ | refine DGuardK_split (fun hb => ?_) (fun hb => ?_)); all_goals try clear fct)
    refine ⟨L.length - (i + 1), by omega, by simp only [List.length_set, el], by simp only [fsTm, Nat.reduceBEq, Nat.reduceLT, el, e0], by simp only [fsTm, Nat.reduceBEq, Nat.reduceLT, el, e1], by simp only [fsTm, Nat.reduceBEq, Nat.reduceLT, el, e6], by simp only [fsTm, Nat.reduceBEq, Nat.reduceLT, el, e7], rfl, i + 1, rfl, by omega, by simp only [fsTm, Nat.reduceBEq, Nat.reduceLT, el], fun j z hj hz => ?_⟩
    rcases Nat.lt_succ_iff_lt_or_eq.1 hj with hj | rfl
    · exact KA.out.1 j z hj hz
    · rw [KA.out.2.2] at hz
      cases hz
      exact KA.out.2.1
def Rest (N : Nat) (h : AH) (pb : Nat) (R : List (List UInt8)) : Prop :=
 ∃ (b off : Nat) (all : List (List UInt8)) (ro : Bool), h.get pb = some (.cells [.slice (some (b, off)) R.length (.exact R.length)] false) ∧ (N < b ∧ b < pb) ∧ h.get b = some (.cells (all.map AV.str) ro) ∧ (R ≠ [] → all.drop off = R)
def nextW (u : Bool) (R : List (List UInt8)) : List UInt8 := if u = true then R.headD [] else []
def nextR (u : Bool) (R : List (List UInt8)) : List (List UInt8) := if u = true then R.tail else R
theorem slcVV_tail {b o n : Nat} (tm : List AV) (h : AH) : slcVV tm 1 (.slice (some (b, o)) (n + 1) (.exact (n + 1))) (some (.c (.int .i64 1))) none none h = some (.slice (some (b, if n = 0 then o else o + 1)) n (.exact n), h) := by
 have hb : bounds3 tm (n + 1) (n + 1) (some (.c (.int .i64 1))) none none = some (1, n + 1, n + 1) := by
  unfold bounds3
  simp only [optBound, CA.ev, bound]
  simp [highOf]
  omega
 unfold slcVV
 simp only [quietRun, CA.ev, hb, Option.map_some]
 by_cases hn : n = 0
 · subst hn; simp
 · simp [hn]
theorem next_spec (N : Nat) (ho : orc 53 = none) (u : Bool) (R : List (List UInt8)) (pb : Nat) {h : AH} (hl : R.length ≤ 1000) (hr : Rest N h pb R) (hp : pb < h.n) :
    ∃ v1 h1, acall orc T 53 [.bool u, .ptr (some (pb, 0))] h = some (v1, h1) ∧ (v1 = .str (nextW u R) ∧ Rest N h1 pb (nextR u R) ∧ h1.n = h.n ∧ (∀ b, b ≠ pb → h1.get b = h.get b) ∧ (N ≤ h.low → N ≤ pb → N ≤ h1.low)) := by
 have keep : ∀ x : List UInt8, acall orc T 53 [.bool u, .ptr (some (pb, 0))] h = some (.str x, h) → x = nextW u R → Rest N h pb (nextR u R) → ∃ v1 h1, acall orc T 53 [.bool u, .ptr (some (pb, 0))] h = some (v1, h1) ∧ (v1 = .str (nextW u R) ∧ Rest N h1 pb (nextR u R) ∧ h1.n = h.n ∧ (∀ b, b ≠ pb → h1.get b = h.get b) ∧ (N ≤ h.low → N ≤ pb → N ≤ h1.low)) :=
  fun x h1 h2 h3 => ⟨_, _, h1, by rw [h2], h3, rfl, fun _ _ => rfl, fun h _ => h⟩
 cases u with
 | false =>
   refine keep [] ?_ rfl hr
   refine acall_sym ho tbl53 ?_
   clear keep hr
   refine GD ?_
   (have fct := trivial; (repeat' first | refine A_walk ?_ | exact trivial | refine GuardK_split (fun hb => ?_) (fun hb => ?_) | refine CondK_split (fun hb => ?_) (fun hb => ?_) | refine CodeK_regionD _ ?_ | refine DGuardK_split (fun hb => ?_) (fun hb => ?_)); all_goals try clear fct)
 | true =>
   cases R with
   | nil =>
     refine keep [] ?_ rfl hr
     obtain ⟨b, off, all, ro, g1, _, _, _⟩ := hr
     refine acall_sym ho tbl53 ?_
     clear keep
     have l0 : (((0 : Nat) : Int) == 0) = true := by decide
     refine GD ?_
     (have fct := Fj @g1 @l0; (repeat' first | refine A_walk ?_ | exact trivial | refine GuardK_split (fun hb => ?_) (fun hb => ?_) | refine CondK_split (fun hb => ?_) (fun hb => ?_) | refine CodeK_regionD _ ?_ | refine DGuardK_split (fun hb => ?_) (fun hb => ?_)); all_goals try clear fct)
   | cons x R =>
     clear keep
     obtain ⟨b, off, all, ro, g1, nb, g2, g3⟩ := hr
     have g4 := g3 (by simp)
     have hx : all[off]? = some x := by
      have := congrArg (·[0]?) g4
      simpa [List.getElem?_drop] using this
     have hR : all.drop (off + 1) = R := by
      have := congrArg List.tail g4
      simpa [List.tail_drop] using this
     have hm : (all.map AV.str)[off]? = some (.str x) := by rw [List.getElem?_map, hx]; rfl
     have nb' : b ≠ pb := by omega
     have KH : Hidden (all.drop (off + 1) = R ∧ (N < b ∧ b < pb) ∧ h.get b = some (.cells (all.map AV.str) ro)) := ⟨hR, nb, g2⟩
     clear g3 g4 hx hR
     refine acall_facts (R := fun v1 h1 => v1 = .str (nextW true (x :: R)) ∧ Rest N h1 pb (nextR true (x :: R)) ∧ h1.n = h.n ∧ (∀ b, b ≠ pb → h1.get b = h.get b) ∧ (N ≤ h.low → N ≤ pb → N ≤ h1.low)) ho tbl53 ?_
     simp only [settle_fst1]
     have l1 : (((R.length + 1 : Nat) : Int) == 0) = false := by rw [beq_eq_false_iff_ne]; omega
     have a1 := fun (hh : AH) => iaddrV_at (h := hh) (esz := 1) (b := b) (o := off) (len := R.length + 1) (c := .exact (R.length + 1)) (k := .i64) (n := 0) (by omega) (by omega)
     have s1 := fun (tm : List AV) (hh : AH) => slcVV_tail (b := b) (o := off) (n := R.length) tm hh
     have z1 : (b = pb) = False := eq_false nb'
     clear nb'
     refine GD ?_
     (have fct := Fj @g1 (Fj @g2 (Fj @hm (Fj @l1 (Fj @a1 (Fj @s1 (Fj @z1 (Fj @op_slcV (Fj @Nat.mul_one (Fj @Nat.zero_mul @Int.toNat_zero))))))))); (repeat' first | refine A_walk ?_ | exact trivial | refine GuardK_split (fun hb => ?_) (fun hb => ?_) | refine CondK_split (fun hb => ?_) (fun hb => ?_) | refine CodeK_regionD _ ?_ | refine DGuardK_split (fun hb => ?_) (fun hb => ?_)); all_goals try clear fct)
     have hst : ∀ (B : Blk) (v : AV), (Fs.settle h ((Hp.withLow h h.n).set pb B) v).2 = ((Hp.withLow h h.n).set pb B).withLow (min h.low (min h.n pb)) := by
      intro B v
      unfold Fs.settle
      rw [if_neg (by simp; omega)]
      simp
     simp only [hst]
     refine ⟨_, rfl, rfl, ⟨b, if R.length = 0 then off else off + 1, all, ro, ?_, KH.out.2.1, ?_, fun hne => ?_⟩, by simp, fun b' hb' => ?_, fun h1 h2 => by simp; omega⟩
     · rw [Hp.get_withLow]
       exact Hp.get_set_self _ _ _
     · rw [Hp.get_withLow, Hp.get_set_ne _ _ _ _ (by have := KH.out.2.1; omega), Hp.get_withLow]
       exact KH.out.2.2
     · have : R ≠ [] := hne
       rw [if_neg (by simpa using this)]
       exact KH.out.1
     · rw [Hp.get_withLow, Hp.get_set_ne _ _ _ _ hb', Hp.get_withLow]
structure ToI (x : List UInt8) (h0 : AH) (n : Nat) (tm : List AV) (h : AH) : Prop where
 len : tm.length = 14
 t0 : tm.getD 0 AV.undef = .str x
 hp : h = h0.withLow h0.n
 st : ∃ i : Nat, n = 8 - i ∧ i ≤ 8 ∧ tm.getD 4 AV.undef = .int .u8 ((i : Int) + 1) ∧ ∀ (j : Nat), j < i → tN ((j : Int) + 1) ≠ x
theorem wrap_u8a {n : Nat} (h : n < 200) : IntKind.wrap .u8 ((n : Int) + 1 + 1) = ((n + 1 : Nat) : Int) + 1 := by
 have e3 : IntKind.bits .u8 = 8 := rfl
 have e4 : IntKind.signed .u8 = false := rfl
 have hp : (2 : Int) ^ 8 = 256 := by decide
 unfold IntKind.wrap
 simp only [e3, e4, Bool.false_and, hp, Bool.false_eq_true, if_false]
 omega
def traitOf (x : List UInt8) : Int × Bool := match (List.range 8).find? (fun (i : Nat) => decide (tN ((i : Int) + 1) = x)) with
 | some i => ((i : Int) + 1, true)
 | none => (0, false)
theorem traitOf_none {x : List UInt8} (h : ∀ j : Nat, j < 8 → tN ((j : Int) + 1) ≠ x) : traitOf x = (0, false) := by
 have : (List.range 8).find? (fun (i : Nat) => decide (tN ((i : Int) + 1) = x)) = none := by
  rw [List.find?_eq_none]
  intro j hj
  simpa using h j (List.mem_range.1 hj)
 rw [traitOf, this]
theorem traitOf_some {x : List UInt8} {i : Nat} (hi : i < 8) (hx : tN ((i : Int) + 1) = x) (h : ∀ j : Nat, j < i → tN ((j : Int) + 1) ≠ x) : traitOf x = ((i : Int) + 1, true) := by
 have : (List.range 8).find? (fun (i : Nat) => decide (tN ((i : Int) + 1) = x)) = some i := by
  rw [List.find?_range_eq_some]
  exact ⟨by simpa using hx, by simpa using hi, fun j hj => by simpa using h j hj⟩
 rw [traitOf, this]
theorem traitOf_spec (ho : orc 57 = none) {h0 : AH} (hT : Told orc h0) (x : List UInt8) {h : AH} (hg : Grown h0 h) : acall orc T 57 [.str x] h = some (.tuple [.int .u8 (traitOf x).1, .bool (traitOf x).2], h) := by
 refine acall_sym ho tbl57 ?_
 have KT : Hidden (Told orc h0 ∧ Grown h0 h) := ⟨hT, hg⟩
 clear hT hg
 refine GD ?_
 (have fct := trivial; (repeat' first | refine A_walk ?_ | exact trivial | refine GuardK_split (fun hb => ?_) (fun hb => ?_) | refine CondK_split (fun hb => ?_) (fun hb => ?_) | refine CodeK_regionD _ ?_ | refine DGuardK_split (fun hb => ?_) (fun hb => ?_)); all_goals try clear fct)
 refine CodeK_loop (ToI x h) 8 ?_ ?_
 · exact ⟨rfl, rfl, rfl, 0, rfl, Nat.zero_le _, rfl, fun j hj => by omega⟩
 intro n tm h' I
 obtain ⟨i, hn, hi, e4, ha⟩ := I.st
 have el := I.len
 have e0 := I.t0
 obtain rfl := I.hp
 clear I
 by_cases hlt : i < 8
 case neg =>
  obtain rfl : i = 8 := by omega
  rw [traitOf_none ha]
  clear ha
  have l1 : decide (((8 : Nat) : Int) + 1 ≤ 8) = false := by decide
  (have fct := Fj @el (Fj @e0 (Fj @e4 @l1)); (repeat' first | refine A_walk ?_ | exact trivial | refine GuardK_split (fun hb => ?_) (fun hb => ?_) | refine CondK_split (fun hb => ?_) (fun hb => ?_) | refine CodeK_regionD _ ?_ | refine DGuardK_split (fun hb => ?_) (fun hb => ?_)); all_goals try clear fct)
 case pos =>
  have l1 : decide ((i : Int) + 1 ≤ 8) = true := by rw [decide_eq_true_eq]; omega
  have w1 := wrap_u8a (n := i) (by omega)
  have c1 := KT.out.1.trait ((i : Int) + 1) (h.withLow h.n) (KT.out.2.low _) (by omega) (by omega)
  cases hq : decide (tN ((i : Int) + 1) = x) with
  | true =>
    rw [traitOf_some hlt (of_decide_eq_true hq) ha]
    clear ha
    (have fct := Fj @el (Fj @e0 (Fj @e4 (Fj @l1 (Fj @c1 (Fj @hq fsAstr))))); (repeat' first | refine A_walk ?_ | exact trivial | refine GuardK_split (fun hb => ?_) (fun hb => ?_) | refine CondK_split (fun hb => ?_) (fun hb => ?_) | refine CodeK_regionD _ ?_ | refine DGuardK_split (fun hb => ?_) (fun hb => ?_)); all_goals try clear fct)
  | false =>
    have KA : Hidden ((∀ j : Nat, j < i → tN ((j : Int) + 1) ≠ x) ∧ tN ((i : Int) + 1) ≠ x) := ⟨ha, of_decide_eq_false hq⟩
    clear ha
    (have fct := Fj @el (Fj @e0 (Fj @e4 (Fj @l1 (Fj @c1 (Fj @hq (Fj fsAstr @w1)))))); (repeat' first | refine A_walk ?_ | exact trivial | refine GuardK_split (fun hb => ?_) (fun hb => ?_) | refine CondK_split (fun hb => ?_) (fun hb => ?_) | refine CodeK_regionD _ ?_ | refine DGuardK_split (fun hb => ?_) (fun hb => ?_)); all_goals try clear fct)
    refine ⟨8 - (i + 1), by omega, by simp only [List.length_set, el], by simp only [fsTm, Nat.reduceBEq, Nat.reduceLT, el, e0], rfl, i + 1, rfl, by omega, by simp only [fsTm, Nat.reduceBEq, Nat.reduceLT, el], fun j hj => ?_⟩
    rcases Nat.lt_succ_iff_lt_or_eq.1 hj with hj | rfl
    · exact KA.out.1 j hj
    · exact KA.out.2
end Go.Proofs.Ef
