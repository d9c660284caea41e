/- deck.Check, told. -/
import Derived.Test.YtlppecefalblmaaGreatDoorFz05
import Derived.Test.YtlppecefalblmaaGreatDoorZtDkCheck
namespace Go.Proofs.Cards
set_option maxRecDepth 100000
set_option maxHeartbeats 32000000
open Go Go.Fs
set_option linter.unusedSimpArgs false
set_option linter.unusedVariables false
variable {orc : Orc}
theorem ov_a (a b c : AV) : Fs.over [a, b] 0 [c] = [c, b] := rfl
theorem ov_b (a b c : AV) : Fs.over [a, b] 1 [c] = [a, c] := rfl
theorem set_ov {l : List AV} {i : Nat} (h : i < l.length) (x : AV) : Fs.over l i [x] = l.set i x := by
 unfold Fs.over
 rw [List.set_eq_take_append_cons_drop, if_pos h]
 simp
def met (ks : List Int) : List AV := (List.range 65).map fun (k : Nat) => AV.int .i64 ((ks.count (k : Int) : Nat) : Int)
theorem met_len (ks : List Int) : (met ks).length = 65 := by simp [met]
theorem met_at (ks : List Int) {k : Nat} (h : k < 65) : (met ks)[k]? = some (.int .i64 ((ks.count (k : Int) : Nat) : Int)) := by
 unfold met
 rw [List.getElem?_map, List.getElem?_range h]
 rfl
theorem met_nil : met [] = List.replicate 65 (.int .i64 0) := by
 refine List.ext_getElem? fun i => ?_
 by_cases h : i < 65
 · rw [met_at [] h, List.getElem?_replicate, if_pos h]; simp
 · rw [List.getElem?_eq_none (by rw [met_len]; omega), List.getElem?_eq_none (by rw [List.length_replicate]; omega)]
theorem met_add (ks : List Int) {k : Nat} (h : k < 65) : Fs.over (met ks) k [.int .i64 ((ks.count (k : Int) + 1 : Nat) : Int)] = met (ks ++ [(k : Int)]) := by
 rw [set_ov (by rw [met_len]; exact h)]
 refine List.ext_getElem? fun i => ?_
 by_cases hi : i < 65
 · rw [List.getElem?_set, met_len]
   by_cases e : k = i
   · subst e
     rw [if_pos rfl, if_pos h, met_at _ h]
     simp
   · rw [if_neg e, met_at _ hi, met_at _ hi, List.count_append]
     have : ([(k : Int)] : List Int).count (i : Int) = 0 := by rw [List.count_eq_zero]; simp; omega
     rw [this]; rfl
 · rw [List.getElem?_eq_none (by rw [List.length_set, met_len]; omega), List.getElem?_eq_none (by rw [met_len]; omega)]
def ckF (ds : List Cd) : List Int → List Int → Option (Int × Int)
 | _, [] => none
 | seen, n :: r => match atD true ds n with
   | none => some (6, (seen.length : Int))
   | some d => if (d.1.token || decide (3 ≤ seen.count n)) = true then some (9, (seen.length : Int)) else ckF ds (seen ++ [n]) r
def chkD (sh : Bool) (ds : List Cd) (l : List Int) : Int × Int := if sh = false then (2, -1) else if l.length < 12 ∨ 40 < l.length then (9, -1) else (ckF ds [] l).getD (0, 0)
theorem ckF_at {ds : List Cd} {l : List Int} {i : Nat} {n : Int} (h : l[i]? = some n) : ckF ds (l.take i) (l.drop i) = match atD true ds n with
    | none => some (6, (i : Int))
    | some d => if (d.1.token || decide (3 ≤ (l.take i).count n)) = true then some (9, (i : Int)) else ckF ds (l.take (i + 1)) (l.drop (i + 1)) := by
 obtain ⟨hi, e⟩ := List.getElem?_eq_some_iff.1 h
 rw [List.drop_eq_getElem_cons hi, e, ckF, List.length_take, Nat.min_eq_left (by omega), List.take_add_one, h]
 rfl
theorem ints_at {h : AH} {v : AV} {l : List Int} (r : Ints .i64 h v l) {i : Nat} {x : Int} (hx : l[i]? = some x) : ∃ (b : Nat) (cells : List AV) (ro : Bool) (c : Cap), v = .slice (some (b, 0)) l.length c ∧ b < h.n ∧ h.get b = some (.cells cells ro) ∧ cells[i]? = some (.int .i64 x) := by
 obtain ⟨a, c, h1, _, h2⟩ := r
 rcases h2 with rfl | ⟨b, cells, ro, g1, g2, g3, g4⟩
 · simp at hx
 · exact ⟨b, cells, ro, c, by rw [h1, g1], g2, g3, g4 i x hx⟩
structure CkI (h : AH) (pa : Nat) (ds : List Cd) (v : AV) (l : List Int) (n : Nat) (tm : List AV) (H : AH) : Prop where
 len : tm.length = 60
 t0 : tm.getD 0 AV.undef = .ptr (some (pa, 0))
 t4 : tm.getD 4 AV.undef = .ptr (some (h.n, 0))
 t6 : tm.getD 6 AV.undef = .ptr (some (h.n + 2, 0))
 t26 : tm.getD 26 AV.undef = v
 t27 : tm.getD 27 AV.undef = .int .i64 (l.length : Int)
 res : H.get h.n = some (.cells [.int .i64 0, .int .i64 0] false)
 hn : h.n + 3 ≤ H.n
 old : ∀ b, b < h.n → H.get b = h.get b
 low : h.n ≤ H.low
 st : ∃ i : Nat, n = l.length - i ∧ i ≤ l.length ∧ tm.getD 28 AV.undef = .int .i64 (i : Int) ∧ H.get (h.n + 2) = some (.cells (met (l.take i)) false) ∧ ckF ds [] l = ckF ds (l.take i) (l.drop i)
theorem dcheck_spec (ho : ∀ f, f ∈ [25, 70] → orc f = none) {pa N : Nat} {ds : List Cd} {ms : List Mrk} {sh : Bool} {h : AH} {xs zs : List Cv} {v : AV} {l : List Int} (B : Bk1 pa N ds ms sh h xs zs) (hv : Ints .i64 h v l)
    (hAs : ∀ H : AH, Bk1 pa N ds ms sh H xs zs → acall orc T 69 [.ptr (some (pa, 0))] H = some (flt (if sh = true then 0 else 2) (if sh = true then 0 else -1), H))
    (hAt : ∀ (M : Nat) (n : Int) (H : AH), Bk1 pa N ds ms sh H xs zs → M ≤ H.n → ∃ v1 h1, acall orc T 34 [.ptr (some (pa, 0)), .int .i64 n] H = some (v1, h1) ∧ Ef.Kp M H h1 ∧ AtR h1 (atD sh ds n) v1) :
    acall orc T 25 [.ptr (some (pa, 0)), v] h = some (flt (chkD sh ds l).1 (chkD sh ds l).2, h) := by
 have hx : ∃ v1 h1, acall orc T 25 [.ptr (some (pa, 0)), v] h = some (v1, h1) ∧ v1 = flt (chkD sh ds l).1 (chkD sh ds l).2 ∧ h1 = h := by
  refine acall_facts (R := fun v1 h1 => v1 = flt (chkD sh ds l).1 (chkD sh ds l).2 ∧ h1 = h) (ho _ (by simp)) tbl25 ?_
  simp only [Ef.settle_fst1]
  have B1 : Bk1 pa N ds ms sh ((h.withLow h.n).push (.cells [.int .i64 0, .int .i64 0] false)) xs zs := B.off (by simp) fun b hb => by rw [Hp.get_push_ne _ _ _ (by simp; omega)]; rfl
  have f1 := hAs _ B1
  have f3 := dnone_spec (orc := orc) (ho _ (by simp)) 9
  obtain ⟨va, vc, hve, hvr, _⟩ := id hv
  have lvL : ∀ hh, lenV v hh = some (.int .i64 (l.length : Int), hh) := fun hh => by rw [hve]; rfl
  have stay : ∀ (X : AH) (e a : Int), h.n ≤ X.low → (Fs.settle h X (flt e a)).2 = h := fun X e a hl => by rw [settle_keep hl rfl]
  have y1 : (h.n = h.n + 1) = False := by simp
  have y2 : (h.n + 1 = h.n) = False := by simp
  unfold flt at f1 f3
  refine GD ?_
  cases sh with
  | false =>
    have e : chkD false ds l = (2, -1) := rfl
    rw [e]
    (have fct := Fj @f1 (Fj @ov_f (Fj @y1 @y2)); refine GOD ?_; clear fct)
    exact ⟨.inr rfl, flt 2 (-1), res_flt rfl (Hp.get_set_self _ _ _), rfl, stay _ _ _ (by simp)⟩
  | true =>
  by_cases h1 : l.length < 12
  · have d1 : decide ((l.length : Int) < 12) = true := decide_eq_true (by omega)
    have e : chkD true ds l = (9, -1) := by unfold chkD; rw [if_neg (by decide), if_pos (.inl h1)]
    rw [e]
    (have fct := Fj @f1 (Fj @f3 (Fj @ov_f (Fj @y1 (Fj @y2 (Fj @lvL @d1))))); refine GOD ?_; clear fct)
    exact ⟨.inr rfl, flt 9 (-1), res_flt rfl (Hp.get_set_self _ _ _), rfl, stay _ _ _ (by simp)⟩
  have d1 : decide ((l.length : Int) < 12) = false := decide_eq_false (by omega)
  by_cases h2 : 40 < l.length
  · have d2 : decide ((40 : Int) < (l.length : Int)) = true := decide_eq_true (by omega)
    have e : chkD true ds l = (9, -1) := by unfold chkD; rw [if_neg (by decide), if_pos (.inr h2)]
    rw [e]
    (have fct := Fj @f1 (Fj @f3 (Fj @ov_f (Fj @y1 (Fj @y2 (Fj @lvL (Fj @d1 @d2)))))); refine GOD ?_; clear fct)
    exact ⟨.inr rfl, flt 9 (-1), res_flt rfl (Hp.get_set_self _ _ _), rfl, stay _ _ _ (by simp)⟩
  have d2 : decide ((40 : Int) < (l.length : Int)) = false := decide_eq_false (by omega)
  have e : chkD true ds l = (ckF ds [] l).getD (0, 0) := by unfold chkD; rw [if_neg (by decide), if_neg (by omega)]
  rw [e]
  simp only [show ([AV.str [], AV.int .u8 0, AV.int .u8 0, AV.int .i64 0, AV.int .i64 0, AV.int .i64 0, AV.int .u16 0, AV.bool false, AV.slice none 0 (.exact 0)] : List AV) = zeroC.cells nilV from rfl]
  (have fct := Fj @f1 (Fj @ov_f (Fj @y1 (Fj @y2 (Fj @lvL (Fj @d1 @d2))))); refine GOD ?_; clear fct)
  refine CodeK_loop (CkI h pa ds v l) l.length ?_ ?_
  · refine ⟨rfl, rfl, rfl, rfl, rfl, rfl, ?_, by simp, fun b hb => ?_, by simp, 0, rfl, by omega, rfl, ?_, rfl⟩
    · rw [Hp.get_push_ne _ _ _ (by simp only [Hp.n_push, Hp.n_set, Hp.n_withLow]; omega), Hp.get_set_ne _ _ _ _ (by omega), Hp.get_push_ne _ _ _ (by simp only [Hp.n_push, Hp.n_withLow]; omega)]
      exact Hp.get_push_self _ _
    · rw [Hp.get_push_ne _ _ _ (by simp only [Hp.n_push, Hp.n_set, Hp.n_withLow]; omega), Hp.get_set_ne _ _ _ _ (by omega), Hp.get_push_ne _ _ _ (by simp only [Hp.n_push, Hp.n_withLow]; omega), Hp.get_push_ne _ _ _ (by simp only [Hp.n_withLow]; omega)]
      rfl
    · rw [List.take_zero, met_nil]
      exact Hp.get_push_self _ _
  clear f1 f3 B1 e
  intro n tm H I
  obtain ⟨i, hni, hi, e28, hmet, hck⟩ := I.st
  have el := I.len
  have e0 := I.t0
  have t4 := I.t4
  have t6 := I.t6
  have t26 := I.t26
  have t27 := I.t27
  have res := I.res
  have Hn := I.hn
  have old := I.old
  have lo := I.low
  clear I
  by_cases hlt : i < l.length
  case neg =>
   obtain rfl : i = l.length := by omega
   have l1 : decide ((l.length : Int) < (l.length : Int)) = false := by rw [decide_eq_false_iff_not]; omega
   rw [List.drop_length] at hck
   have e2 : ckF ds [] l = none := by rw [hck]; rfl
   rw [e2]
   (have fct := Fj @el (Fj @e0 (Fj @t4 (Fj @t6 (Fj @t26 (Fj @t27 (Fj @e28 (Fj @l1 (Fj @res @ov_f)))))))); refine GOD ?_; clear fct)
   exact ⟨.inr rfl, flt 0 0, res_flt (by simp only [fsTm, Nat.reduceBEq, Nat.reduceLT, el, t4]) (Hp.get_set_self _ _ _), rfl, stay _ _ _ (by simp; omega)⟩
  case pos =>
  have l1 : decide ((i : Int) < (l.length : Int)) = true := by rw [decide_eq_true_eq]; omega
  obtain ⟨x, hx⟩ : ∃ x, l[i]? = some x := ⟨_, List.getElem?_eq_getElem hlt⟩
  obtain ⟨rb, rcells, rro, rc, hv2, hrb, hrg, hcell⟩ := ints_at hv hx
  have hg0 := (old rb hrb).trans hrg
  have a1 := fun (hh : AH) => iaddrV_nat (h := hh) (esz := 1) (b := rb) (o := 0) (c := rc) (k := .i64) hlt
  rw [← hv2] at a1
  have w1 : IntKind.wrap .i64 ((i : Int) + 1) = ((i + 1 : Nat) : Int) := by rw [wrap_i64 (by omega) (by omega)]; omega
  rw [ckF_at hx] at hck
  have BH : Bk1 pa N ds ms true H xs zs := B.off (by omega) old
  (have fct := Fj @el (Fj @e0 (Fj @t4 (Fj @t6 (Fj @t26 (Fj @t27 (Fj @e28 (Fj @l1 (Fj @hg0 (Fj @hcell (Fj @a1 (Fj @Nat.mul_one @Nat.zero_add))))))))))); refine GOD ?_; clear fct)
  refine R_ex (by simp (maxDischargeDepth := 12) only [opsB, Nat.reduceEqDiff, Nat.reduceBEq, Nat.reduceBNe, Int.reduceBEq, Int.reduceBNe, Int.reduceLT, Int.reduceLE, Int.reduceEq, AV.one, AV.cells, CA.ev, abin, aint, aun, isShift, readVar, readCell, readCells, writeCells, fillA, reduceIte, Nat.reduceAdd, Nat.reduceSub, Nat.reduceLT, Nat.reduceLeDiff, resAll, resOne, AV.under, AV.unders, cut, el, e0, fsTm, Nat.reduceBEq, Nat.reduceLT]; (first | done | with_reducible rfl)) (hAt h.n x H BH (by omega)) fun v1 H1 hh => ?_
  obtain ⟨kp, har⟩ := hh
  have kn := kp.n
  have res1 := (kp.get h.n (by omega)).trans res
  have met1 := (kp.get (h.n + 2) (by omega)).trans hmet
  have lo1 := kp.low (by omega) lo
  refine R_tm (tm' := List.set _ 36 _) rfl ?_
  have y3 : (h.n = H1.n) = False := by simp; omega
  have y4 : (h.n + 2 = H1.n) = False := by simp; omega
  have y5 : (h.n = h.n + 2) = False := by simp
  have y6 : (H1.n = h.n + 2) = False := by simp; omega
  cases hat : atD true ds x with
  | none =>
    rw [hat] at har hck
    simp only at hck
    obtain rfl := har
    have z1 : (zeroC.cells nilV).all AV.one = true := rfl
    rw [hck]
    (have fct := Fj @el (Fj @e0 (Fj @t4 (Fj @t6 (Fj @e28 (Fj @z1 (Fj @res1 (Fj @y3 (Fj @ov_9 (Fj @ov_f (Fj @ov_a (Fj @ov_b @cells_len))))))))))); refine GOD ?_; clear fct)
    exact ⟨.inr rfl, flt 6 (i : Int), res_flt (by simp only [fsTm, Nat.reduceBEq, Nat.reduceLT, el, t4]) (Hp.get_set_self _ _ _), rfl, stay _ _ _ (by simp; omega)⟩
  | some d =>
    rw [hat] at har hck
    simp only at hck
    obtain ⟨w, rfl, hpw⟩ := har
    obtain ⟨wa, wc, rfl⟩ : ∃ a cap, w = .slice a d.2.length cap := by obtain ⟨a, cap, e, _⟩ := hpw; exact ⟨a, cap, e⟩
    have z1 : (d.1.cells (.slice wa d.2.length wc)).all AV.one = true := rfl
    have x7 : (d.1.cells (.slice wa d.2.length wc))[7]? = some (.bool d.1.token) := rfl
    have hdl : ds.length ≤ 64 := by have := B.l64; have := B.ax.1; omega
    obtain ⟨k, rfl, hk1, hk2⟩ : ∃ k : Nat, x = (k : Int) ∧ 1 ≤ k ∧ k < 65 := by
     unfold atD at hat
     split at hat
     · rename_i hc
       simp only [Bool.true_and, Bool.and_eq_true, decide_eq_true_eq] at hc
       exact ⟨x.toNat, by omega, by omega, by omega⟩
     · cases hat
    have a3 := fun (hh : AH) => iaddrA_nat (h := hh) (n := 65) (esz := 1) (b := h.n + 2) (o := 0) (k := .i64) hk2
    have m1 := met_at (l.take i) hk2
    have cle : (l.take i).count (k : Int) ≤ 40 := by
     have := List.count_le_length (a := (k : Int)) (l := l.take i)
     rw [List.length_take] at this
     omega
    have w2 : IntKind.wrap .i64 ((((l.take i).count (k : Int) : Nat) : Int) + 1) = (((l.take i).count (k : Int) + 1 : Nat) : Int) := by rw [wrap_i64 (by omega) (by omega)]; omega
    have o1 := met_add (l.take i) hk2
    have et : l.take (i + 1) = l.take i ++ [(k : Int)] := by rw [List.take_add_one, hx]; rfl
    rw [← et] at o1
    have m2 : (met (l.take (i + 1)))[k]? = some (.int .i64 (((l.take i).count (k : Int) + 1 : Nat) : Int)) := by
     rw [met_at _ hk2, et, List.count_append]
     simp
    have l9 : (k + 1 ≤ (met (l.take i)).length) = True := by rw [met_len]; simp; omega
    have l8 : (k < (met (l.take i)).length) = True := by rw [met_len]; simp; omega
    cases htk : d.1.token with
    | true =>
      rw [htk, Bool.true_or, if_pos rfl] at hck
      rw [htk] at x7
      rw [hck]
      (have fct := Fj @el (Fj @e0 (Fj @t4 (Fj @t6 (Fj @e28 (Fj @z1 (Fj @res1 (Fj @met1 (Fj @y3 (Fj @y4 (Fj @y5 (Fj @y6 (Fj @ov_9 (Fj @ov_f (Fj @ov_a (Fj @ov_b (Fj @cells_len (Fj @x7 (Fj @a3 (Fj @m1 (Fj @w2 (Fj @o1 (Fj @m2 (Fj @l9 (Fj @l8 (Fj @Ef.op_iaddrA (Fj @Nat.mul_one @Nat.zero_add)))))))))))))))))))))))))); refine GOD ?_; clear fct)
      exact ⟨.inr rfl, flt 9 (i : Int), res_flt (by simp only [fsTm, Nat.reduceBEq, Nat.reduceLT, el, t4]) (Hp.get_set_self _ _ _), rfl, stay _ _ _ (by simp; omega)⟩
    | false =>
      rw [htk, Bool.false_or] at hck
      rw [htk] at x7
      by_cases h3 : 3 ≤ (l.take i).count (k : Int)
      · rw [decide_eq_true h3, if_pos rfl] at hck
        rw [hck]
        have d3 : decide ((3 : Int) < (((l.take i).count (k : Int) + 1 : Nat) : Int)) = true := decide_eq_true (by omega)
        (have fct := Fj @el (Fj @e0 (Fj @t4 (Fj @t6 (Fj @e28 (Fj @z1 (Fj @res1 (Fj @met1 (Fj @y3 (Fj @y4 (Fj @y5 (Fj @y6 (Fj @ov_9 (Fj @ov_f (Fj @ov_a (Fj @ov_b (Fj @cells_len (Fj @x7 (Fj @a3 (Fj @m1 (Fj @w2 (Fj @o1 (Fj @m2 (Fj @l9 (Fj @l8 (Fj @d3 (Fj @Ef.op_iaddrA (Fj @Nat.mul_one @Nat.zero_add))))))))))))))))))))))))))); refine GOD ?_; clear fct)
        exact ⟨.inr rfl, flt 9 (i : Int), res_flt (by simp only [fsTm, Nat.reduceBEq, Nat.reduceLT, el, t4]) (Hp.get_set_self _ _ _), rfl, stay _ _ _ (by simp; omega)⟩
      · rw [decide_eq_false h3, if_neg (by decide)] at hck
        have d3 : decide ((3 : Int) < (((l.take i).count (k : Int) + 1 : Nat) : Int)) = false := decide_eq_false (by omega)
        (have fct := Fj @el (Fj @e0 (Fj @t4 (Fj @t6 (Fj @t26 (Fj @t27 (Fj @e28 (Fj @z1 (Fj @res1 (Fj @met1 (Fj @y3 (Fj @y4 (Fj @y5 (Fj @y6 (Fj @ov_9 (Fj @ov_f (Fj @ov_a (Fj @ov_b (Fj @cells_len (Fj @x7 (Fj @a3 (Fj @m1 (Fj @w1 (Fj @w2 (Fj @o1 (Fj @m2 (Fj @l9 (Fj @l8 (Fj @d3 (Fj @Ef.op_iaddrA (Fj @Nat.mul_one @Nat.zero_add)))))))))))))))))))))))))))))); refine GOD ?_; clear fct)
        refine ⟨l.length - (i + 1), by omega, by simp only [List.length_set, el], by simp only [fsTm, Nat.reduceBEq, Nat.reduceLT, el, e0], by simp only [fsTm, Nat.reduceBEq, Nat.reduceLT, el, t4], by simp only [fsTm, Nat.reduceBEq, Nat.reduceLT, el, t6], by simp only [fsTm, Nat.reduceBEq, Nat.reduceLT, el, t26], by simp only [fsTm, Nat.reduceBEq, Nat.reduceLT, el, t27], ?_, by simp; omega, fun b hb => ?_, by simp; omega, i + 1, rfl, by omega, by simp only [fsTm, Nat.reduceBEq, Nat.reduceLT, el], Hp.get_set_self _ _ _, hck⟩
        · rw [Hp.get_set_ne _ _ _ _ (by omega), Hp.get_set_ne _ _ _ _ (by omega), Hp.get_push_ne _ _ _ (by omega)]; exact res1
        · rw [Hp.get_set_ne _ _ _ _ (by omega), Hp.get_set_ne _ _ _ _ (by omega), Hp.get_push_ne _ _ _ (by omega), kp.get b (by omega)]; exact old b hb
 obtain ⟨v1, h1, e1, rfl, rfl⟩ := hx
 exact e1
end Go.Proofs.Cards
