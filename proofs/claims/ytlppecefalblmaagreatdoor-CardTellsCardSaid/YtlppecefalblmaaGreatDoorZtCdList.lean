/- The traits of a set, in their order. -/
import Derived.Test.YtlppecefalblmaaGreatDoorFz05
import Derived.Test.YtlppecefalblmaaGreatDoorZtCdChk
namespace Go.Proofs.Cards
set_option maxRecDepth 100000
set_option maxHeartbeats 32000000
open Go Go.Fs
set_option linter.unusedSimpArgs false
set_option linter.unusedVariables false
variable {orc : Orc}
def cf41 : CF := ⟨17, [(.tmp 2)], (.seq (.region [Zo 2 (.mv (.c (.slice none 0 (.exact 0))))]) (.seq (.region [Zo 3 (.mv (.c (.slice none 0 (.exact 0))))]) (.seq (.seq (.region [Zo 4 (.mv (.c (.int .u8 1)))]) (.block 0 (.loop (.seq (.seq (.region [Zm 5 4, Zb 6 .leq (.t 5) (.c (.int .u8 8))]) (.cond (.t 6) .skip (.exit 0))) (.seq (.block 1 (.seq (.region [Zm 9 0, Zm 10 4, Zo 11 (.call (.f 99) [(.t 9), (.t 10)])]) (.cond (.t 11) (.region [Zm 12 3, Zm 13 4, Zo 14 (.litS 1 1 [(.int .u8 0)] [(0, (1, (.t 13)))]), Zo 15 (.appendT 76 1 1 (.t 12) (.t 14)), Zm 3 15]) .skip))) (.region [Zm 7 4, Zb 8 .add (.t 7) (.c (.int .u8 1)), Zm 4 8])))))) (.seq (.region [Zm 16 3, Zm 2 16]) .ret))))⟩
def cf99 : CF := ⟨10, [(.tmp 4)], (.seq (.region [Zo 4 (.mv (.c (.bool false)))]) (.seq (.region [Zm 5 0, Zm 6 1, Zo 7 (.call (.f 136) [(.t 6)]), Zb 8 .and (.t 5) (.t 7), Zb 9 .neq (.t 8) (.c (.int .u16 0)), Zm 4 9]) .ret))⟩
def cf136 : CF := ⟨9, [(.tmp 2)], (.seq (.region [Zo 2 (.mv (.c (.int .u16 0)))]) (.seq (.seq (.region [Zm 3 0, Zo 4 (.call (.f 100) [(.t 3)]), Zo 5 (.un .not (.t 4))]) (.cond (.t 5) (.seq (.region [Zo 2 (.mv (.c (.int .u16 0)))]) .ret) .skip)) (.seq (.region [Zm 6 0, Zb 7 .sub (.t 6) (.c (.int .u8 1)), Zb 8 .shl (.c (.int .u16 1)) (.t 7), Zm 2 8]) .ret)))⟩
def cf100 : CF := ⟨9, [(.tmp 2)], (.seq (.region [Zo 2 (.mv (.c (.bool false)))]) (.seq (.region [Zm 3 0, Zb 4 .geq (.t 3) (.c (.int .u8 1)), Zm 5 4, Zg 6 (.mv (.t 0)) 5 true, Zg 7 (.bin .leq .other (.t 6) (.c (.int .u8 8))) 5 true, Zo 8 (.pick (.t 5) (.t 7) (.c (.bool false))), Zm 2 8]) .ret))⟩
theorem tbl41 : tbl Tryz.prog 41 = some cf41 := by kernel_rfl
theorem tbl99 : tbl Tryz.prog 99 = some cf99 := by kernel_rfl
theorem tbl136 : tbl Tryz.prog 136 = some cf136 := by kernel_rfl
theorem tbl100 : tbl Tryz.prog 100 = some cf100 := by kernel_rfl
def isT (t : Int) : Bool := decide (1 ≤ t) && decide (t ≤ 8)
def bitT (t : Int) : Int := 2 ^ (t - 1).toNat
def hasT (s t : Int) : Bool := Go.bits .and .u16 s (bitT t) != 0
theorem tis_spec (ho : orc 100 = none) (t : Int) (h : AH) : acall orc T 100 [.int .u8 t] h = some (.bool (isT t), h) := by
 refine acall_sym ho tbl100 ?_
 unfold isT
 refine GD ?_
 cases h1 : decide (1 ≤ t) with
 | true =>
   (have fct := @h1; refine GO ?_; clear fct)
   (have fct := @Bool.true_and; refine A_end ?_; clear fct; try exact trivial)
 | false =>
   (have fct := @h1; refine GO ?_; clear fct)
   (have fct := @Bool.false_and; refine A_end ?_; clear fct; try exact trivial)
theorem tbit_spec (ho : ∀ f, f ∈ [136, 100] → orc f = none) (t : Int) (h1 : 1 ≤ t) (h8 : t ≤ 8) (h : AH) : acall orc T 136 [.int .u8 t] h = some (.int .u16 (bitT t), h) := by
 refine acall_sym (ho _ (by simp)) tbl136 ?_
 have c1 := tis_spec (orc := orc) (ho _ (by simp)) t
 have e1 : isT t = true := by simp [isT, h1, h8]
 rw [e1] at c1
 have e2 : IntKind.wrap .u8 (t - 1) = t - 1 := by
  have : t = 1 ∨ t = 2 ∨ t = 3 ∨ t = 4 ∨ t = 5 ∨ t = 6 ∨ t = 7 ∨ t = 8 := by omega
  rcases this with rfl | rfl | rfl | rfl | rfl | rfl | rfl | rfl <;> decide
 have e3 : ashift .shl .u16 1 (t - 1) = some (.int .u16 (bitT t)) := by
  have : t = 1 ∨ t = 2 ∨ t = 3 ∨ t = 4 ∨ t = 5 ∨ t = 6 ∨ t = 7 ∨ t = 8 := by omega
  rcases this with rfl | rfl | rfl | rfl | rfl | rfl | rfl | rfl <;> rfl
 refine GD ?_
 (have fct := Fj @c1 (Fj @e2 @e3); refine GO ?_; clear fct)
 (have fct := trivial; refine A_end ?_; clear fct; try exact trivial)
theorem thas_spec (ho : ∀ f, f ∈ [99, 136, 100] → orc f = none) (s t : Int) (h1 : 1 ≤ t) (h8 : t ≤ 8) (h : AH) : acall orc T 99 [.int .u16 s, .int .u8 t] h = some (.bool (hasT s t), h) := by
 refine acall_sym (ho _ (by simp)) tbl99 ?_
 have c1 := tbit_spec (orc := orc) (fun f hf => ho f (by revert hf; simp only [List.mem_cons, List.mem_nil_iff, or_false]; intro hf; omega)) t h1 h8
 refine GD ?_
 (have fct := @c1; refine GO ?_; clear fct)
 (have fct := @hasT.eq_1; refine A_end ?_; clear fct; try exact trivial)
def RowC (M : Nat) (h : AH) (v : AV) (cs : List AV) : Prop :=
 ∃ b cap, M < b ∧ b < h.n ∧ (cap = .opn 1 ∨ cap = .exact cs.length) ∧ v = .slice (some (b, 0)) cs.length cap ∧ h.get b = some (.cells cs false) ∧ cs ≠ []
def RowN (M : Nat) (h : AH) (v : AV) (cs : List AV) : Prop := (cs = [] ∧ v = .slice none 0 (.exact 0)) ∨ RowC M h v cs
theorem RowC.push {M : Nat} {h : AH} {v : AV} {cs : List AV} (r : RowC M h v cs) (c : Blk) : RowC M (h.push c) v cs := by
 obtain ⟨b, cap, h1, h2, h3, h4, h5, h6⟩ := r
 exact ⟨b, cap, h1, by simp; omega, h3, h4, by rw [Hp.get_push_ne _ _ _ (by omega), h5], h6⟩
theorem RowN.push {M : Nat} {h : AH} {v : AV} {cs : List AV} (r : RowN M h v cs) (c : Blk) : RowN M (h.push c) v cs := r.imp id fun r => r.push c
theorem app_cells {M by' : Nat} {h : AH} {bx : Nat} {v : AV} {cs xs : List AV} (hf : RowN M h v cs) (hN : M < h.n) (hl : (cs.length + xs.length) * by' ≤ 140737488355328) (hl2 : cs.length + xs.length ≤ 1152921504606846976) (hx : xs ≠ []) (ho : xs.all AV.one = true) (hbx : h.get bx = some (.cells xs false)) :
    ∃ v' h', appendRun 1 by' v (.slice (some (bx, 0)) xs.length (.exact xs.length)) h = some (v', h') ∧ (RowC M h' v' (cs ++ xs) ∧ h'.n = h.n + 1 ∧ (∀ b, b ≤ M → h'.get b = h.get b) ∧ (M ≤ h.low → M ≤ h'.low) ∧ v' = .slice (some (h.n, 0)) (cs ++ xs).length (.opn 1) ∧ ∀ b, b < h.n → (∀ n c, v ≠ .slice (some (b, 0)) n c) → h'.get b = h.get b) := by
 have hp : 0 < xs.length := List.length_pos_iff.2 hx
 have e1 : lenOf (.slice (some (bx, 0)) xs.length (.exact xs.length)) = some xs.length := rfl
 have e2 : elemsOf 1 h (.slice (some (bx, 0)) xs.length (.exact xs.length)) = some xs := by
  have h0 : ¬ xs.length = 0 := by omega
  simp [elemsOf, readCells, hbx, Fs.cut, hx]
 unfold appendRun
 rw [e1, Option.bind_some, e2, Option.bind_some]
 rcases hf with ⟨rfl, rfl⟩ | hf
 · refine ⟨_, h.push (.cells xs false), ?_, ⟨h.n, .opn 1, hN, by simp, .inl rfl, rfl, by rw [List.nil_append]; exact Hp.get_push_self _ _, by simpa using hx⟩, rfl, fun b' hb' => Hp.get_push_ne _ _ _ (by omega), fun hl => hl, rfl, fun b' hb' _ => Hp.get_push_ne _ _ _ (by omega)⟩
   simp only [appendCore, elemsOf, if_true, Option.bind_some, Nat.zero_add, List.nil_append]
   rw [if_neg (by omega), if_pos ⟨by simpa using hl, by simpa using hl2⟩]
 · obtain ⟨b, cap, h2, h3, h4, rfl, h5, hne⟩ := hf
   have hp2 : 0 < cs.length := List.length_pos_iff.2 hne
   have eold : ∀ cp, elemsOf 1 h (.slice (some (b, 0)) cs.length cp) = some cs := fun cp => by
    unfold elemsOf
    dsimp only
    rw [if_neg (by omega)]
    simp only [readCells, h5, Nat.mul_one]
    exact cut_of (by simp) (by rw [List.drop_zero, List.take_of_length_le (by simp)])
   rcases h4 with rfl | rfl
   · refine ⟨_, (h.set b .dead).push (.cells (cs ++ xs) false), ?_, ⟨h.n, .opn 1, hN, by simp, .inl rfl, rfl, by rw [show h.n = (h.set b .dead).n from rfl]; exact Hp.get_push_self _ _, by simp [hne]⟩, by simp, fun b' hb' => ?_, fun hl => by simp; omega, rfl, fun b' hb' hne' => ?_⟩
     · simp only [appendCore, eold, Option.bind_some, h5, Nat.zero_add, Nat.mul_one, if_true]
       rw [if_neg (by omega), if_neg (by omega), if_pos ⟨by simp, ho⟩, if_pos ⟨by omega, by omega⟩]
       simp [Hp.n_set]
     · rw [Hp.get_push_ne _ _ _ (by simp; omega), Hp.get_set_ne _ _ _ _ (by omega)]
     · have hbb : b' ≠ b := fun e => hne' _ _ (by rw [e])
       rw [Hp.get_push_ne _ _ _ (by simp; omega), Hp.get_set_ne _ _ _ _ hbb]
   · refine ⟨_, h.push (.cells (cs ++ xs) false), ?_, ⟨h.n, .opn 1, hN, by simp, .inl rfl, rfl, Hp.get_push_self _ _, by simp [hne]⟩, rfl, fun b' hb' => Hp.get_push_ne _ _ _ (by omega), fun hl => hl, rfl, fun b' hb' _ => Hp.get_push_ne _ _ _ (by omega)⟩
     simp only [appendCore, eold, Option.bind_some]
     rw [if_neg (by omega), if_pos ⟨by omega, by omega⟩]
     simp
theorem RowC.note {M : Nat} {h : AH} {v : AV} {cs : List AV} (r : RowC M h v cs) (c : Bool) (t n : Nat) : RowC M (noteT c t n h) v cs := by
 unfold noteT
 split
 · exact r.push _
 · exact r
theorem note_n (c : Bool) (t n : Nat) (h : AH) : h.n ≤ (noteT c t n h).n := by unfold noteT; split <;> simp
theorem note_get (c : Bool) (t n : Nat) (h : AH) {b : Nat} (hb : b < h.n) : (noteT c t n h).get b = h.get b := by
 unfold noteT
 split
 · exact Hp.get_push_ne _ _ _ (by omega)
 · rfl
theorem note_low (c : Bool) (t n : Nat) (h : AH) : (noteT c t n h).low = h.low := by unfold noteT; split <;> rfl
theorem op_appendT {call : Rec} {tm : List AV} {h : AH} (t esz bytes : Nat) (s x : CA) : runOp call (.appendT t esz bytes s x) tm h = (appendRun esz bytes (s.ev tm) (x.ev tm) h).map fun p => (p.1, noteT (typed h t (s.ev tm)) t h.n p.2) := rfl
def lst (s : Int) (n : Nat) : List Int := (List.map (fun (i : Nat) => (i : Int) + 1) (List.range n)).filter (fun t => hasT s t)
theorem lst_succ (s : Int) (n : Nat) : lst s (n + 1) = lst s n ++ (if hasT s ((n : Int) + 1) = true then [(n : Int) + 1] else []) := by
 unfold lst
 rw [List.range_succ, List.map_append, List.filter_append]
 congr 1
 simp only [List.map_cons, List.map_nil, List.filter_cons, List.filter_nil]
theorem lst_len (s : Int) (n : Nat) : (lst s n).length ≤ n := by
 unfold lst
 exact Nat.le_trans (List.length_filter_le _ _) (by simp)
def ints (l : List Int) : List AV := l.map (.int .u8 ·)
structure TlI (s : Int) (M : Nat) (h0 : AH) (n : Nat) (tm : List AV) (H : AH) : Prop where
 len : tm.length = 17
 t0 : tm.getD 0 AV.undef = .int .u16 s
 st : ∃ (i : Nat) (v : AV), n = 8 - i ∧ i ≤ 8 ∧ tm.getD 4 AV.undef = .int .u8 ((i : Int) + 1) ∧ tm.getD 3 AV.undef = v ∧ RowN M H v (ints (lst s i))
 fr : ∀ b, b ≤ M → H.get b = h0.get b
 low : M ≤ H.low
 hn : h0.n ≤ H.n
theorem tlist_spec (N : Nat) (ho : ∀ f, f ∈ [41, 99, 136, 100] → orc f = none) (s : Int) {h : AH} (hN : N < h.n) : ∃ v1 h1, acall orc T 41 [.int .u16 s] h = some (v1, h1) ∧ ((v1 = .slice none 0 (.exact 0) ∧ lst s 8 = [] ∨ ∃ b cap, v1 = .slice (some (b, 0)) (lst s 8).length cap ∧ h1.get b = some (.cells (ints (lst s 8)) false) ∧ h.n ≤ b ∧ b < h1.n) ∧ Ef.Kp N h h1) := by
 refine acall_facts (R := fun v1 h1 => (v1 = .slice none 0 (.exact 0) ∧ lst s 8 = [] ∨ ∃ b cap, v1 = .slice (some (b, 0)) (lst s 8).length cap ∧ h1.get b = some (.cells (ints (lst s 8)) false) ∧ h.n ≤ b ∧ b < h1.n) ∧ Ef.Kp N h h1) (ho _ (by simp)) tbl41 ?_
 simp only [Ef.settle_fst1]
 obtain ⟨M, hM⟩ : ∃ M, h.n = M + 1 := ⟨h.n - 1, by omega⟩
 have cH := fun (t : Int) (h1 : 1 ≤ t) (h8 : t ≤ 8) => thas_spec (orc := orc) (fun f hf => ho f (by revert hf; simp only [List.mem_cons, List.mem_nil_iff, or_false]; intro hf; omega)) s t h1 h8
 refine GD ?_
 (have fct := @op_mv; refine GO ?_; clear fct)
 refine CodeK_loop (TlI s M h) 8 ?_ ?_
 · exact ⟨rfl, rfl, ⟨0, _, rfl, by omega, rfl, rfl, .inl ⟨by simp [ints, lst], rfl⟩⟩, fun b hb => rfl, by simp; omega, by simp⟩
 intro n tm H I
 obtain ⟨i, v, hn, hi, e4, e3, hR⟩ := I.st
 have el := I.len
 have e0 := I.t0
 have hfr := I.fr
 have hlo := I.low
 have hHn := I.hn
 clear I
 by_cases hlt : i < 8
 case neg =>
  obtain rfl : i = 8 := by omega
  have l1 : decide (((8 : Nat) : Int) + 1 ≤ 8) = false := by decide
  rcases hR with ⟨k1, rfl⟩ | ⟨b, cap, k1, k2, k3, rfl, k5, k6⟩
  · have kz : lst s 8 = [] := by simpa [ints] using k1
    (have fct := Fj @el (Fj @e0 (Fj @e3 (Fj @e4 @l1))); refine GO ?_; clear fct)
    refine ⟨.inr rfl, .slice none 0 (.exact 0), by simp only [resAll, resOne, el, e3, fsTm, Nat.reduceBEq, Nat.reduceLT], .inl ⟨rfl, kz⟩, Ef.kp_settle2 hHn (fun b' hb' => hfr b' (by omega)) (by omega)⟩
  · (have fct := Fj @el (Fj @e0 (Fj @e3 (Fj @e4 @l1))); refine GO ?_; clear fct)
    have hv : AV.under h.n (AV.slice (some (b, 0)) (ints (lst s 8)).length cap) = false := by simp [AV.under]; omega
    refine ⟨.inr rfl, .slice (some (b, 0)) (ints (lst s 8)).length cap, by simp only [resAll, resOne, el, e3, fsTm, Nat.reduceBEq, Nat.reduceLT], .inr ⟨b, cap, by simp [ints], ?_, by omega, ?_⟩, Ef.kp_settle2 hHn (fun b' hb' => hfr b' (by omega)) (by omega)⟩
    · rw [Ef.get_settle hv]; exact k5
    · rw [Ef.n_settle hv]; exact k2
 case pos =>
 have l1 : decide ((i : Int) + 1 ≤ 8) = true := by rw [decide_eq_true_eq]; omega
 have w1 := Ef.wrap_u8a (n := i) (by omega)
 have ch := cH ((i : Int) + 1) (by omega) (by omega)
 cases hq : hasT s ((i : Int) + 1) with
 | false =>
   have hs : lst s (i + 1) = lst s i := by rw [lst_succ, hq]; simp
   rw [hq] at ch
   (have fct := Fj @el (Fj @e0 (Fj @e3 (Fj @e4 (Fj @l1 (Fj @ch @w1))))); refine GO ?_; clear fct)
   exact ⟨8 - (i + 1), by omega, by simp only [List.length_set, el], by simp only [fsTm, Nat.reduceBEq, Nat.reduceLT, el, e0], ⟨i + 1, v, rfl, by omega, by simp only [fsTm, Nat.reduceBEq, Nat.reduceLT, el], by simp only [fsTm, Nat.reduceBEq, Nat.reduceLT, el, e3], by rw [hs]; exact hR⟩, hfr, hlo, hHn⟩
 | true =>
   have hs : ints (lst s (i + 1)) = ints (lst s i) ++ [.int .u8 ((i : Int) + 1)] := by rw [lst_succ, hq]; simp [ints]
   have hll := lst_len s i
   rw [hq] at ch
   (have fct := Fj @el (Fj @e0 (Fj @e3 (Fj @e4 (Fj @l1 (Fj @ch (Fj @op_litS (Fj fsReps @Fs.over.eq_1))))))); refine GO ?_; clear fct)
   obtain ⟨v', H', e, row, hn', hf', lo', _, _⟩ := app_cells (by' := 1) (xs := [.int .u8 ((i : Int) + 1)]) (hR.push (.cells [.int .u8 ((i : Int) + 1)] false)) (by simp; omega) (by simp [ints]; omega) (by simp [ints]; omega) (by simp) rfl (Hp.get_push_self _ _)
   simp only [List.length_cons, List.length_nil, Nat.zero_add, Hp.n_push, Hp.low_push] at e hn' lo'
   refine R_cons (v := v') (h' := noteT (typed (H.push (.cells [.int .u8 ((i : Int) + 1)] false)) 76 v) 76 (H.n + 1) H') (by simp only [op_appendT, CA.ev, el, e0, e3, e4, fsTm, Nat.reduceBEq, Nat.reduceLT]; rw [e]; rfl) (by simp only [put, List.set_cons_succ, List.set_cons_zero]; (first | done | with_reducible rfl)) ?_
   (have fct := Fj @el (Fj @e0 (Fj @e3 (Fj @e4 @w1))); refine GO ?_; clear fct)
   refine ⟨8 - (i + 1), by omega, by simp only [List.length_set, el], by simp only [fsTm, Nat.reduceBEq, Nat.reduceLT, el, e0], ⟨i + 1, v', rfl, by omega, by simp only [fsTm, Nat.reduceBEq, Nat.reduceLT, el], by simp only [fsTm, Nat.reduceBEq, Nat.reduceLT, el], .inr ?_⟩, fun b hb => ?_, by rw [note_low]; exact lo' hlo, ?_⟩
   · rw [hs]; exact row.note _ _ _
   · rw [note_get _ _ _ _ (by omega), hf' b hb, Hp.get_push_ne _ _ _ (by omega)]; exact hfr b hb
   · have := note_n (typed (H.push (.cells [.int .u8 ((i : Int) + 1)] false)) 76 v) 76 (H.n + 1) H'; omega
theorem lst_range {s t : Int} {n : Nat} (h : t ∈ lst s n) : 1 ≤ t ∧ t ≤ n := by
 unfold lst at h
 have h := (List.mem_filter.1 h).1
 obtain ⟨i, hi, rfl⟩ := List.mem_map.1 h
 have := List.mem_range.1 hi
 omega
theorem RowC.kp {M N : Nat} {h h1 : AH} {v : AV} {cs : List AV} (r : RowC M h v cs) (k : Ef.Kp N h h1) : RowC M h1 v cs := by
 obtain ⟨b, cap, h1', h2, h3, h4, h5, h6⟩ := r
 exact ⟨b, cap, h1', Nat.lt_of_lt_of_le h2 k.n, h3, h4, by rw [k.get b h2, h5], h6⟩
end Go.Proofs.Cards
