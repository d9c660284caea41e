/- ApartParts, over rows whose room is known: each is written over, none is met twice. -/
import Derived.Test.YtlppecefalblmaaGreatDoorFz05
import Derived.Test.YtlppecefalblmaaGreatDoorFz05
import Derived.Test.YtlppecefalblmaaGreatDoorZtCdMem
namespace Go.Proofs.Cards
set_option maxRecDepth 100000
set_option maxHeartbeats 32000000
open Go Go.Fs
set_option linter.unusedSimpArgs false
set_option linter.unusedVariables false
variable {orc : Orc}
def cf18 : CF := ⟨78, [(.tmp 2)], (.seq (.region [Zo 2 (.mv (.c (.bool false)))]) (.seq (.region [Zo 3 (.mv (.c (.slice none 0 (.exact 0))))]) (.seq (.seq (.region [Zo 4 (.mv (.c (.int .i64 0)))]) (.block 0 (.loop (.seq (.seq (.region [Zm 9 4, Zm 10 0, Zo 11 (.lenV (.t 10)), Zb 12 .lss (.t 9) (.t 11)]) (.cond (.t 12) .skip (.exit 0))) (.seq (.block 1 (.regionD [⟨Zm 15 3, 0, 1, false⟩, ⟨Zm 16 0, 0, 0, false⟩, ⟨Zm 17 4, 0, 0, false⟩, ⟨Zo 18 (.iaddrS 1 (.t 16) (.t 17)), 0, 0, false⟩, ⟨Zl 19 18, 0, 0, false⟩, ⟨Zm 20 0, 0, 0, false⟩, ⟨Zm 21 4, 0, 0, false⟩, ⟨Zo 22 (.iaddrS 1 (.t 20) (.t 21)), 0, 0, false⟩, ⟨Zl 23 22, 0, 0, false⟩, ⟨Zo 24 (.cap (.t 23)), 0, 0, false⟩, ⟨Zo 25 (.slcV 8 (.t 19) none (some (.t 24)) none), 0, 0, false⟩, ⟨Zo 26 (.litS 1 1 [(.slice none 0 (.exact 0))] [(0, (1, (.t 25)))]), 0, 1, false⟩, ⟨Zo 27 (.append 1 24 (.t 15) (.t 26)), 1, 2, false⟩, ⟨Zm 3 27, 2, 2, false⟩])) (.region [Zm 13 4, Zb 14 .add (.t 13) (.c (.int .i64 1)), Zm 4 14])))))) (.seq (.seq (.region [Zo 5 (.mv (.c (.int .i64 0)))]) (.block 2 (.loop (.seq (.seq (.region [Zm 28 5, Zm 29 3, Zo 30 (.lenV (.t 29)), Zb 31 .lss (.t 28) (.t 30)]) (.cond (.t 31) .skip (.exit 2))) (.seq (.block 3 (.seq (.region [Zo 6 (.mv (.c (.int .i64 0)))]) (.block 4 (.loop (.seq (.seq (.region [Zm 34 6, Zm 35 3, Zm 36 5, Zo 37 (.iaddrS 1 (.t 35) (.t 36)), Zl 38 37, Zo 39 (.lenV (.t 38)), Zb 40 .lss (.t 34) (.t 39)]) (.cond (.t 40) .skip (.exit 4))) (.seq (.block 5 (.regionD [⟨Zm 43 3, 0, 1, false⟩, ⟨Zm 44 5, 0, 1, false⟩, ⟨Zo 45 (.iaddrS 1 (.t 43) (.t 44)), 0, 1, false⟩, ⟨Zl 46 45, 0, 1, false⟩, ⟨Zm 47 6, 0, 1, false⟩, ⟨Zm 48 5, 0, 0, false⟩, ⟨Zm 49 6, 0, 0, false⟩, ⟨Zo 50 (.call (.f 58) [(.t 48), (.t 49)]), 0, 1, false⟩, ⟨Zo 51 (.iaddrS 8 (.t 46) (.t 47)), 1, 1, false⟩, ⟨Zn (.store 8 (.t 51) (.t 50)), 1, 2, false⟩])) (.region [Zm 41 6, Zb 42 .add (.t 41) (.c (.int .i64 1)), Zm 6 42]))))))) (.region [Zm 32 5, Zb 33 .add (.t 32) (.c (.int .i64 1)), Zm 5 33])))))) (.seq (.seq (.region [Zo 7 (.mv (.c (.int .i64 0)))]) (.block 6 (.loop (.seq (.seq (.region [Zm 52 7, Zm 53 3, Zo 54 (.lenV (.t 53)), Zb 55 .lss (.t 52) (.t 54)]) (.cond (.t 55) .skip (.exit 6))) (.seq (.block 7 (.seq (.region [Zo 8 (.mv (.c (.int .i64 0)))]) (.block 8 (.loop (.seq (.seq (.region [Zm 58 8, Zm 59 3, Zm 60 7, Zo 61 (.iaddrS 1 (.t 59) (.t 60)), Zl 62 61, Zo 63 (.lenV (.t 62)), Zb 64 .lss (.t 58) (.t 63)]) (.cond (.t 64) .skip (.exit 8))) (.seq (.block 9 (.seq (.regionD [⟨Zm 67 3, 0, 1, false⟩, ⟨Zm 68 7, 0, 1, false⟩, ⟨Zo 69 (.iaddrS 1 (.t 67) (.t 68)), 0, 1, false⟩, ⟨Zl 70 69, 0, 1, false⟩, ⟨Zm 71 8, 0, 1, false⟩, ⟨Zo 72 (.iaddrS 8 (.t 70) (.t 71)), 0, 1, false⟩, ⟨Zo 73 (.load (some 8) (.t 72)), 0, 1, false⟩, ⟨Zm 74 7, 0, 0, false⟩, ⟨Zm 75 8, 0, 0, false⟩, ⟨Zo 76 (.call (.f 58) [(.t 74), (.t 75)]), 0, 1, false⟩, ⟨Zo 77 (.bin .neq (.agg 8 [(0, .i), (1, .i), (2, .i), (3, .i), (4, .i), (5, .i), (6, .i), (7, .s)]) (.t 73) (.t 76)), 1, 1, false⟩]) (.cond (.t 77) (.seq (.region [Zo 2 (.mv (.c (.bool false)))]) .ret) .skip))) (.region [Zm 65 8, Zb 66 .add (.t 65) (.c (.int .i64 1)), Zm 8 66]))))))) (.region [Zm 56 7, Zb 57 .add (.t 56) (.c (.int .i64 1)), Zm 7 57])))))) (.seq (.region [Zo 2 (.mv (.c (.bool true)))]) .ret))))))⟩
def cf58 : CF := ⟨11, [(.cell 4 (some 8))], (.seq (.region [Zo 4 (.alloc [(.int .u8 0), (.int .u8 0), (.int .u8 0), (.int .i64 0), (.int .u8 0), (.int .u8 0), (.int .u8 0), (.str [])])]) (.seq (.region [Zm 5 0, Zb 6 .mul (.c (.int .i64 (-1000003))) (.t 5), Zm 7 1, Zb 8 .sub (.t 6) (.t 7), Zb 9 .sub (.t 8) (.c (.int .i64 5)), Zo 10 (.build [(.int .u8 0), (.int .u8 0), (.int .u8 0), (.int .i64 0), (.int .u8 0), (.int .u8 0), (.int .u8 0), (.str [])] [(3, (1, (.t 9)))]), Zn (.store 8 (.t 4) (.t 10))]) .ret))⟩
theorem tbl18 : tbl Tryz.prog 18 = some cf18 := by kernel_rfl
theorem tbl58 : tbl Tryz.prog 58 = some cf58 := by kernel_rfl
def mkI (i k : Int) : Int := IntKind.wrap .i64 (IntKind.wrap .i64 (IntKind.wrap .i64 (-1000003 * i) - k) - 5)
def mkP (i k : Int) : List AV := [.int .u8 0, .int .u8 0, .int .u8 0, .int .i64 (mkI i k), .int .u8 0, .int .u8 0, .int .u8 0, .str []]
theorem length_over {cs ys : List AV} {o : Nat} (h : o + ys.length ≤ cs.length) : (Fs.over cs o ys).length = cs.length := by
 simp only [Fs.over, List.length_append, List.length_take, List.length_drop]; omega
theorem over_get {cs ys : List AV} {o j : Nat} (h : o + ys.length ≤ cs.length) (hd : j < o ∨ o + ys.length ≤ j) : (Fs.over cs o ys)[j]? = cs[j]? := by
 unfold Fs.over
 rcases hd with hd | hd
 · rw [List.getElem?_append_left (by simp; omega), List.getElem?_append_left (by simp; omega), List.getElem?_take_of_lt hd]
 · rw [List.getElem?_append_right (by simp; omega), List.getElem?_drop]
   congr 1
   simp only [List.length_append, List.length_take]; omega
theorem cut_over_self {cs ys : List AV} {o : Nat} (h : o + ys.length ≤ cs.length) : cut (Fs.over cs o ys) o ys.length = some ys := by
 refine cut_of (by rw [length_over h]; exact h) ?_
 unfold Fs.over
 rw [List.append_assoc, List.drop_left' (by rw [List.length_take]; omega), List.take_left' rfl]
theorem cut_over_ne {cs ys : List AV} {o p n : Nat} (h : o + ys.length ≤ cs.length) (hd : p + n ≤ o ∨ o + ys.length ≤ p) : cut (Fs.over cs o ys) p n = cut cs p n := by
 unfold cut
 rw [length_over h]
 split
 · congr 1
   refine List.ext_getElem? fun i => ?_
   by_cases hi : i < n
   · rw [List.getElem?_take_of_lt hi, List.getElem?_take_of_lt hi, List.getElem?_drop, List.getElem?_drop]
     exact over_get h (by omega)
   · rw [List.getElem?_take, List.getElem?_take, if_neg hi, if_neg hi]
 · rfl
def XtA (h h1 : AH) : Prop := h.n ≤ h1.n ∧ ∀ b, b < h.n → h1.get b = h.get b
theorem mark_spec (ho : orc 58 = none) (i k : Int) (h : AH) : acall orc T 58 [.int .i64 i, .int .i64 k] h = some (.agg (mkP i k), h) := by
 refine acall_sym ho tbl58 ?_
 unfold mkP mkI
 refine GD ?_
 (have fct := @Fs.over.eq_1; refine GO ?_; clear fct)
 (have fct := trivial; refine A_end ?_; clear fct; try exact trivial)
def capV (v : AV) (h : AH) : Option (AV × AH) :=
 match v with
 | .slice _ _ (.exact n) => some (.int .i64 n, h)
 | _ => none
theorem op_cap {call : Rec} {tm : List AV} {h : AH} (x : CA) : runOp call (.cap x) tm h = capV (x.ev tm) h := by
 simp only [runOp, CO.quiet, if_true, quietRun, capV]
 generalize x.ev tm = v
 cases v <;> first | rfl | skip
 rename_i c
 cases c <;> rfl
def fullV : AV → AV
 | .slice a _ (.exact c) => .slice a c (.exact c)
 | v => v
theorem slc_nil8 (tm : List AV) (x : CA) (hx : AH) (hi : x.ev tm = .int .i64 ((0 : Nat) : Int)) : slcVV tm 8 (.slice none 0 (.exact 0)) none (some x) none hx = some (.slice none 0 (.exact 0), hx) := by
 have hb : bounds3 tm 0 0 none (some x) none = some (0, 0, 0) := by
  unfold bounds3
  simp only [optBound, Option.bind_some, highOf, hi, bound]
  simp
 unfold slcVV
 simp [quietRun, CA.ev, hb]
theorem slc_cap {h : AH} {ob : Option Nat} {x : AV} (hx : OpenRow 8 h ob x) : ∃ (c : Nat) (a : Option (Nat × Nat)), fullV x = .slice a c (.exact c) ∧ (∀ hy, capV x hy = some (.int .i64 (c : Int), hy)) ∧
    ∀ (tm : List AV) (y : CA) (hy : AH), y.ev tm = .int .i64 (c : Int) → slcVV tm 8 x none (some y) none hy = some (.slice a c (.exact c), hy) := by
 rcases hx with ⟨_, rfl⟩ | ⟨b, len, c, cs, _, rfl, _, _, hl, _⟩
 · exact ⟨0, none, rfl, fun _ => rfl, fun tm y hy he => slc_nil8 tm y hy he⟩
 · refine ⟨c, some (b, 0), rfl, fun _ => rfl, fun tm y hy he => ?_⟩
   have hb : bounds3 tm len c none (some y) none = some (0, c, c) := by
    unfold bounds3
    simp only [optBound, Option.bind_some, highOf, he, bound]
    rw [if_pos ⟨by omega, by omega⟩]
    simp
   unfold slcVV
   simp only [quietRun, CA.ev, hb, Option.map_some, Nat.zero_mul, Nat.add_zero, Nat.sub_zero]
   split <;> rfl
def FreshC (N : Nat) (h : AH) (v : AV) (xs : List AV) : Prop :=
 (xs = [] ∧ v = .slice none 0 (.exact 0)) ∨ (xs ≠ [] ∧ ∃ b, N ≤ b ∧ b < h.n ∧ v = .slice (some (b, 0)) xs.length (.opn 1) ∧ h.get b = some (.cells xs false))
theorem FreshC.len {N : Nat} {h : AH} {v : AV} {xs : List AV} (hf : FreshC N h v xs) (hx : AH) : lenV v hx = some (.int .i64 (xs.length : Int), hx) := by
 rcases hf with ⟨rfl, rfl⟩ | ⟨_, b, _, _, rfl, _⟩ <;> rfl
theorem FreshC.at {N : Nat} {h : AH} {v : AV} {xs : List AV} (hf : FreshC N h v xs) {i : Nat} {x : AV} (hx : xs[i]? = some x) :
    ∃ b, (∀ hy : AH, iaddrV 1 v (.int .i64 (i : Int)) hy = some (.ptr (some (b, i)), hy)) ∧ h.get b = some (.cells xs false) ∧ N ≤ b := by
 have hlt := (List.getElem?_eq_some_iff.1 hx).1
 rcases hf with ⟨rfl, rfl⟩ | ⟨_, b, h1, _, rfl, h4⟩
 · simp at hlt
 · exact ⟨b, fun hy => by rw [iaddrV_nat hlt, Nat.mul_one, Nat.zero_add], h4, h1⟩
theorem FreshC.keep {N : Nat} {h h' : AH} {v : AV} {xs : List AV} (hf : FreshC N h v xs) (hn : h.n ≤ h'.n) (hg : ∀ b, N ≤ b → b < h.n → h'.get b = h.get b) : FreshC N h' v xs := by
 rcases hf with h1 | ⟨h1, b, h2, h3, h4, h5⟩
 · exact .inl h1
 · exact .inr ⟨h1, b, h2, Nat.lt_of_lt_of_le h3 hn, h4, by rw [hg b h2 h3, h5]⟩
theorem app_c {N : Nat} {h : AH} {v : AV} {R : List AV} {x : AV} {bx : Nat} {bytes : Nat} (hf : FreshC N h v R) (hN : N ≤ h.n) (hone : x.one = true) (hl : (R.length + 1) * bytes ≤ 140737488355328) (hl2 : R.length ≤ 1000000) (hbx : h.get bx = some (.cells [x] false)) :
    ∃ v' h', appendRun 1 bytes v (.slice (some (bx, 0)) 1 (.exact 1)) h = some (v', h') ∧ (FreshC N h' v' (R ++ [x]) ∧ h.n ≤ h'.n ∧ ∀ b, b < N → h'.get b = h.get b) := by
 have e1 : lenOf (.slice (some (bx, 0)) 1 (.exact 1)) = some 1 := rfl
 have e2 : elemsOf 1 h (.slice (some (bx, 0)) 1 (.exact 1)) = some [x] := by
  simp [elemsOf, readCells, hbx, Fs.cut]
 have e3 : elemsOf 1 h (.slice none 0 (.exact 0)) = some [] := rfl
 rcases hf with ⟨rfl, rfl⟩ | ⟨hne, b, h2, h3, rfl, h5⟩
 · refine ⟨_, h.push (.cells [x] false), ?_, .inr ⟨by simp, h.n, hN, by simp, rfl, by simp⟩, by simp, fun b hb => Hp.get_push_ne _ _ _ (by omega)⟩
   unfold appendRun
   simp only [e1, e2, Option.bind_some, appendCore, e3, Nat.zero_add, List.nil_append]
   rw [if_neg (by omega), if_pos ⟨by simpa using hl, by omega⟩]
   rfl
 · have hp : 0 < R.length := List.length_pos_iff.2 hne
   have eold : elemsOf 1 h (.slice (some (b, 0)) R.length (.opn 1)) = some R := by
    unfold elemsOf
    dsimp only
    rw [if_neg (by omega)]
    simp only [readCells, h5, Nat.mul_one]
    exact cut_of (by omega) (by rw [List.drop_zero, List.take_length])
   refine ⟨_, (h.set b .dead).push (.cells (R ++ [x]) false), ?_, .inr ⟨by simp, h.n, hN, by simp, rfl, by rw [show h.n = (h.set b .dead).n from rfl]; exact Hp.get_push_self _ _⟩, by simp, fun b' hb' => ?_⟩
   · unfold appendRun
     simp only [e1, e2, Option.bind_some, appendCore, eold, if_true, h5, Nat.zero_add, Nat.mul_one, List.all_cons, List.all_nil, hone, Bool.and_self, and_self]
     rw [if_neg (by omega), if_neg (by omega), if_pos ⟨hl, by omega⟩, List.length_append]
     simp only [Hp.n_set, List.length_cons, List.length_nil]
   · rw [Hp.get_push_ne _ _ _ (by simp; omega), Hp.get_set_ne _ _ _ _ (by omega)]
theorem uniq_of : ∀ {obs : List (Option Nat)}, (obs.filterMap id).Nodup → ∀ {i j b : Nat}, obs[i]? = some (some b) → obs[j]? = some (some b) → i = j
 | [], _, i, j, b, hi, _ => by simp at hi
 | o :: obs, hd, i, j, b, hi, hj => by
   have mem : ∀ {k : Nat}, obs[k]? = some (some b) → b ∈ obs.filterMap id := fun hk => List.mem_filterMap.2 ⟨some b, List.mem_of_getElem? hk, rfl⟩
   cases o with
   | none =>
     have hd' : (obs.filterMap id).Nodup := by simpa using hd
     cases i with
     | zero => simp at hi
     | succ i =>
       cases j with
       | zero => simp at hj
       | succ j => exact congrArg (· + 1) (uniq_of hd' (b := b) (by simpa using hi) (by simpa using hj))
   | some c =>
     have hd' : c ∉ obs.filterMap id ∧ (obs.filterMap id).Nodup := by simpa using hd
     cases i with
     | zero =>
       simp only [List.getElem?_cons_zero, Option.some.injEq] at hi
       subst hi
       cases j with
       | zero => rfl
       | succ j => exact absurd (mem (by simpa using hj)) hd'.1
     | succ i =>
       cases j with
       | zero =>
         simp only [List.getElem?_cons_zero, Option.some.injEq] at hj
         subst hj
         exact absurd (mem (by simpa using hi)) hd'.1
       | succ j => exact congrArg (· + 1) (uniq_of hd'.2 (b := b) (by simpa using hi) (by simpa using hj))
def RowF (N : Nat) (h : AH) (ob : Option Nat) (x : AV) : Prop :=
 (ob = none ∧ x = .slice none 0 (.exact 0)) ∨
 ∃ b c cs, ob = some b ∧ x = .slice (some (b, 0)) c (.exact c) ∧ h.get b = some (.cells cs false) ∧ cs.length = c * 8 ∧ c ≤ maxLen ∧ b < N
structure InvA (h0 : AH) (bL m : Nat) (cap : Cap) (L : List AV) (n : Nat) (tm : List AV) (h : AH) : Prop where
 len : tm.length = 78
 t0 : tm.getD 0 AV.undef = .slice (some (bL, 0)) m cap
 st : ∃ i : Nat, n = m - i ∧ i ≤ m ∧ tm.getD 4 AV.undef = .int .i64 (i : Int) ∧ FreshC h0.n h (tm.getD 3 AV.undef) ((L.take i).map fullV)
 ext : XtA h0 h
def Marked (h : AH) (obs : List (Option Nat)) (j k : Nat) : Prop :=
 ∀ b cs, obs[j]? = some (some b) → h.get b = some (.cells cs false) → ∀ k', k' < k → k' * 8 + 8 ≤ cs.length → cut cs (k' * 8) 8 = some (mkP (j : Int) (k' : Int))
def MarkedAll (h : AH) (obs : List (Option Nat)) (j : Nat) : Prop := ∀ k, Marked h obs j k
structure Com (h0 : AH) (obs : List (Option Nat)) (R : List AV) (w : AV) (tm : List AV) (h : AH) : Prop where
 len : tm.length = 78
 t3 : tm.getD 3 AV.undef = w
 rows : ∀ (j : Nat) (x : AV), R[j]? = some x → ∃ ob, obs[j]? = some ob ∧ RowF h0.n h ob x
 wr : FreshC h0.n h w R
 keep : ∀ b, b < h0.n → b ∉ obs.filterMap id → h.get b = h0.get b
 nn : h0.n ≤ h.n
structure InvB (h0 : AH) (obs : List (Option Nat)) (R : List AV) (w : AV) (n : Nat) (tm : List AV) (h : AH) : Prop where
 com : Com h0 obs R w tm h
 st : ∃ i : Nat, n = R.length - i ∧ i ≤ R.length ∧ tm.getD 5 AV.undef = .int .i64 (i : Int) ∧ ∀ j, j < i → MarkedAll h obs j
structure InvB2 (h0 : AH) (obs : List (Option Nat)) (R : List AV) (w : AV) (i c : Nat) (n : Nat) (tm : List AV) (h : AH) : Prop where
 com : Com h0 obs R w tm h
 t5 : tm.getD 5 AV.undef = .int .i64 (i : Int)
 done : ∀ j, j < i → MarkedAll h obs j
 st : ∃ k : Nat, n = c - k ∧ k ≤ c ∧ tm.getD 6 AV.undef = .int .i64 (k : Int) ∧ Marked h obs i k
structure InvD3 (h0 hF : AH) (obs : List (Option Nat)) (R : List AV) (w : AV) (n : Nat) (tm : List AV) (h : AH) : Prop where
 heap : h = hF
 com : Com h0 obs R w tm h
 st : ∃ i : Nat, n = R.length - i ∧ i ≤ R.length ∧ tm.getD 7 AV.undef = .int .i64 (i : Int)
structure InvE3 (h0 hF : AH) (obs : List (Option Nat)) (R : List AV) (w : AV) (i c : Nat) (n : Nat) (tm : List AV) (h : AH) : Prop where
 heap : h = hF
 com : Com h0 obs R w tm h
 t7 : tm.getD 7 AV.undef = .int .i64 (i : Int)
 st : ∃ k : Nat, n = c - k ∧ k ≤ c ∧ tm.getD 8 AV.undef = .int .i64 (k : Int)
theorem RowF.full {N : Nat} {h : AH} {ob : Option Nat} {x : AV} (hr : RowF N h ob x) : ∃ a c, x = .slice a c (.exact c) ∧ c ≤ maxLen ∧ ((ob = none ∧ c = 0) ∨ ∃ b cs, ob = some b ∧ a = some (b, 0) ∧ h.get b = some (.cells cs false) ∧ cs.length = c * 8 ∧ b < N) := by
 rcases hr with ⟨rfl, rfl⟩ | ⟨b, c, cs, rfl, rfl, h1, h2, h3, h4⟩
 · exact ⟨_, _, rfl, by omega, .inl ⟨rfl, rfl⟩⟩
 · exact ⟨_, _, rfl, h3, .inr ⟨b, cs, rfl, rfl, h1, h2, h4⟩⟩
theorem com_write {h0 h : AH} {obs : List (Option Nat)} {R : List AV} {w : AV} {tm tm' : List AV} (I : Com h0 obs R w tm h) (hd : (obs.filterMap id).Nodup) {i b k : Nat} {cs : List AV} (ho : obs[i]? = some (some b)) (hb : h.get b = some (.cells cs false)) (hbn : b < h0.n) (hk : k * 8 + 8 ≤ cs.length)
    (h1 : tm'.length = 78) (h2 : tm'.getD 3 AV.undef = w) (hdone : ∀ j, j < i → MarkedAll h obs j) (hm : Marked h obs i k) :
    Com h0 obs R w tm' (h.set b (.cells (Fs.over cs (k * 8) (mkP (i : Int) (k : Int))) false)) ∧ (∀ j, j < i → MarkedAll (h.set b (.cells (Fs.over cs (k * 8) (mkP (i : Int) (k : Int))) false)) obs j) ∧
     Marked (h.set b (.cells (Fs.over cs (k * 8) (mkP (i : Int) (k : Int))) false)) obs i (k + 1) := by
 have hk' : k * 8 + (mkP (i : Int) (k : Int)).length ≤ cs.length := hk
 refine ⟨⟨h1, h2, fun j x hx => ?_, I.wr.keep (by simp) fun b' g1 _ => Hp.get_set_ne _ _ _ _ (by omega), fun b' g1 g2 => ?_, by simpa using I.nn⟩, fun j hj k2 b' cs' g1 g2 => ?_, fun b' cs' g1 g2 k' g3 g4 => ?_⟩
 · obtain ⟨ob, q1, q2⟩ := I.rows j x hx
   refine ⟨ob, q1, ?_⟩
   rcases q2 with q2 | ⟨b', c', cs', rfl, rfl, q4, q5, q6, q7⟩
   · exact .inl q2
   · by_cases he : b' = b
     · subst he
       rw [hb] at q4
       cases q4
       exact .inr ⟨b', c', _, rfl, rfl, Hp.get_set_self _ _ _, by rw [length_over hk']; exact q5, q6, q7⟩
     · exact .inr ⟨b', c', cs', rfl, rfl, by rw [Hp.get_set_ne _ _ _ _ he]; exact q4, q5, q6, q7⟩
 · have : b' ≠ b := fun e => g2 (e ▸ List.mem_filterMap.2 ⟨some b, List.mem_of_getElem? ho, rfl⟩)
   rw [Hp.get_set_ne _ _ _ _ this]
   exact I.keep b' g1 g2
 · have : b' ≠ b := fun e => by
     have := uniq_of hd (e ▸ g1) ho
     omega
   rw [Hp.get_set_ne _ _ _ _ this] at g2
   exact hdone j hj k2 b' cs' g1 g2
 · have e : b' = b := by rw [ho] at g1; cases g1; rfl
   subst e
   rw [Hp.get_set_self] at g2
   cases g2
   rw [length_over hk'] at g4
   by_cases hkk : k' = k
   · subst hkk
     exact cut_over_self hk'
   · rw [cut_over_ne hk' (.inl (by omega))]
     exact hm b' cs ho hb k' (by omega) g4
theorem maxLen_eq : maxLen = 9223372036854775807 := rfl
theorem apart_run : ApartRun Tryz.prog 8 18 := by
 intro h bL m cap ro L obs hL hbL hlm hm hlo hrow hobn hnd hnb
 suffices hs : ∃ v h1, acall noOrc T 18 [.slice (some (bL, 0)) m cap] h = some (v, h1) ∧ (v = .bool true ∧ ∀ b, b < h.n → b ∉ obs.filterMap id → h1.get b = h.get b) by
  obtain ⟨v, h1, e1, rfl, e3⟩ := hs
  exact ⟨h1, e1, e3⟩
 refine acall_facts (R := fun v h1 => v = .bool true ∧ ∀ b, b < h.n → b ∉ obs.filterMap id → h1.get b = h.get b) rfl tbl18 ?_
 have hmk := mark_spec (orc := noOrc) rfl
 refine GD ?_
 (have fct := @op_mv; refine GOD ?_; clear fct)
 refine CodeK_loop (InvA h bL m cap L) m ?_ ?_
 · exact ⟨rfl, rfl, ⟨0, by omega, by omega, rfl, .inl ⟨rfl, rfl⟩⟩, by simp, fun b hb => by simp⟩
 intro n tm h' I
 obtain ⟨i, hn, hi, e4, hf⟩ := I.st
 have el := I.len
 have e0 := I.t0
 have hext := I.ext
 generalize hw : tm.getD 3 AV.undef = w at hf
 by_cases hlt : i < m
 case pos =>
  have l1 : decide ((i : Int) < (m : Int)) = true := by simp; omega
  have gi := List.getElem?_eq_getElem (l := L) (i := i) (by omega)
  have htk : (L.take (i + 1)).map fullV = (L.take i).map fullV ++ [fullV (L[i]'(by omega))] := by
   rw [List.take_add_one, gi, List.map_append]; rfl
  generalize L[i]'(by omega) = x at gi htk
  obtain ⟨ob, _, hox⟩ := hrow i x gi
  obtain ⟨c, a, hfe, hc, hs⟩ := slc_cap hox
  rw [hfe] at htk
  have gL : h'.get bL = some (.cells L ro) := by rw [hext.2 bL hbL, hL]
  have ia : ∀ hy : AH, iaddrV 1 (.slice (some (bL, 0)) m cap) (.int .i64 (i : Int)) hy = some (.ptr (some (bL, i)), hy) := fun hy => by rw [iaddrV_nat hlt, Nat.mul_one, Nat.zero_add]
  have w1 : IntKind.wrap .i64 ((i : Int) + 1) = ((i + 1 : Nat) : Int) := by rw [wrap_i64 (by omega) (by omega)]; omega
  have hhn := hext.1
  have hRl : ((L.take i).map fullV).length ≤ i := by simp; omega
  (have fct := Fj @el (Fj @e0 (Fj @hw (Fj @e4 (Fj @l1 (Fj @ia (Fj @gL (Fj @gi (Fj @op_cap (Fj @hc (Fj @op_slcV (Fj @hs (Fj @op_litS (Fj @Fs.over.eq_1 fsReps))))))))))))); refine GOD ?_; clear fct)
  refine D_ex rfl rfl (by simp (maxDischargeDepth := 12) only [opsB, Nat.reduceEqDiff, Nat.reduceBEq, Nat.reduceBNe, Int.reduceBEq, Int.reduceBNe, Int.reduceLT, Int.reduceLE, Int.reduceEq, AV.one, AV.cells, CA.ev, abin, aint, aun, isShift, readVar, readCell, readCells, writeCells, fillA, reduceIte, Nat.reduceAdd, Nat.reduceSub, Nat.reduceLT, Nat.reduceLeDiff, resAll, resOne, AV.under, AV.unders, cut, op_append, el, e0, hw, e4, fsTm, Nat.reduceBEq, Nat.reduceLT]; (first | done | with_reducible rfl)) (app_c (N := h.n) (bytes := 24) (hf.keep (by simp) fun b _ g2 => Hp.get_push_ne _ _ _ (by omega)) (by simp; omega) rfl (by omega) (by omega) (Hp.get_push_self _ _)) fun v2 h2 hL2 => ?_
  obtain ⟨k1, k2, k3⟩ := hL2
  refine A_dtm ?_
  simp only [Hp.n_push] at k2
  (have fct := Fj @el (Fj @e0 (Fj @hw (Fj @e4 (Fj @gL (Fj @gi @w1))))); refine GOD ?_; clear fct)
  refine ⟨m - (i + 1), by omega, by simp only [List.length_set, el], by simp only [fsTm, Nat.reduceBEq, Nat.reduceLT, el, e0], ⟨i + 1, rfl, by omega, by simp only [fsTm, Nat.reduceBEq, Nat.reduceLT, el], ?_⟩, by omega, fun b hb => ?_⟩
  · rw [htk]
    simp only [fsTm, Nat.reduceBEq, Nat.reduceLT, el]
    exact k1
  · rw [k3 b hb, Hp.get_push_ne _ _ _ (by omega), hext.2 b hb]
 case neg =>
 have him : i = m := by omega
 subst him
 have l1 : decide ((i : Int) < (i : Int)) = false := by simp
 have hRall : (L.take i).map fullV = L.map fullV := by rw [List.take_of_length_le (by omega)]
 rw [hRall] at hf
 have hrl : (L.map fullV).length = i := by simp [hlm]
 generalize hR : L.map fullV = R at *
 have hcom : ∀ tm2 : List AV, tm2.length = 78 → tm2.getD 3 AV.undef = w → Com h obs R w tm2 h' := fun tm2 q1 q2 => ⟨q1, q2, fun j x hx => by
  rw [← hR, List.getElem?_map] at hx
  obtain ⟨y, hy, rfl⟩ := Option.map_eq_some_iff.1 hx
  obtain ⟨ob, g1, g2⟩ := hrow j y hy
  refine ⟨ob, g1, ?_⟩
  rcases g2 with ⟨rfl, rfl⟩ | ⟨b, len, c, cs, rfl, rfl, g3, g4, g5, g6⟩
  · exact .inl ⟨rfl, rfl⟩
  · have hbn := hobn b (List.mem_of_getElem? g1)
    exact .inr ⟨b, c, cs, rfl, rfl, by rw [hext.2 b hbn, g3], by omega, g6, hbn⟩, hf, fun b q3 _ => hext.2 b q3, hext.1⟩
 (have fct := Fj @el (Fj @e0 (Fj @hw (Fj @e4 @l1))); refine GOD ?_; clear fct)
 refine CodeK_loop (InvB h obs R w) R.length ?_ ?_
 · exact ⟨hcom _ (by simp only [List.length_set, el]) (by simp only [fsTm, Nat.reduceBEq, Nat.reduceLT, el, hw]), 0, by omega, by omega, by simp only [fsTm, Nat.reduceBEq, Nat.reduceLT, el]; rfl, fun j hj => by omega⟩
 have hRm : R.length ≤ 1000000 := by omega
 clear hcom hf hw e0 e4 el hext I l1 hrl
 intro n tm h' I
 obtain ⟨i2, hn, hi, e5, hdone⟩ := I.st
 have C := I.com
 have el := C.len
 have e3 := C.t3
 have hlen := C.wr.len
 by_cases hlt : i2 < R.length
 case pos =>
  have l1 : decide ((i2 : Int) < (R.length : Int)) = true := by simp; omega
  (have fct := Fj @el (Fj @e3 (Fj @e5 (Fj @hlen @l1))); refine GOD ?_; clear fct)
  have gx := List.getElem?_eq_getElem hlt
  generalize R[i2]'hlt = x at gx
  obtain ⟨ob, hob, hrf⟩ := C.rows i2 x gx
  obtain ⟨a, c, rfl, hcm, hcase⟩ := hrf.full
  rw [maxLen_eq] at hcm
  refine CodeK_loop (InvB2 h obs R w i2 c) c ?_ ?_
  · exact ⟨⟨by simp only [List.length_set, el], by simp only [fsTm, Nat.reduceBEq, Nat.reduceLT, el, e3], C.rows, C.wr, C.keep, C.nn⟩, by simp only [fsTm, Nat.reduceBEq, Nat.reduceLT, el, e5], hdone, 0, by omega, by omega, by simp only [fsTm, Nat.reduceBEq, Nat.reduceLT, el]; rfl, fun b cs _ _ k' hk' => by omega⟩
  clear hcase hrf C el e3 hlen l1 hdone e5 I
  intro n2 tm h' I
  obtain ⟨k, hn2, hk, e6, hmk2⟩ := I.st
  have C := I.com
  have el := C.len
  have e3 := C.t3
  have e5 := I.t5
  have hlen := C.wr.len
  obtain ⟨bA, ia, gA, hbA⟩ := C.wr.at gx
  have hlen2 : ∀ hy, lenV (.slice a c (.exact c)) hy = some (.int .i64 (c : Int), hy) := fun _ => rfl
  obtain ⟨ob', hob', hrf⟩ := C.rows i2 _ gx
  obtain rfl : ob' = ob := by rw [hob] at hob'; exact (Option.some.inj hob').symm
  obtain ⟨a', c', hac, _, hcase⟩ := hrf.full
  cases hac
  by_cases hltk : k < c
  case pos =>
   have l2 : decide ((k : Int) < (c : Int)) = true := by simp; omega
   rcases hcase with ⟨_, h0⟩ | ⟨b, cs, rfl, rfl, g3, g4, g5⟩
   · omega
   have ib : ∀ hy : AH, iaddrV 8 (.slice (some (b, 0)) c (.exact c)) (.int .i64 (k : Int)) hy = some (.ptr (some (b, k * 8)), hy) := fun hy => by rw [iaddrV_nat hltk, Nat.zero_add]
   have w1 : IntKind.wrap .i64 ((k : Int) + 1) = ((k + 1 : Nat) : Int) := by rw [wrap_i64 (by omega) (by omega)]; omega
   have k3 : (k * 8 + 8 ≤ cs.length) = True := by simp; omega
   have z2 : (mkP (i2 : Int) (k : Int)).length = 8 := rfl
   have z3 : (mkP (i2 : Int) (k : Int)).all AV.one = true := rfl
   (have fct := Fj @el (Fj @e3 (Fj @e5 (Fj @e6 (Fj @ia (Fj @gA (Fj @gx (Fj @hlen2 (Fj @l2 (Fj @hmk (Fj @ib (Fj @g3 (Fj @k3 (Fj @z2 (Fj @z3 @w1)))))))))))))); refine GOD ?_; clear fct)
   have cw := com_write (tm' := tm) C hnd hob g3 g5 (k := k) (by omega) el e3 I.done hmk2
   exact ⟨c - (k + 1), by omega, ⟨by simp only [List.length_set, el], by simp only [fsTm, Nat.reduceBEq, Nat.reduceLT, el, e3], cw.1.rows, cw.1.wr, cw.1.keep, cw.1.nn⟩, by simp only [fsTm, Nat.reduceBEq, Nat.reduceLT, el, e5], cw.2.1, k + 1, rfl, by omega, by simp only [fsTm, Nat.reduceBEq, Nat.reduceLT, el], cw.2.2⟩
  case neg =>
   have hkc : k = c := by omega
   subst hkc
   have l2 : decide ((k : Int) < (k : Int)) = false := by simp
   have w1 : IntKind.wrap .i64 ((i2 : Int) + 1) = ((i2 + 1 : Nat) : Int) := by rw [wrap_i64 (by omega) (by omega)]; omega
   (have fct := Fj @el (Fj @e3 (Fj @e5 (Fj @e6 (Fj @ia (Fj @gA (Fj @gx (Fj @hlen2 (Fj @l2 @w1)))))))); refine GOD ?_; clear fct)
   refine ⟨R.length - (i2 + 1), by omega, ⟨by simp only [List.length_set, el], by simp only [fsTm, Nat.reduceBEq, Nat.reduceLT, el, e3], C.rows, C.wr, C.keep, C.nn⟩, i2 + 1, rfl, by omega, by simp only [fsTm, Nat.reduceBEq, Nat.reduceLT, el], fun j hj => ?_⟩
   by_cases hj2 : j < i2
   · exact I.done j hj2
   · obtain rfl : j = i2 := by omega
     intro k2 b cs q1 q2 k' _ q4
     refine hmk2 b cs q1 q2 k' ?_ q4
     rcases hcase with ⟨rfl, _⟩ | ⟨b', cs', rfl, _, g3, g4, _⟩
     · rw [hob] at q1; cases q1
     · rw [hob] at q1; cases q1
       rw [g3] at q2; cases q2
       omega
 case neg =>
 have hiR : i2 = R.length := by omega
 subst hiR
 have l1 : decide ((R.length : Int) < (R.length : Int)) = false := by simp
 (have fct := Fj @el (Fj @e3 (Fj @e5 (Fj @hlen @l1))); refine GOD ?_; clear fct)
 refine CodeK_loop (InvD3 h h' obs R w) R.length ?_ ?_
 · exact ⟨rfl, ⟨by simp only [List.length_set, el], by simp only [fsTm, Nat.reduceBEq, Nat.reduceLT, el, e3], C.rows, C.wr, C.keep, C.nn⟩, 0, by omega, by omega, by simp only [fsTm, Nat.reduceBEq, Nat.reduceLT, el]; rfl⟩
 clear C el e3 hlen l1 e5 I
 intro n tm hx I
 obtain ⟨i3, hn, hi, e7⟩ := I.st
 obtain rfl := I.heap
 have C := I.com
 have el := C.len
 have e3 := C.t3
 have hlen := C.wr.len
 by_cases hlt : i3 < R.length
 case neg =>
  have hiR : i3 = R.length := by omega
  subst hiR
  have l1 : decide ((R.length : Int) < (R.length : Int)) = false := by simp
  (have fct := Fj @el (Fj @e3 (Fj @e7 (Fj @hlen @l1))); refine GOD ?_; clear fct)
  refine ⟨.inr rfl, .bool true, by simp only [resAll, resOne, el, fsTm, Nat.reduceBEq, Nat.reduceLT], ?_⟩
  rw [Ef.settle_fst1]
  refine ⟨rfl, fun b q1 q2 => ?_⟩
  unfold Fs.settle
  split
  · rfl
  · simp only [Hp.get_withLow]; exact C.keep b q1 q2
 case pos =>
  have l1 : decide ((i3 : Int) < (R.length : Int)) = true := by simp; omega
  (have fct := Fj @el (Fj @e3 (Fj @e7 (Fj @hlen @l1))); refine GOD ?_; clear fct)
  have gx := List.getElem?_eq_getElem hlt
  generalize R[i3]'hlt = x at gx
  obtain ⟨ob, hob, hrf⟩ := C.rows i3 x gx
  obtain ⟨a, c, rfl, hcm, hcase⟩ := hrf.full
  rw [maxLen_eq] at hcm
  obtain ⟨bA, ia, gA, hbA⟩ := C.wr.at gx
  have hlen2 : ∀ hy, lenV (.slice a c (.exact c)) hy = some (.int .i64 (c : Int), hy) := fun _ => rfl
  refine CodeK_loop (InvE3 h hx obs R w i3 c) c ?_ ?_
  · exact ⟨rfl, ⟨by simp only [List.length_set, el], by simp only [fsTm, Nat.reduceBEq, Nat.reduceLT, el, e3], C.rows, C.wr, C.keep, C.nn⟩, by simp only [fsTm, Nat.reduceBEq, Nat.reduceLT, el, e7], 0, by omega, by omega, by simp only [fsTm, Nat.reduceBEq, Nat.reduceLT, el]; rfl⟩
  clear C el e3 hlen l1 e7 I
  intro n2 tm h'' I
  obtain ⟨k, hn2, hk, e8⟩ := I.st
  obtain rfl := I.heap
  have C := I.com
  have el := C.len
  have e3 := C.t3
  have e7 := I.t7
  by_cases hltk : k < c
  case pos =>
   have l2 : decide ((k : Int) < (c : Int)) = true := by simp; omega
   rcases hcase with ⟨_, h0⟩ | ⟨b, cs, rfl, rfl, g3, g4, g5⟩
   · omega
   have ib : ∀ hy : AH, iaddrV 8 (.slice (some (b, 0)) c (.exact c)) (.int .i64 (k : Int)) hy = some (.ptr (some (b, k * 8)), hy) := fun hy => by rw [iaddrV_nat hltk, Nat.zero_add]
   have w1 : IntKind.wrap .i64 ((k : Int) + 1) = ((k + 1 : Nat) : Int) := by rw [wrap_i64 (by omega) (by omega)]; omega
   obtain ⟨gk1, gk2⟩ := cut_parts (hdone i3 hlt (k + 1) b cs hob g3 k (by omega) (by omega))
   have k3 : (k * 8 + 8 ≤ cs.length) = True := by simp; omega
   unfold mkP at gk2 hmk
   (have fct := Fj @el (Fj @e3 (Fj @e7 (Fj @e8 (Fj @ia (Fj @gA (Fj @gx (Fj @hlen2 (Fj @l2 (Fj @hmk (Fj @ib (Fj @g3 (Fj @gk2 (Fj @k3 (Fj @bne_self_eq_false.{0} (Fj @beq_self_eq_true.{0} @w1))))))))))))))); refine GOD ?_; clear fct)
   exact ⟨c - (k + 1), by omega, rfl, ⟨by simp only [List.length_set, el], by simp only [fsTm, Nat.reduceBEq, Nat.reduceLT, el, e3], C.rows, C.wr, C.keep, C.nn⟩, by simp only [fsTm, Nat.reduceBEq, Nat.reduceLT, el, e7], k + 1, rfl, by omega, by simp only [fsTm, Nat.reduceBEq, Nat.reduceLT, el]⟩
  case neg =>
   have hkc : k = c := by omega
   subst hkc
   have l2 : decide ((k : Int) < (k : Int)) = false := by simp
   have w1 : IntKind.wrap .i64 ((i3 : Int) + 1) = ((i3 + 1 : Nat) : Int) := by rw [wrap_i64 (by omega) (by omega)]; omega
   (have fct := Fj @el (Fj @e3 (Fj @e7 (Fj @e8 (Fj @ia (Fj @gA (Fj @gx (Fj @hlen2 (Fj @l2 @w1)))))))); refine GOD ?_; clear fct)
   exact ⟨R.length - (i3 + 1), by omega, rfl, ⟨by simp only [List.length_set, el], by simp only [fsTm, Nat.reduceBEq, Nat.reduceLT, el, e3], C.rows, C.wr, C.keep, C.nn⟩, i3 + 1, rfl, by omega, by simp only [fsTm, Nat.reduceBEq, Nat.reduceLT, el]⟩
end Go.Proofs.Cards
