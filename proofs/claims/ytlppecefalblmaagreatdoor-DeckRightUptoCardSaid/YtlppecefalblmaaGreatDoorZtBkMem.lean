/- Books in memory, the program's and the reference's: names looked for, cards held against each other, asked. -/
import Derived.Test.YtlppecefalblmaaGreatDoorFz05
import Derived.Test.YtlppecefalblmaaGreatDoorFz05
import Derived.Test.YtlppecefalblmaaGreatDoorZtCdTell
namespace Go.Proofs.Cards
set_option maxRecDepth 100000
set_option maxHeartbeats 32000000
open Go Go.Fs
set_option linter.unusedSimpArgs false
set_option linter.unusedVariables false
variable {orc : Orc}
def cf118 : CF := ⟨24, [(.tmp 4)], (.seq (.region [Zo 4 (.mv (.c (.int .i64 0)))]) (.seq (.seq (.region [Zm 6 0, Zo 7 (.nilchk (.t 6)), Zf 8 2 7, Zl 9 8, Zo 10 (.mv (.c (.int .i64 0)))]) (.block 0 (.loop (.seq (.region [Zb 11 .lss (.t 10) (.t 9)]) (.seq (.cond (.t 11) .skip (.exit 0)) (.seq (.block 1 (.seq (.region [Zm 12 10, Zm 5 12]) (.seq (.region [Zm 13 0, Zm 14 5, Zo 15 (.nilchk (.t 13)), Zf 16 3 15, Zo 17 (.iaddrA 64 9 (.t 16) (.t 14)), Zf 18 0 17, Zl 19 18, Zm 20 1, Zb 21 .eql (.t 19) (.t 20)]) (.cond (.t 21) (.seq (.region [Zm 22 5, Zm 4 22]) .ret) .skip)))) (.region [Zb 23 .add (.t 10) (.c (.int .i64 1)), Zm 10 23]))))))) (.seq (.region [Zo 4 (.mv (.c (.int .i64 (-1))))]) .ret)))⟩
def cf119 : CF := ⟨20, [(.tmp 4)], (.seq (.region [Zo 2 (.box (.t 0)), Zo 3 (.box (.t 1)), Zo 4 (.mv (.c (.bool false)))]) (.seq (.seq (.region [Zf 5 1 2, Zl 6 5, Zf 7 1 3, Zl 8 7, Zb 9 .neq (.t 6) (.t 8)]) (.cond (.t 9) (.seq (.region [Zf 10 1 2, Zl 11 10, Zf 12 1 3, Zl 13 12, Zb 14 .lss (.t 11) (.t 13), Zm 4 14]) .ret) .skip)) (.seq (.region [Zf 15 0 2, Zl 16 15, Zf 17 0 3, Zl 18 17, Zb 19 .lss (.t 16) (.t 18), Zm 4 19]) .ret)))⟩
def cf85 : CF := ⟨12, [(.tmp 2)], (.seq (.region [Zo 2 (.mv (.c (.bool false)))]) (.seq (.region [Zm 3 0, Zo 4 (.bin .eql (.ptr true) (.t 3) (.c (.ptr none))), Zm 5 4, Zg 6 (.mv (.t 0)) 5 false, Zg 7 (.nilchk (.t 6)) 5 false, Zg 8 (.faddr 0 (.t 7)) 5 false, Zg 9 (.load none (.t 8)) 5 false, Zg 10 (.un .not (.t 9)) 5 false, Zo 11 (.pick (.t 5) (.c (.bool true)) (.t 10)), Zm 2 11]) .ret))⟩
def cf117 : CF := ⟨11, [(.tmp 2)], (.seq (.region [Zo 2 (.mv (.c (.int .i64 0)))]) (.seq (.block 0 (.seq (.region [Zm 4 0, Zo 5 (.call (.f 85) [(.t 4)]), Zm 3 5]) (.cond (.t 3) (.seq (.region [Zo 2 (.mv (.c (.int .i64 1)))]) .ret) (.seq (.region [Zm 7 0, Zo 8 (.nilchk (.t 7)), Zf 9 1 8, Zl 10 9, Zm 6 10]) (.cond (.t 6) (.seq (.region [Zo 2 (.mv (.c (.int .i64 7)))]) .ret) .skip))))) (.seq (.region [Zo 2 (.mv (.c (.int .i64 0)))]) .ret)))⟩
def cf33 : CF := ⟨9, [(.tmp 2)], (.seq (.region [Zo 2 (.mv (.c (.bool false)))]) (.seq (.seq (.region [Zm 3 0, Zo 4 (.call (.f 85) [(.t 3)])]) (.cond (.t 4) (.seq (.region [Zo 2 (.mv (.c (.bool false)))]) .ret) .skip)) (.seq (.region [Zm 5 0, Zo 6 (.nilchk (.t 5)), Zf 7 1 6, Zl 8 7, Zm 2 8]) .ret)))⟩
def cf34 : CF := ⟨35, [(.cell 4 (some 9)), (.tmp 5)], (.seq (.region [Zo 4 (.alloc [(.str []), (.int .u8 0), (.int .u8 0), (.int .i64 0), (.int .i64 0), (.int .i64 0), (.int .u16 0), (.bool false), (.slice none 0 (.exact 0))]), Zo 5 (.mv (.c (.int .i64 0)))]) (.seq (.seq (.region [Zm 6 0, Zo 7 (.call (.f 85) [(.t 6)])]) (.cond (.t 7) (.seq (.region [Zo 8 (.build [(.str []), (.int .u8 0), (.int .u8 0), (.int .i64 0), (.int .i64 0), (.int .i64 0), (.int .u16 0), (.bool false), (.slice none 0 (.exact 0))] []), Zn (.store 9 (.t 4) (.t 8)), Zo 5 (.mv (.c (.int .i64 1)))]) .ret) .skip)) (.seq (.seq (.region [Zm 9 0, Zo 10 (.nilchk (.t 9)), Zf 11 1 10, Zl 12 11, Zo 13 (.un .not (.t 12)), Zm 14 13, Zg 15 (.mv (.t 1)) 14 false, Zg 16 (.bin .lss .other (.t 15) (.c (.int .i64 1))) 14 false, Zo 17 (.pick (.t 14) (.c (.bool true)) (.t 16)), Zm 18 17, Zg 19 (.mv (.t 1)) 18 false, Zg 20 (.mv (.t 0)) 18 false, Zg 21 (.nilchk (.t 20)) 18 false, Zg 22 (.faddr 2 (.t 21)) 18 false, Zg 23 (.load none (.t 22)) 18 false, Zg 24 (.bin .gtr .other (.t 19) (.t 23)) 18 false, Zo 25 (.pick (.t 18) (.c (.bool true)) (.t 24))]) (.cond (.t 25) (.seq (.region [Zo 26 (.build [(.str []), (.int .u8 0), (.int .u8 0), (.int .i64 0), (.int .i64 0), (.int .i64 0), (.int .u16 0), (.bool false), (.slice none 0 (.exact 0))] []), Zn (.store 9 (.t 4) (.t 26)), Zo 5 (.mv (.c (.int .i64 6)))]) .ret) .skip)) (.seq (.region [Zm 27 0, Zm 28 1, Zb 29 .sub (.t 28) (.c (.int .i64 1)), Zo 30 (.nilchk (.t 27)), Zf 31 3 30, Zo 32 (.iaddrA 64 9 (.t 31) (.t 29)), Zo 33 (.load (some 9) (.t 32)), Zo 34 (.call (.f 10) [(.t 33)]), Zn (.store 9 (.t 4) (.t 34)), Zo 5 (.mv (.c (.int .i64 0)))]) .ret))))⟩
def cf79 : CF := ⟨22, [(.tmp 4), (.tmp 5)], (.seq (.region [Zo 4 (.mv (.c (.int .i64 0))), Zo 5 (.mv (.c (.int .i64 0)))]) (.seq (.seq (.region [Zm 7 0, Zo 8 (.call (.f 85) [(.t 7)])]) (.cond (.t 8) (.seq (.region [Zo 4 (.mv (.c (.int .i64 0))), Zo 5 (.mv (.c (.int .i64 1)))]) .ret) .skip)) (.seq (.seq (.region [Zm 9 0, Zm 10 1, Zo 11 (.call (.f 118) [(.t 9), (.t 10)]), Zm 6 11]) (.seq (.region [Zm 12 0, Zo 13 (.nilchk (.t 12)), Zf 14 1 13, Zl 15 14, Zm 16 15, Zg 17 (.mv (.t 6)) 16 true, Zg 18 (.bin .geq .other (.t 17) (.c (.int .i64 0))) 16 true, Zo 19 (.pick (.t 16) (.t 18) (.c (.bool false)))]) (.cond (.t 19) (.seq (.region [Zm 20 6, Zb 21 .add (.t 20) (.c (.int .i64 1)), Zm 4 21, Zo 5 (.mv (.c (.int .i64 0)))]) .ret) .skip))) (.seq (.region [Zo 4 (.mv (.c (.int .i64 0))), Zo 5 (.mv (.c (.int .i64 6)))]) .ret))))⟩
def cf121 : CF := ⟨26, [(.tmp 4)], (.seq (.region [Zo 4 (.mv (.c (.int .i64 0)))]) (.seq (.seq (.region [Zo 5 (.mv (.c (.int .i64 0)))]) (.block 0 (.loop (.seq (.seq (.region [Zm 6 5, Zm 7 0, Zo 8 (.nilchk (.t 7)), Zf 9 2 8, Zl 10 9, Zo 11 (.lenV (.t 10)), Zb 12 .lss (.t 6) (.t 11)]) (.cond (.t 12) .skip (.exit 0))) (.seq (.block 1 (.seq (.region [Zm 15 0, Zo 16 (.nilchk (.t 15)), Zf 17 2 16, Zl 18 17, Zm 19 5, Zo 20 (.iaddrS 9 (.t 18) (.t 19)), Zf 21 0 20, Zl 22 21, Zm 23 1, Zb 24 .eql (.t 22) (.t 23)]) (.cond (.t 24) (.seq (.region [Zm 25 5, Zm 4 25]) .ret) .skip))) (.region [Zm 13 5, Zb 14 .add (.t 13) (.c (.int .i64 1)), Zm 5 14])))))) (.seq (.region [Zo 4 (.mv (.c (.int .i64 (-1))))]) .ret)))⟩
def cf122 : CF := ⟨24, [(.tmp 4)], (.seq (.region [Zo 2 (.box (.t 0)), Zo 3 (.box (.t 1)), Zo 4 (.mv (.c (.bool false)))]) (.seq (.region [Zf 5 1 2, Zl 6 5, Zf 7 1 3, Zl 8 7, Zb 9 .lss (.t 6) (.t 8), Zm 10 9, Zg 11 (.faddr 1 (.t 2)) 10 false, Zg 12 (.load none (.t 11)) 10 false, Zg 13 (.faddr 1 (.t 3)) 10 false, Zg 14 (.load none (.t 13)) 10 false, Zg 15 (.bin .eql .other (.t 12) (.t 14)) 10 false, Zg 16 (.mv (.t 15)) 10 false, Zg 17 (.faddr 0 (.t 2)) 16 true, Zg 18 (.load none (.t 17)) 16 true, Zg 19 (.faddr 0 (.t 3)) 16 true, Zg 20 (.load none (.t 19)) 16 true, Zg 21 (.bin .lss .other (.t 18) (.t 20)) 16 true, Zg 22 (.pick (.t 16) (.t 21) (.c (.bool false))) 10 false, Zo 23 (.pick (.t 10) (.c (.bool true)) (.t 22)), Zm 4 23]) .ret))⟩
def cf120 : CF := ⟨12, [(.tmp 2)], (.seq (.region [Zo 2 (.mv (.c (.bool false)))]) (.seq (.region [Zm 3 0, Zo 4 (.bin .eql (.ptr true) (.t 3) (.c (.ptr none))), Zm 5 4, Zg 6 (.mv (.t 0)) 5 false, Zg 7 (.nilchk (.t 6)) 5 false, Zg 8 (.faddr 0 (.t 7)) 5 false, Zg 9 (.load none (.t 8)) 5 false, Zg 10 (.un .not (.t 9)) 5 false, Zo 11 (.pick (.t 5) (.c (.bool true)) (.t 10)), Zm 2 11]) .ret))⟩
def cf68 : CF := ⟨12, [(.tmp 2)], (.seq (.region [Zo 2 (.mv (.c (.bool false)))]) (.seq (.region [Zm 3 0, Zo 4 (.call (.f 120) [(.t 3)]), Zo 5 (.un .not (.t 4)), Zm 6 5, Zg 7 (.mv (.t 0)) 6 true, Zg 8 (.nilchk (.t 7)) 6 true, Zg 9 (.faddr 1 (.t 8)) 6 true, Zg 10 (.load none (.t 9)) 6 true, Zo 11 (.pick (.t 6) (.t 10) (.c (.bool false))), Zm 2 11]) .ret))⟩
theorem tbl118 : tbl Tryz.prog 118 = some cf118 := by kernel_rfl
theorem tbl119 : tbl Tryz.prog 119 = some cf119 := by kernel_rfl
theorem tbl85 : tbl Tryz.prog 85 = some cf85 := by kernel_rfl
theorem tbl117 : tbl Tryz.prog 117 = some cf117 := by kernel_rfl
theorem tbl33 : tbl Tryz.prog 33 = some cf33 := by kernel_rfl
theorem tbl34 : tbl Tryz.prog 34 = some cf34 := by kernel_rfl
theorem tbl79 : tbl Tryz.prog 79 = some cf79 := by kernel_rfl
theorem tbl121 : tbl Tryz.prog 121 = some cf121 := by kernel_rfl
theorem tbl122 : tbl Tryz.prog 122 = some cf122 := by kernel_rfl
theorem tbl120 : tbl Tryz.prog 120 = some cf120 := by kernel_rfl
theorem tbl68 : tbl Tryz.prog 68 = some cf68 := by kernel_rfl
theorem own_prt {N : Nat} {X : AH} {v : AV} {ps : List Prt} (o : Own N X v ps) (hl : ps.length ≤ 1152921504606846976) : Parts X v ps := by
 rcases o with ⟨rfl, rfl⟩ | ⟨b, _, h2, rfl, h4, _⟩
 · exact ⟨_, _, rfl, by simp, .inl rfl⟩
 · exact ⟨_, _, rfl, hl, .inr ⟨b, 0, _, false, rfl, h2, h4, fun i p hp => flat_cut hp⟩⟩
theorem Own.off {N : Nat} {X Y : AH} {v : AV} {ps : List Prt} (o : Own N X v ps) (hn : X.n ≤ Y.n) (hY : ∀ b, N ≤ b → b < X.n → Y.get b = X.get b) : Own N Y v ps := by
 rcases o with o | ⟨b, o1, o2, o3, o4, o5⟩
 · exact .inl o
 · exact .inr ⟨b, o1, by omega, o3, by rw [hY b o1 o2]; exact o4, o5⟩
theorem Own.from {N M : Nat} {X : AH} {v : AV} {ps : List Prt} (o : Own N X v ps) (h : M ≤ N) : Own M X v ps := by
 rcases o with o | ⟨b, o1, o2⟩
 · exact .inl o
 · exact .inr ⟨b, by omega, o2⟩
theorem Own.slice {N : Nat} {X : AH} {v : AV} {ps : List Prt} (o : Own N X v ps) : ∃ a cap, v = .slice a ps.length cap := by
 rcases o with ⟨rfl, rfl⟩ | ⟨b, _, _, rfl, _⟩
 · exact ⟨_, _, rfl⟩
 · exact ⟨_, _, rfl⟩
def nilcV (v : AV) (h : AH) : Option (AV × AH) := match v with
 | .ptr (some p) => some (.ptr (some p), h)
 | .func (.func f) fi ca => some (.func (.func f) fi ca, h)
 | _ => none
theorem op_nilchk {call : Rec} {tm : List AV} {h : AH} (x : CA) : runOp call (.nilchk x) tm h = nilcV (x.ev tm) h := by
 simp only [runOp, CO.quiet, if_true, quietRun, nilcV]
 generalize x.ev tm = v
 cases v <;> first | rfl | skip
 · rename_i a; cases a <;> rfl
 · rename_i f _ _; cases f <;> rfl
theorem nilcV_ptr (p : Nat × Nat) (h : AH) : nilcV (.ptr (some p)) h = some (.ptr (some p), h) := rfl
theorem iaddrA_nat {n esz b o i : Nat} {k : IntKind} {h : AH} (hi : i < n) : Ef.iaddrAV n esz (.ptr (some (b, o))) (.int k (i : Int)) h = some (.ptr (some (b, o + i * esz)), h) := by
 unfold Ef.iaddrAV
 simp only
 rw [if_pos (by omega)]
 simp
theorem aeqP_none (p : Nat × Nat) : aeq (.ptr true) (.ptr (some p)) (.ptr none) = some false := rfl
theorem none_spec (ho : orc 85 = none) {b : Nat} {cs : List AV} {ro : Bool} {h : AH} (hg : h.get b = some (.cells cs ro)) (h0 : cs[0]? = some (.bool true)) : acall orc T 85 [.ptr (some (b, 0))] h = some (.bool false, h) := by
 refine acall_sym ho tbl85 ?_
 refine GD ?_
 (have fct := Fj @hg (Fj @h0 (Fj @aeqP_none (Fj @op_nilchk @nilcV_ptr))); refine GO ?_; clear fct)
 (have fct := trivial; refine A_end ?_; clear fct; try exact trivial)
theorem rnone_spec (ho : orc 120 = none) {b : Nat} {cs : List AV} {ro : Bool} {h : AH} (hg : h.get b = some (.cells cs ro)) (h0 : cs[0]? = some (.bool true)) : acall orc T 120 [.ptr (some (b, 0))] h = some (.bool false, h) := by
 refine acall_sym ho tbl120 ?_
 refine GD ?_
 (have fct := Fj @hg (Fj @h0 (Fj @aeqP_none (Fj @op_nilchk @nilcV_ptr))); refine GO ?_; clear fct)
 (have fct := trivial; refine A_end ?_; clear fct; try exact trivial)
theorem shut_spec (ho : ∀ f, f ∈ [117, 85] → orc f = none) {b : Nat} {cs : List AV} {ro s : Bool} {h : AH} (hg : h.get b = some (.cells cs ro)) (h0 : cs[0]? = some (.bool true)) (h1 : cs[1]? = some (.bool s)) : acall orc T 117 [.ptr (some (b, 0))] h = some (.int .i64 (if s = true then 7 else 0), h) := by
 have cN := none_spec (orc := orc) (ho _ (by simp)) (h := h.withLow h.n) hg h0
 refine acall_sym (ho _ (by simp)) tbl117 ?_
 refine GD ?_
 cases s with
 | true =>
   (have fct := Fj @cN (Fj @hg (Fj @h1 (Fj @op_nilchk @nilcV_ptr))); refine GO ?_; clear fct)
   (have fct := trivial; refine A_end ?_; clear fct; try exact trivial)
 | false =>
   (have fct := Fj @cN (Fj @hg (Fj @h1 (Fj @op_nilchk @nilcV_ptr))); refine GO ?_; clear fct)
   (have fct := trivial; refine A_end ?_; clear fct; try exact trivial)
theorem sealed_spec (ho : ∀ f, f ∈ [33, 85] → orc f = none) {b : Nat} {cs : List AV} {ro s : Bool} {h : AH} (hg : h.get b = some (.cells cs ro)) (h0 : cs[0]? = some (.bool true)) (h1 : cs[1]? = some (.bool s)) : acall orc T 33 [.ptr (some (b, 0))] h = some (.bool s, h) := by
 have cN := none_spec (orc := orc) (ho _ (by simp)) (h := h.withLow h.n) hg h0
 refine acall_sym (ho _ (by simp)) tbl33 ?_
 refine GD ?_
 (have fct := Fj @cN (Fj @hg (Fj @h1 (Fj @op_nilchk @nilcV_ptr))); refine GO ?_; clear fct)
 (have fct := trivial; refine A_end ?_; clear fct; try exact trivial)
theorem rsealed_spec (ho : ∀ f, f ∈ [68, 120] → orc f = none) {b : Nat} {cs : List AV} {ro s : Bool} {h : AH} (hg : h.get b = some (.cells cs ro)) (h0 : cs[0]? = some (.bool true)) (h1 : cs[1]? = some (.bool s)) : acall orc T 68 [.ptr (some (b, 0))] h = some (.bool s, h) := by
 have cN := rnone_spec (orc := orc) (ho _ (by simp)) (h := h.withLow h.n) hg h0
 refine acall_sym (ho _ (by simp)) tbl68 ?_
 refine GD ?_
 (have fct := Fj @cN (Fj @hg (Fj @h1 (Fj @op_nilchk @nilcV_ptr))); refine GO ?_; clear fct)
 (have fct := trivial; refine A_end ?_; clear fct; try exact trivial)
def plc : List (List UInt8) → List UInt8 → Nat → Int
 | [], _, _ => -1
 | x :: r, s, i => if x = s then (i : Int) else plc r s (i + 1)
theorem plc_at {l : List (List UInt8)} {s : List UInt8} {i : Nat} {x : List UInt8} (h : l[i]? = some x) : plc (l.drop i) s i = if x = s then (i : Int) else plc (l.drop (i + 1)) s (i + 1) := by
 obtain ⟨hi, e⟩ := List.getElem?_eq_some_iff.1 h
 rw [List.drop_eq_getElem_cons hi, e, plc]
theorem plc_range : ∀ (l : List (List UInt8)) (s : List UInt8) (i : Nat), plc l s i = -1 ∨ ((i : Int) ≤ plc l s i ∧ plc l s i < (i : Int) + l.length)
 | [], _, _ => .inl rfl
 | x :: r, s, i => by
   unfold plc
   split
   · right; simp only [List.length_cons]; omega
   · rcases plc_range r s (i + 1) with h | h
     · exact .inl h
     · right; simp only [List.length_cons]; omega
structure PlI (b : Nat) (s : List UInt8) (ns : List (List UInt8)) (h0 : AH) (n : Nat) (tm : List AV) (h : AH) : Prop where
 len : tm.length = 24
 t0 : tm.getD 0 AV.undef = .ptr (some (b, 0))
 t1 : tm.getD 1 AV.undef = .str s
 t9 : tm.getD 9 AV.undef = .int .i64 (ns.length : Int)
 hp : h = h0.withLow h0.n
 st : ∃ i : Nat, n = ns.length - i ∧ i ≤ ns.length ∧ tm.getD 10 AV.undef = .int .i64 (i : Int) ∧ plc ns s 0 = plc (ns.drop i) s i
theorem place_spec (ho : orc 118 = none) {b : Nat} {cs : List AV} {ro : Bool} {ns : List (List UInt8)} (s : List UInt8) {h : AH} (hg : h.get b = some (.cells cs ro)) (hn : cs[2]? = some (.int .i64 (ns.length : Int))) (hl : ns.length ≤ 64)
    (hx : ∀ (i : Nat) x, ns[i]? = some x → cs[3 + i * 9]? = some (.str x)) : acall orc T 118 [.ptr (some (b, 0)), .str s] h = some (.int .i64 (plc ns s 0), h) := by
 refine acall_sym ho tbl118 ?_
 refine GD ?_
 (have fct := Fj @hg (Fj @hn (Fj @op_nilchk @nilcV_ptr)); refine GO ?_; clear fct)
 refine CodeK_loop (PlI b s ns h) ns.length ?_ ?_
 · exact ⟨rfl, rfl, rfl, rfl, rfl, 0, rfl, by omega, rfl, rfl⟩
 intro n tm H I
 obtain ⟨i, hi1, hi, e10, hp⟩ := I.st
 have el := I.len
 have e0 := I.t0
 have e1 := I.t1
 have e9 := I.t9
 obtain rfl := I.hp
 clear I
 by_cases hlt : i < ns.length
 case neg =>
  obtain rfl : i = ns.length := by omega
  have l1 : decide ((ns.length : Int) < (ns.length : Int)) = false := by rw [decide_eq_false_iff_not]; omega
  rw [List.drop_length] at hp
  rw [hp]
  (have fct := Fj @el (Fj @e0 (Fj @e1 (Fj @e9 (Fj @e10 @l1)))); refine GO ?_; clear fct)
  (have fct := @el; refine A_end ?_; clear fct; try exact trivial)
  rfl
 case pos =>
 have l1 : decide ((i : Int) < (ns.length : Int)) = true := by rw [decide_eq_true_eq]; omega
 obtain ⟨x, hxi⟩ : ∃ x, ns[i]? = some x := ⟨_, List.getElem?_eq_getElem hlt⟩
 have c1 := hx i x hxi
 have a1 := fun (hh : AH) => iaddrA_nat (h := hh) (n := 64) (esz := 9) (b := b) (o := 3) (k := .i64) (show i < 64 by omega)
 have w1 : IntKind.wrap .i64 ((i : Int) + 1) = ((i + 1 : Nat) : Int) := by rw [wrap_i64 (by omega) (by omega)]; omega
 rw [plc_at hxi] at hp
 by_cases hq : x = s
 · have d1 : decide (x = s) = true := decide_eq_true hq
   rw [if_pos hq] at hp
   rw [hp]
   (have fct := Fj @el (Fj @e0 (Fj @e1 (Fj @e9 (Fj @e10 (Fj @l1 (Fj @hg (Fj @c1 (Fj @a1 (Fj @d1 (Fj @Ef.op_iaddrA (Fj @op_nilchk (Fj @nilcV_ptr fsAstr)))))))))))); refine GO ?_; clear fct)
   (have fct := @el; refine A_end ?_; clear fct; try exact trivial)
 · have d1 : decide (x = s) = false := decide_eq_false hq
   rw [if_neg hq] at hp
   (have fct := Fj @el (Fj @e0 (Fj @e1 (Fj @e9 (Fj @e10 (Fj @l1 (Fj @hg (Fj @c1 (Fj @a1 (Fj @d1 (Fj @w1 (Fj @Ef.op_iaddrA (Fj @op_nilchk (Fj @nilcV_ptr fsAstr))))))))))))); refine GO ?_; clear fct)
   exact ⟨ns.length - (i + 1), by omega, by simp only [List.length_set, el], by simp only [fsTm, Nat.reduceBEq, Nat.reduceLT, el, e0], by simp only [fsTm, Nat.reduceBEq, Nat.reduceLT, el, e1], by simp only [fsTm, Nat.reduceBEq, Nat.reduceLT, el, e9], rfl, i + 1, rfl, by omega, by simp only [fsTm, Nat.reduceBEq, Nat.reduceLT, el], hp⟩
structure RPlI (b : Nat) (s : List UInt8) (ns : List (List UInt8)) (h0 : AH) (n : Nat) (tm : List AV) (h : AH) : Prop where
 len : tm.length = 26
 t0 : tm.getD 0 AV.undef = .ptr (some (b, 0))
 t1 : tm.getD 1 AV.undef = .str s
 hp : h = h0.withLow h0.n
 st : ∃ i : Nat, n = ns.length - i ∧ i ≤ ns.length ∧ tm.getD 5 AV.undef = .int .i64 (i : Int) ∧ plc ns s 0 = plc (ns.drop i) s i
theorem rplace_spec (ho : orc 121 = none) {b : Nat} {cs : List AV} {ro : Bool} {a : Option (Nat × Nat)} {cap : Cap} {ns : List (List UInt8)} (s : List UInt8) {h : AH} (hg : h.get b = some (.cells cs ro)) (hn : cs[2]? = some (.slice a ns.length cap)) (hl : ns.length ≤ 64)
    (hx : ns = [] ∨ ∃ (rb : Nat) (rows : List AV) (ro2 : Bool), a = some (rb, 0) ∧ h.get rb = some (.cells rows ro2) ∧ ∀ (i : Nat) x, ns[i]? = some x → rows[i * 9]? = some (.str x)) : acall orc T 121 [.ptr (some (b, 0)), .str s] h = some (.int .i64 (plc ns s 0), h) := by
 refine acall_sym ho tbl121 ?_
 refine GD ?_
 (have fct := @op_mv; refine GO ?_; clear fct)
 refine CodeK_loop (RPlI b s ns h) ns.length ?_ ?_
 · exact ⟨rfl, rfl, rfl, rfl, 0, rfl, by omega, rfl, rfl⟩
 intro n tm H I
 obtain ⟨i, hi1, hi, e5, hp⟩ := I.st
 have el := I.len
 have e0 := I.t0
 have e1 := I.t1
 obtain rfl := I.hp
 clear I
 by_cases hlt : i < ns.length
 case neg =>
  obtain rfl : i = ns.length := by omega
  have l1 : decide ((ns.length : Int) < (ns.length : Int)) = false := by rw [decide_eq_false_iff_not]; omega
  rw [List.drop_length] at hp
  rw [hp]
  (have fct := Fj @el (Fj @e0 (Fj @e1 (Fj @e5 (Fj @l1 (Fj @hg (Fj @hn (Fj @op_nilchk @nilcV_ptr))))))); refine GO ?_; clear fct)
  (have fct := @el; refine A_end ?_; clear fct; try exact trivial)
  rfl
 case pos =>
 have l1 : decide ((i : Int) < (ns.length : Int)) = true := by rw [decide_eq_true_eq]; omega
 obtain ⟨x, hxi⟩ : ∃ x, ns[i]? = some x := ⟨_, List.getElem?_eq_getElem hlt⟩
 rcases hx with rfl | ⟨rb, rows, ro2, rfl, hr, hx⟩
 · simp at hlt
 have c1 := hx i x hxi
 have a1 := fun (hh : AH) => iaddrV_nat (h := hh) (esz := 9) (b := rb) (o := 0) (c := cap) (k := .i64) hlt
 have w1 : IntKind.wrap .i64 ((i : Int) + 1) = ((i + 1 : Nat) : Int) := by rw [wrap_i64 (by omega) (by omega)]; omega
 rw [plc_at hxi] at hp
 by_cases hq : x = s
 · have d1 : decide (x = s) = true := decide_eq_true hq
   rw [if_pos hq] at hp
   rw [hp]
   (have fct := Fj @el (Fj @e0 (Fj @e1 (Fj @e5 (Fj @l1 (Fj @hg (Fj @hn (Fj @hr (Fj @c1 (Fj @a1 (Fj @d1 (Fj @Nat.zero_add (Fj @op_nilchk (Fj @nilcV_ptr fsAstr))))))))))))); refine GO ?_; clear fct)
   (have fct := @el; refine A_end ?_; clear fct; try exact trivial)
 · have d1 : decide (x = s) = false := decide_eq_false hq
   rw [if_neg hq] at hp
   (have fct := Fj @el (Fj @e0 (Fj @e1 (Fj @e5 (Fj @l1 (Fj @hg (Fj @hn (Fj @hr (Fj @c1 (Fj @a1 (Fj @d1 (Fj @w1 (Fj @Nat.zero_add (Fj @op_nilchk (Fj @nilcV_ptr fsAstr)))))))))))))); refine GO ?_; clear fct)
   exact ⟨ns.length - (i + 1), by omega, by simp only [List.length_set, el], by simp only [fsTm, Nat.reduceBEq, Nat.reduceLT, el, e0], by simp only [fsTm, Nat.reduceBEq, Nat.reduceLT, el, e1], rfl, i + 1, rfl, by omega, by simp only [fsTm, Nat.reduceBEq, Nat.reduceLT, el], hp⟩
def aheadB (c d : Crd) : Bool := if (c.suit != d.suit) = true then decide (c.suit < d.suit) else Op.bytesLess c.name d.name
theorem ahead_spec (ho : orc 119 = none) (c d : Crd) (a a' : Option (Nat × Nat)) (n n' : Nat) (cap cap' : Cap) (h : AH) : acall orc T 119 [.agg (c.cells (.slice a n cap)), .agg (d.cells (.slice a' n' cap'))] h = some (.bool (aheadB c d), h) := by
 have bx1 : ∀ (hh : AH), boxV (.agg (c.cells (.slice a n cap))) hh = some (.ptr (some (hh.n, 0)), hh.push (.cells (c.cells (.slice a n cap)) false)) := fun hh => boxV_agg _ rfl
 have bx2 : ∀ (hh : AH), boxV (.agg (d.cells (.slice a' n' cap'))) hh = some (.ptr (some (hh.n, 0)), hh.push (.cells (d.cells (.slice a' n' cap')) false)) := fun hh => boxV_agg _ rfl
 obtain ⟨x0, x1, _⟩ := cells_all c (.slice a n cap)
 obtain ⟨y0, y1, _⟩ := cells_all d (.slice a' n' cap')
 have z1 : (h.n = h.n + 1) = False := by simp
 have z2 : (h.n + 1 = h.n) = False := by simp
 refine acall_sym ho tbl119 ?_
 unfold aheadB
 refine GD ?_
 cases hq : (c.suit != d.suit) with
 | true =>
   (have fct := Fj @bx1 (Fj @bx2 (Fj @x0 (Fj @x1 (Fj @y0 (Fj @y1 (Fj @z1 (Fj @z2 (Fj @hq fsAstr)))))))); refine GO ?_; clear fct)
   (have fct := trivial; refine A_end ?_; clear fct; try exact trivial)
 | false =>
   (have fct := Fj @bx1 (Fj @bx2 (Fj @x0 (Fj @x1 (Fj @y0 (Fj @y1 (Fj @z1 (Fj @z2 (Fj @hq fsAstr)))))))); refine GO ?_; clear fct)
   (have fct := trivial; refine A_end ?_; clear fct; try exact trivial)
theorem rahead_spec (ho : orc 122 = none) (c d : Crd) (a a' : Option (Nat × Nat)) (n n' : Nat) (cap cap' : Cap) (h : AH) : acall orc T 122 [.agg (c.cells (.slice a n cap)), .agg (d.cells (.slice a' n' cap'))] h = some (.bool (aheadB c d), h) := by
 have bx1 : ∀ (hh : AH), boxV (.agg (c.cells (.slice a n cap))) hh = some (.ptr (some (hh.n, 0)), hh.push (.cells (c.cells (.slice a n cap)) false)) := fun hh => boxV_agg _ rfl
 have bx2 : ∀ (hh : AH), boxV (.agg (d.cells (.slice a' n' cap'))) hh = some (.ptr (some (hh.n, 0)), hh.push (.cells (d.cells (.slice a' n' cap')) false)) := fun hh => boxV_agg _ rfl
 obtain ⟨x0, x1, _⟩ := cells_all c (.slice a n cap)
 obtain ⟨y0, y1, _⟩ := cells_all d (.slice a' n' cap')
 have z1 : (h.n = h.n + 1) = False := by simp
 have z2 : (h.n + 1 = h.n) = False := by simp
 refine acall_sym ho tbl122 ?_
 unfold aheadB
 refine GD ?_
 by_cases hq : c.suit = d.suit
 · have q1 : (c.suit != d.suit) = false := by simp [hq]
   have q2 : decide (c.suit < d.suit) = false := by rw [decide_eq_false_iff_not]; omega
   have q3 : (c.suit == d.suit) = true := by simp [hq]
   rw [q1]
   (have fct := Fj @bx1 (Fj @bx2 (Fj @x0 (Fj @x1 (Fj @y0 (Fj @y1 (Fj @z1 (Fj @z2 (Fj @q2 (Fj @q3 fsAstr))))))))); refine GO ?_; clear fct)
   (have fct := trivial; refine A_end ?_; clear fct; try exact trivial)
 · have q1 : (c.suit != d.suit) = true := by simp [hq]
   have q3 : (c.suit == d.suit) = false := by simp [hq]
   rw [q1]
   cases q2 : decide (c.suit < d.suit) with
   | true =>
     (have fct := Fj @bx1 (Fj @bx2 (Fj @x0 (Fj @x1 (Fj @y0 (Fj @y1 (Fj @z1 (Fj @z2 (Fj @q2 (Fj @q3 fsAstr))))))))); refine GO ?_; clear fct)
     (have fct := trivial; refine A_end ?_; clear fct; try exact trivial)
   | false =>
     (have fct := Fj @bx1 (Fj @bx2 (Fj @x0 (Fj @x1 (Fj @y0 (Fj @y1 (Fj @z1 (Fj @z2 (Fj @q2 (Fj @q3 fsAstr))))))))); refine GO ?_; clear fct)
     (have fct := trivial; refine A_end ?_; clear fct; try exact trivial)
def fndN (s : Bool) (p : Int) : Int := if (s && decide (0 ≤ p)) = true then p + 1 else 0
def fndE (s : Bool) (p : Int) : Int := if (s && decide (0 ≤ p)) = true then 0 else 6
theorem find_spec (ho : ∀ f, f ∈ [79, 85, 118] → orc f = none) {b : Nat} {cs : List AV} {ro sl : Bool} {ns : List (List UInt8)} (s : List UInt8) {h : AH} (hg : h.get b = some (.cells cs ro)) (h0 : cs[0]? = some (.bool true)) (h1 : cs[1]? = some (.bool sl)) (hn : cs[2]? = some (.int .i64 (ns.length : Int))) (hl : ns.length ≤ 64)
    (hx : ∀ (i : Nat) x, ns[i]? = some x → cs[3 + i * 9]? = some (.str x)) : acall orc T 79 [.ptr (some (b, 0)), .str s] h = some (.tuple [.int .i64 (fndN sl (plc ns s 0)), .int .i64 (fndE sl (plc ns s 0))], h) := by
 have cN := none_spec (orc := orc) (ho _ (by simp)) (h := h.withLow h.n) hg h0
 have cP := place_spec (orc := orc) (ho _ (by simp)) s (h := h.withLow h.n) hg hn hl hx
 have hr := plc_range ns s 0
 generalize plc ns s 0 = p at *
 refine acall_sym (ho _ (by simp)) tbl79 ?_
 unfold fndN fndE
 refine GD ?_
 have w1 : IntKind.wrap .i64 (p + 1) = p + 1 := by rw [wrap_i64 (by omega) (by omega)]
 cases sl with
 | false =>
   (have fct := Fj @cN (Fj @cP (Fj @hg (Fj @h1 (Fj @op_nilchk @nilcV_ptr)))); refine GO ?_; clear fct)
   (have fct := @Bool.false_and; refine A_end ?_; clear fct; try exact trivial)
 | true =>
   cases hq : decide (0 ≤ p) with
   | true =>
     (have fct := Fj @cN (Fj @cP (Fj @hg (Fj @h1 (Fj @hq (Fj @w1 (Fj @op_nilchk @nilcV_ptr)))))); refine GO ?_; clear fct)
     (have fct := @Bool.true_and; refine A_end ?_; clear fct; try exact trivial)
   | false =>
     (have fct := Fj @cN (Fj @cP (Fj @hg (Fj @h1 (Fj @hq (Fj @op_nilchk @nilcV_ptr))))); refine GO ?_; clear fct)
     (have fct := @Bool.true_and; refine A_end ?_; clear fct; try exact trivial)
end Go.Proofs.Cards
