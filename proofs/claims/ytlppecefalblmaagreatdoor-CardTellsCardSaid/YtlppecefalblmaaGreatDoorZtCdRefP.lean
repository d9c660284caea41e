/- The reference's text of a card: it is the code's own. -/
import Derived.Test.YtlppecefalblmaaGreatDoorFz05
import Derived.Test.YtlppecefalblmaaGreatDoorZtCdRefC
import Derived.Test.YtlppecefalblmaaGreatDoorZtCdRow
import Derived.Test.YtlppecefalblmaaGreatDoorZtCdPrint
namespace Go.Proofs.Cards
set_option maxRecDepth 100000
set_option maxHeartbeats 32000000
open Go Go.Fs
set_option linter.unusedSimpArgs false
set_option linter.unusedVariables false
variable {orc : Orc}
def cf12 : CF := ⟨101, [(.tmp 2), (.tmp 3)], (.seq (.region [Zo 1 (.box (.t 0)), Zo 2 (.mv (.c (.str []))), Zo 3 (.mv (.c (.int .i64 0)))]) (.seq (.region [Zo 11 (.load (some 9) (.t 1)), Zo 12 (.call (.f 13) [(.t 11)]), Zm 4 12]) (.seq (.seq (.region [Zm 13 4, Zb 14 .neq (.t 13) (.c (.int .i64 0))]) (.cond (.t 14) (.seq (.region [Zm 15 4, Zo 2 (.mv (.c (.str []))), Zm 3 15]) .ret) .skip)) (.seq (.regionD [⟨Zf 16 0 1, 0, 1, false⟩, ⟨Zl 17 16, 0, 1, false⟩, ⟨Zb 18 .add (.t 17) (.c (.str [32])), 0, 1, false⟩, ⟨Zf 19 1 1, 0, 0, false⟩, ⟨Zl 20 19, 0, 0, false⟩, ⟨Zo 21 (.call (.f 47) [(.t 20)]), 0, 1, false⟩, ⟨Zb 22 .add (.t 18) (.t 21), 1, 1, false⟩, ⟨Zm 5 22, 1, 1, false⟩]) (.seq (.seq (.region [Zf 23 2 1, Zl 24 23]) (.block 0 (.seq (.region [Zb 26 .eql (.t 24) (.c (.int .u8 1)), Zm 25 26]) (.cond (.t 25) (.regionD [⟨Zm 27 5, 0, 3, false⟩, ⟨Zb 28 .add (.t 27) (.c (.str [32, 117, 110, 105, 116, 32])), 0, 3, false⟩, ⟨Zf 29 3 1, 0, 0, false⟩, ⟨Zl 30 29, 0, 0, false⟩, ⟨Zo 31 (.call (.f 48) [(.t 30)]), 0, 1, false⟩, ⟨Zb 32 .add (.t 28) (.t 31), 1, 3, false⟩, ⟨Zb 33 .add (.t 32) (.c (.str [32])), 1, 3, false⟩, ⟨Zf 34 4 1, 0, 1, false⟩, ⟨Zl 35 34, 0, 1, false⟩, ⟨Zo 36 (.call (.f 48) [(.t 35)]), 1, 2, false⟩, ⟨Zb 37 .add (.t 33) (.t 36), 2, 3, false⟩, ⟨Zb 38 .add (.t 37) (.c (.str [47])), 2, 3, false⟩, ⟨Zf 39 5 1, 0, 2, false⟩, ⟨Zl 40 39, 0, 2, false⟩, ⟨Zo 41 (.call (.f 48) [(.t 40)]), 2, 3, false⟩, ⟨Zb 42 .add (.t 38) (.t 41), 3, 3, false⟩, ⟨Zm 5 42, 3, 3, false⟩]) (.seq (.region [Zb 44 .eql (.t 24) (.c (.int .u8 2)), Zm 43 44]) (.cond (.t 43) (.region [Zm 45 5, Zb 46 .add (.t 45) (.c (.str [32, 115, 112, 101, 108, 108, 32])), Zf 47 3 1, Zl 48 47, Zo 49 (.call (.f 48) [(.t 48)]), Zb 50 .add (.t 46) (.t 49), Zm 5 50]) (.seq (.region [Zb 52 .eql (.t 24) (.c (.int .u8 3)), Zm 51 52]) (.cond (.t 51) (.region [Zm 53 5, Zb 54 .add (.t 53) (.c (.str [32, 114, 101, 108, 105, 99, 32])), Zf 55 3 1, Zl 56 55, Zo 57 (.call (.f 48) [(.t 56)]), Zb 58 .add (.t 54) (.t 57), Zm 5 58]) .skip)))))))) (.seq (.seq (.region [Zf 59 7 1, Zl 60 59]) (.cond (.t 60) (.region [Zm 61 5, Zb 62 .add (.t 61) (.c (.str [32, 116, 111, 107, 101, 110])), Zm 5 62]) .skip)) (.seq (.region [Zf 63 6 1, Zl 64 63, Zo 65 (.call (.f 49) [(.t 64)]), Zm 6 65]) (.seq (.seq (.region [Zo 7 (.mv (.c (.int .i64 0)))]) (.block 1 (.loop (.seq (.seq (.region [Zm 66 7, Zm 67 6, Zo 68 (.lenV (.t 67)), Zb 69 .lss (.t 66) (.t 68)]) (.cond (.t 69) .skip (.exit 1))) (.seq (.block 2 (.region [Zm 72 5, Zb 73 .add (.t 72) (.c (.str [32, 43])), Zm 74 6, Zm 75 7, Zo 76 (.iaddrS 1 (.t 74) (.t 75)), Zl 77 76, Zo 78 (.call (.f 50) [(.t 77)]), Zb 79 .add (.t 73) (.t 78), Zm 5 79])) (.region [Zm 70 7, Zb 71 .add (.t 70) (.c (.int .i64 1)), Zm 7 71])))))) (.seq (.seq (.region [Zo 8 (.mv (.c (.int .i64 0)))]) (.block 3 (.loop (.seq (.seq (.region [Zm 80 8, Zf 81 8 1, Zl 82 81, Zo 83 (.lenV (.t 82)), Zb 84 .lss (.t 80) (.t 83)]) (.cond (.t 84) .skip (.exit 3))) (.seq (.block 4 (.seq (.region [Zf 88 8 1, Zl 89 88, Zm 90 8, Zo 91 (.iaddrS 8 (.t 89) (.t 90)), Zo 92 (.load (some 8) (.t 91)), Zo 93 (.call (.f 51) [(.t 92)]), Zm 87 93, Ze 94 0 87, Ze 95 1 87, Zm 9 94, Zm 10 95]) (.region [Zm 96 5, Zb 97 .add (.t 96) (.c (.str [32, 124, 32])), Zm 98 9, Zb 99 .add (.t 97) (.t 98), Zm 5 99]))) (.region [Zm 85 8, Zb 86 .add (.t 85) (.c (.int .i64 1)), Zm 8 86])))))) (.seq (.region [Zm 100 5, Zm 2 100, Zo 3 (.mv (.c (.int .i64 0)))]) .ret))))))))))⟩
theorem tbl12 : tbl Tryz.prog 12 = some cf12 := by kernel_rfl
theorem add_ok {a b : List UInt8} (h : a.length + b.length ≤ 1000000) : astr .add a b = some (.str (a ++ b)) := by
 unfold astr
 simp only
 rw [if_pos (by omega)]
def Digs (orc : Orc) (h0 : AH) : Prop := ∀ (n : Int) (hh : AH), Grown h0 hh → 0 ≤ n → n ≤ 99 → acall orc T 48 [.int .i64 n] hh = some (.str (Ef.dig n), hh)
structure SpI (B : AH) (N : Nat) (S : List UInt8) (tm : List AV) (H : AH) : Prop where
 len : tm.length = 101
 t1 : tm.getD 1 AV.undef = .ptr (some (N, 0))
 t5 : tm.getD 5 AV.undef = .str S
 hp : H = B
structure RtI (c : Crd) (v : AV) (h0 hh : AH) (W : List (List UInt8)) (Ls : List Int) (al : Option (Nat × Nat)) (cl : Cap) (n : Nat) (tm : List AV) (H : AH) : Prop where
 len : tm.length = 101
 t1 : tm.getD 1 AV.undef = .ptr (some (hh.n, 0))
 t6 : tm.getD 6 AV.undef = .slice al Ls.length cl
 st : ∃ i : Nat, n = Ls.length - i ∧ i ≤ Ls.length ∧ tm.getD 7 AV.undef = .int .i64 (i : Int) ∧ tm.getD 5 AV.undef = .str (Lib.join (W ++ wTr (Ls.take i)) [32]) ∧
  ∀ (j : Nat) t, Ls[j]? = some t → ∃ b, al = some (b, 0) ∧ H.get b = some (.cells (ints Ls) false) ∧ b < H.n
 box : H.get hh.n = some (.cells (c.cells v) false)
 old : ∀ b, b < hh.n → H.get b = hh.get b
 gr : Grown h0 H
 low : hh.n ≤ H.low
 n : hh.n < H.n
structure RpI (c : Crd) (v : AV) (h0 hh : AH) (W : List (List UInt8)) (ps : List Prt) (n : Nat) (tm : List AV) (H : AH) : Prop where
 len : tm.length = 101
 t1 : tm.getD 1 AV.undef = .ptr (some (hh.n, 0))
 st : ∃ i : Nat, n = ps.length - i ∧ i ≤ ps.length ∧ tm.getD 8 AV.undef = .int .i64 (i : Int) ∧ tm.getD 5 AV.undef = .str (Lib.join (W ++ wPs (ps.take i)) [32])
 box : H.get hh.n = some (.cells (c.cells v) false)
 old : ∀ b, b < hh.n → H.get b = hh.get b
 gr : Grown h0 H
 low : hh.n ≤ H.low
 n : hh.n < H.n
theorem join_head (c : Crd) : Lib.join (wHead c) [32] = (((c.name ++ [32]) ++ snm c.suit) ++ (32 :: wrd c.kind ++ [32])) ++ Ef.dig c.cost := by
 unfold wHead
 rw [Plain.join_two, Plain.join_two, Plain.join_two, Lib.join_one]
 simp
theorem join_unit (c : Crd) : Lib.join (wHead c ++ [Ef.dig c.power ++ [47] ++ Ef.dig c.health]) [32] = (((((((c.name ++ [32]) ++ snm c.suit) ++ (32 :: wrd c.kind ++ [32])) ++ Ef.dig c.cost) ++ [32]) ++ Ef.dig c.power) ++ [47]) ++ Ef.dig c.health := by
 rw [Ef.join_snoc _ _ (by simp [wHead]), join_head]
 simp
theorem join_part {W : List (List UInt8)} (h : W ≠ []) (x : List UInt8) : Lib.join (W ++ [[124], x]) [32] = (Lib.join W [32] ++ [32, 124, 32]) ++ x := by
 rw [join_app h (by simp), Plain.join_two, Lib.join_one]
 simp
theorem rcprint_spec (ho : ∀ f, f ∈ [12, 49, 104, 139, 51, 106, 107, 108, 13, 52, 53, 54, 55, 109, 141, 111, 112, 113, 114, 115, 116] → orc f = none) {h0 : AH} (hT : Ef.Told orc h0) (hD : Digs orc h0)
    (c : Crd) (v : AV) (ps : List Prt) (hcr : c.rng) (hpr : ∀ p ∈ ps, p.rng) {h : AH} (hp : Parts h v ps) (hg : Grown h0 h) :
    acall orc T 12 [.agg (c.cells v)] h = some (.tuple [.str (txtC c ps), .int .i64 (chkC c ps)], h) := by
 have sub : ∀ l : List Nat, (∀ f ∈ l, f ∈ [12, 49, 104, 139, 51, 106, 107, 108, 13, 52, 53, 54, 55, 109, 141, 111, 112, 113, 114, 115, 116]) → ∀ f, f ∈ l → orc f = none := fun l hl f hf => ho f (hl f hf)
 have hp0 := hp
 obtain ⟨a, cap, rfl, hbig, _⟩ := hp
 have bx : ∀ (hh : AH), boxV (.agg (c.cells (.slice a ps.length cap))) hh = some (.ptr (some (hh.n, 0)), hh.push (.cells (c.cells (.slice a ps.length cap)) false)) := fun hh => boxV_agg _ rfl
 obtain ⟨x0, x1, x2, x3, x4, x5, x6, x7, x8⟩ := cells_all c (.slice a ps.length cap)
 obtain ⟨_, _, xl, xt⟩ := cells_at c (.slice a ps.length cap)
 have hpN : Parts ((h.withLow h.n).push (.cells (c.cells (.slice a ps.length cap)) false)) (.slice a ps.length cap) ps := hp0.mono (by simp) fun b hb => by rw [Hp.get_push_ne _ _ _ (by simp; omega)]; rfl
 have cC := rchk_spec (orc := orc) (sub _ (by decide)) c (.slice a ps.length cap) ps hcr hpr _ hpN
 refine acall_sym (ho _ (by simp)) tbl12 ?_
 refine GD ?_
 by_cases hC : chkC c ps = 0
 case neg =>
  have e1 : (chkC c ps != 0) = true := by simpa using hC
  have e2 : txtC c ps = [] := by unfold txtC; rw [if_neg hC]
  rw [e2]
  (have fct := Fj @cC (Fj @bx (Fj @xl (Fj @xt @e1))); refine GO ?_; clear fct)
  (have fct := trivial; refine A_end ?_; clear fct; try exact trivial)
 case pos =>
 have hfz : faceE c ps.length = 0 := by
  unfold chkC at hC
  split at hC
  · assumption
  · exact hC
 obtain ⟨fz1, fz2, fz3, fz4, fz5, fz6, fz7, fz8⟩ := face_zero hfz
 have e1 : ((0 : Int) != 0) = false := rfl
 have e2 : txtC c ps = Lib.join (wordsC c ps) [32] := by unfold txtC; rw [if_pos hC]
 rw [e2, hC]
 rw [hC] at cC
 have hword : ∀ x ∈ wordsC c ps, x.length ≤ 80 := words_len fz1 ps
 have bd : ∀ W : List (List UInt8), (∀ x ∈ W, x ∈ wordsC c ps) → W.length ≤ 22 → (Lib.join W [32]).length ≤ 1782 := fun W h1 h2 => by
  have := join_len W fun x hx => hword x (h1 x hx)
  have : W.length * 81 ≤ 22 * 81 := Nat.mul_le_mul_right _ h2
  omega
 have hs16 : 1 ≤ c.suit ∧ c.suit ≤ 6 := by
  unfold snm at fz2
  split at fz2
  · assumption
  · exact absurd rfl fz2
 have hsn : snm c.suit = Ef.sN c.suit := by unfold snm; rw [if_pos hs16]
 have cS := fun (hh : AH) (g : Grown h0 hh) => hT.rsuit c.suit hh g hs16.1 hs16.2
 rw [← hsn] at cS
 have iC := fun (hh : AH) (g : Grown h0 hh) => hD c.cost hh g (by omega) (by omega)
 have iP := fun (hh : AH) (g : Grown h0 hh) => hD c.power hh g (by omega) (by omega)
 have iH := fun (hh : AH) (g : Grown h0 hh) => hD c.health hh g (by omega) (by omega)
 have n1 : c.name.length ≤ 80 := hword _ (by simp [wordsC, wHead])
 have n2 : (snm c.suit).length ≤ 80 := hword _ (by simp [wordsC, wHead])
 have n4 : (Ef.dig c.cost).length ≤ 3 := Ef.dig_len _
 have n5 : (Ef.dig c.power).length ≤ 3 := Ef.dig_len _
 have n6 : (Ef.dig c.health).length ≤ 3 := Ef.dig_len _
 have s1 : astr .add c.name [32] = some (.str (c.name ++ [32])) := add_ok (by simp; omega)
 have s2 : astr .add (c.name ++ [32]) (snm c.suit) = some (.str ((c.name ++ [32]) ++ snm c.suit)) := add_ok (by simp; omega)
 have gB : Grown h0 ((h.withLow h.n).push (.cells (c.cells (.slice a ps.length cap)) false)) := (hg.low _).push _
 (have fct := Fj @cC (Fj @bx (Fj @xl (Fj @xt (Fj @e1 (Fj @x0 (Fj @x1 (Fj @x2 (Fj @cS (Fj @gB (Fj @s1 @s2)))))))))); refine GOD ?_; clear fct)
 refine Ef.CondK_mid (SpI ((h.withLow h.n).push (.cells (c.cells (.slice a ps.length cap)) false)) h.n (Lib.join (wHead c ++ wUnit c) [32])) (fun hb => ?_) (fun hb => ?_) (fun tm1 H1 I1 => ?_)
 · have hk : c.kind = 1 := by simpa using hb
   have ew : 32 :: wrd c.kind ++ [32] = [32, 117, 110, 105, 116, 32] := by rw [hk]; rfl
   have eU : wUnit c = [Ef.dig c.power ++ [47] ++ Ef.dig c.health] := by unfold wUnit Ef.optL; rw [hb]; rfl
   rw [eU, join_unit, ew]
   have nS : ((c.name ++ [32]) ++ snm c.suit).length ≤ 161 := by simp; omega
   generalize (c.name ++ [32]) ++ snm c.suit = S at *
   have s3 : astr .add S [32, 117, 110, 105, 116, 32] = some (.str (S ++ [32, 117, 110, 105, 116, 32])) := add_ok (by simp; omega)
   have s4 : astr .add (S ++ [32, 117, 110, 105, 116, 32]) (Ef.dig c.cost) = some (.str ((S ++ [32, 117, 110, 105, 116, 32]) ++ Ef.dig c.cost)) := add_ok (by simp; omega)
   have s5 : astr .add ((S ++ [32, 117, 110, 105, 116, 32]) ++ Ef.dig c.cost) [32] = some (.str (((S ++ [32, 117, 110, 105, 116, 32]) ++ Ef.dig c.cost) ++ [32])) := add_ok (by simp; omega)
   have s6 : astr .add (((S ++ [32, 117, 110, 105, 116, 32]) ++ Ef.dig c.cost) ++ [32]) (Ef.dig c.power) = some (.str ((((S ++ [32, 117, 110, 105, 116, 32]) ++ Ef.dig c.cost) ++ [32]) ++ Ef.dig c.power)) := add_ok (by simp; omega)
   have s7 : astr .add ((((S ++ [32, 117, 110, 105, 116, 32]) ++ Ef.dig c.cost) ++ [32]) ++ Ef.dig c.power) [47] = some (.str (((((S ++ [32, 117, 110, 105, 116, 32]) ++ Ef.dig c.cost) ++ [32]) ++ Ef.dig c.power) ++ [47])) := add_ok (by simp; omega)
   have s8 : astr .add (((((S ++ [32, 117, 110, 105, 116, 32]) ++ Ef.dig c.cost) ++ [32]) ++ Ef.dig c.power) ++ [47]) (Ef.dig c.health) = some (.str ((((((S ++ [32, 117, 110, 105, 116, 32]) ++ Ef.dig c.cost) ++ [32]) ++ Ef.dig c.power) ++ [47]) ++ Ef.dig c.health)) := add_ok (by simp; omega)
   (have fct := Fj @xl (Fj @xt (Fj @x3 (Fj @x4 (Fj @x5 (Fj @iC (Fj @iP (Fj @iH (Fj @gB (Fj @s3 (Fj @s4 (Fj @s5 (Fj @s6 (Fj @s7 @s8))))))))))))); refine GOD ?_; clear fct)
   exact ⟨rfl, rfl, rfl, rfl⟩
 · have eU : wUnit c = [] := by unfold wUnit Ef.optL; rw [hb]; rfl
   rw [eU, List.append_nil, join_head]
   have nS : ((c.name ++ [32]) ++ snm c.suit).length ≤ 161 := by simp; omega
   generalize (c.name ++ [32]) ++ snm c.suit = S at *
   cases k2 : (c.kind == 2)
   case true =>
    have hk : c.kind = 2 := by simpa using k2
    have ew : 32 :: wrd c.kind ++ [32] = [32, 115, 112, 101, 108, 108, 32] := by rw [hk]; rfl
    rw [ew]
    have s3 : astr .add S [32, 115, 112, 101, 108, 108, 32] = some (.str (S ++ [32, 115, 112, 101, 108, 108, 32])) := add_ok (by simp; omega)
    have s4 : astr .add (S ++ [32, 115, 112, 101, 108, 108, 32]) (Ef.dig c.cost) = some (.str ((S ++ [32, 115, 112, 101, 108, 108, 32]) ++ Ef.dig c.cost)) := add_ok (by simp; omega)
    (have fct := Fj @xl (Fj @xt (Fj @x3 (Fj @iC (Fj @gB (Fj @s3 (Fj @s4 @k2)))))); refine GOD ?_; clear fct)
    exact ⟨rfl, rfl, rfl, rfl⟩
   case false =>
    have hk : c.kind = 3 := by
     unfold wrd at fz3
     have h1 : c.kind ≠ 1 := by simpa using hb
     have h2 : c.kind ≠ 2 := by simpa using k2
     rw [if_neg h1, if_neg h2] at fz3
     split at fz3
     · assumption
     · exact absurd rfl fz3
    have k3 : (c.kind == 3) = true := by simpa using hk
    have ew : 32 :: wrd c.kind ++ [32] = [32, 114, 101, 108, 105, 99, 32] := by rw [hk]; rfl
    rw [ew]
    have s3 : astr .add S [32, 114, 101, 108, 105, 99, 32] = some (.str (S ++ [32, 114, 101, 108, 105, 99, 32])) := add_ok (by simp; omega)
    have s4 : astr .add (S ++ [32, 114, 101, 108, 105, 99, 32]) (Ef.dig c.cost) = some (.str ((S ++ [32, 114, 101, 108, 105, 99, 32]) ++ Ef.dig c.cost)) := add_ok (by simp; omega)
    (have fct := Fj @xl (Fj @xt (Fj @x3 (Fj @iC (Fj @gB (Fj @s3 (Fj @s4 (Fj @k2 @k3))))))); refine GOD ?_; clear fct)
    exact ⟨rfl, rfl, rfl, rfl⟩
 clear iP iH iC cC cS s1 s2
 have el := I1.len
 have et := I1.t1
 have e5 := I1.t5
 obtain rfl := I1.hp
 (have fct := Fj @el (Fj @et (Fj @e5 (Fj @xl (Fj @xt @x7)))); refine GO ?_; clear fct)
 refine Ef.CondK_mid (SpI ((h.withLow h.n).push (.cells (c.cells (.slice a ps.length cap)) false)) h.n (Lib.join ((wHead c ++ wUnit c) ++ wTok c) [32])) (fun hb => ?_) (fun hb => ?_) (fun tm2 H2 I2 => ?_)
 · have eT : wTok c = [tokenT] := by unfold wTok Ef.optL; rw [hb]; rfl
   have nS := bd (wHead c ++ wUnit c) (fun x hx => by simp only [wordsC, List.mem_append] at hx ⊢; exact .inl (.inl (.inl hx))) (by simp [wHead, wUnit, Ef.optL]; split <;> simp)
   have s3 : astr .add (Lib.join (wHead c ++ wUnit c) [32]) [32, 116, 111, 107, 101, 110] = some (.str (Lib.join (wHead c ++ wUnit c) [32] ++ [32, 116, 111, 107, 101, 110])) := add_ok (by simp; omega)
   (have fct := Fj @el (Fj @et (Fj @e5 @s3)); refine GO ?_; clear fct)
   exact ⟨by simp only [List.length_set, el], by simp only [fsTm, Nat.reduceBEq, Nat.reduceLT, el, et], by rw [eT, Ef.join_snoc _ _ (by simp [wHead])]; simp only [fsTm, Nat.reduceBEq, Nat.reduceLT, el]; rfl, rfl⟩
 · have eT : wTok c = [] := by unfold wTok Ef.optL; rw [hb]; rfl
   (have fct := Fj @el (Fj @et @e5); refine GO ?_; clear fct)
   exact ⟨by simp only [List.length_set, el], by simp only [fsTm, Nat.reduceBEq, Nat.reduceLT, el, et], by rw [eT, List.append_nil]; simp only [fsTm, Nat.reduceBEq, Nat.reduceLT, el, e5], rfl⟩
 clear el et e5 I1
 have el := I2.len
 have et := I2.t1
 have e5 := I2.t5
 obtain rfl := I2.hp
 clear I2
 (have fct := Fj @el (Fj @et (Fj @e5 (Fj @xl (Fj @xt @x6)))); refine GO ?_; clear fct)
 refine R_ex (by simp (maxDischargeDepth := 12) only [opsB, Nat.reduceEqDiff, Nat.reduceBEq, Nat.reduceBNe, Int.reduceBEq, Int.reduceBNe, Int.reduceLT, Int.reduceLE, Int.reduceEq, AV.one, AV.cells, CA.ev, abin, aint, aun, isShift, readVar, readCell, readCells, writeCells, fillA, reduceIte, Nat.reduceAdd, Nat.reduceSub, Nat.reduceLT, Nat.reduceLeDiff, resAll, resOne, AV.under, AV.unders, cut, el, et, e5, fsTm, Nat.reduceBEq, Nat.reduceLT]; (first | done | with_reducible rfl)) (rtlist_spec h.n (sub _ (by decide)) c.traits (h := (h.withLow h.n).push (.cells (c.cells (.slice a ps.length cap)) false)) (by simp)) fun v7 H3 hh => ?_
 obtain ⟨hv7, kp⟩ := hh
 refine A_tm ?_
 have box3 : H3.get h.n = some (.cells (c.cells (.slice a ps.length cap)) false) := by rw [kp.get h.n (by simp)]; exact Hp.get_push_self _ _
 have old3 : ∀ b, b < h.n → H3.get b = h.get b := fun b hb => by rw [kp.get b (by simp; omega), Hp.get_push_ne _ _ _ (by simp; omega)]; rfl
 have g3 : Grown h0 H3 := Ef.Grown.kp gB kp
 have lo3 : h.n ≤ H3.low := kp.low (by simp) (by simp)
 have hn3 : h.n < H3.n := by have := kp.n; simp at this; omega
 obtain ⟨al, cl, rfl, hal⟩ : ∃ al cl, v7 = .slice al (lst c.traits 8).length cl ∧ ∀ (j : Nat) t, (lst c.traits 8)[j]? = some t → ∃ b, al = some (b, 0) ∧ H3.get b = some (.cells (ints (lst c.traits 8)) false) ∧ b < H3.n := by
  rcases hv7 with ⟨rfl, hz⟩ | ⟨b, cap', rfl, k2, k3, k4⟩
  · exact ⟨none, .exact 0, by rw [hz]; rfl, fun i t hi => by rw [hz] at hi; simp at hi⟩
  · exact ⟨_, _, rfl, fun i t hi => ⟨b, rfl, k2, k4⟩⟩
 clear hv7 kp
 have hWm : ∀ i, ∀ x ∈ ((wHead c ++ wUnit c) ++ wTok c) ++ wTr ((lst c.traits 8).take i), x ∈ wordsC c ps := fun i x hx => by
  simp only [wordsC, List.mem_append] at hx ⊢
  rcases hx with ((hx | hx) | hx) | hx
  · exact .inl (.inl (.inl (.inl hx)))
  · exact .inl (.inl (.inl (.inr hx)))
  · exact .inl (.inl (.inr hx))
  · rw [wTr, List.map_take] at hx
    exact .inl (.inr (List.mem_of_mem_take hx))
 have hWp : ∀ i, ∀ x ∈ (((wHead c ++ wUnit c) ++ wTok c) ++ wTr (lst c.traits 8)) ++ wPs (ps.take i), x ∈ wordsC c ps := fun i x hx => by
  simp only [wordsC, List.mem_append] at hx ⊢
  rcases hx with hx | hx
  · exact .inl hx
  · refine .inr ?_
    simp only [wPs, List.mem_flatMap] at hx ⊢
    obtain ⟨p, h1, h2⟩ := hx
    exact ⟨p, List.mem_of_mem_take h1, h2⟩
 have hLr : ∀ t ∈ lst c.traits 8, 1 ≤ t ∧ t ≤ 8 := fun t ht => by have := lst_range ht; omega
 have hLl : (lst c.traits 8).length ≤ 8 := lst_len _ _
 have hWl : ((wHead c ++ wUnit c) ++ wTok c).length ≤ 6 := by simp [wHead, wUnit, wTok, Ef.optL]; split <;> split <;> simp
 have hWne : (wHead c ++ wUnit c) ++ wTok c ≠ [] := by simp [wHead]
 have eW : ((((wHead c ++ wUnit c) ++ wTok c) ++ wTr (lst c.traits 8)) ++ wPs ps) = wordsC c ps := rfl
 generalize hLs : lst c.traits 8 = Ls at *
 generalize hW2 : (wHead c ++ wUnit c) ++ wTok c = W2 at *
 (have fct := Fj @el (Fj @et @e5); refine GO ?_; clear fct)
 refine CodeK_loop (RtI c (.slice a ps.length cap) h0 h W2 Ls al cl) Ls.length ?_ ?_
 · exact ⟨by simp only [List.length_set, el], by simp only [fsTm, Nat.reduceBEq, Nat.reduceLT, el, et], by simp only [fsTm, Nat.reduceBEq, Nat.reduceLT, el], ⟨0, rfl, by omega, by simp only [fsTm, Nat.reduceBEq, Nat.reduceLT, el]; rfl, by simp only [fsTm, Nat.reduceBEq, Nat.reduceLT, el, e5]; simp [wTr], hal⟩, box3, old3, g3, lo3, hn3⟩
 clear hal g3 lo3 box3 old3 e5 et el hn3 hLs hW2 gB hpN
 intro n tm3 H I
 obtain ⟨i, hn, hi, e7, e5, hL⟩ := I.st
 have el := I.len
 have et := I.t1
 have e6 := I.t6
 have box := I.box
 have hN := I.n
 by_cases hlt : i < Ls.length
 case pos =>
  have l1 : decide ((i : Int) < (Ls.length : Int)) = true := by rw [decide_eq_true_eq]; omega
  obtain ⟨t, hti⟩ : ∃ t, Ls[i]? = some t := ⟨_, List.getElem?_eq_getElem hlt⟩
  obtain ⟨b, rfl, k2, k3⟩ := hL i t hti
  have ⟨t1', t8'⟩ := hLr t (List.mem_of_getElem? hti)
  have a1 := fun (hh : AH) => iaddrV_nat (h := hh) (esz := 1) (b := b) (o := 0) (c := cl) (k := .i64) hlt
  have hm : (ints Ls)[i]? = some (.int .u8 t) := by unfold ints; rw [List.getElem?_map, hti]; rfl
  have w1 : IntKind.wrap .i64 ((i : Int) + 1) = ((i + 1 : Nat) : Int) := by rw [wrap_i64 (by omega) (by omega)]; omega
  have cN := hT.rtrait t H I.gr t1' t8'
  have ln := Ef.tN_len5 t
  have nS := bd _ (hWm i) (by have : (wTr (Ls.take i)).length ≤ 8 := by simp [wTr]; omega
                              rw [List.length_append]; omega)
  have eN : Lib.join (W2 ++ wTr (Ls.take (i + 1))) [32] = (Lib.join (W2 ++ wTr (Ls.take i)) [32] ++ [32, 43]) ++ Ef.tN t := by
   rw [List.take_add_one, hti, show W2 ++ wTr (Ls.take i ++ (some t).toList) = (W2 ++ wTr (Ls.take i)) ++ [43 :: Ef.tN t] by simp [wTr], Ef.join_snoc _ _ (by simp [hWne])]
   simp
  generalize Lib.join (W2 ++ wTr (Ls.take i)) [32] = S at *
  have s1 : astr .add S [32, 43] = some (.str (S ++ [32, 43])) := add_ok (by simp; omega)
  have s2 : astr .add (S ++ [32, 43]) (Ef.tN t) = some (.str ((S ++ [32, 43]) ++ Ef.tN t)) := add_ok (by simp; omega)
  (have fct := Fj @el (Fj @et (Fj @e6 (Fj @e7 (Fj @e5 (Fj @l1 (Fj @a1 (Fj @k2 (Fj @hm (Fj @cN (Fj @s1 (Fj @s2 (Fj @w1 @Nat.mul_one)))))))))))); refine GO ?_; clear fct)
  refine ⟨Ls.length - (i + 1), by omega, by simp only [List.length_set, el], by simp only [fsTm, Nat.reduceBEq, Nat.reduceLT, el, et], by simp only [fsTm, Nat.reduceBEq, Nat.reduceLT, el, e6], ⟨i + 1, rfl, by omega, by simp only [fsTm, Nat.reduceBEq, Nat.reduceLT, el], by simp only [fsTm, Nat.reduceBEq, Nat.reduceLT, el, eN], hL⟩, box, I.old, I.gr, I.low, hN⟩
 case neg =>
 obtain rfl : i = Ls.length := by omega
 have l1 : decide ((Ls.length : Int) < (Ls.length : Int)) = false := by rw [decide_eq_false_iff_not]; omega
 rw [List.take_length] at e5
 have old := I.old
 have gr := I.gr
 have low := I.low
 clear I hL hWm
 have hW3l : (W2 ++ wTr Ls).length ≤ 14 := by simp [wTr]; omega
 have hW3n : W2 ++ wTr Ls ≠ [] := by simp [hWne]
 generalize hW3 : W2 ++ wTr Ls = W3 at *
 (have fct := Fj @el (Fj @et (Fj @e6 (Fj @e7 (Fj @e5 (Fj @l1 (Fj @box (Fj @xl (Fj @xt @x8)))))))); refine GO ?_; clear fct)
 refine CodeK_loop (RpI c (.slice a ps.length cap) h0 h W3 ps) ps.length ?_ ?_
 · exact ⟨by simp only [List.length_set, el], by simp only [fsTm, Nat.reduceBEq, Nat.reduceLT, el, et], ⟨0, rfl, by omega, by simp only [fsTm, Nat.reduceBEq, Nat.reduceLT, el]; rfl, by simp only [fsTm, Nat.reduceBEq, Nat.reduceLT, el, e5]; simp [wPs]⟩, box, old, gr, low, hN⟩
 clear old gr low hN box e5 e6 e7 et el l1
 intro n tm4 H I
 obtain ⟨i, hn, hi, e8, e5⟩ := I.st
 have el := I.len
 have et := I.t1
 have box := I.box
 have hN := I.n
 by_cases hlt : i < ps.length
 case pos =>
  have l1 : decide ((i : Int) < (ps.length : Int)) = true := by rw [decide_eq_true_eq]; omega
  obtain ⟨p, hpi⟩ : ∃ p, ps[i]? = some p := ⟨_, List.getElem?_eq_getElem hlt⟩
  obtain ⟨b, o, cells, ro, c', ev, hb, hgb, hc⟩ := parts_get hp0 hpi
  cases ev
  have hg' : H.get b = some (.cells cells ro) := by rw [I.old b hb]; exact hgb
  have a1 := fun (hh : AH) => iaddrV_nat (h := hh) (esz := 8) (b := b) (o := o) (c := cap) (k := .i64) hlt
  have w1 : IntKind.wrap .i64 ((i : Int) + 1) = ((i + 1 : Nat) : Int) := by rw [wrap_i64 (by omega) (by omega)]; omega
  have hc1 : (o + (i * 8 + 8) ≤ cells.length) = True := by have := (cut_parts hc).1; simp; omega
  have hc2 := (cut_parts hc).2
  have q := hpr p (List.mem_of_getElem? hpi)
  have cE : acall orc T 51 [.agg p.cells] H = some (.tuple [.str p.txt, .int .i64 p.chk], H) := Ef.rprint_spec (orc := orc) (sub _ (by decide)) hT p.a p.b p.c p.d p.e p.f p.g p.s q.1 q.2.1 q.2.2 I.gr
  have ln : p.txt.length ≤ 80 := Ef.txtP_len80 _ _ _ _ _ _ _ _
  have nS := bd _ (hWp i) (by have := wPs_len (ps.take i)
                              rw [List.length_take] at this
                              rw [List.length_append]; omega)
  have eN : Lib.join (W3 ++ wPs (ps.take (i + 1))) [32] = (Lib.join (W3 ++ wPs (ps.take i)) [32] ++ [32, 124, 32]) ++ p.txt := by
   rw [List.take_add_one, hpi, show W3 ++ wPs (ps.take i ++ (some p).toList) = (W3 ++ wPs (ps.take i)) ++ [[124], p.txt] by simp [wPs], join_part (by simp [hW3n])]
  generalize Lib.join (W3 ++ wPs (ps.take i)) [32] = S at *
  have s1 : astr .add S [32, 124, 32] = some (.str (S ++ [32, 124, 32])) := add_ok (by simp; omega)
  have s2 : astr .add (S ++ [32, 124, 32]) p.txt = some (.str ((S ++ [32, 124, 32]) ++ p.txt)) := add_ok (by simp; omega)
  (have fct := Fj @el (Fj @et (Fj @e8 (Fj @e5 (Fj @l1 (Fj @box (Fj @xl (Fj @xt (Fj @x8 (Fj @a1 (Fj @hg' (Fj @hc1 (Fj @hc2 (Fj @cE (Fj @s1 (Fj @s2 @w1))))))))))))))); refine GO ?_; clear fct)
  refine ⟨ps.length - (i + 1), by omega, by simp only [List.length_set, el], by simp only [fsTm, Nat.reduceBEq, Nat.reduceLT, el, et], ⟨i + 1, rfl, by omega, by simp only [fsTm, Nat.reduceBEq, Nat.reduceLT, el], by simp only [fsTm, Nat.reduceBEq, Nat.reduceLT, el, eN]⟩, box, I.old, I.gr, I.low, hN⟩
 case neg =>
 obtain rfl : i = ps.length := by omega
 have l1 : decide ((ps.length : Int) < (ps.length : Int)) = false := by rw [decide_eq_false_iff_not]; omega
 rw [List.take_length, eW] at e5
 have hlow := I.low
 (have fct := Fj @el (Fj @et (Fj @e8 (Fj @e5 (Fj @l1 (Fj @box (Fj @xl (Fj @xt @x8))))))); refine GO ?_; clear fct)
 (have fct := @el; refine A_end ?_; clear fct; try exact trivial)
 omega
end Go.Proofs.Cards
