/- Both prints of a part give one text. -/
import Derived.Test.YtlppecefalblmaaGreatDoorFz05
import Derived.Test.YtlppecefalblmaaGreatDoorZtEfBase
import Derived.Test.YtlppecefalblmaaGreatDoorFz05
import Derived.Lib.Join
import Derived.Lib.Fields
namespace Go.Proofs.Ef
open Go Go.Fs
set_option linter.unusedSimpArgs false
set_option linter.unusedVariables false
variable {orc : Orc}
structure Kp (N : Nat) (h h1 : AH) : Prop where
 n : h.n ≤ h1.n
 get : ∀ b, b < h.n → h1.get b = h.get b
 low : N ≤ h.n → N ≤ h.low → N ≤ h1.low
theorem kp_settle {N : Nat} {h h' : AH} {v : AV} (g1 : h.n ≤ h'.n) (g2 : ∀ b, b < h.n → h'.get b = h.get b) (g3 : h.n ≤ h'.low) : Kp N h (Fs.settle h h' v).2 := by
 unfold Fs.settle
 split
 · exact ⟨Nat.le_refl _, fun _ _ => rfl, fun _ h => h⟩
 · exact ⟨by simpa using g1, fun b hb => by simpa using g2 b hb, fun h1 h2 => by simp; omega⟩
theorem settle_fst1 (h h' : AH) (v : AV) : (Fs.settle h h' v).1 = v := by unfold Fs.settle; split <;> rfl
def natD (n : Nat) : List UInt8 := if n < 10 then [UInt8.ofNat (48 + n)] else [UInt8.ofNat (48 + n / 10), UInt8.ofNat (48 + n % 10)]
def dig (c : Int) : List UInt8 := if c < 0 then 45 :: natD (-c).toNat else natD c.toNat
def sN (s : Int) : List UInt8 := ([[97, 105, 114], [101, 97, 114, 116, 104], [102, 105, 114, 101], [119, 97, 116, 101, 114], [118, 111, 105, 100], [103, 111, 108, 100]] : List (List UInt8)).getD (s - 1).toNat []
def tN (t : Int) : List UInt8 := ([[102, 97, 115, 116], [103, 117, 97, 114, 100], [118, 101, 110, 111, 109], [108, 111, 110, 101], [100, 114, 97, 105, 110], [109, 117, 116, 101], [102, 105, 120, 101, 100], [115, 119, 105, 102, 116]] : List (List UInt8)).getD (t - 1).toNat []
structure Told (orc : Orc) (h0 : AH) : Prop where
 itoa : ∀ (c : Int) (h : AH), Grown h0 h → -99 ≤ c → c ≤ 99 → acall orc T 40 [.int .i64 c] h = some (.str (dig c), h)
 digits : ∀ (c : Int) (h : AH), Grown h0 h → -99 ≤ c → c ≤ 99 → acall orc T 110 [.int .i64 c] h = some (.str (dig c), h)
 suit : ∀ (s : Int) (h : AH), Grown h0 h → 1 ≤ s → s ≤ 6 → acall orc T 38 [.int .u8 s] h = some (.str (sN s), h)
 rsuit : ∀ (s : Int) (h : AH), Grown h0 h → 1 ≤ s → s ≤ 6 → acall orc T 47 [.int .u8 s] h = some (.str (sN s), h)
 trait : ∀ (t : Int) (h : AH), Grown h0 h → 1 ≤ t → t ≤ 8 → acall orc T 42 [.int .u8 t] h = some (.str (tN t), h)
 rtrait : ∀ (t : Int) (h : AH), Grown h0 h → 1 ≤ t → t ≤ 8 → acall orc T 50 [.int .u8 t] h = some (.str (tN t), h)
theorem Grown.kp {N : Nat} {h0 h h1 : AH} (g : Grown h0 h) (k : Kp N h h1) : Grown h0 h1 := ⟨Nat.le_trans g.1 k.n, fun b hb => by rw [k.get b (Nat.lt_of_lt_of_le hb g.1), g.2 b hb]⟩
structure Hidden (p : Prop) : Prop where
 out : p
def RowL (N : Nat) (h : AH) (v : AV) (L : List (List UInt8)) : Prop :=
 ∃ b cap, N < b ∧ b < h.n ∧ (cap = .opn 1 ∨ cap = .exact L.length) ∧ v = .slice (some (b, 0)) L.length cap ∧ h.get b = some (.cells (L.map AV.str) false) ∧ L ≠ []
theorem cut_iff {c : List AV} {o n : Nat} {xs : List AV} : Fs.cut c o n = some xs ↔ o + n ≤ c.length ∧ (c.drop o).take n = xs := by
 unfold Fs.cut
 by_cases hc : o + n ≤ c.length
 · simp [hc]
 · simp [hc]
def iaddrAV (n esz : Nat) (v i : AV) (h : AH) : Option (AV × AH) :=
 match v, i with
 | .ptr (some (b, o)), .int _ j => if 0 ≤ j ∧ j < n then some (.ptr (some (b, o + j.toNat * esz)), h) else none
 | _, _ => none
theorem op_iaddrA {call : Rec} {tm : List AV} {h : AH} (n esz : Nat) (x i : CA) : runOp call (.iaddrA n esz x i) tm h = iaddrAV n esz (x.ev tm) (i.ev tm) h := by
 simp only [runOp, CO.quiet, if_true, quietRun, iaddrAV]
 generalize x.ev tm = v
 generalize i.ev tm = u
 cases v <;> first | rfl | skip
 rename_i a
 cases a <;> first | rfl | skip
 cases u <;> first | rfl | skip
 simp only
 split <;> rfl
theorem RowL.push {N : Nat} {h : AH} {v : AV} {L : List (List UInt8)} (r : RowL N h v L) (c : Blk) : RowL N (h.push c) v L := by
 obtain ⟨b, cap, h1, h2, h3, h4, h5, h6⟩ := r
 exact ⟨b, cap, h1, by simp; omega, h3, h4, by rw [Hp.get_push_ne _ _ _ (by omega), h5], h6⟩
theorem app_row {N : Nat} {h : AH} {bx : Nat} {v : AV} {x : List UInt8} {R : List (List UInt8)} (hf : RowL N h v R) (hN : N < h.n) (hl2 : R.length ≤ 1000) (hbx : h.get bx = some (.cells [.str x] false)) :
    ∃ v' h', appendRun 1 16 v (.slice (some (bx, 0)) 1 (.exact 1)) h = some (v', h') ∧ (RowL N h' v' (R ++ [x]) ∧ h.n ≤ h'.n ∧ (∀ b, b ≤ N → h'.get b = h.get b) ∧ (N ≤ h.low → N ≤ h'.low)) := by
 have e1 : lenOf (.slice (some (bx, 0)) 1 (.exact 1)) = some 1 := rfl
 have e2 : elemsOf 1 h (.slice (some (bx, 0)) 1 (.exact 1)) = some [.str x] := by
  simp [elemsOf, readCells, hbx, Fs.cut]
 obtain ⟨b, cap, h2, h3, h4, rfl, h5, hne⟩ := hf
 have hp : 0 < R.length := List.length_pos_iff.2 hne
 have eold : ∀ cp, elemsOf 1 h (.slice (some (b, 0)) R.length cp) = some (R.map AV.str) := fun cp => by
  unfold elemsOf
  dsimp only
  rw [if_neg (by omega)]
  simp only [readCells, h5, Nat.mul_one]
  exact cut_iff.2 ⟨by simp, by rw [List.drop_zero, List.take_of_length_le (by simp)]⟩
 have em : (R.map AV.str) ++ [AV.str x] = (R ++ [x]).map AV.str := by simp
 rcases h4 with rfl | rfl
 · refine ⟨_, (h.set b .dead).push (.cells ((R ++ [x]).map AV.str) false), ?_, ⟨h.n, .opn 1, hN, by simp, .inl rfl, rfl, by rw [show h.n = (h.set b .dead).n from rfl]; exact Hp.get_push_self _ _, by simp⟩, by simp, fun b' hb' => ?_, fun hl => by simp; omega⟩
   · unfold appendRun
     simp only [e1, e2, Option.bind_some, appendCore, eold, if_true, h5, Nat.zero_add, Nat.mul_one, List.all_cons, List.all_nil, AV.one, Bool.and_self, and_self, List.length_map]
     rw [if_neg (by omega), if_neg (by omega), if_pos ⟨by omega, by omega⟩, em, List.length_append]
     simp only [Hp.n_set, List.length_cons, List.length_nil, List.length_map, and_true]
   · rw [Hp.get_push_ne _ _ _ (by simp; omega), Hp.get_set_ne _ _ _ _ (by omega)]
 · refine ⟨_, h.push (.cells ((R ++ [x]).map AV.str) false), ?_, ⟨h.n, .opn 1, hN, by simp, .inl rfl, rfl, Hp.get_push_self _ _, by simp⟩, by simp, fun b' hb' => Hp.get_push_ne _ _ _ (by omega), fun hl => hl⟩
   unfold appendRun
   simp only [e1, e2, Option.bind_some, appendCore, eold]
   rw [if_neg (by omega), if_pos ⟨by omega, by omega⟩, em, List.length_append]
   simp only [List.length_cons, List.length_nil]
structure PrI (h0 : AH) (pc : List AV) (N : Nat) (b2 b3 b4 b5 : AV) (L : List (List UInt8)) (tm : List AV) (h : AH) : Prop where
 len : tm.length = 88
 t1 : tm.getD 1 AV.undef = .ptr (some (N, 0))
 t8 : tm.getD 8 AV.undef = b2
 t9 : tm.getD 9 AV.undef = b3
 t10 : tm.getD 10 AV.undef = b4
 t11 : tm.getD 11 AV.undef = b5
 row : RowL N h (tm.getD 6 AV.undef) L
 box : h.get N = some (.cells pc false)
 gr : Grown h0 h
 low : N ≤ h.low
 n : N < h.n
 g0 : h0.n ≤ N
structure RpI (h0 : AH) (pc : List AV) (N : Nat) (b2 b3 b4 b5 : AV) (X : List UInt8) (tm : List AV) (h : AH) : Prop where
 len : tm.length = 85
 t1 : tm.getD 1 AV.undef = .ptr (some (N, 0))
 t7 : tm.getD 7 AV.undef = b2
 t8 : tm.getD 8 AV.undef = b3
 t9 : tm.getD 9 AV.undef = b4
 t10 : tm.getD 10 AV.undef = b5
 t5 : tm.getD 5 AV.undef = .str X
 box : h.get N = some (.cells pc false)
 gr : Grown h0 h
 low : N ≤ h.low
 n : N < h.n
end Go.Proofs.Ef
