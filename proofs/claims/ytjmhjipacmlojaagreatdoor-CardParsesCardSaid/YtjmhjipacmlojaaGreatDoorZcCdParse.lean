/- card.Parse. -/
import Derived.Test.YtjmhjipacmlojaaGreatDoorFz05
import Derived.Test.YtjmhjipacmlojaaGreatDoorZcCdRead
import Derived.Test.YtjmhjipacmlojaaGreatDoorZcEfBackW
namespace Go.Proofs.Cards
set_option maxRecDepth 100000
set_option maxHeartbeats 32000000
open Go Go.Fs
set_option linter.unusedSimpArgs false
set_option linter.unusedVariables false
variable {orc : Orc}
def cf25 : CF := ⟨77, [(.cell 2 (some 9)), (.tmp 3)], (.seq (.region [Zo 2 (.alloc [(.str []), (.int .u8 0), (.int .u8 0), (.int .i64 0), (.int .i64 0), (.int .i64 0), (.int .u16 0), (.bool false), (.slice none 0 (.exact 0))]), Zo 3 (.mv (.c (.int .i64 0)))]) (.seq (.seq (.region [Zm 14 0, Zo 15 (.lenS (.t 14)), Zb 16 .gtr (.t 15) (.c (.int .i64 512))]) (.cond (.t 16) (.seq (.region [Zo 17 (.build [(.str []), (.int .u8 0), (.int .u8 0), (.int .i64 0), (.int .i64 0), (.int .i64 0), (.int .u16 0), (.bool false), (.slice none 0 (.exact 0))] []), Zn (.store 9 (.t 2) (.t 17)), Zo 3 (.mv (.c (.int .i64 3)))]) .ret) .skip)) (.seq (.region [Zm 19 0, Zo 20 (.call (.f 69) [(.t 19), (.c (.str [32, 124, 32]))]), Zm 18 20, Ze 21 0 18, Ze 22 1 18, Ze 23 2 18, Zm 4 21, Zm 5 22, Zm 6 23]) (.seq (.region [Zm 25 4, Zo 26 (.call (.f 50) [(.t 25), (.c (.str [32]))]), Zo 27 (.call (.f 70) [(.t 26)]), Zm 24 27, Ze 28 0 24, Ze 29 1 24, Zo 7 (.alloc [(.str []), (.int .u8 0), (.int .u8 0), (.int .i64 0), (.int .i64 0), (.int .i64 0), (.int .u16 0), (.bool false), (.slice none 0 (.exact 0))]), Zn (.store 9 (.t 7) (.t 28)), Zm 8 29]) (.seq (.block 0 (.loop (.seq (.seq (.region [Zm 30 8, Zm 31 30, Zg 32 (.mv (.t 6)) 31 true, Zo 33 (.pick (.t 31) (.t 32) (.c (.bool false)))]) (.cond (.t 33) .skip (.exit 0))) (.block 1 (.seq (.region [Zo 9 (.mv (.c (.str [])))]) (.seq (.region [Zm 35 5, Zo 36 (.call (.f 69) [(.t 35), (.c (.str [32, 124, 32]))]), Zm 34 36, Ze 37 0 34, Ze 38 1 34, Ze 39 2 34, Zm 9 37, Zm 5 38, Zm 6 39]) (.seq (.region [Zm 41 9, Zo 42 (.call (.f 20) [(.t 41)]), Zm 40 42, Ze 43 0 40, Ze 44 1 40, Zo 10 (.alloc [(.int .u8 0), (.int .u8 0), (.int .u8 0), (.int .i64 0), (.int .u8 0), (.int .u8 0), (.int .u8 0), (.str [])]), Zn (.store 8 (.t 10) (.t 43)), Zm 11 44]) (.seq (.region [Zm 45 11, Zb 46 .eql (.t 45) (.c (.int .i64 0)), Zm 47 46, Zg 48 (.faddr 8 (.t 7)) 47 true, Zg 49 (.load none (.t 48)) 47 true, Zg 50 (.lenV (.t 49)) 47 true, Zg 51 (.bin .lss .other (.t 50) (.c (.int .i64 4))) 47 true, Zo 52 (.pick (.t 47) (.t 51) (.c (.bool false))), Zm 8 52]) (.region [Zf 53 8 7, Zl 54 53, Zo 55 (.load (some 8) (.t 10)), Zo 56 (.litS 8 1 [(.int .u8 0), (.int .u8 0), (.int .u8 0), (.int .i64 0), (.int .u8 0), (.int .u8 0), (.int .u8 0), (.str [])] [(0, (8, (.t 55)))]), Zo 57 (.append 8 40 (.t 54) (.t 56)), Zf 58 8 7, Zn (.store 1 (.t 58) (.t 57))]))))))))) (.seq (.seq (.region [Zo 60 (.load (some 9) (.t 7)), Zo 61 (.call (.f 10) [(.t 60)]), Zm 59 61, Ze 62 0 59, Ze 63 1 59, Zm 12 62, Zm 13 63]) (.seq (.region [Zm 64 8, Zo 65 (.un .not (.t 64)), Zm 66 65, Zg 67 (.mv (.t 13)) 66 false, Zg 68 (.bin .neq .other (.t 67) (.c (.int .i64 0))) 66 false, Zo 69 (.pick (.t 66) (.c (.bool true)) (.t 68)), Zm 70 69, Zg 71 (.mv (.t 12)) 70 false, Zg 72 (.mv (.t 0)) 70 false, Zg 73 (.bin .neq .other (.t 71) (.t 72)) 70 false, Zo 74 (.pick (.t 70) (.c (.bool true)) (.t 73))]) (.cond (.t 74) (.seq (.region [Zo 75 (.build [(.str []), (.int .u8 0), (.int .u8 0), (.int .i64 0), (.int .i64 0), (.int .i64 0), (.int .u16 0), (.bool false), (.slice none 0 (.exact 0))] []), Zn (.store 9 (.t 2) (.t 75)), Zo 3 (.mv (.c (.int .i64 160)))]) .ret) .skip))) (.seq (.region [Zo 76 (.load (some 9) (.t 7)), Zn (.store 9 (.t 2) (.t 76)), Zo 3 (.mv (.c (.int .i64 0)))]) .ret)))))))⟩
theorem tbl25 : tbl Tryz.prog 25 = some cf25 := by kernel_rfl
def RowP (M : Nat) (h : AH) (v : AV) (ps : List Prt) : Prop :=
 (ps = [] ∧ v = nilV) ∨ ∃ b, M < b ∧ b < h.n ∧ v = .slice (some (b, 0)) ps.length (.opn 8) ∧ h.get b = some (.cells (ps.flatMap Prt.cells) false) ∧ ps ≠ []
theorem flat_len (ps : List Prt) : (ps.flatMap Prt.cells).length = ps.length * 8 := by
 induction ps with
 | nil => rfl
 | cons p l ih => rw [List.flatMap_cons, List.length_append, ih, List.length_cons, show p.cells.length = 8 from rfl]; omega
theorem flat_cut {ps : List Prt} {i : Nat} {p : Prt} (hp : ps[i]? = some p) : cut (ps.flatMap Prt.cells) (0 + i * 8) 8 = some p.cells := by
 rw [Nat.zero_add]
 induction ps generalizing i with
 | nil => cases hp
 | cons q l ih =>
   cases i with
   | zero =>
     simp at hp; subst hp
     unfold cut
     rw [if_pos (by simp [Prt.cells])]
     rfl
   | succ j =>
     have := ih (i := j) (by simpa using hp)
     unfold cut at this ⊢
     split at this
     · rename_i hle
       rw [if_pos (by rw [List.flatMap_cons, List.length_append, show q.cells.length = 8 from rfl]; omega), List.flatMap_cons, show (j + 1) * 8 = q.cells.length + j * 8 by rw [show q.cells.length = 8 from rfl]; omega, List.drop_append]
       rw [List.drop_eq_nil_of_le (by omega), List.nil_append, Nat.add_sub_cancel_left]
       exact this
     · cases this
theorem RowP.parts {M : Nat} {h : AH} {v : AV} {ps : List Prt} (r : RowP M h v ps) (hl : ps.length ≤ 1000) : Parts h v ps := by
 rcases r with ⟨rfl, rfl⟩ | ⟨b, h1, h2, rfl, h4, h5⟩
 · exact ⟨_, _, rfl, by simp, .inl rfl⟩
 · exact ⟨_, _, rfl, by omega, .inr ⟨b, 0, _, _, rfl, h2, h4, fun i p hp => flat_cut hp⟩⟩
theorem RowP.keep {M : Nat} {h h' : AH} {v : AV} {ps : List Prt} (r : RowP M h v ps) (hn : h.n ≤ h'.n) (ho : ∀ b, M < b → b < h.n → h'.get b = h.get b) : RowP M h' v ps := by
 rcases r with r | ⟨b, h1, h2, h3, h4, h5⟩
 · exact .inl r
 · exact .inr ⟨b, h1, by omega, h3, by rw [ho b h1 h2]; exact h4, h5⟩
theorem app_part {M : Nat} {h : AH} {bx : Nat} {v : AV} {ps : List Prt} {p : Prt} {ro : Bool} (hf : RowP M h v ps) (hN : M < h.n) (hl : ps.length ≤ 1000) (hbx : h.get bx = some (.cells p.cells ro)) :
    ∃ v' h', appendRun 8 40 v (.slice (some (bx, 0)) 1 (.exact 1)) h = some (v', h') ∧ (RowP M h' v' (ps ++ [p]) ∧ h'.n = h.n + 1 ∧ (∀ b, b ≤ M → h'.get b = h.get b) ∧ (∀ N, N ≤ M → N ≤ h.low → N ≤ h'.low)) := by
 have e1 : lenOf (.slice (some (bx, 0)) 1 (.exact 1)) = some 1 := rfl
 have e2 : elemsOf 8 h (.slice (some (bx, 0)) 1 (.exact 1)) = some p.cells := by
  simp [elemsOf, readCells, hbx, Fs.cut, show p.cells.length = 8 from rfl]
  rfl
 have eN : (ps ++ [p]).flatMap Prt.cells = ps.flatMap Prt.cells ++ p.cells := by simp
 have eL : (ps ++ [p]).length = ps.length + 1 := by simp
 unfold appendRun
 rw [e1, Option.bind_some, e2, Option.bind_some]
 rcases hf with ⟨rfl, rfl⟩ | ⟨b, h2, h3, rfl, h5, hne⟩
 · refine ⟨_, h.push (.cells p.cells false), ?_, .inr ⟨h.n, hN, by simp, rfl, by rw [eN]; exact Hp.get_push_self _ _, by simp⟩, rfl, fun b' hb' => Hp.get_push_ne _ _ _ (by omega), fun N _ hl => hl⟩
   simp [appendCore, nilV, elemsOf]
 · have eold : ∀ cp, elemsOf 8 h (.slice (some (b, 0)) ps.length cp) = some (ps.flatMap Prt.cells) := fun cp => by
     have hp2 : 0 < ps.length := List.length_pos_iff.2 hne
     unfold elemsOf
     dsimp only
     rw [if_neg (by omega)]
     simp only [readCells, h5]
     exact cut_of (by rw [flat_len]; omega) (by rw [List.drop_zero, List.take_of_length_le (by rw [flat_len]; omega)])
   refine ⟨_, (h.set b .dead).push (.cells (ps.flatMap Prt.cells ++ p.cells) false), ?_, .inr ⟨h.n, hN, by simp, rfl, by rw [eN]; rw [show h.n = (h.set b .dead).n from rfl]; exact Hp.get_push_self _ _, by simp⟩, by simp, fun b' hb' => ?_, fun N _ hl => by simp; omega⟩
   · simp only [appendCore, eold, Option.bind_some, h5, Nat.zero_add, if_true]
     have fl := flat_len ps
     rw [if_neg (by omega), if_neg (by omega), if_pos ⟨by omega, by rfl⟩, if_pos ⟨by omega, by omega⟩]
     simp [Hp.n_set]
   · rw [Hp.get_push_ne _ _ _ (by simp; omega), Hp.get_set_ne _ _ _ _ (by omega)]
def goP (f : List UInt8 → Prt × Int) : Nat → Bool → Bool → List UInt8 → List Prt → Bool × List Prt
 | 0, ok, _, _, ps => (ok, ps)
 | n + 1, ok, more, rest, ps => if (ok && more) = true then goP f n (decide ((f (cutA rest [32, 124, 32])).2 = 0) && decide (ps.length < 4)) (cutM rest [32, 124, 32]) (cutB rest [32, 124, 32]) (ps ++ [(f (cutA rest [32, 124, 32])).1]) else (ok, ps)
theorem ov_8 (c : Crd) (v w : AV) : Fs.over (c.cells v) 8 [w] = c.cells w := rfl
theorem cells_eight (c : Crd) (v : AV) : (c.cells v)[8]? = some v := rfl
structure PS (hB h0 : AH) (N q : Nat) (c : Crd) (v : AV) (ps : List Prt) (h : AH) : Prop where
 gr : Grown h0 h
 g0 : h0.n ≤ N
 low : N ≤ h.low
 res : h.get N = some (.cells (zeroC.cells nilV) false)
 card : h.get q = some (.cells (c.cells v) false)
 n : N < q ∧ q < h.n
 row : RowP q h v ps
 old : ∀ b, b < N → h.get b = hB.get b
theorem PS.grow {hB h0 H X : AH} {N q : Nat} {c : Crd} {v : AV} {ps : List Prt} (S : PS hB h0 N q c v ps H) (hn : H.n ≤ X.n) (hX : ∀ b, b < H.n → X.get b = H.get b) (hl : N ≤ X.low) : PS hB h0 N q c v ps X := by
 have h1 := S.n
 exact ⟨⟨Nat.le_trans S.gr.1 hn, fun b hb => by rw [hX b (Nat.lt_of_lt_of_le hb S.gr.1), S.gr.2 b hb]⟩, S.g0, hl, by rw [hX _ (by omega)]; exact S.res, by rw [hX _ (by omega)]; exact S.card, by omega, S.row.keep hn (fun b _ hb => hX b hb), fun b hb => by rw [hX b (by omega)]; exact S.old b hb⟩
theorem PS.next {hB h0 X H' : AH} {N q : Nat} {c : Crd} {v v' : AV} {ps : List Prt} {p : Prt} (S : PS hB h0 N q c v ps X) (r : RowP q H' v' (ps ++ [p])) (hn : H'.n = X.n + 1) (hf : ∀ b, b ≤ q → H'.get b = X.get b) (hl2 : N ≤ H'.low) : PS hB h0 N q c v' (ps ++ [p]) (H'.set q (.cells (c.cells v') false)) := by
 have h1 := S.n
 have h2 := S.g0
 refine ⟨⟨by have := S.gr.1; simp; omega, fun b hb => by rw [Hp.get_set_ne _ _ _ _ (by omega), hf b (by omega), S.gr.2 b hb]⟩, S.g0, by simp; omega, by rw [Hp.get_set_ne _ _ _ _ (by omega), hf _ (by omega)]; exact S.res, Hp.get_set_self _ _ _, by simp; omega, r.keep (by simp) (fun b hb _ => Hp.get_set_ne _ _ _ _ (by omega)), fun b hb => by rw [Hp.get_set_ne _ _ _ _ (by omega), hf b (by omega)]; exact S.old b hb⟩
def Own (N : Nat) (h : AH) (v : AV) (ps : List Prt) : Prop :=
 (ps = [] ∧ v = nilV) ∨ ∃ b, N ≤ b ∧ b < h.n ∧ v = .slice (some (b, 0)) ps.length (.opn 8) ∧ h.get b = some (.cells (ps.flatMap Prt.cells) false) ∧ ps ≠ []
def Parsed (N : Nat) (h : AH) (s : List UInt8) (c : Crd) (fin : Bool × List Prt) (v1 : AV) (h1 : AH) : Prop :=
 (if fin.1 = true ∧ chkC c fin.2 = 0 ∧ txtC c fin.2 = s then ∃ v, v1 = .tuple [.agg (c.cells v), .int .i64 0] ∧ Parts h1 v fin.2 ∧ Own h.n h1 v fin.2 else v1 = .tuple [.agg (zeroC.cells nilV), .int .i64 160]) ∧ Ef.Kp N h h1
theorem under_card (c : Crd) {b l n : Nat} {cap : Cap} (hb : n ≤ b) : (AV.tuple [.agg (c.cells (.slice (some (b, 0)) l cap)), .int .i64 0]).under n = false := by
 simp [AV.under, AV.unders, Crd.cells]; omega
theorem settle_parts {hB h : AH} {c : Crd} {v : AV} {ps : List Prt} {q : Nat} (hq : hB.n ≤ q) (r : RowP q h v ps) (hl : ps.length ≤ 1000) : Parts (Fs.settle hB h (.tuple [.agg (c.cells v), .int .i64 0])).2 v ps ∧ Own hB.n (Fs.settle hB h (.tuple [.agg (c.cells v), .int .i64 0])).2 v ps := by
 have r0 := r
 rcases r with ⟨rfl, rfl⟩ | ⟨b, h1, h2, rfl, h4, h5⟩
 · exact ⟨⟨_, _, rfl, by simp, .inl rfl⟩, .inl ⟨rfl, rfl⟩⟩
 · rw [settle_new (under_card c (by omega))]
   exact ⟨(r0.parts hl).mono (Nat.le_refl _) fun _ _ => rfl, .inr ⟨b, by omega, h2, rfl, h4, h5⟩⟩
theorem res_two {tm : List AV} {h : AH} {N : Nat} {c : Crd} {v : AV} {e : Int} {ro : Bool} (t2 : tm.getD 2 AV.undef = .ptr (some (N, 0))) (t3 : tm.getD 3 AV.undef = .int .i64 e) (hN : h.get N = some (.cells (c.cells v) ro)) : resAll tm h [CRes.cell 2 (some 9), CRes.tmp 3] = some (.tuple [.agg (c.cells v), .int .i64 e]) := by
 have hv : readVar h N 0 (some 9) = some (.agg (c.cells v)) := by
  simp [readVar, readCells, hN, cut, cells_len, cells_take]
 unfold resAll
 simp only [List.mapM_cons, List.mapM_nil, resOne, t2, t3, hv]
 rfl
theorem bad_end {M : Nat} {tm : List AV} {hB h0 H : AH} {q : Nat} {s : List UInt8} {c c0 : Crd} {v : AV} {ps : List Prt} {fin : Bool × List Prt} (S : PS hB h0 hB.n q c0 v ps H) (hf : ¬ (fin.1 = true ∧ chkC c fin.2 = 0 ∧ txtC c fin.2 = s)) (t2 : tm.getD 2 AV.undef = .ptr (some (hB.n, 0))) (t3 : tm.getD 3 AV.undef = .int .i64 160) :
    ∃ v, resAll tm (H.set hB.n (.cells (zeroC.cells nilV) false)) [CRes.cell 2 (some 9), CRes.tmp 3] = some v ∧ Parsed M hB s c fin v (Fs.settle hB (H.set hB.n (.cells (zeroC.cells nilV) false)) v).snd := by
 have h1 := S.n
 have h2 := S.low
 refine ⟨_, res_two t2 t3 (Hp.get_set_self _ _ _), by rw [if_neg hf], Ef.kp_settle (by simp; omega) (fun b hb => by rw [Hp.get_set_ne _ _ _ _ (by omega)]; exact S.old b hb) (by simp; omega)⟩
theorem good_end {M : Nat} {tm : List AV} {hB h0 H : AH} {q : Nat} {s : List UInt8} {c : Crd} {v : AV} {fin : Bool × List Prt} (S : PS hB h0 hB.n q c v fin.2 H) (hl : fin.2.length ≤ 1000) (hf : fin.1 = true ∧ chkC c fin.2 = 0 ∧ txtC c fin.2 = s) (t2 : tm.getD 2 AV.undef = .ptr (some (hB.n, 0))) (t3 : tm.getD 3 AV.undef = .int .i64 0) :
    ∃ v1, resAll tm (H.set hB.n (.cells (c.cells v) false)) [CRes.cell 2 (some 9), CRes.tmp 3] = some v1 ∧ Parsed M hB s c fin v1 (Fs.settle hB (H.set hB.n (.cells (c.cells v) false)) v1).snd := by
 have h1 := S.n
 have h2 := S.low
 refine ⟨_, res_two t2 t3 (Hp.get_set_self _ _ _), ?_, Ef.kp_settle (by simp; omega) (fun b hb => by rw [Hp.get_set_ne _ _ _ _ (by omega)]; exact S.old b hb) (by simp; omega)⟩
 rw [if_pos hf]
 exact ⟨v, rfl, settle_parts (q := q) (by omega) (S.row.keep (by simp) fun b hb _ => Hp.get_set_ne _ _ _ _ (by omega)) hl⟩
structure PaI (f : List UInt8 → Prt × Int) (hB h0 : AH) (N q : Nat) (c : Crd) (s : List UInt8) (fin : Bool × List Prt) (n : Nat) (tm : List AV) (h : AH) : Prop where
 len : tm.length = 77
 t0 : tm.getD 0 AV.undef = .str s
 t2 : tm.getD 2 AV.undef = .ptr (some (N, 0))
 t7 : tm.getD 7 AV.undef = .ptr (some (q, 0))
 st : ∃ (ok more : Bool) (rest : List UInt8) (ps : List Prt) (v : AV), n + ps.length = 6 ∧ (ok = true → ps.length ≤ 4) ∧ ps.length ≤ 5 ∧ goP f n ok more rest ps = fin ∧ tm.getD 5 AV.undef = .str rest ∧ tm.getD 6 AV.undef = .bool more ∧ tm.getD 8 AV.undef = .bool ok ∧ rest.length ≤ 600 ∧ PS hB h0 N q c v ps h
theorem parse_long (ho : orc 25 = none) (s : List UInt8) (hs : ¬ s.length ≤ 512) (h : AH) : acall orc T 25 [.str s] h = some (.tuple [.agg (zeroC.cells nilV), .int .i64 3], h) := by
 refine acall_sym ho tbl25 ?_
 have l1 : decide ((512 : Int) < (s.length : Int)) = true := by rw [decide_eq_true_eq]; omega
 refine GD ?_
 (have fct := @l1; refine GOD ?_; clear fct)
 (have fct := trivial; refine A_end ?_; clear fct; try exact trivial)
 exact ⟨rfl, rfl⟩
theorem round_spec (M : Nat) {h0 : AH} {atoiV : List UInt8 → Int} {sf : List UInt8 → Int × Bool} {f : List UInt8 → Prt × Int} (ho : ∀ g, g ∈ [25, 69, 110] → orc g = none) (hC : CTold orc h0 atoiV sf)
    (hE : ∀ (x : List UInt8) (h : AH), Grown h0 h → acall orc T 20 [.str x] h = some (.tuple [.agg (f x).1.cells, .int .i64 (f x).2], h))
    (hR : ∀ (L : List (List UInt8)) (b : Nat) (h : AH), L.length ≤ 1000 → (∀ x ∈ L, x.length ≤ 600) → Grown h0 h → h.get b = some (.cells (L.map AV.str) false) → b < h.n → acall orc T 70 [.slice (some (b, 0)) L.length (.exact L.length)] h = some (.tuple [.agg ((if 4 ≤ L.length then headC atoiV sf L else zeroC).cells nilV), .bool (decide (4 ≤ L.length))], h))
    (hP : ∀ (c : Crd) (v : AV) (ps : List Prt) (h : AH), Parts h v ps → Grown h0 h → acall orc T 10 [.agg (c.cells v)] h = some (.tuple [.str (txtC c ps), .int .i64 (chkC c ps)], h))
    (s : List UInt8) (hs : s.length ≤ 512) {h : AH} (hg : Grown h0 h) (c : Crd) (okR : Bool) (hc : c = if 4 ≤ (Lib.split (cutA s [32, 124, 32]) [32]).length then headC atoiV sf (Lib.split (cutA s [32, 124, 32]) [32]) else zeroC) (hk : okR = decide (4 ≤ (Lib.split (cutA s [32, 124, 32]) [32]).length))
    (hsl : (Lib.split (cutA s [32, 124, 32]) [32]).length ≤ 1000) (hsx : ∀ x ∈ Lib.split (cutA s [32, 124, 32]) [32], x.length ≤ 600) (fin : Bool × List Prt) (hfin : goP f 6 okR (cutM s [32, 124, 32]) (cutB s [32, 124, 32]) [] = fin) :
    ∃ v1 h1, acall orc T 25 [.str s] h = some (v1, h1) ∧ Parsed M h s c fin v1 h1 := by
 refine acall_facts (R := Parsed M h s c fin) (ho _ (by simp)) tbl25 ?_
 simp only [Ef.settle_fst1]
 have l1 : decide ((512 : Int) < (s.length : Int)) = false := by rw [decide_eq_false_iff_not]; omega
 have c1 := cut_spec (orc := orc) (fun g hg => ho g (by revert hg; simp only [List.mem_cons, List.mem_nil_iff, or_false]; omega)) hC
 have hla := cutA_len s [32, 124, 32]
 have hlb := cutB_len s [32, 124, 32]
 have c0 := c1 s [32, 124, 32] (by omega) (by simp) (h := (h.withLow h.n).push (.cells (zeroC.cells nilV) false)) ((hg.low _).push _)
 have c2 := hC.split (cutA s [32, 124, 32]) ((h.withLow h.n).push (.cells (zeroC.cells nilV) false)) ((hg.low _).push _) (by omega)
 have c3 := hR (Lib.split (cutA s [32, 124, 32]) [32]) (h.n + 1) (((h.withLow h.n).push (.cells (zeroC.cells nilV) false)).push (.cells ((Lib.split (cutA s [32, 124, 32]) [32]).map AV.str) false)) hsl hsx (((hg.low _).push _).push _) (Hp.get_push_self _ _) (by simp)
 rw [← hc, ← hk] at c3
 clear hc hk hsl hsx
 refine GD ?_
 simp only [show ([AV.str [], AV.int .u8 0, AV.int .u8 0, AV.int .i64 0, AV.int .i64 0, AV.int .i64 0, AV.int .u16 0, AV.bool false, AV.slice none 0 (.exact 0)] : List AV) = zeroC.cells nilV from rfl]
 (have fct := Fj @l1 (Fj @c0 (Fj @c2 (Fj @c3 (Fj @cells_len (Fj @cells_take @ov_9))))); refine GOD ?_; clear fct)
 refine R_heap (PS h h0 h.n (h.n + 2) zeroC nilV []) ?_ (fun H I => ?_)
 · refine ⟨(((hg.low _).push _).push _).push _, hg.1, by simp, ?_, ?_, by simp, .inl ⟨rfl, rfl⟩, fun b hb => ?_⟩
   · rw [Hp.get_push_ne _ _ _ (by simp <;> omega), Hp.get_push_ne _ _ _ (by simp <;> omega)]; exact Hp.get_push_self _ _
   · exact Hp.get_push_self _ _
   · rw [Hp.get_push_ne _ _ _ (by simp; omega), Hp.get_push_ne _ _ _ (by simp; omega), Hp.get_push_ne _ _ _ (by simp; omega)]; rfl
 have k0 := I.card
 (have fct := Fj @k0 (Fj @cells_len (Fj @cells_take (Fj @cells_one @ov_9))); refine GOD ?_; clear fct)
 refine CodeK_loop (PaI f h h0 h.n (h.n + 2) c s fin) 6 ?_ ?_
 · refine ⟨rfl, rfl, rfl, rfl, okR, cutM s [32, 124, 32], cutB s [32, 124, 32], [], nilV, rfl, by simp, by simp, hfin, rfl, rfl, rfl, by omega, ?_⟩
   exact ⟨I.gr.set (by have := hg.1; omega) _, I.g0, by have := I.low; simp; omega, by rw [Hp.get_set_ne _ _ _ _ (by omega)]; exact I.res, Hp.get_set_self _ _ _, by simpa using I.n, .inl ⟨rfl, rfl⟩, fun b hb => by rw [Hp.get_set_ne _ _ _ _ (by omega)]; exact I.old b hb⟩
 clear k0 I c0 c2 c3 l1 hla hlb hfin
 generalize hqq : h.n + 2 = q at *
 intro n tm H I
 obtain ⟨ok, more, rest, ps, v, hn, hok, hps, hgo, e5, e6, e8, hrl, S⟩ := I.st
 have el := I.len
 have e0 := I.t0
 have e2 := I.t2
 have e7 := I.t7
 have k1 := S.card
 have hqn := S.n
 clear I
 have ec := c1 rest [32, 124, 32] (by omega) (by simp) S.gr
 have hEx := hE (cutA rest [32, 124, 32]) H S.gr
 by_cases hgo2 : (ok && more) = true
 case pos =>
  obtain ⟨rfl, rfl⟩ : ok = true ∧ more = true := by simpa using hgo2
  have h4 := hok rfl
  obtain ⟨m, rfl⟩ : ∃ m, n = m + 1 := ⟨n - 1, by omega⟩
  simp only [goP, Bool.and_self, if_true] at hgo
  generalize hone : cutA rest [32, 124, 32] = one at *
  have hl3 := cutB_len rest [32, 124, 32]
  generalize hrest : cutB rest [32, 124, 32] = rest' at *
  generalize hmore : cutM rest [32, 124, 32] = more' at *
  generalize hp : (f one).1 = p at *
  generalize he : (f one).2 = e at *
  have hr := S.row
  have hps2 : ps.length ≤ 1000 := by omega
  obtain ⟨a, cap, rfl⟩ : ∃ a cap, v = .slice a ps.length cap := by
   rcases S.row with ⟨rfl, rfl⟩ | ⟨b, _, _, rfl, _⟩
   · exact ⟨none, .exact 0, rfl⟩
   · exact ⟨_, _, rfl⟩
  have z1 : ∀ a b c d e f g i : AV, Fs.over [a, b, c, d, e, f, g, i] 0 p.cells = p.cells := fun _ _ _ _ _ _ _ _ => rfl
  have z2 : p.cells.length = 8 := rfl
  have z3 : p.cells.all AV.one = true := rfl
  have z4 : p.cells.take 8 = p.cells := rfl
  have y2 : (q = H.n) = False := by simp; omega
  have y3 : (q = H.n + 1) = False := by simp; omega
  have l4 : decide ((ps.length : Int) < 4) = decide (ps.length < 4) := decide_eq_decide.2 (by omega)
  have hlow := S.low
  cases hq : (e == 0) with
  | true =>
    obtain rfl : e = 0 := by simpa using hq
    (have fct := Fj @el (Fj @e0 (Fj @e2 (Fj @e5 (Fj @e6 (Fj @e7 (Fj @e8 (Fj @ec (Fj @hEx (Fj @z1 (Fj @z2 (Fj @z3 (Fj @z4 (Fj @y2 (Fj @y3 (Fj @k1 (Fj @cells_len (Fj @cells_eight (Fj @l4 (Fj @hq (Fj @op_litS fsReps)))))))))))))))))))); refine GOD ?_; clear fct)
    refine R_heap (fun X => PS h h0 h.n q c (.slice a ps.length cap) ps X ∧ X.n = H.n + 2 ∧ X.get (H.n + 1) = some (.cells p.cells false)) ⟨S.grow (by simp; omega) (fun b hb => by rw [Hp.get_push_ne _ _ _ (by simp; omega), Hp.get_set_ne _ _ _ _ (by omega), Hp.get_push_ne _ _ _ (by omega)]) (by simp; omega), by simp, Hp.get_push_self _ _⟩ (fun X hX => ?_)
    obtain ⟨SX, hXn, hXp⟩ := hX
    refine R_ex (by simp (maxDischargeDepth := 12) only [opsB, Nat.reduceEqDiff, Nat.reduceBEq, Nat.reduceBNe, Int.reduceBEq, Int.reduceBNe, Int.reduceLT, Int.reduceLE, Int.reduceEq, AV.one, AV.cells, CA.ev, abin, aint, aun, isShift, readVar, readCell, readCells, writeCells, fillA, reduceIte, Nat.reduceAdd, Nat.reduceSub, Nat.reduceLT, Nat.reduceLeDiff, resAll, resOne, AV.under, AV.unders, cut, op_append, el, e0, e2, e7, fsTm, Nat.reduceBEq, Nat.reduceLT]; (first | done | with_reducible rfl)) (app_part (p := p) SX.row SX.n.2 (by omega) hXp) fun v' H' hh => ?_
    obtain ⟨row', hn', hf', lo'⟩ := hh
    have k3 : H'.get q = some (.cells (c.cells (.slice a ps.length cap)) false) := by rw [hf' q (by omega)]; exact SX.card
    have SN := SX.next row' hn' hf' (lo' _ (by omega) SX.low)
    obtain ⟨a', cap', rfl⟩ : ∃ a' cap', v' = .slice a' (ps ++ [p]).length cap' := by
     rcases row' with ⟨hh, _⟩ | ⟨b, _, _, hh, _⟩
     · simp at hh
     · exact ⟨_, _, hh⟩
    refine A_tm ?_
    (have fct := Fj @el (Fj @e0 (Fj @e2 (Fj @e5 (Fj @e6 (Fj @e7 (Fj @e8 (Fj @k3 (Fj @cells_len @ov_8)))))))); refine GOD ?_; clear fct)
    refine ⟨m, by omega, by simp only [List.length_set, el], by simp only [fsTm, Nat.reduceBEq, Nat.reduceLT, e0], by simp only [fsTm, Nat.reduceBEq, Nat.reduceLT, e2], by simp only [fsTm, Nat.reduceBEq, Nat.reduceLT, e7], decide (ps.length < 4), more', rest', ps ++ [p], .slice a' (ps ++ [p]).length cap', by simp; omega, fun h => by have := of_decide_eq_true h; simp; omega, by simp; omega, by rw [show decide ((0 : Int) = 0) = true from rfl, Bool.true_and] at hgo; exact hgo, by simp only [fsTm, Nat.reduceBEq, Nat.reduceLT, el], by simp only [fsTm, Nat.reduceBEq, Nat.reduceLT, el], by simp only [fsTm, Nat.reduceBEq, Nat.reduceLT, el], by omega, SN⟩
  | false =>
    have hq2 : decide (e = 0) = false := by simpa using hq
    (have fct := Fj @el (Fj @e0 (Fj @e2 (Fj @e5 (Fj @e6 (Fj @e7 (Fj @e8 (Fj @ec (Fj @hEx (Fj @z1 (Fj @z2 (Fj @z3 (Fj @z4 (Fj @y2 (Fj @y3 (Fj @k1 (Fj @cells_len (Fj @cells_eight (Fj @l4 (Fj @hq (Fj @op_litS fsReps)))))))))))))))))))); refine GOD ?_; clear fct)
    refine R_heap (fun X => PS h h0 h.n q c (.slice a ps.length cap) ps X ∧ X.n = H.n + 2 ∧ X.get (H.n + 1) = some (.cells p.cells false)) ⟨S.grow (by simp; omega) (fun b hb => by rw [Hp.get_push_ne _ _ _ (by simp; omega), Hp.get_set_ne _ _ _ _ (by omega), Hp.get_push_ne _ _ _ (by omega)]) (by simp; omega), by simp, Hp.get_push_self _ _⟩ (fun X hX => ?_)
    obtain ⟨SX, hXn, hXp⟩ := hX
    refine R_ex (by simp (maxDischargeDepth := 12) only [opsB, Nat.reduceEqDiff, Nat.reduceBEq, Nat.reduceBNe, Int.reduceBEq, Int.reduceBNe, Int.reduceLT, Int.reduceLE, Int.reduceEq, AV.one, AV.cells, CA.ev, abin, aint, aun, isShift, readVar, readCell, readCells, writeCells, fillA, reduceIte, Nat.reduceAdd, Nat.reduceSub, Nat.reduceLT, Nat.reduceLeDiff, resAll, resOne, AV.under, AV.unders, cut, op_append, el, e0, e2, e7, fsTm, Nat.reduceBEq, Nat.reduceLT]; (first | done | with_reducible rfl)) (app_part (p := p) SX.row SX.n.2 (by omega) hXp) fun v' H' hh => ?_
    obtain ⟨row', hn', hf', lo'⟩ := hh
    have k3 : H'.get q = some (.cells (c.cells (.slice a ps.length cap)) false) := by rw [hf' q (by omega)]; exact SX.card
    have SN := SX.next row' hn' hf' (lo' _ (by omega) SX.low)
    obtain ⟨a', cap', rfl⟩ : ∃ a' cap', v' = .slice a' (ps ++ [p]).length cap' := by
     rcases row' with ⟨hh, _⟩ | ⟨b, _, _, hh, _⟩
     · simp at hh
     · exact ⟨_, _, hh⟩
    refine A_tm ?_
    (have fct := Fj @el (Fj @e0 (Fj @e2 (Fj @e5 (Fj @e6 (Fj @e7 (Fj @e8 (Fj @k3 (Fj @cells_len @ov_8)))))))); refine GOD ?_; clear fct)
    refine ⟨m, by omega, by simp only [List.length_set, el], by simp only [fsTm, Nat.reduceBEq, Nat.reduceLT, e0], by simp only [fsTm, Nat.reduceBEq, Nat.reduceLT, e2], by simp only [fsTm, Nat.reduceBEq, Nat.reduceLT, e7], false, more', rest', ps ++ [p], .slice a' (ps ++ [p]).length cap', by simp; omega, fun h => Bool.noConfusion h, by simp; omega, by rw [hq2, Bool.false_and] at hgo; exact hgo, by simp only [fsTm, Nat.reduceBEq, Nat.reduceLT, el], by simp only [fsTm, Nat.reduceBEq, Nat.reduceLT, el], by simp only [fsTm, Nat.reduceBEq, Nat.reduceLT, el], by omega, SN⟩
 case neg =>
  have hb : ok = false ∨ more = false := by
   revert hgo2; cases ok <;> cases more <;> simp
  have hfin : fin = (ok, ps) := by
   rw [← hgo]
   cases n with
   | zero => rfl
   | succ m => rw [goP, if_neg hgo2]
  subst hfin
  have hPr := hP c v ps H (S.row.parts (by omega)) S.gr
  obtain ⟨a, cap, rfl⟩ : ∃ a cap, v = .slice a ps.length cap := by
   rcases S.row with ⟨rfl, rfl⟩ | ⟨b, _, _, rfl, _⟩
   · exact ⟨none, .exact 0, rfl⟩
   · exact ⟨_, _, rfl⟩
  have z5 : (c.cells (.slice a ps.length cap)).all AV.one = true := rfl
  cases ok with
  | true =>
    obtain rfl : more = false := by simpa using hb
    have rs := S.res
    have y4 : (q = h.n) = False := by simp; omega
    have ps5 : ps.length ≤ 1000 := by omega
    cases hq1 : (chkC c ps != 0) with
    | true =>
      have hbad : ¬ ((true, ps).1 = true ∧ chkC c (true, ps).2 = 0 ∧ txtC c (true, ps).2 = s) := by rintro ⟨_, h, _⟩; simp [h] at hq1
      (have fct := Fj @el (Fj @e0 (Fj @e2 (Fj @e5 (Fj @e6 (Fj @e7 (Fj @e8 (Fj @k1 (Fj @rs (Fj @hPr (Fj @hq1 (Fj @cells_len (Fj @cells_take (Fj @cells_one @ov_9))))))))))))); refine GOD ?_; clear fct)
      exact ⟨.inr rfl, bad_end S hbad (by simp only [fsTm, Nat.reduceBEq, Nat.reduceLT, e2]) (by simp only [fsTm, Nat.reduceBEq, Nat.reduceLT, el])⟩
    | false =>
      have hz : chkC c ps = 0 := by simpa using hq1
      cases hx : decide (txtC c ps = s) with
      | true =>
        (have fct := Fj @el (Fj @e0 (Fj @e2 (Fj @e5 (Fj @e6 (Fj @e7 (Fj @e8 (Fj @k1 (Fj @rs (Fj @hPr (Fj @hq1 (Fj @hx (Fj fsAstr (Fj @cells_len (Fj @cells_take (Fj @cells_one (Fj @z5 (Fj @ov_9 @y4))))))))))))))))); refine GOD ?_; clear fct)
        exact ⟨.inr rfl, good_end (fin := (true, ps)) S ps5 ⟨rfl, hz, of_decide_eq_true hx⟩ (by simp only [fsTm, Nat.reduceBEq, Nat.reduceLT, e2]) (by simp only [fsTm, Nat.reduceBEq, Nat.reduceLT, el])⟩
      | false =>
        have hbad : ¬ ((true, ps).1 = true ∧ chkC c (true, ps).2 = 0 ∧ txtC c (true, ps).2 = s) := by rintro ⟨_, _, h⟩; exact of_decide_eq_false hx h
        (have fct := Fj @el (Fj @e0 (Fj @e2 (Fj @e5 (Fj @e6 (Fj @e7 (Fj @e8 (Fj @k1 (Fj @rs (Fj @hPr (Fj @hq1 (Fj @hx (Fj fsAstr (Fj @cells_len (Fj @cells_take (Fj @cells_one @ov_9))))))))))))))); refine GOD ?_; clear fct)
        exact ⟨.inr rfl, bad_end S hbad (by simp only [fsTm, Nat.reduceBEq, Nat.reduceLT, e2]) (by simp only [fsTm, Nat.reduceBEq, Nat.reduceLT, el])⟩
  | false =>
    have rs := S.res
    have hbad : ¬ ((false, ps).1 = true ∧ chkC c (false, ps).2 = 0 ∧ txtC c (false, ps).2 = s) := by rintro ⟨h, _⟩; cases h
    (have fct := Fj @el (Fj @e0 (Fj @e2 (Fj @e5 (Fj @e6 (Fj @e7 (Fj @e8 (Fj @k1 (Fj @rs (Fj @hPr (Fj @cells_len (Fj @cells_take (Fj @cells_one @ov_9)))))))))))); refine GOD ?_; clear fct)
    exact ⟨.inr rfl, bad_end S hbad (by simp only [fsTm, Nat.reduceBEq, Nat.reduceLT, e2]) (by simp only [fsTm, Nat.reduceBEq, Nat.reduceLT, el])⟩
end Go.Proofs.Cards
