/- The statements' own books: the program's and the reference's, filled alike. -/
import Derived.Test.YtlppecefalblmaaGreatDoorFz05
import Derived.Test.YtlppecefalblmaaGreatDoorZtBkNew
namespace Go.Proofs.Cards
open Go Go.Fs
set_option linter.unusedSimpArgs false
set_option linter.unusedVariables false
variable {orc : Orc}
def cf19 : CF := ⟨80, [(.tmp 2), (.tmp 3), (.tmp 4)], (.seq (.region [Zo 1 (.box (.t 0)), Zo 2 (.mv (.c (.ptr none))), Zo 3 (.mv (.c (.ptr none))), Zo 4 (.mv (.c (.bool false)))]) (.seq (.region [Zo 9 (.call (.f 59) []), Zo 10 (.call (.f 60) []), Zm 5 9, Zm 6 10]) (.seq (.seq (.region [Zo 7 (.mv (.c (.int .i64 0)))]) (.block 0 (.loop (.seq (.seq (.region [Zm 11 7, Zf 12 0 1, Zl 13 12, Zo 14 (.lenV (.t 13)), Zb 15 .lss (.t 11) (.t 14)]) (.cond (.t 15) .skip (.exit 0))) (.seq (.block 1 (.seq (.regionD [⟨Zm 18 5, 0, 1, false⟩, ⟨Zf 19 0 1, 0, 0, false⟩, ⟨Zl 20 19, 0, 0, false⟩, ⟨Zm 21 7, 0, 0, false⟩, ⟨Zo 22 (.iaddrS 9 (.t 20) (.t 21)), 0, 0, false⟩, ⟨Zo 23 (.load (some 9) (.t 22)), 0, 0, false⟩, ⟨Zo 24 (.call (.f 62) [(.t 23)]), 0, 1, false⟩, ⟨Zo 25 (.call (.f 61) [(.t 18), (.t 24)]), 1, 2, false⟩, ⟨Zm 26 6, 0, 3, false⟩, ⟨Zf 27 0 1, 0, 2, false⟩, ⟨Zl 28 27, 0, 2, false⟩, ⟨Zm 29 7, 0, 2, false⟩, ⟨Zo 30 (.iaddrS 9 (.t 28) (.t 29)), 0, 2, false⟩, ⟨Zo 31 (.load (some 9) (.t 30)), 0, 2, false⟩, ⟨Zo 32 (.call (.f 62) [(.t 31)]), 2, 3, false⟩, ⟨Zo 33 (.call (.f 63) [(.t 26), (.t 32)]), 3, 4, false⟩, ⟨Zb 34 .neq (.t 25) (.t 33), 4, 4, false⟩]) (.cond (.t 34) (.seq (.region [Zm 35 5, Zm 36 6, Zm 2 35, Zm 3 36, Zo 4 (.mv (.c (.bool false)))]) .ret) .skip))) (.region [Zm 16 7, Zb 17 .add (.t 16) (.c (.int .i64 1)), Zm 7 17])))))) (.seq (.seq (.region [Zo 8 (.mv (.c (.int .i64 0)))]) (.block 2 (.loop (.seq (.seq (.region [Zm 37 8, Zf 38 1 1, Zl 39 38, Zo 40 (.lenV (.t 39)), Zb 41 .lss (.t 37) (.t 40)]) (.cond (.t 41) .skip (.exit 2))) (.seq (.block 3 (.seq (.regionD [⟨Zm 44 5, 0, 0, false⟩, ⟨Zf 45 1 1, 0, 0, false⟩, ⟨Zl 46 45, 0, 0, false⟩, ⟨Zm 47 8, 0, 0, false⟩, ⟨Zo 48 (.iaddrS 4 (.t 46) (.t 47)), 0, 0, false⟩, ⟨Zo 49 (.load (some 4) (.t 48)), 0, 0, false⟩, ⟨Zo 50 (.call (.f 64) [(.t 44), (.t 49)]), 0, 1, false⟩, ⟨Zm 51 6, 0, 1, false⟩, ⟨Zf 52 1 1, 0, 1, false⟩, ⟨Zl 53 52, 0, 1, false⟩, ⟨Zm 54 8, 0, 1, false⟩, ⟨Zo 55 (.iaddrS 4 (.t 53) (.t 54)), 0, 1, false⟩, ⟨Zo 56 (.load (some 4) (.t 55)), 0, 1, false⟩, ⟨Zo 57 (.call (.f 65) [(.t 51), (.t 56)]), 1, 2, false⟩, ⟨Zb 58 .neq (.t 50) (.t 57), 2, 2, false⟩]) (.cond (.t 58) (.seq (.region [Zm 59 5, Zm 60 6, Zm 2 59, Zm 3 60, Zo 4 (.mv (.c (.bool false)))]) .ret) .skip))) (.region [Zm 42 8, Zb 43 .add (.t 42) (.c (.int .i64 1)), Zm 8 43])))))) (.seq (.seq (.region [Zf 61 2 1, Zl 62 61, Zo 63 (.un .not (.t 62)), Zm 64 63, Zg 65 (.mv (.t 5)) 64 true, Zg 66 (.call (.f 66) [(.t 65)]) 64 true, Zg 67 (.mv (.t 6)) 64 true, Zg 68 (.call (.f 67) [(.t 67)]) 64 true, Zg 69 (.bin .neq .other (.t 66) (.t 68)) 64 true, Zo 70 (.pick (.t 64) (.t 69) (.c (.bool false)))]) (.cond (.t 70) (.seq (.region [Zm 71 5, Zm 72 6, Zm 2 71, Zm 3 72, Zo 4 (.mv (.c (.bool false)))]) .ret) .skip)) (.seq (.region [Zm 73 5, Zm 74 6, Zm 75 5, Zo 76 (.call (.f 33) [(.t 75)]), Zm 77 6, Zo 78 (.call (.f 68) [(.t 77)]), Zo 79 (.bin .eql .scal (.t 76) (.t 78)), Zm 2 73, Zm 3 74, Zm 4 79]) .ret))))))⟩
theorem tbl19 : tbl Tryz.prog 19 = some cf19 := by kernel_rfl
def RowR {α : Type} (f : α → List AV) (k : Nat) (h : AH) (v : AV) (l : List α) : Prop :=
 ∃ (a : Option (Nat × Nat)) (c : Cap), v = .slice a l.length c ∧ (l = [] ∨ ∃ (b o : Nat) (cells : List AV) (ro : Bool), a = some (b, o) ∧ b < h.n ∧ h.get b = some (.cells cells ro) ∧ ∀ (i : Nat) (x : α), l[i]? = some x → cut cells (o + i * k) k = some (f x))
theorem RowR.mono {α : Type} {f : α → List AV} {k : Nat} {h h' : AH} {v : AV} {l : List α} (r : RowR f k h v l) (hn : h.n ≤ h'.n) (ho : ∀ b, b < h.n → h'.get b = h.get b) : RowR f k h' v l := by
 obtain ⟨a, c, h1, h2⟩ := r
 refine ⟨a, c, h1, ?_⟩
 rcases h2 with h2 | ⟨b, o, cells, ro, g1, g2, g3, g4⟩
 · exact .inl h2
 · exact .inr ⟨b, o, cells, ro, g1, by omega, by rw [ho b g2]; exact g3, g4⟩
theorem RowR.at {α : Type} {f : α → List AV} {k : Nat} {h : AH} {v : AV} {l : List α} (r : RowR f k h v l) {i : Nat} {x : α} (hx : l[i]? = some x) : ∃ (b o : Nat) (cells : List AV) (ro : Bool) (c : Cap), v = .slice (some (b, o)) l.length c ∧ b < h.n ∧ h.get b = some (.cells cells ro) ∧ cut cells (o + i * k) k = some (f x) := by
 obtain ⟨a, c, h1, h2⟩ := r
 rcases h2 with rfl | ⟨b, o, cells, ro, g1, g2, g3, g4⟩
 · simp at hx
 · exact ⟨b, o, cells, ro, c, by rw [h1, g1], g2, g3, g4 i x hx⟩
structure Bks (pa pb : Nat) (ds : List Cd) (ms : List Mrk) (sh : Bool) (H : AH) (xs zs ys : List Cv) (lv : AV) : Prop where
 a : H.get pa = some (.cells (bkC sh xs.length (xs ++ zs) ms) false)
 l64 : xs.length + zs.length = 64
 ax : Ares (pb + 1) H xs ds
 b : H.get pb = some (.cells (rbC sh lv ms) false)
 row : RowW Cv.cells 9 (pb + 1) H lv ys
 ay : Ares (pb + 1) H ys ds
 ab : pa < pb
 bn : pb < H.n
 m5 : ms.length = 5
 m0 : ∃ z, ms[0]? = some z ∧ z.s = []
theorem Bks.off {pa pb : Nat} {ds : List Cd} {ms : List Mrk} {sh : Bool} {H X : AH} {xs zs ys : List Cv} {lv : AV} (B : Bks pa pb ds ms sh H xs zs ys lv) (hn : H.n ≤ X.n) (hX : ∀ b, b < H.n → X.get b = H.get b) : Bks pa pb ds ms sh X xs zs ys lv := by
 have h1 := B.ab
 have h2 := B.bn
 exact ⟨by rw [hX pa (by omega)]; exact B.a, B.l64, B.ax.off hn fun b _ hb => hX b hb, by rw [hX pb h2]; exact B.b, B.row.keep hn fun b _ hb => hX b hb, B.ay.off hn fun b _ hb => hX b hb, h1, by omega, B.m5, B.m0⟩
theorem Ares.ins {N : Nat} {H : AH} {xs : List Cv} {ds : List Cd} {d : Cd} {cv : Cv} {p : Nat} (A : Ares N H xs ds) (hc : cv.c = d.1) (ho : Own N H cv.sl d.2) (hd : d.2.length ≤ 1152921504606846976) (hp : p ≤ ds.length) : Ares N H (xs.take p ++ cv :: xs.drop p) (ds.take p ++ d :: ds.drop p) := by
 have hl := A.1
 refine ⟨by simp only [List.length_append, List.length_take, List.length_cons, List.length_drop]; omega, fun i x e hx he => ?_⟩
 rcases Nat.lt_trichotomy i p with h | rfl | h
 · rw [List.getElem?_append_left (by rw [List.length_take]; omega), List.getElem?_take_of_lt h] at hx he
   exact A.2 i x e hx he
 · rw [List.getElem?_append_right (by rw [List.length_take]; omega), List.length_take, Nat.min_eq_left (by omega), Nat.sub_self] at hx he
   simp only [List.getElem?_cons_zero, Option.some.injEq] at hx he
   subst hx he
   exact ⟨hc, ho, hd⟩
 · rw [List.getElem?_append_right (by rw [List.length_take]; omega), List.length_take, Nat.min_eq_left (by omega)] at hx he
   obtain ⟨j, rfl⟩ : ∃ j, i = p + (j + 1) := ⟨i - p - 1, by omega⟩
   rw [show p + (j + 1) - p = j + 1 by omega, List.getElem?_cons_succ, List.getElem?_drop] at hx he
   exact A.2 (p + j) x e hx he
structure BTold (orc : Orc) : Prop where
 shut : ∀ (pa : Nat) (H : AH) (cs : List AV), H.get pa = some (.cells cs false) → cs[0]? = some (.bool true) → cs[1]? = some (.bool false) → acall orc T 117 [.ptr (some (pa, 0))] H = some (.int .i64 0, H)
 rnone : ∀ (pb : Nat) (H : AH) (cs : List AV), H.get pb = some (.cells cs false) → cs[0]? = some (.bool true) → acall orc T 120 [.ptr (some (pb, 0))] H = some (.bool false, H)
 chk : ∀ (c : Crd) (ps : List Prt) (v : AV) (H : AH), Parts H v ps → acall orc T 8 [.agg (c.cells v)] H = some (.int .i64 (chkC c ps), H)
 rchk : ∀ (c : Crd) (ps : List Prt), c.rng → (∀ p ∈ ps, p.rng) → ∀ (v : AV) (H : AH), Parts H v ps → acall orc T 13 [.agg (c.cells v)] H = some (.int .i64 (chkC c ps), H)
 place : ∀ (pa : Nat) (sh : Bool) (xs zs : List Cv) (ms : List Mrk) (s : List UInt8) (H : AH), H.get pa = some (.cells (bkC sh xs.length (xs ++ zs) ms) false) → xs.length ≤ 64 → acall orc T 118 [.ptr (some (pa, 0)), .str s] H = some (.int .i64 (plc (xs.map (·.c.name)) s 0), H)
 rplace : ∀ (pb N : Nat) (sh : Bool) (ys : List Cv) (lv : AV) (ms : List Mrk) (s : List UInt8) (H : AH), H.get pb = some (.cells (rbC sh lv ms) false) → RowW Cv.cells 9 N H lv ys → ys.length ≤ 64 → acall orc T 121 [.ptr (some (pb, 0)), .str s] H = some (.int .i64 (plc (ys.map (·.c.name)) s 0), H)
 ahead : ∀ (c : Crd) (x : Cv) (a : Option (Nat × Nat)) (n : Nat) (cap : Cap) (H : AH), acall orc T 119 [.agg (c.cells (.slice a n cap)), .agg x.cells] H = some (.bool (aheadB c x.c), H)
 rahead : ∀ (c : Crd) (x : Cv) (a : Option (Nat × Nat)) (n : Nat) (cap : Cap) (H : AH), acall orc T 122 [.agg (c.cells (.slice a n cap)), .agg x.cells] H = some (.bool (aheadB c x.c), H)
 copy : ∀ (c : Crd) (ps : List Prt), ps.length * 40 ≤ 140737488355328 → ∀ (N : Nat) (v : AV) (X : AH), Parts X v ps → N ≤ X.n → ∃ v1 h1, acall orc T 10 [.agg (c.cells v)] X = some (v1, h1) ∧ ∃ v', v1 = .agg (c.cells v') ∧ Ef.Kp N X h1 ∧ Parts h1 v' ps ∧ Own X.n h1 v' ps
 rcopy : ∀ (c : Crd) (ps : List Prt), ps.length * 40 ≤ 140737488355328 → ∀ (N : Nat) (v : AV) (X : AH), Parts X v ps → N ≤ X.n → ∃ v1 h1, acall orc T 123 [.agg (c.cells v)] X = some (v1, h1) ∧ ∃ v', v1 = .agg (c.cells v') ∧ Ef.Kp N X h1 ∧ Parts h1 v' ps ∧ Own X.n h1 v' ps
 win : ∀ (n : Int) (H : AH), acall orc T 124 [.int .i64 n] H = some (.bool (winB n), H)
 bname : ∀ (s : List UInt8) (H : AH), acall orc T 125 [.str s] H = some (.bool (Ef.isName s), H)
 rname : ∀ (s : List UInt8) (H : AH), acall orc T 126 [.str s] H = some (.bool (Ef.isName s), H)
 none : ∀ f, f ∈ [19, 59, 60, 62, 57, 61, 63, 64, 65, 66, 67, 33, 68, 85, 120] → orc f = none
theorem bks_card (B : BTold orc) {pa pb : Nat} {ds : List Cd} {ms : List Mrk} {H : AH} {xs zs ys : List Cv} {lv : AV} (K : Bks pa pb ds ms false H xs zs ys lv) (G : Good ds) (d : Cd) (v : AV) (hw : Own (pb + 1) H v d.2) (hps : d.2.length * 40 ≤ 140737488355328) :
    ∃ v1 h1, acall orc T 61 [.ptr (some (pa, 0)), .agg (d.1.cells v)] H = some (v1, h1) ∧ (v1 = .int .i64 (cardE (nms ds) d.1 d.2) ∧ H.n ≤ h1.n ∧ (∀ b, b < H.n → b ≠ pa → h1.get b = H.get b) ∧ (∀ N, N ≤ pa → N ≤ H.low → N ≤ h1.low) ∧
     ∃ xs' zs', h1.get pa = some (.cells (bkC false xs'.length (xs' ++ zs') ms) false) ∧ xs'.length + zs'.length = 64 ∧ Ares (pb + 1) h1 xs' (addC ds d)) := by
 have hab := K.ab
 have hbn := K.bn
 obtain ⟨v1, h1, e, rfl, q1, q2, q3, q4, q5⟩ := bcard_spec (orc := orc) (B.none _ (by simp)) d.1 v d.2 K.a (by omega) K.l64 (hw.from (by omega)) hps (B.shut pa) (fun v H h => B.chk d.1 d.2 v H h) (fun H h => B.place pa _ _ _ _ _ H h (by have := K.l64; omega)) (fun x a n cap H => B.ahead d.1 x a n cap H) (fun N v X => B.copy d.1 d.2 hps N v X)
 rw [K.ax.names] at e q1 q2
 refine ⟨_, h1, e, rfl, q3, q4, q5, ?_⟩
 have A1 : Ares (pb + 1) h1 xs ds := K.ax.off q3 fun b h1 h2 => q4 b h2 (by omega)
 by_cases hz : cardE (nms ds) d.1 d.2 = 0
 · obtain ⟨cv, y, zs', rfl, hc, ho, hg⟩ := q2 hz
   have hl := K.l64
   simp only [List.length_cons] at hl
   have hps' : posP d.1 (xs.map (·.c)) xs.length = posR d.1 (ds.map (·.1)) := by
    have := posP_posR (c := d.1) G.srt
    rw [List.length_map] at this
    rw [K.ax.crds, K.ax.1]
    exact this
   have hpl := posR_le d.1 (ds.map (·.1))
   rw [List.length_map] at hpl
   have hxd := K.ax.1
   refine ⟨xs.take (posR d.1 (ds.map (·.1))) ++ cv :: xs.drop (posR d.1 (ds.map (·.1))), zs', ?_, ?_, ?_⟩
   · rw [hps'] at hg
     rw [hg]
     have e1 : (xs.take (posR d.1 (ds.map (·.1))) ++ cv :: xs.drop (posR d.1 (ds.map (·.1)))).length = xs.length + 1 := by
      simp only [List.length_append, List.length_take, List.length_cons, List.length_drop]; omega
     rw [e1, List.append_assoc, List.cons_append]
   · simp only [List.length_append, List.length_take, List.length_cons, List.length_drop]; omega
   · unfold addC
     rw [if_pos hz]
     exact A1.ins hc (ho.from (by omega)) (by omega) hpl
 · obtain rfl := q1 hz
   refine ⟨xs, zs, K.a, K.l64, ?_⟩
   unfold addC
   rw [if_neg hz]
   exact A1
theorem bks_rcard (B : BTold orc) {pa pb : Nat} {ds ds2 : List Cd} {ms : List Mrk} {H : AH} {ys : List Cv} {lv : AV} (hb : H.get pb = some (.cells (rbC false lv ms) false)) (hr : RowW Cv.cells 9 (pb + 1) H lv ys) (hA : Ares (pb + 1) H ys ds) (hbn : pb < H.n) (G : Good ds) (d : Cd) (v : AV) (hw : Own (pb + 1) H v d.2) (hps : d.2.length * 40 ≤ 140737488355328) (hc : d.1.rng) (hr2 : ∀ p ∈ d.2, p.rng) :
    ∃ v1 h1, acall orc T 63 [.ptr (some (pb, 0)), .agg (d.1.cells v)] H = some (v1, h1) ∧ (v1 = .int .i64 (cardE (nms ds) d.1 d.2) ∧ H.n ≤ h1.n ∧ (∀ b, b < H.n → b ≠ pb → h1.get b = H.get b) ∧ (∀ N, N ≤ pb → N ≤ H.low → N ≤ h1.low) ∧
     ∃ lv' ys', h1.get pb = some (.cells (rbC false lv' ms) false) ∧ RowW Cv.cells 9 (pb + 1) h1 lv' ys' ∧ Ares (pb + 1) h1 ys' (addC ds d)) := by
 have hl : ys.length ≤ 64 := by rw [hA.1]; exact G.len
 obtain ⟨v1, h1, e, rfl, q1, q2, q3, q4, q5⟩ := rcard_spec (orc := orc) (B.none _ (by simp)) d.1 v d.2 hb hbn hl hr hw hps (B.rnone pb) (fun v H h => B.rchk d.1 d.2 hc hr2 v H h) (fun H h r => B.rplace pb (pb + 1) _ _ _ _ _ H h r hl) (fun x a n cap H => B.rahead d.1 x a n cap H) (fun N v X => B.rcopy d.1 d.2 hps N v X)
 rw [hA.names] at e q1 q2
 refine ⟨_, h1, e, rfl, q3, q4, q5, ?_⟩
 have A1 : Ares (pb + 1) h1 ys ds := hA.off q3 fun b h1 h2 => q4 b h2 (by omega)
 by_cases hz : cardE (nms ds) d.1 d.2 = 0
 · obtain ⟨cv, lv', hc, ho, hg, hrow⟩ := q2 hz
   have hpl := posR_le d.1 (ds.map (·.1))
   rw [List.length_map] at hpl
   rw [hA.crds] at hrow
   refine ⟨lv', _, hg, hrow.low (by omega), ?_⟩
   unfold addC
   rw [if_pos hz]
   exact A1.ins hc (ho.from (by omega)) (by omega) hpl
 · obtain rfl := q1 hz
   refine ⟨lv, ys, hb, hr, ?_⟩
   unfold addC
   rw [if_neg hz]
   exact A1
end Go.Proofs.Cards
