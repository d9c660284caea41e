/- The law CardTells: its region of open order, in every order; the walk ahead of it and behind it. -/
import Derived.Test.YtlppecefalblmaaGreatDoorFz05
import Derived.Test.YtlppecefalblmaaGreatDoorFz05
import Derived.Test.YtlppecefalblmaaGreatDoorFz06
import Derived.Test.YtlppecefalblmaaGreatDoorZtCdTell
import Derived.Test.YtlppecefalblmaaGreatDoorZtCdRefP
namespace Go.Proofs.Cards
set_option maxRecDepth 100000
set_option maxHeartbeats 32000000
open Go Go.Fs
set_option linter.unusedSimpArgs false
set_option linter.unusedVariables false
variable {orc : Orc}
structure Bs (h0 h : AH) (c : Crd) (v : AV) (ps : List Prt) (b1 r b3 : Nat) (X : AH) : Prop where
 gr : Grown h0 h
 low : h.n ≤ X.low
 ord : h.n ≤ b1 ∧ b1 < r ∧ r < b3 ∧ b3 < X.n
 old : ∀ b, b < h.n → X.get b = h.get b
 x1 : X.get b1 = some (.cells (c.cells v) false)
 x3 : X.get b3 = some (.cells (c.cells (.slice (some (r, 0)) ps.length (.exact (ps.length + 2)))) false)
 row : X.get r = some (.cells (pcells (ps ++ [mark, mark])) false)
theorem Bs.keep {h0 h X Y : AH} {c : Crd} {v : AV} {ps : List Prt} {b1 r b3 : Nat} (I : Bs h0 h c v ps b1 r b3 X) (hn : X.n ≤ Y.n) (hY : ∀ b, b ≤ b3 → Y.get b = X.get b) (hl : h.n ≤ Y.low) : Bs h0 h c v ps b1 r b3 Y := by
 have o := I.ord
 exact ⟨I.gr, hl, by omega, fun b hb => by rw [hY b (by omega), I.old b hb], by rw [hY _ (by omega), I.x1], by rw [hY _ (by omega), I.x3], by rw [hY _ (by omega), I.row]⟩
theorem Bs.grown {h0 h X : AH} {c : Crd} {v : AV} {ps : List Prt} {b1 r b3 : Nat} (I : Bs h0 h c v ps b1 r b3 X) : Grown h0 X :=
 ⟨by have := I.gr.1; have := I.ord; omega, fun b hb => by rw [I.old b (Nat.lt_of_lt_of_le hb I.gr.1), I.gr.2 b hb]⟩
theorem Bs.parts {h0 h X : AH} {c : Crd} {v : AV} {ps : List Prt} {b1 r b3 : Nat} (I : Bs h0 h c v ps b1 r b3 X) (hp : Parts h v ps) : Parts X v ps := hp.mono (by have := I.ord; omega) I.old
theorem Bs.lent {h0 h X : AH} {c : Crd} {v : AV} {ps : List Prt} {b1 r b3 : Nat} (I : Bs h0 h c v ps b1 r b3 X) (hl : ps.length * 40 ≤ 140737488355328) : Parts X (.slice (some (r, 0)) ps.length (.exact (ps.length + 2))) ps :=
 parts_block (qs := [mark, mark]) I.row (by have := I.ord; omega) rfl (by omega)
theorem Bs.full {h0 h X : AH} {c : Crd} {v : AV} {ps : List Prt} {b1 r b3 : Nat} (I : Bs h0 h c v ps b1 r b3 X) (hl : ps.length * 40 ≤ 140737488355328) : Parts X (.slice (some (r, 0)) (ps.length + 2) (.exact (ps.length + 2))) (ps ++ [mark, mark]) :=
 parts_block (qs := []) (by rw [List.append_nil]; exact I.row) (by have := I.ord; omega) (by simp) (by simp; omega)
theorem Own.keep {N : Nat} {X Y : AH} {v : AV} {ps : List Prt} (o : Own N X v ps) (hn : X.n ≤ Y.n) (hY : ∀ b, b < X.n → Y.get b = X.get b) : Own N Y v ps := by
 rcases o with o | ⟨b, o1, o2, o3, o4, o5⟩
 · exact .inl o
 · exact .inr ⟨b, o1, by omega, o3, by rw [hY b o2]; exact o4, o5⟩
theorem Own.weak {N M : Nat} {X : AH} {v : AV} {ps : List Prt} (o : Own N X v ps) (h : M ≤ N) : Own M X v ps := by
 rcases o with o | ⟨b, o1, o2⟩
 · exact .inl o
 · exact .inr ⟨b, by omega, o2⟩
theorem Own.set {N k : Nat} {X : AH} {v : AV} {ps : List Prt} {cs blk : List AV} (o : Own N X v ps) (hk : X.get k = some (.cells cs false)) (hc : cs.length = 9) : Own N (X.set k (.cells blk false)) v ps := by
 rcases o with o | ⟨b, o1, o2, o3, o4, o5⟩
 · exact .inl o
 · refine .inr ⟨b, o1, by simpa using o2, o3, ?_, o5⟩
   rw [Hp.get_set_ne]
   · exact o4
   · intro e
     rw [e, hk] at o4
     have := flat_len ps
     simp only [Option.some.injEq, Blk.cells.injEq, and_true] at o4
     rw [o4] at hc
     omega
structure Tl (c : Crd) (ps : List Prt) (b1 r b3 : Nat) (tm : List AV) : Prop where
 len : tm.length = 82
 t1 : tm.getD 1 AV.undef = .ptr (some (b1, 0))
 t3 : tm.getD 3 AV.undef = .ptr (some (b3, 0))
 t4 : tm.getD 4 AV.undef = .slice (some (r, 0)) (ps.length + 2) (.exact (ps.length + 2))
 t5 : tm.getD 5 AV.undef = .int .i64 (chkC c ps)
 t6 : tm.getD 6 AV.undef = .str (txtC c ps)
 t7 : tm.getD 7 AV.undef = .int .i64 (chkC c ps)
theorem Tl.put {c : Crd} {ps : List Prt} {b1 r b3 : Nat} {tm : List AV} (I : Tl c ps b1 r b3 tm) {k : Nat} (v : AV) (hk : 7 < k) : Tl c ps b1 r b3 (tm.set k v) := by
 have e : ∀ j, j ≤ 7 → (tm.set k v).getD j AV.undef = tm.getD j AV.undef := fun j hj => by
  simp only [List.getD_eq_getElem?_getD, List.getElem?_set_ne (show k ≠ j by omega)]
 exact ⟨by rw [List.length_set]; exact I.len, by rw [e _ (by omega)]; exact I.t1, by rw [e _ (by omega)]; exact I.t3, by rw [e _ (by omega)]; exact I.t4, by rw [e _ (by omega)]; exact I.t5, by rw [e _ (by omega)]; exact I.t6, by rw [e _ (by omega)]; exact I.t7⟩
theorem getD_put {tm : List AV} {k : Nat} {v : AV} (hk : k < tm.length) : (tm.set k v).getD k AV.undef = v := by
 simp [List.getD_eq_getElem?_getD, hk]
theorem getD_other {tm : List AV} {k j : Nat} {v : AV} (hk : k ≠ j) : (tm.set k v).getD j AV.undef = tm.getD j AV.undef := by
 simp only [List.getD_eq_getElem?_getD, List.getElem?_set_ne hk]
abbrev z9 : List AV := [.str [], .int .u8 0, .int .u8 0, .int .i64 0, .int .i64 0, .int .i64 0, .int .u16 0, .bool false, .slice none 0 (.exact 0)]
structure Ea (c : Crd) (ps : List Prt) (r b3 : Nat) (L : Nat → Bool) (tm : List AV) (X : AH) : Prop where
 d0 : L 0 = true → tm.getD 25 AV.undef = .agg (c.cells (.slice (some (r, 0)) ps.length (.exact (ps.length + 2))))
 d2 : L 2 = true → tm.getD 27 AV.undef = .agg (c.cells (.slice (some (r, 0)) ps.length (.exact (ps.length + 2))))
 d1 : L 1 = true → ∃ v1, tm.getD 26 AV.undef = .agg (c.cells v1) ∧ Own (b3 + 1) X v1 ps
 d3 : L 3 = true → ∃ v1 v2, tm.getD 26 AV.undef = .agg (c.cells v1) ∧ Own (b3 + 1) X v1 ps ∧ tm.getD 28 AV.undef = .agg (c.cells v2) ∧ Own (b3 + 1) X v2 ps ∧ (ps = [] ∨ v1 ≠ v2)
 d4 : L 4 = true → ∃ b, tm.getD 8 AV.undef = .ptr (some (b, 0)) ∧ b3 < b ∧ b < X.n ∧ X.get b = some (.cells z9 false)
 d5 : L 5 = true → ∃ b, tm.getD 9 AV.undef = .ptr (some (b, 0)) ∧ b3 < b ∧ b < X.n ∧ X.get b = some (.cells z9 false)
 d45 : L 4 = true → L 5 = true → tm.getD 8 AV.undef ≠ tm.getD 9 AV.undef
 d31 : L 3 = true → L 1 = true ∧ L 2 = true
def Al (c : Crd) (ps : List Prt) (b3 : Nat) (tm : List AV) (X : AH) (n : Nat) : Prop :=
 ∃ v1 v2 b8 b9, tm.getD 26 AV.undef = .agg (c.cells v1) ∧ Own (b3 + 1) X v1 ps ∧ tm.getD 28 AV.undef = .agg (c.cells v2) ∧ Own (b3 + 1) X v2 ps ∧ (ps = [] ∨ v1 ≠ v2) ∧
  tm.getD 8 AV.undef = .ptr (some (b8, 0)) ∧ b3 < b8 ∧ b8 < X.n ∧ tm.getD 9 AV.undef = .ptr (some (b9, 0)) ∧ b3 < b9 ∧ b9 < X.n ∧ b8 ≠ b9 ∧
  X.get b8 = some (.cells (c.cells v1) false) ∧ X.get b9 = some (.cells (if n = 0 then z9 else c.cells v2) false)
def Inv (h0 h : AH) (c : Crd) (v : AV) (ps : List Prt) (b1 r b3 : Nat) (L : Nat → Bool) (tm : List AV) (X : AH) : Prop :=
 Tl c ps b1 r b3 tm ∧ Bs h0 h c v ps b1 r b3 X ∧
  ((L 6 = false ∧ L 7 = false ∧ Ea c ps r b3 L tm X) ∨ (L 6 = true ∧ L 7 = false ∧ (∀ k, k < 6 → L k = true) ∧ Al c ps b3 tm X 0) ∨ (L 7 = true ∧ (∀ k, k < 7 → L k = true) ∧ Al c ps b3 tm X 1))
theorem Ea.grow {c : Crd} {ps : List Prt} {r b3 : Nat} {L : Nat → Bool} {tm : List AV} {X Y : AH} (I : Ea c ps r b3 L tm X) (hn : X.n ≤ Y.n) (hY : ∀ b, b < X.n → Y.get b = X.get b) : Ea c ps r b3 L tm Y where
 d0 := I.d0
 d2 := I.d2
 d1 := fun k => by obtain ⟨v1, a, o⟩ := I.d1 k; exact ⟨v1, a, o.keep hn hY⟩
 d3 := fun k => by obtain ⟨v1, v2, a, o, b, p, q⟩ := I.d3 k; exact ⟨v1, v2, a, o.keep hn hY, b, p.keep hn hY, q⟩
 d4 := fun k => by obtain ⟨b, a, x, y, z⟩ := I.d4 k; exact ⟨b, a, x, by omega, by rw [hY b y]; exact z⟩
 d5 := fun k => by obtain ⟨b, a, x, y, z⟩ := I.d5 k; exact ⟨b, a, x, by omega, by rw [hY b y]; exact z⟩
 d45 := I.d45
 d31 := I.d31
theorem own_ne {N M : Nat} {X Y : AH} {v1 v2 : AV} {ps : List Prt} (o1 : Own N X v1 ps) (hM : X.n ≤ M) (o2 : Own M Y v2 ps) : ps = [] ∨ v1 ≠ v2 := by
 rcases o1 with o1 | ⟨b, a1, a2, rfl, _⟩
 · exact .inl o1.1
 · rcases o2 with o2 | ⟨b', c1, c2, rfl, _⟩
   · exact .inl o2.1
   · refine .inr fun e => ?_
     simp only [AV.slice.injEq, Option.some.injEq, Prod.mk.injEq, and_true] at e
     omega
def cs3 : List CR := [⟨some 25, .load (some 9) (.t 3), none⟩, ⟨some 26, .call (.f 10) [.t 25], none⟩, ⟨some 27, .load (some 9) (.t 3), none⟩, ⟨some 28, .call (.f 10) [.t 27], none⟩, ⟨some 8, .alloc z9, none⟩, ⟨some 9, .alloc z9, none⟩, ⟨none, .store 9 (.t 8) (.t 26), none⟩, ⟨none, .store 9 (.t 9) (.t 28), none⟩]
def deps3 : List (List Nat) := [[], [0], [], [2, 1], [], [], [4, 1, 3, 0, 1, 4, 5], [5, 3, 6, 0, 1, 2, 3, 4, 5, 6]]
theorem load_at {call : Rec} {tm : List AV} {X : AH} {b3 : Nat} {c : Crd} {v : AV} (t3 : tm.getD 3 AV.undef = .ptr (some (b3, 0))) (x3 : X.get b3 = some (.cells (c.cells v) false)) : runOp call (.load (some 9) (.t 3)) tm X = some (.agg (c.cells v), X) := by
 rw [op_load]
 show loadV (tm.getD 3 AV.undef) X (some 9) = _
 rw [t3, loadV_ptr]
 simp [readVar, readCells, x3, cut, cells_len, cells_take]
theorem store_at {call : Rec} {tm : List AV} {X : AH} {i j b : Nat} {c : Crd} {v : AV} {ps : List Prt} {N : Nat} (ti : tm.getD i AV.undef = .ptr (some (b, 0))) (tj : tm.getD j AV.undef = .agg (c.cells v)) (xb : X.get b = some (.cells z9 false)) (hv : Own N X v ps) :
    runOp call (.store 9 (.t i) (.t j)) tm X = some (AV.undef, X.set b (.cells (c.cells v) false)) := by
 rw [op_store]
 show storeV 9 (tm.getD i AV.undef) (tm.getD j AV.undef) X = _
 rw [ti, tj, storeV_ptr]
 have z5 : (c.cells v).all AV.one = true := by
  rcases hv with ⟨_, rfl⟩ | ⟨q, _, _, rfl, _⟩ <;> rfl
 have o9 : Fs.over z9 0 (c.cells v) = c.cells v := ov_9 zeroC c nilV v
 simp only [AV.cells, cells_len, if_true, writeCells, xb, z5, o9, Nat.zero_add, Bool.and_true]
 rfl
theorem region_step {call : Rec} {h0 h : AH} {c : Crd} {v : AV} {ps : List Prt} {b1 r b3 : Nat} (hl : ps.length * 40 ≤ 140737488355328)
    (hC : ∀ (X : AH), Parts X (.slice (some (r, 0)) ps.length (.exact (ps.length + 2))) ps → h.n ≤ X.n → ∃ v1 h1, call 10 [.agg (c.cells (.slice (some (r, 0)) ps.length (.exact (ps.length + 2))))] X = some (v1, h1) ∧ ∃ v', v1 = .agg (c.cells v') ∧ Ef.Kp h.n X h1 ∧ Parts h1 v' ps ∧ Own X.n h1 v' ps)
    (i : Nat) (ds : List Nat) (L : Nat → Bool) (tm : List AV) (X : AH) (hd : deps3[i]? = some ds) (hds : ∀ d ∈ ds, L d = true) (hi : L i = false) (I : Inv h0 h c v ps b1 r b3 L tm X) :
      ∃ c', cs3[i]? = some c' ∧ c'.wanted tm = true ∧ ∃ w X', runOp call c'.op tm X = some (w, X') ∧ Inv h0 h c v ps b1 r b3 (fun k => if k = i then true else L k) (put tm c'.dst w) X' := by
 obtain ⟨T, B, J⟩ := I
 have h8 : i < 8 := (List.getElem?_eq_some_iff.1 hd).1
 obtain rfl | rfl | rfl | rfl | rfl | rfl | rfl | rfl : i = 0 ∨ i = 1 ∨ i = 2 ∨ i = 3 ∨ i = 4 ∨ i = 5 ∨ i = 6 ∨ i = 7 := by omega
 all_goals (obtain rfl := (Option.some.inj hd : _ = ds))
 · -- 0
   refine ⟨_, rfl, rfl, .agg (c.cells (.slice (some (r, 0)) ps.length (.exact (ps.length + 2)))), X, load_at T.t3 B.x3, T.put _ (by decide), B, ?_⟩
   rcases J with ⟨l6, l7, I⟩ | ⟨l6, l7, ha, J⟩ | ⟨l7, ha, J⟩
   rotate_left
   · exact absurd (ha 0 (by decide)) (by rw [hi]; decide)
   · exact absurd (ha 0 (by decide)) (by rw [hi]; decide)
   refine .inl ?_
   have g : ∀ j, 25 ≠ j → (tm.set 25 (.agg (c.cells (.slice (some (r, 0)) ps.length (.exact (ps.length + 2)))))).getD j AV.undef = tm.getD j AV.undef := fun j hj => getD_other hj
   have s : (tm.set 25 (.agg (c.cells (.slice (some (r, 0)) ps.length (.exact (ps.length + 2)))))).getD 25 AV.undef = .agg (c.cells (.slice (some (r, 0)) ps.length (.exact (ps.length + 2)))) := getD_put (by rw [T.len]; decide)
   refine ⟨by simpa using l6, by simpa using l7, ?_⟩
   show Ea c ps r b3 _ (tm.set 25 (.agg (c.cells (.slice (some (r, 0)) ps.length (.exact (ps.length + 2)))))) _
   exact ⟨(fun _ => s), (fun k => by rw [g 27 (by decide)]; exact I.d2 (by simpa using k)), (fun k => by rw [g 26 (by decide)]; exact I.d1 (by simpa using k)), (fun k => by rw [g 26 (by decide), g 28 (by decide)]; exact I.d3 (by simpa using k)), (fun k => by rw [g 8 (by decide)]; exact I.d4 (by simpa using k)), (fun k => by rw [g 9 (by decide)]; exact I.d5 (by simpa using k)), (fun k k2 => by rw [g 8 (by decide), g 9 (by decide)]; exact I.d45 (by simpa using k) (by simpa using k2)), (fun k => by have := I.d31 (by simpa using k); exact ⟨by simp [this.1], by simp [this.2]⟩)⟩
 · -- 1
   rcases J with ⟨l6, l7, I⟩ | ⟨l6, l7, ha, J⟩ | ⟨l7, ha, J⟩
   rotate_left
   · exact absurd (ha 1 (by decide)) (by rw [hi]; decide)
   · exact absurd (ha 1 (by decide)) (by rw [hi]; decide)
   obtain ⟨_, Y, e, v', rfl, k, _, o⟩ := hC X (B.lent hl) (by have := B.ord; omega)
   have kn := k.n
   have ao := B.ord
   refine ⟨_, rfl, rfl, .agg (c.cells v'), Y, ?_, T.put _ (by decide), B.keep kn (fun b hb => k.get b (by omega)) (k.low (by omega) B.low), .inl ?_⟩
   · rw [op_call]; show call 10 [tm.getD 25 AV.undef] X = _; rw [I.d0 (hds _ (by simp))]; exact e
   have I0 := I
   replace I := I.grow kn k.get
   have g : ∀ j, 26 ≠ j → (tm.set 26 (.agg (c.cells v'))).getD j AV.undef = tm.getD j AV.undef := fun j hj => getD_other hj
   have s : (tm.set 26 (.agg (c.cells v'))).getD 26 AV.undef = .agg (c.cells v') := getD_put (by rw [T.len]; decide)
   refine ⟨by simpa using l6, by simpa using l7, ?_⟩
   show Ea c ps r b3 _ (tm.set 26 (.agg (c.cells v'))) _
   exact ⟨(fun k => by rw [g 25 (by decide)]; exact I.d0 (by simpa using k)), (fun k => by rw [g 27 (by decide)]; exact I.d2 (by simpa using k)), (fun _ => ⟨v', s, o.weak (by omega)⟩), (fun k => absurd (I.d31 (by simpa using k)).1 (by rw [hi]; decide)), (fun k => by rw [g 8 (by decide)]; exact I.d4 (by simpa using k)), (fun k => by rw [g 9 (by decide)]; exact I.d5 (by simpa using k)), (fun k k2 => by rw [g 8 (by decide), g 9 (by decide)]; exact I.d45 (by simpa using k) (by simpa using k2)), (fun k => by have := I.d31 (by simpa using k); exact ⟨by simp, by simpa using this.2⟩)⟩
 · -- 2
   refine ⟨_, rfl, rfl, .agg (c.cells (.slice (some (r, 0)) ps.length (.exact (ps.length + 2)))), X, load_at T.t3 B.x3, T.put _ (by decide), B, ?_⟩
   rcases J with ⟨l6, l7, I⟩ | ⟨l6, l7, ha, J⟩ | ⟨l7, ha, J⟩
   rotate_left
   · exact absurd (ha 2 (by decide)) (by rw [hi]; decide)
   · exact absurd (ha 2 (by decide)) (by rw [hi]; decide)
   refine .inl ?_
   have g : ∀ j, 27 ≠ j → (tm.set 27 (.agg (c.cells (.slice (some (r, 0)) ps.length (.exact (ps.length + 2)))))).getD j AV.undef = tm.getD j AV.undef := fun j hj => getD_other hj
   have s : (tm.set 27 (.agg (c.cells (.slice (some (r, 0)) ps.length (.exact (ps.length + 2)))))).getD 27 AV.undef = .agg (c.cells (.slice (some (r, 0)) ps.length (.exact (ps.length + 2)))) := getD_put (by rw [T.len]; decide)
   refine ⟨by simpa using l6, by simpa using l7, ?_⟩
   show Ea c ps r b3 _ (tm.set 27 (.agg (c.cells (.slice (some (r, 0)) ps.length (.exact (ps.length + 2)))))) _
   exact ⟨(fun k => by rw [g 25 (by decide)]; exact I.d0 (by simpa using k)), (fun _ => s), (fun k => by rw [g 26 (by decide)]; exact I.d1 (by simpa using k)), (fun k => by rw [g 26 (by decide), g 28 (by decide)]; exact I.d3 (by simpa using k)), (fun k => by rw [g 8 (by decide)]; exact I.d4 (by simpa using k)), (fun k => by rw [g 9 (by decide)]; exact I.d5 (by simpa using k)), (fun k k2 => by rw [g 8 (by decide), g 9 (by decide)]; exact I.d45 (by simpa using k) (by simpa using k2)), (fun k => by have := I.d31 (by simpa using k); exact ⟨by simp [this.1], by simp [this.2]⟩)⟩
 · -- 3
   rcases J with ⟨l6, l7, I⟩ | ⟨l6, l7, ha, J⟩ | ⟨l7, ha, J⟩
   rotate_left
   · exact absurd (ha 3 (by decide)) (by rw [hi]; decide)
   · exact absurd (ha 3 (by decide)) (by rw [hi]; decide)
   obtain ⟨_, Y, e, v', rfl, k, _, o⟩ := hC X (B.lent hl) (by have := B.ord; omega)
   have kn := k.n
   have ao := B.ord
   refine ⟨_, rfl, rfl, .agg (c.cells v'), Y, ?_, T.put _ (by decide), B.keep kn (fun b hb => k.get b (by omega)) (k.low (by omega) B.low), .inl ?_⟩
   · rw [op_call]; show call 10 [tm.getD 27 AV.undef] X = _; rw [I.d2 (hds _ (by simp))]; exact e
   have I0 := I
   replace I := I.grow kn k.get
   have g : ∀ j, 28 ≠ j → (tm.set 28 (.agg (c.cells v'))).getD j AV.undef = tm.getD j AV.undef := fun j hj => getD_other hj
   have s : (tm.set 28 (.agg (c.cells v'))).getD 28 AV.undef = .agg (c.cells v') := getD_put (by rw [T.len]; decide)
   refine ⟨by simpa using l6, by simpa using l7, ?_⟩
   show Ea c ps r b3 _ (tm.set 28 (.agg (c.cells v'))) _
   exact ⟨(fun k => by rw [g 25 (by decide)]; exact I.d0 (by simpa using k)), (fun k => by rw [g 27 (by decide)]; exact I.d2 (by simpa using k)), (fun k => by rw [g 26 (by decide)]; exact I.d1 (by simpa using k)), (fun _ => by obtain ⟨v1, a, o1⟩ := I0.d1 (hds 1 (by simp)); exact ⟨v1, v', by rw [g 26 (by decide)]; exact a, o1.keep kn k.get, s, o.weak (by omega), own_ne o1 (Nat.le_refl _) o⟩), (fun k => by rw [g 8 (by decide)]; exact I.d4 (by simpa using k)), (fun k => by rw [g 9 (by decide)]; exact I.d5 (by simpa using k)), (fun k k2 => by rw [g 8 (by decide), g 9 (by decide)]; exact I.d45 (by simpa using k) (by simpa using k2)), (fun _ => ⟨by simpa using hds 1 (by simp), by simpa using hds 2 (by simp)⟩)⟩
 · -- 4
   rcases J with ⟨l6, l7, I⟩ | ⟨l6, l7, ha, J⟩ | ⟨l7, ha, J⟩
   rotate_left
   · exact absurd (ha 4 (by decide)) (by rw [hi]; decide)
   · exact absurd (ha 4 (by decide)) (by rw [hi]; decide)
   have ao := B.ord
   have lo := B.low
   have pu : ∀ b, b < X.n → (X.push (.cells z9 false)).get b = X.get b := fun b hb => Hp.get_push_ne _ _ _ (by omega)
   refine ⟨_, rfl, rfl, .ptr (some (X.n, 0)), X.push (.cells z9 false), rfl, T.put _ (by decide), B.keep (by simp) (fun b hb => pu b (by omega)) (by simpa using lo), .inl ?_⟩
   have I0 := I
   replace I := I.grow (Y := X.push (.cells z9 false)) (by simp) pu
   have g : ∀ j, 8 ≠ j → (tm.set 8 (.ptr (some (X.n, 0)))).getD j AV.undef = tm.getD j AV.undef := fun j hj => getD_other hj
   have s : (tm.set 8 (.ptr (some (X.n, 0)))).getD 8 AV.undef = .ptr (some (X.n, 0)) := getD_put (by rw [T.len]; decide)
   refine ⟨by simpa using l6, by simpa using l7, ?_⟩
   show Ea c ps r b3 _ (tm.set 8 (.ptr (some (X.n, 0)))) _
   exact ⟨(fun k => by rw [g 25 (by decide)]; exact I.d0 (by simpa using k)), (fun k => by rw [g 27 (by decide)]; exact I.d2 (by simpa using k)), (fun k => by rw [g 26 (by decide)]; exact I.d1 (by simpa using k)), (fun k => by rw [g 26 (by decide), g 28 (by decide)]; exact I.d3 (by simpa using k)), (fun _ => ⟨X.n, s, by omega, by simp, Hp.get_push_self _ _⟩), (fun k => by rw [g 9 (by decide)]; exact I.d5 (by simpa using k)), (fun _ k2 => by obtain ⟨b, a, x, y, z⟩ := I0.d5 (by simpa using k2); rw [s, g 9 (by decide), a]; simp; omega), (fun k => by have := I.d31 (by simpa using k); exact ⟨by simp [this.1], by simp [this.2]⟩)⟩
 · -- 5
   rcases J with ⟨l6, l7, I⟩ | ⟨l6, l7, ha, J⟩ | ⟨l7, ha, J⟩
   rotate_left
   · exact absurd (ha 5 (by decide)) (by rw [hi]; decide)
   · exact absurd (ha 5 (by decide)) (by rw [hi]; decide)
   have ao := B.ord
   have lo := B.low
   have pu : ∀ b, b < X.n → (X.push (.cells z9 false)).get b = X.get b := fun b hb => Hp.get_push_ne _ _ _ (by omega)
   refine ⟨_, rfl, rfl, .ptr (some (X.n, 0)), X.push (.cells z9 false), rfl, T.put _ (by decide), B.keep (by simp) (fun b hb => pu b (by omega)) (by simpa using lo), .inl ?_⟩
   have I0 := I
   replace I := I.grow (Y := X.push (.cells z9 false)) (by simp) pu
   have g : ∀ j, 9 ≠ j → (tm.set 9 (.ptr (some (X.n, 0)))).getD j AV.undef = tm.getD j AV.undef := fun j hj => getD_other hj
   have s : (tm.set 9 (.ptr (some (X.n, 0)))).getD 9 AV.undef = .ptr (some (X.n, 0)) := getD_put (by rw [T.len]; decide)
   refine ⟨by simpa using l6, by simpa using l7, ?_⟩
   show Ea c ps r b3 _ (tm.set 9 (.ptr (some (X.n, 0)))) _
   exact ⟨(fun k => by rw [g 25 (by decide)]; exact I.d0 (by simpa using k)), (fun k => by rw [g 27 (by decide)]; exact I.d2 (by simpa using k)), (fun k => by rw [g 26 (by decide)]; exact I.d1 (by simpa using k)), (fun k => by rw [g 26 (by decide), g 28 (by decide)]; exact I.d3 (by simpa using k)), (fun k => by rw [g 8 (by decide)]; exact I.d4 (by simpa using k)), (fun _ => ⟨X.n, s, by omega, by simp, Hp.get_push_self _ _⟩), (fun k2 _ => by obtain ⟨b, a, x, y, z⟩ := I0.d4 (by simpa using k2); rw [s, g 8 (by decide), a]; simp; omega), (fun k => by have := I.d31 (by simpa using k); exact ⟨by simp [this.1], by simp [this.2]⟩)⟩
 · -- 6
   rcases J with ⟨l6, l7, I⟩ | ⟨l6, l7, ha, J⟩ | ⟨l7, ha, J⟩
   rotate_left
   · rw [l6] at hi; cases hi
   · rw [ha 6 (by decide)] at hi; cases hi
   obtain ⟨v1, v2, a1, o1, a2, o2, ne⟩ := I.d3 (hds 3 (by simp))
   obtain ⟨b8, e8, p8, q8, g8⟩ := I.d4 (hds 4 (by simp))
   obtain ⟨b9, e9, p9, q9, g9⟩ := I.d5 (hds 5 (by simp))
   have n89 : b8 ≠ b9 := fun e => I.d45 (hds 4 (by simp)) (hds 5 (by simp)) (by rw [e8, e9, e])
   have ao := B.ord
   have lo := B.low
   refine ⟨_, rfl, rfl, AV.undef, X.set b8 (.cells (c.cells v1) false), store_at e8 a1 g8 o1, T, B.keep (by simp) (fun b hb => Hp.get_set_ne _ _ _ _ (by omega)) (by simp; omega), .inr (.inl ⟨by simp, by simpa using l7, ?_, ?_⟩)⟩
   · intro k hk
     have h1 := (I.d31 (hds 3 (by simp))).2
     obtain rfl | rfl | rfl | rfl | rfl | rfl : k = 0 ∨ k = 1 ∨ k = 2 ∨ k = 3 ∨ k = 4 ∨ k = 5 := by omega
     all_goals (first | (simpa using h1) | (simpa using hds _ (by simp)))
   · exact ⟨v1, v2, b8, b9, a1, o1.set g8 rfl, a2, o2.set g8 rfl, ne, e8, p8, by simpa using q8, e9, p9, by simpa using q9, n89, Hp.get_set_self _ _ _, by rw [Hp.get_set_ne _ _ _ _ (Ne.symm n89)]; exact g9⟩
 · -- 7
   rcases J with ⟨l6, l7, I⟩ | ⟨l6, l7, ha, J⟩ | ⟨l7, ha, J⟩
   · rw [hds 6 (by simp)] at l6; cases l6
   · obtain ⟨v1, v2, b8, b9, a1, o1, a2, o2, ne, e8, p8, q8, e9, p9, q9, n89, g8, g9⟩ := J
     have ao := B.ord
     have lo := B.low
     rw [if_pos rfl] at g9
     refine ⟨_, rfl, rfl, AV.undef, X.set b9 (.cells (c.cells v2) false), store_at e9 a2 g9 o2, T, B.keep (by simp) (fun b hb => Hp.get_set_ne _ _ _ _ (by omega)) (by simp; omega), .inr (.inr ⟨by simp, ?_, ?_⟩)⟩
     · intro k hk
       have h1 : L k = true := by
        by_cases h6 : k = 6
        · subst h6; exact l6
        · exact ha k (by omega)
       simp [h1]
     · exact ⟨v1, v2, b8, b9, a1, o1.set g9 rfl, a2, o2.set g9 rfl, ne, e8, p8, by simpa using q8, e9, p9, by simpa using q9, n89, by rw [Hp.get_set_ne _ _ _ _ n89]; exact g8, by rw [if_neg (by decide)]; exact Hp.get_set_self _ _ _⟩
   · rw [l7] at hi; cases hi
end Go.Proofs.Cards
