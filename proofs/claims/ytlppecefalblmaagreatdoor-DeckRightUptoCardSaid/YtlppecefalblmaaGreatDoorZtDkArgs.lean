/- What goes into a book, handed in: what stands in memory then. -/
import Derived.Test.YtlppecefalblmaaGreatDoorFz05
import Derived.Test.YtlppecefalblmaaGreatDoorZtCdArgs
import Derived.Test.YtlppecefalblmaaGreatDoorZtBkFill
namespace Go.Proofs.Cards
set_option maxRecDepth 100000
set_option maxHeartbeats 32000000
open Go Go.Fs
set_option linter.unusedSimpArgs false
set_option linter.unusedVariables false
section
variable {H : Type}
def CD (H : Type) := Crd × DataW H
def CD.data (x : CD H) : DataW H := x.1.data x.2
def Mrk.data (m : Mrk) : DataW H := .agg [.lit (.int .u8 m.m), .lit (.string m.s), .lit (.int .i64 m.p), .lit (.int .i64 m.h)]
theorem absd_card5 (c : Crd) {d : DataW H} {v : AV} {h h' : AH} (hd : absD Tryz.prog (fun _ => false) 4 26 d h = some ([v], h')) : absD Tryz.prog (fun _ => false) 5 28 (c.data d) h = some (c.cells v, h') := by
 have := absd_card c hd
 unfold absArg at this
 rw [Tryz.underlying28] at this
 generalize absD Tryz.prog (fun _ => false) 5 28 (c.data d) h = r at this ⊢
 cases r with
 | none => cases this
 | some x =>
   obtain ⟨cs, h2⟩ := x
   simp only [Option.map_some, Option.some.injEq, Prod.mk.injEq, AV.agg.injEq] at this
   rw [this.1, this.2]
def FCd (h : AH) (x : Cv × Cd) : Prop := x.1.c = x.2.1 ∧ Parts h x.1.sl x.2.2 ∧ x.2.2.length * 40 ≤ 140737488355328 ∧ x.2.1.rng ∧ ∀ p ∈ x.2.2, p.rng
theorem fcd_mono {h X : AH} {x : Cv × Cd} (F : FCd h x) (hn : h.n ≤ X.n) (hX : ∀ b, b < h.n → X.get b = h.get b) : FCd X x := ⟨F.1, F.2.1.mono hn hX, F.2.2⟩
theorem absl_cards : ∀ (zs : List (CD H)) (h : AH), (∀ z ∈ zs, Fits z.2 ∧ z.1.rng) → ∃ (L : List (Cv × Cd)) (h' : AH), absL (absD Tryz.prog (fun _ => false) 5 28) (zs.map CD.data) h = some (L.flatMap fun x => x.1.cells, h') ∧ L.length = zs.length ∧ h.n ≤ h'.n ∧ (∀ b, b < h.n → h'.get b = h.get b) ∧ ∀ x ∈ L, FCd h' x
 | [], h, _ => ⟨[], h, rfl, rfl, Nat.le_refl _, fun _ _ => rfl, by simp⟩
 | z :: zs, h, hz => by
   obtain ⟨v, h1, ps, e1, p1, n1, o1, l1, r1⟩ := absd_parts (hz z (by simp)).1 h
   obtain ⟨L, h2, e2, l2, n2, o2, f2⟩ := absl_cards zs h1 fun x hx => hz x (by simp [hx])
   obtain ⟨a, cap, rfl⟩ : ∃ a cap, v = .slice a ps.length cap := by obtain ⟨a, cap, e, _⟩ := p1; exact ⟨a, cap, e⟩
   refine ⟨((⟨z.1, a, ps.length, cap⟩ : Cv), (z.1, ps)) :: L, h2, ?_, by simp [l2], by omega, fun b hb => by rw [o2 b (by omega), o1 b hb], fun x hx => ?_⟩
   · rw [List.map_cons, absL]
     unfold CD.data
     rw [absd_card5 z.1 e1, Option.bind_some]
     have e3 : absL (absD Tryz.prog (fun _ => false) 5 28) (zs.map fun x : CD H => x.1.data x.2) h1 = some (L.flatMap fun x => x.1.cells, h2) := e2
     simp only [e3, Option.map_some, List.flatMap_cons]
     rfl
   · rcases List.mem_cons.1 hx with rfl | hx
     · exact ⟨rfl, p1.mono n2 o2, by simp only; omega, (hz z (by simp)).2, r1⟩
     · exact f2 x hx
theorem cells28 : Tryz.prog.cellsOf 28 = 9 := by kernel_rfl
theorem cells100 : Tryz.prog.cellsOf 100 = 4 := by kernel_rfl
def FitsC (d : DataW H) : Prop := d = .nil ∨ ∃ xs ys : List (CD H), d = .slice (xs.map CD.data) (ys.map CD.data) ∧ ∀ z ∈ xs ++ ys, Fits z.2 ∧ z.1.rng
theorem absd_cards {d : DataW H} (hd : FitsC d) (h : AH) : ∃ (v : AV) (h' : AH) (L : List (Cv × Cd)), absD Tryz.prog (fun _ => false) 6 42 d h = some ([v], h') ∧ RowR Cv.cells 9 h' v (L.map Prod.fst) ∧ h.n ≤ h'.n ∧ (∀ b, b < h.n → h'.get b = h.get b) ∧ ∀ x ∈ L, FCd h' x := by
 rcases hd with rfl | ⟨xs, ys, rfl, hz⟩
 · refine ⟨.slice none 0 (.exact 0), h, [], ?_, ⟨none, .exact 0, rfl, .inl rfl⟩, Nat.le_refl _, fun _ _ => rfl, fun x hx => by cases hx⟩
   simp [absD, Tryz.underlying42]
 · by_cases hz0 : xs.length + ys.length = 0
   · have hx0 : xs = [] := List.eq_nil_of_length_eq_zero (by omega)
     have hy0 : ys = [] := List.eq_nil_of_length_eq_zero (by omega)
     subst hx0 hy0
     refine ⟨.slice (some (h.n, 0)) 0 (.exact 0), h.push .dead, [], ?_, ⟨_, .exact 0, rfl, .inl rfl⟩, by simp, fun b hb => Hp.get_push_ne _ _ _ (by omega), fun x hx => by cases hx⟩
     rw [absD_slice Tryz.underlying42 (by rfl)]
     rfl
   · obtain ⟨L, h1, e1, l1, n1, o1, f1⟩ := absl_cards (xs ++ ys) h hz
     have ll : (L.take xs.length).length = xs.length := by rw [List.length_take, l1, List.length_append]; omega
     refine ⟨.slice (some (h1.n, 0)) xs.length (.exact (xs.length + ys.length)), h1.push (.cells (L.flatMap fun x => x.1.cells) true), L.take xs.length, ?_, ⟨some (h1.n, 0), .exact (xs.length + ys.length), by rw [List.length_map, ll], .inr ⟨h1.n, 0, _, true, rfl, by simp, Hp.get_push_self _ _, fun i x hx => ?_⟩⟩, by simp; omega, fun b hb => by rw [Hp.get_push_ne _ _ _ (by omega), o1 b hb], fun x hx => fcd_mono (f1 x (List.mem_of_mem_take hx)) (by simp) fun b hb => Hp.get_push_ne _ _ _ (by omega)⟩
     · rw [absD_slice Tryz.underlying42 (by rfl), List.length_map, List.length_map, if_neg hz0, cells28, if_pos (by decide), ← List.map_append, e1]
       rfl
     · rw [List.getElem?_map] at hx
       obtain ⟨y, hy, rfl⟩ := Option.map_eq_some_iff.1 hx
       have hy' : L[i]? = some y := by
        rw [List.getElem?_take] at hy
        split at hy
        · exact hy
        · cases hy
       have := rows_cut (f := fun x : Cv × Cd => x.1.cells) (k := 9) (pre := []) (post := []) (fun x => cv_len x.1) hy'
       simpa using this
theorem absd_mark (m : Mrk) (h : AH) : absD (H := H) Tryz.prog (fun _ => false) 5 100 m.data h = some (m.cells, h) := by kernel_rfl
theorem absl_marks (h : AH) : ∀ ms : List Mrk, absL (H := H) (absD Tryz.prog (fun _ => false) 5 100) (ms.map Mrk.data) h = some (ms.flatMap Mrk.cells, h)
 | [] => rfl
 | m :: ms => by
   rw [List.map_cons, absL, absd_mark]
   simp only [absl_marks h ms, Option.bind_some, Option.map_some]
   rfl
def FitsM (d : DataW H) : Prop := d = .nil ∨ ∃ ms ns : List Mrk, d = .slice (ms.map Mrk.data) (ns.map Mrk.data) ∧ ∀ m ∈ ms, 0 ≤ m.m ∧ m.m ≤ 255
theorem absd_marks {d : DataW H} (hd : FitsM d) (h : AH) : ∃ (v : AV) (h' : AH) (ms : List Mrk), absD Tryz.prog (fun _ => false) 6 43 d h = some ([v], h') ∧ RowR Mrk.cells 4 h' v ms ∧ h.n ≤ h'.n ∧ (∀ b, b < h.n → h'.get b = h.get b) ∧ ∀ m ∈ ms, 0 ≤ m.m ∧ m.m ≤ 255 := by
 rcases hd with rfl | ⟨xs, ys, rfl, hr⟩
 · refine ⟨.slice none 0 (.exact 0), h, [], ?_, ⟨none, .exact 0, rfl, .inl rfl⟩, Nat.le_refl _, fun _ _ => rfl, by simp⟩
   simp [absD, Tryz.underlying43]
 · by_cases hz0 : xs.length + ys.length = 0
   · have hx0 : xs = [] := List.eq_nil_of_length_eq_zero (by omega)
     have hy0 : ys = [] := List.eq_nil_of_length_eq_zero (by omega)
     subst hx0 hy0
     refine ⟨.slice (some (h.n, 0)) 0 (.exact 0), h.push .dead, [], ?_, ⟨_, .exact 0, rfl, .inl rfl⟩, by simp, fun b hb => Hp.get_push_ne _ _ _ (by omega), by simp⟩
     rw [absD_slice Tryz.underlying43 (by rfl)]
     rfl
   · refine ⟨.slice (some (h.n, 0)) xs.length (.exact (xs.length + ys.length)), h.push (.cells ((xs ++ ys).flatMap Mrk.cells) true), xs, ?_, ⟨some (h.n, 0), .exact (xs.length + ys.length), rfl, .inr ⟨h.n, 0, _, true, rfl, by simp, Hp.get_push_self _ _, fun i x hx => ?_⟩⟩, by simp, fun b hb => Hp.get_push_ne _ _ _ (by omega), hr⟩
     · rw [absD_slice Tryz.underlying43 (by rfl), List.length_map, List.length_map, if_neg hz0, cells100, if_pos (by decide), ← List.map_append, absl_marks]
       rfl
     · have hx' : (xs ++ ys)[i]? = some x := by rw [List.getElem?_append_left (List.getElem?_eq_some_iff.1 hx).1]; exact hx
       have := rows_cut (f := Mrk.cells) (k := 4) (pre := []) (post := []) mrk_len hx'
       simpa using this
def Fill.data (e1 e2 : DataW H) (op : Bool) : DataW H := .agg [e1, e2, .lit (.bool op)]
theorem abs_fill {e1 e2 : DataW H} (op : Bool) (h1 : FitsC e1) (h2 : FitsM e2) (h : AH) : ∃ (fv mv : AV) (h' : AH) (fs : List Cv) (fds : List Cd) (mks : List Mrk), absArg Tryz.prog (fun _ => false) 7 45 (Fill.data e1 e2 op) h = some (.agg [fv, mv, .bool op], h') ∧ (∃ a c, fv = .slice a fs.length c) ∧ (∃ a c, mv = .slice a mks.length c) ∧ (fs.length ≤ 80 → mks.length ≤ 20 → Fill h' fv mv fs fds mks) ∧ h.n ≤ h'.n ∧ ∀ b, b < h.n → h'.get b = h.get b := by
 obtain ⟨v, k1, L, a1, r1, n1, o1, f1⟩ := absd_cards h1 h
 obtain ⟨w, k2, ms, a2, r2, n2, o2, f2⟩ := absd_marks h2 k1
 have hp : packed Tryz.prog 0 [{ name := "Cards", type := 42, offset := 0, embedded := false, tag := "", pkgPath := "", byteOffset := 0 },
       { name := "Marks", type := 43, offset := 1, embedded := false, tag := "", pkgPath := "", byteOffset := 24 },
       { name := "Open", type := 4, offset := 2, embedded := false, tag := "", pkgPath := "", byteOffset := 48 }] = some (Tryz.prog.cellsOf 45) := by kernel_rfl
 have h4 (b : Bool) (X : AH) : absD (H := H) Tryz.prog (fun _ => false) 6 4 (.lit (.bool b)) X = some ([.bool b], X) := by simp [absD, Tryz.underlying4]
 have r1' := r1.mono n2 o2
 refine ⟨v, w, k2, L.map Prod.fst, L.map Prod.snd, ms, ?_, ?_, ?_, fun q1 q2 => ⟨r1', r2, by simp, fun i x d hx hd => ?_, ⟨by omega, by omega⟩, f2⟩, by omega, fun b hb => by rw [o2 b (by omega), o1 b hb]⟩
 · unfold absArg
   rw [Tryz.underlying45]
   simp only
   unfold absD
   rw [Tryz.underlying45]
   simp only [Fill.data, hp, if_true, absFs, a1, a2, h4, Option.bind_some, Option.map_some, List.cons_append, List.nil_append]
 · obtain ⟨a, c, e, _⟩ := r1; exact ⟨a, c, e⟩
 · obtain ⟨a, c, e, _⟩ := r2; exact ⟨a, c, e⟩
 · rw [List.getElem?_map] at hx hd
   obtain ⟨y, hy, rfl⟩ := Option.map_eq_some_iff.1 hx
   rw [hy] at hd
   obtain rfl : y.2 = d := by simpa using hd
   have F := fcd_mono (f1 y (List.mem_of_getElem? hy)) n2 o2
   exact ⟨F.1, F.2.1, F.2.2.1, F.2.2.2.1, F.2.2.2.2⟩
end
end Go.Proofs.Cards
