/- A card that is handed in, a part that is handed in: what stands in memory then. -/
import Derived.Test.YtlppecefalblmaaGreatDoorFz05
import Derived.Test.YtlppecefalblmaaGreatDoorFz05
import Derived.SizedLaws
import Derived.Test.YtlppecefalblmaaGreatDoorZtCdMem
namespace Go.Proofs.Cards
open Go Go.Fs
set_option linter.unusedSimpArgs false
section
variable {H : Type}
def Prt.data (p : Prt) : DataW H := .agg [.lit (.int .u8 p.a), .lit (.int .u8 p.b), .lit (.int .u8 p.c), .lit (.int .i64 p.d), .lit (.int .u8 p.e), .lit (.int .u8 p.f), .lit (.int .u8 p.g), .lit (.string p.s)]
def Crd.data (c : Crd) (d : DataW H) : DataW H := .agg [.lit (.string c.name), .lit (.int .u8 c.suit), .lit (.int .u8 c.kind), .lit (.int .i64 c.cost), .lit (.int .i64 c.power), .lit (.int .i64 c.health), .lit (.int .u16 c.traits), .lit (.bool c.token), d]
theorem absd_part (p : Prt) (h : AH) : absD (H := H) Tryz.prog (fun _ => false) 3 79 p.data h = some (p.cells, h) := by kernel_rfl
theorem absl_parts (h : AH) : ∀ ps : List Prt, absL (H := H) (absD Tryz.prog (fun _ => false) 3 79) (ps.map Prt.data) h = some (pcells ps, h)
 | [] => rfl
 | p :: ps => by
   rw [List.map_cons, absL, absd_part]
   simp only [absl_parts h ps, Option.bind_some, Option.map_some]
   rfl
theorem cells104 : Tryz.prog.cellsOf 79 = 8 := by kernel_rfl
theorem bytes104 : Tryz.prog.bytesOf 79 = 40 := by kernel_rfl
def Prt.rng (p : Prt) : Prop := (0 ≤ p.e ∧ p.e ≤ 255) ∧ (0 ≤ p.f ∧ p.f ≤ 255) ∧ (0 ≤ p.g ∧ p.g ≤ 255)
def Crd.rng (c : Crd) : Prop := (0 ≤ c.suit ∧ c.suit ≤ 255) ∧ (0 ≤ c.kind ∧ c.kind ≤ 255) ∧ (0 ≤ c.traits ∧ c.traits ≤ 65535)
def Fits (d : DataW H) : Prop := d = .nil ∨ ∃ ps qs : List Prt, d = .slice (ps.map Prt.data) (qs.map Prt.data) ∧ (ps.length + qs.length) * 40 ≤ 140737488351232 ∧ ∀ p ∈ ps, p.rng
theorem absd_parts {d : DataW H} (hd : Fits d) (h : AH) :
    ∃ v h' ps, absD Tryz.prog (fun _ => false) 4 26 d h = some ([v], h') ∧ Parts h' v ps ∧ h.n ≤ h'.n ∧ (∀ b, b < h.n → h'.get b = h.get b) ∧ (ps.length + 2) * 40 ≤ 140737488355328 ∧ ∀ p ∈ ps, p.rng := by
 rcases hd with rfl | ⟨xs, ys, rfl, hl, hr⟩
 · refine ⟨.slice none 0 (.exact 0), h, [], ?_, ⟨none, .exact 0, rfl, by simp, .inl rfl⟩, Nat.le_refl _, fun _ _ => rfl, by simp, by simp⟩
   simp [absD, Tryz.underlying26]
 · by_cases hz : xs.length + ys.length = 0
   · have hx0 : xs = [] := List.eq_nil_of_length_eq_zero (by omega)
     have hy0 : ys = [] := List.eq_nil_of_length_eq_zero (by omega)
     subst hx0 hy0
     refine ⟨.slice (some (h.n, 0)) 0 (.exact 0), h.push .dead, [], ?_, ⟨_, .exact 0, rfl, by simp, .inl rfl⟩, by simp, fun b hb => Hp.get_push_ne _ _ _ (by omega), by simp, by simp⟩
     rw [absD_slice Tryz.underlying26 (by rfl)]
     rfl
   · refine ⟨.slice (some (h.n, 0)) xs.length (.exact (xs.length + ys.length)), h.push (.cells (pcells (xs ++ ys)) true), xs, ?_, parts_block (qs := ys) (Hp.get_push_self _ _) (by simp) rfl (by omega), by simp, fun b hb => Hp.get_push_ne _ _ _ (by omega), by omega, hr⟩
     rw [absD_slice Tryz.underlying26 (by rfl), List.length_map, List.length_map, if_neg hz, cells104, if_pos (by decide), ← List.map_append, absl_parts]
     rfl
theorem absd_card (c : Crd) {d : DataW H} {v : AV} {h h' : AH} (hd : absD Tryz.prog (fun _ => false) 4 26 d h = some ([v], h')) : absArg Tryz.prog (fun _ => false) 5 28 (c.data d) h = some (.agg (c.cells v), h') := by
 have hp : packed Tryz.prog 0 [{ name := "Name", type := 9, offset := 0, embedded := false, tag := "", pkgPath := "", byteOffset := 0 },
       { name := "Suit", type := 22, offset := 1, embedded := false, tag := "", pkgPath := "", byteOffset := 16 },
       { name := "Kind", type := 23, offset := 2, embedded := false, tag := "", pkgPath := "", byteOffset := 17 },
       { name := "Cost", type := 3, offset := 3, embedded := false, tag := "", pkgPath := "", byteOffset := 24 },
       { name := "Power", type := 3, offset := 4, embedded := false, tag := "", pkgPath := "", byteOffset := 32 },
       { name := "Health", type := 3, offset := 5, embedded := false, tag := "", pkgPath := "", byteOffset := 40 },
       { name := "Traits", type := 25, offset := 6, embedded := false, tag := "", pkgPath := "", byteOffset := 48 },
       { name := "Token", type := 4, offset := 7, embedded := false, tag := "", pkgPath := "", byteOffset := 50 },
       { name := "Parts", type := 26, offset := 8, embedded := false, tag := "", pkgPath := "", byteOffset := 56 }] = some (Tryz.prog.cellsOf 28) := by kernel_rfl
 have h9 (s : List UInt8) : absD (H := H) Tryz.prog (fun _ => false) 4 9 (.lit (.string s)) h = some ([.str s], h) := by simp [absD, Tryz.underlying9]
 have h48 (n : Int) : absD (H := H) Tryz.prog (fun _ => false) 4 22 (.lit (.int .u8 n)) h = some ([.int .u8 n], h) := by simp [absD, Tryz.underlying22]
 have h49 (n : Int) : absD (H := H) Tryz.prog (fun _ => false) 4 23 (.lit (.int .u8 n)) h = some ([.int .u8 n], h) := by simp [absD, Tryz.underlying23]
 have h3 (n : Int) : absD (H := H) Tryz.prog (fun _ => false) 4 3 (.lit (.int .i64 n)) h = some ([.int .i64 n], h) := by simp [absD, Tryz.underlying3]
 have h51 (n : Int) : absD (H := H) Tryz.prog (fun _ => false) 4 25 (.lit (.int .u16 n)) h = some ([.int .u16 n], h) := by simp [absD, Tryz.underlying25]
 have h4 (b : Bool) : absD (H := H) Tryz.prog (fun _ => false) 4 4 (.lit (.bool b)) h = some ([.bool b], h) := by simp [absD, Tryz.underlying4]
 unfold absArg
 rw [Tryz.underlying28]
 simp only
 unfold absD
 rw [Tryz.underlying28]
 simp only [Crd.data, Crd.cells, hp, if_true, absFs, h9, h48, h49, h3, h51, h4, hd, Option.bind_some, Option.map_some, List.cons_append, List.nil_append]
theorem part_shape {enc : TypeId × Value → H} {W : World} {fuel : Nat} {cs : List Value} {d : DataW H} {ps : List MemPlace} (h : DataW.trod enc Tryz.prog W 0 (fun _ => true) true fuel 79 cs = some (d, ps)) : ∃ p : Prt, d = p.data ∧ p.rng := by
 obtain ⟨f, xs, rfl, hx⟩ := trod_struct Tryz.underlying79 h
 simp only [List.mapM_cons, List.mapM_nil, Option.bind_eq_bind, Option.bind_eq_some_iff, Option.pure_def, Option.some.injEq] at hx
 obtain ⟨x1, h1, _, ⟨x2, h2, _, ⟨x3, h3, _, ⟨x4, h4, _, ⟨x5, h5, _, ⟨x6, h6, _, ⟨x7, h7, _, ⟨x8, h8, _, rfl, rfl⟩, rfl⟩, rfl⟩, rfl⟩, rfl⟩, rfl⟩, rfl⟩, rfl⟩ := hx
 obtain ⟨n1, e1, _⟩ := trod_int (d := x1.1) (ps := x1.2) Tryz.underlying73 h1
 obtain ⟨n2, e2, _⟩ := trod_int (d := x2.1) (ps := x2.2) Tryz.underlying74 h2
 obtain ⟨n3, e3, _⟩ := trod_int (d := x3.1) (ps := x3.2) Tryz.underlying75 h3
 obtain ⟨n4, e4, _⟩ := trod_int (d := x4.1) (ps := x4.2) Tryz.underlying3 h4
 obtain ⟨n5, e5, r5⟩ := trod_int (d := x5.1) (ps := x5.2) Tryz.underlying22 h5
 obtain ⟨n6, e6, r6⟩ := trod_int (d := x6.1) (ps := x6.2) Tryz.underlying76 h6
 obtain ⟨n7, e7, r7⟩ := trod_int (d := x7.1) (ps := x7.2) Tryz.underlying77 h7
 obtain ⟨n8, e8, _⟩ := trod_string (d := x8.1) (ps := x8.2) Tryz.underlying9 h8
 exact ⟨⟨n1, n2, n3, n4, n5, n6, n7, n8⟩, by simp [Prt.data, e1, e2, e3, e4, e5, e6, e7, e8], r5, r6, r7⟩
theorem parts_shape {enc : TypeId × Value → H} {W : World} {fuel : Nat} {cs : List Value} {d : DataW H} {ps : List MemPlace} (h : DataW.trod enc Tryz.prog W 0 (fun _ => true) true fuel 26 cs = some (d, ps)) :
    d = .nil ∨ ∃ ps qs : List Prt, d = .slice (ps.map Prt.data) (qs.map Prt.data) ∧ ps.length + qs.length ≤ maxLen ∧ ∀ p ∈ ps, p.rng := by
 rcases trod_slice Tryz.underlying26 h with h | ⟨f, xs, ys, rfl, hl, hall⟩
 · exact .inl h
 · have key : ∀ zs : List (DataW H × List MemPlace), (∀ x ∈ zs, ∃ cs', DataW.trod enc Tryz.prog W 0 (fun _ => true) true f 79 cs' = some x) → ∃ ps : List Prt, zs.map (·.1) = ps.map Prt.data ∧ ps.length = zs.length ∧ ∀ p ∈ ps, p.rng := fun zs => by
     induction zs with
     | nil => exact fun _ => ⟨[], rfl, rfl, by simp⟩
     | cons z zs ih =>
       intro hz
       obtain ⟨ns, h1, h2, h5⟩ := ih fun x hx => hz x (by simp [hx])
       obtain ⟨c, hc⟩ := hz z (by simp)
       obtain ⟨p, h3, h4⟩ := part_shape (d := z.1) (ps := z.2) hc
       exact ⟨p :: ns, by simp [h1, h3], by simp [h2], fun q hq => by
        rcases List.mem_cons.1 hq with rfl | hq
        · exact h4
        · exact h5 q hq⟩
   obtain ⟨ps, a1, a2, a3⟩ := key xs fun x hx => hall x (by simp [hx])
   obtain ⟨qs, b1, b2, _⟩ := key ys fun x hx => hall x (by simp [hx])
   exact .inr ⟨ps, qs, by rw [a1, b1], by omega, a3⟩
theorem card_shape {enc : TypeId × Value → H} {W : World} {v : Value} {d : DataW H} {ps : List MemPlace} (h : DataW.Trod enc Tryz.prog W 0 (fun _ => true) true 28 v d ps) :
    ∃ (c : Crd) (e : DataW H), d = c.data e ∧ (e = .nil ∨ ∃ ps qs : List Prt, e = .slice (ps.map Prt.data) (qs.map Prt.data) ∧ ps.length + qs.length ≤ maxLen ∧ ∀ p ∈ ps, p.rng) ∧ c.rng := by
 obtain ⟨fuel, h⟩ := h
 obtain ⟨f, xs, rfl, hx⟩ := trod_struct Tryz.underlying28 h
 simp only [List.mapM_cons, List.mapM_nil, Option.bind_eq_bind, Option.bind_eq_some_iff, Option.pure_def, Option.some.injEq] at hx
 obtain ⟨x1, h1, _, ⟨x2, h2, _, ⟨x3, h3, _, ⟨x4, h4, _, ⟨x5, h5, _, ⟨x6, h6, _, ⟨x7, h7, _, ⟨x8, h8, _, ⟨x9, h9, _, rfl, rfl⟩, rfl⟩, rfl⟩, rfl⟩, rfl⟩, rfl⟩, rfl⟩, rfl⟩, rfl⟩ := hx
 obtain ⟨n1, e1, _⟩ := trod_string (d := x1.1) (ps := x1.2) Tryz.underlying9 h1
 obtain ⟨n2, e2, r2⟩ := trod_int (d := x2.1) (ps := x2.2) Tryz.underlying22 h2
 obtain ⟨n3, e3, r3⟩ := trod_int (d := x3.1) (ps := x3.2) Tryz.underlying23 h3
 obtain ⟨n4, e4, _⟩ := trod_int (d := x4.1) (ps := x4.2) Tryz.underlying3 h4
 obtain ⟨n5, e5, _⟩ := trod_int (d := x5.1) (ps := x5.2) Tryz.underlying3 h5
 obtain ⟨n6, e6, _⟩ := trod_int (d := x6.1) (ps := x6.2) Tryz.underlying3 h6
 obtain ⟨n7, e7, r7⟩ := trod_int (d := x7.1) (ps := x7.2) Tryz.underlying25 h7
 obtain ⟨n8, e8⟩ := trod_bool (d := x8.1) (ps := x8.2) Tryz.underlying4 h8
 have e9 := parts_shape (d := x9.1) (ps := x9.2) h9
 exact ⟨⟨n1, n2, n3, n4, n5, n6, n7, n8⟩, x9.1, by simp [Crd.data, e1, e2, e3, e4, e5, e6, e7, e8], e9, r2, r3, r7⟩
theorem fits {c : Crd} {e : DataW H} (he : e = .nil ∨ ∃ ps qs : List Prt, e = .slice (ps.map Prt.data) (qs.map Prt.data) ∧ ps.length + qs.length ≤ maxLen ∧ ∀ p ∈ ps, p.rng)
    (hw : ∀ n ∈ DataW.weights Tryz.prog 28 (c.data e), n ≤ reachBytes) : Fits e := by
 rcases he with rfl | ⟨ps, qs, rfl, _, hr⟩
 · exact .inl rfl
 · refine .inr ⟨ps, qs, rfl, ?_, hr⟩
   have := hw ((ps.length + qs.length) * 40) (by
    simp [DataW.weights, DataW.weightsEach, Crd.data, Tryz.underlying28, Tryz.underlying26, bytes104])
   have e : reachBytes = 140737488351232 := by decide
   omega
end
end Go.Proofs.Cards
