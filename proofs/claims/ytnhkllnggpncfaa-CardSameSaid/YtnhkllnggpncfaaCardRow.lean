/- The law CardSame returns true at every two cards; what was handed in reads as it did. -/
import Derived.Test.YtnhkllnggpncfaaRows
import Derived.SizedLaws
import Derived.Test.YtnhkllnggpncfaaFsInts
import Derived.Test.YtnhkllnggpncfaaCardSame
namespace Go.Proofs.Cards
open Go Go.Fs
section
variable {H : Type}

def Prt.data (p : Prt) : DataW H := .agg [.lit (.int .u8 p.a), .lit (.int .u8 p.b), .lit (.int .u8 p.c), .lit (.int .i64 p.d), .lit (.int .u8 p.e), .lit (.int .u8 p.f), .lit (.int .u8 p.g), .lit (.string p.s)]
def Crd.data (c : Crd) (d : DataW H) : DataW H := .agg [.lit (.string c.name), .lit (.int .u8 c.suit), .lit (.int .u8 c.kind), .lit (.int .i64 c.cost), .lit (.int .i64 c.power), .lit (.int .i64 c.health), .lit (.int .u16 c.traits), .lit (.bool c.token), d]

theorem absd_part (p : Prt) (h : AH) : absD (H := H) Try.prog (fun _ => false) 3 104 p.data h = some (p.cells, h) := by kernel_rfl

theorem absl_parts (h : AH) : ∀ ps : List Prt, absL (H := H) (absD Try.prog (fun _ => false) 3 104) (ps.map Prt.data) h = some (pcells ps, h)
  | [] => rfl
  | p :: ps => by
    rw [List.map_cons, absL, absd_part]
    simp only [absl_parts h ps, Option.bind_some, Option.map_some]
    rfl

theorem cells104 : Try.prog.cellsOf 104 = 8 := by kernel_rfl
theorem bytes104 : Try.prog.bytesOf 104 = 40 := by kernel_rfl

/-- The parts of a card that is handed in. -/
def Fits (d : DataW H) : Prop := d = .nil ∨ ∃ ps qs : List Prt, d = .slice (ps.map Prt.data) (qs.map Prt.data) ∧ (ps.length + qs.length) * 40 ≤ 140737488351232

/-- The parts of a card that is handed in. -/
theorem absd_parts {d : DataW H} (hd : Fits d) (h : AH) :
    ∃ v h' ps, absD Try.prog (fun _ => false) 4 52 d h = some ([v], h') ∧ Parts h' v ps ∧ h.n ≤ h'.n ∧ (∀ b, b < h.n → h'.get b = h.get b) ∧ (ps.length + 2) * 40 ≤ 140737488355328 := by
  rcases hd with rfl | ⟨xs, ys, rfl, hl⟩
  · refine ⟨.slice none 0 (.exact 0), h, [], ?_, ⟨none, .exact 0, rfl, by simp, .inl rfl⟩, Nat.le_refl _, fun _ _ => rfl, by simp⟩
    simp [absD, Try.underlying52]
  · by_cases hz : xs.length + ys.length = 0
    · have hx0 : xs = [] := List.eq_nil_of_length_eq_zero (by omega)
      have hy0 : ys = [] := List.eq_nil_of_length_eq_zero (by omega)
      subst hx0 hy0
      refine ⟨.slice (some (h.n, 0)) 0 (.exact 0), h.push .dead, [], ?_, ⟨_, .exact 0, rfl, by simp, .inl rfl⟩, by simp, fun b hb => Hp.get_push_ne _ _ _ (by omega), by simp⟩
      rw [absD_slice Try.underlying52 (by rfl)]
      rfl
    · refine ⟨.slice (some (h.n, 0)) xs.length (.exact (xs.length + ys.length)), h.push (.cells (pcells (xs ++ ys)) true), xs, ?_, parts_block (qs := ys) (Hp.get_push_self _ _) (by simp) rfl (by omega), by simp, fun b hb => Hp.get_push_ne _ _ _ (by omega), by omega⟩
      rw [absD_slice Try.underlying52 (by rfl), List.length_map, List.length_map, if_neg hz, cells104, if_pos (by decide), ← List.map_append, absl_parts]
      rfl

theorem absd_card (c : Crd) {d : DataW H} {v : AV} {h h' : AH} (hd : absD Try.prog (fun _ => false) 4 52 d h = some ([v], h')) : absArg Try.prog (fun _ => false) 5 54 (c.data d) h = some (.agg (c.cells v), h') := by
  have hp : packed Try.prog 0 [{ name := "Name", type := 9, offset := 0, embedded := false, tag := "", pkgPath := "", byteOffset := 0 },
        { name := "Suit", type := 48, offset := 1, embedded := false, tag := "", pkgPath := "", byteOffset := 16 },
        { name := "Kind", type := 49, offset := 2, embedded := false, tag := "", pkgPath := "", byteOffset := 17 },
        { name := "Cost", type := 3, offset := 3, embedded := false, tag := "", pkgPath := "", byteOffset := 24 },
        { name := "Power", type := 3, offset := 4, embedded := false, tag := "", pkgPath := "", byteOffset := 32 },
        { name := "Health", type := 3, offset := 5, embedded := false, tag := "", pkgPath := "", byteOffset := 40 },
        { name := "Traits", type := 51, offset := 6, embedded := false, tag := "", pkgPath := "", byteOffset := 48 },
        { name := "Token", type := 4, offset := 7, embedded := false, tag := "", pkgPath := "", byteOffset := 50 },
        { name := "Parts", type := 52, offset := 8, embedded := false, tag := "", pkgPath := "", byteOffset := 56 }] = some (Try.prog.cellsOf 54) := by kernel_rfl
  have h9 (s : List UInt8) : absD (H := H) Try.prog (fun _ => false) 4 9 (.lit (.string s)) h = some ([.str s], h) := by simp [absD, Try.underlying9]
  have h48 (n : Int) : absD (H := H) Try.prog (fun _ => false) 4 48 (.lit (.int .u8 n)) h = some ([.int .u8 n], h) := by simp [absD, Try.underlying48]
  have h49 (n : Int) : absD (H := H) Try.prog (fun _ => false) 4 49 (.lit (.int .u8 n)) h = some ([.int .u8 n], h) := by simp [absD, Try.underlying49]
  have h3 (n : Int) : absD (H := H) Try.prog (fun _ => false) 4 3 (.lit (.int .i64 n)) h = some ([.int .i64 n], h) := by simp [absD, Try.underlying3]
  have h51 (n : Int) : absD (H := H) Try.prog (fun _ => false) 4 51 (.lit (.int .u16 n)) h = some ([.int .u16 n], h) := by simp [absD, Try.underlying51]
  have h4 (b : Bool) : absD (H := H) Try.prog (fun _ => false) 4 4 (.lit (.bool b)) h = some ([.bool b], h) := by simp [absD, Try.underlying4]
  unfold absArg
  rw [Try.underlying54]
  simp only
  unfold absD
  rw [Try.underlying54]
  simp only [Crd.data, Crd.cells, hp, if_true, absFs, h9, h48, h49, h3, h51, h4, hd, Option.bind_some, Option.map_some, List.cons_append, List.nil_append]

theorem part_shape {enc : TypeId × Value → H} {W : World} {fuel : Nat} {cs : List Value} {d : DataW H} {ps : List MemPlace} (h : DataW.trod enc Try.prog W 0 (fun _ => true) true fuel 104 cs = some (d, ps)) : ∃ p : Prt, d = p.data := by
  obtain ⟨f, xs, rfl, hx⟩ := trod_struct Try.underlying104 h
  simp only [List.mapM_cons, List.mapM_nil, Option.bind_eq_bind, Option.bind_eq_some_iff, Option.pure_def, Option.some.injEq] at hx
  obtain ⟨x1, h1, _, ⟨x2, h2, _, ⟨x3, h3, _, ⟨x4, h4, _, ⟨x5, h5, _, ⟨x6, h6, _, ⟨x7, h7, _, ⟨x8, h8, _, rfl, rfl⟩, rfl⟩, rfl⟩, rfl⟩, rfl⟩, rfl⟩, rfl⟩, rfl⟩ := hx
  obtain ⟨n1, e1, _⟩ := trod_int (d := x1.1) (ps := x1.2) Try.underlying98 h1
  obtain ⟨n2, e2, _⟩ := trod_int (d := x2.1) (ps := x2.2) Try.underlying99 h2
  obtain ⟨n3, e3, _⟩ := trod_int (d := x3.1) (ps := x3.2) Try.underlying100 h3
  obtain ⟨n4, e4, _⟩ := trod_int (d := x4.1) (ps := x4.2) Try.underlying3 h4
  obtain ⟨n5, e5, _⟩ := trod_int (d := x5.1) (ps := x5.2) Try.underlying48 h5
  obtain ⟨n6, e6, _⟩ := trod_int (d := x6.1) (ps := x6.2) Try.underlying101 h6
  obtain ⟨n7, e7, _⟩ := trod_int (d := x7.1) (ps := x7.2) Try.underlying102 h7
  obtain ⟨n8, e8, _⟩ := trod_string (d := x8.1) (ps := x8.2) Try.underlying9 h8
  exact ⟨⟨n1, n2, n3, n4, n5, n6, n7, n8⟩, by simp [Prt.data, e1, e2, e3, e4, e5, e6, e7, e8]⟩

theorem parts_shape {enc : TypeId × Value → H} {W : World} {fuel : Nat} {cs : List Value} {d : DataW H} {ps : List MemPlace} (h : DataW.trod enc Try.prog W 0 (fun _ => true) true fuel 52 cs = some (d, ps)) :
    d = .nil ∨ ∃ ps qs : List Prt, d = .slice (ps.map Prt.data) (qs.map Prt.data) ∧ ps.length + qs.length ≤ maxLen := by
  rcases trod_slice Try.underlying52 h with h | ⟨f, xs, ys, rfl, hl, hall⟩
  · exact .inl h
  · have key : ∀ zs : List (DataW H × List MemPlace), (∀ x ∈ zs, ∃ cs', DataW.trod enc Try.prog W 0 (fun _ => true) true f 104 cs' = some x) → ∃ ps : List Prt, zs.map (·.1) = ps.map Prt.data ∧ ps.length = zs.length := fun zs => by
      induction zs with
      | nil => exact fun _ => ⟨[], rfl, rfl⟩
      | cons z zs ih =>
        intro hz
        obtain ⟨ns, h1, h2⟩ := ih fun x hx => hz x (by simp [hx])
        obtain ⟨c, hc⟩ := hz z (by simp)
        obtain ⟨p, h3⟩ := part_shape (d := z.1) (ps := z.2) hc
        exact ⟨p :: ns, by simp [h1, h3], by simp [h2]⟩
    obtain ⟨ps, a1, a2⟩ := key xs fun x hx => hall x (by simp [hx])
    obtain ⟨qs, b1, b2⟩ := key ys fun x hx => hall x (by simp [hx])
    exact .inr ⟨ps, qs, by rw [a1, b1], by omega⟩

theorem card_shape {enc : TypeId × Value → H} {W : World} {v : Value} {d : DataW H} {ps : List MemPlace} (h : DataW.Trod enc Try.prog W 0 (fun _ => true) true 54 v d ps) :
    ∃ (c : Crd) (e : DataW H), d = c.data e ∧ (e = .nil ∨ ∃ ps qs : List Prt, e = .slice (ps.map Prt.data) (qs.map Prt.data) ∧ ps.length + qs.length ≤ maxLen) := by
  obtain ⟨fuel, h⟩ := h
  obtain ⟨f, xs, rfl, hx⟩ := trod_struct Try.underlying54 h
  simp only [List.mapM_cons, List.mapM_nil, Option.bind_eq_bind, Option.bind_eq_some_iff, Option.pure_def, Option.some.injEq] at hx
  obtain ⟨x1, h1, _, ⟨x2, h2, _, ⟨x3, h3, _, ⟨x4, h4, _, ⟨x5, h5, _, ⟨x6, h6, _, ⟨x7, h7, _, ⟨x8, h8, _, ⟨x9, h9, _, rfl, rfl⟩, rfl⟩, rfl⟩, rfl⟩, rfl⟩, rfl⟩, rfl⟩, rfl⟩, rfl⟩ := hx
  obtain ⟨n1, e1, _⟩ := trod_string (d := x1.1) (ps := x1.2) Try.underlying9 h1
  obtain ⟨n2, e2, _⟩ := trod_int (d := x2.1) (ps := x2.2) Try.underlying48 h2
  obtain ⟨n3, e3, _⟩ := trod_int (d := x3.1) (ps := x3.2) Try.underlying49 h3
  obtain ⟨n4, e4, _⟩ := trod_int (d := x4.1) (ps := x4.2) Try.underlying3 h4
  obtain ⟨n5, e5, _⟩ := trod_int (d := x5.1) (ps := x5.2) Try.underlying3 h5
  obtain ⟨n6, e6, _⟩ := trod_int (d := x6.1) (ps := x6.2) Try.underlying3 h6
  obtain ⟨n7, e7, _⟩ := trod_int (d := x7.1) (ps := x7.2) Try.underlying51 h7
  obtain ⟨n8, e8⟩ := trod_bool (d := x8.1) (ps := x8.2) Try.underlying4 h8
  have e9 := parts_shape (d := x9.1) (ps := x9.2) h9
  exact ⟨⟨n1, n2, n3, n4, n5, n6, n7, n8⟩, x9.1, by simp [Crd.data, e1, e2, e3, e4, e5, e6, e7, e8], e9⟩

theorem fits {c : Crd} {e : DataW H} (he : e = .nil ∨ ∃ ps qs : List Prt, e = .slice (ps.map Prt.data) (qs.map Prt.data) ∧ ps.length + qs.length ≤ maxLen)
    (hw : ∀ n ∈ DataW.weights Try.prog 54 (c.data e), n ≤ reachBytes) : Fits e := by
  rcases he with rfl | ⟨ps, qs, rfl, _⟩
  · exact .inl rfl
  · refine .inr ⟨ps, qs, rfl, ?_⟩
    have := hw ((ps.length + qs.length) * 40) (by
      simp [DataW.weights, DataW.weightsEach, Crd.data, Try.underlying54, Try.underlying52, bytes104])
    have e : reachBytes = 140737488351232 := by decide
    omega
end
end Go.Proofs.Cards
namespace Go.Proofs.Ytnhkllnggpncfaa.cardSame
open Go Go.Fs Go.Proofs.Cards Go.ChangeShapes

theorem own : ownKnob Try.prog.godebug = none := by kernel_rfl
theorem mixed : Try.prog.follows .mixedOrders = true := by kernel_rfl
theorem laid : laidOutB Try.prog = true := by kernel_rfl

theorem goodNone (P : Program) : GoodOrc P noOrc := fun f g h => by cases h

set_option maxRecDepth 100000 in
theorem lifted (os : Os) (started : os.Started) (H : Type) (enc : TypeId × Value → H) :
    ReturnsInHanded {} Try.checked os 5 .any (Rows.cardSameSpec.pre6 enc Try.prog Try.f5 Rows.cardSameRow.domain false) (Rows.cardSameSpec.post enc Try.prog Try.f5 false true false false) := by
  refine returnsInHanded_of_change_sized (C := Try.checked) own started (by kernel_rfl) Try.func5
    (ChangeSpec.witness6 (enc := enc) (C := Try.checked) false ⟨#[], #[.agg #[.string ⟨#[]⟩, .int .u8 0, .int .u8 0, .int .i64 0, .int .i64 0, .int .i64 0, .int .u16 0, .bool false, .slice none 0 0], .agg #[.string ⟨#[]⟩, .int .u8 0, .int .u8 0, .int .i64 0, .int .i64 0, .int .i64 0, .int .u16 0, .bool false, .slice none 0 0]], []⟩ 8 (by kernel_rfl) (by kernel_rfl) (by kernel_rfl) (by kernel_rfl)) ?_
  intro W base args ds gs before hval hW _ hsz _
  have hW' := hW
  obtain ⟨p, q, hA, hV, he, _, _⟩ := hW'
  have hA' := hA
  rw [show Try.f5.params.toList = [54, 54] by rw [Try.params5]] at hA'
  obtain ⟨v1, v2, d1, d2, p1, p2, _, rfl, _, h1, h2⟩ := trodAll_two hA'
  obtain ⟨c, e1, rfl, g1⟩ := card_shape h1
  obtain ⟨d, e2, rfl, g2⟩ := card_shape h2
  rw [show Try.f5.params.toList = [54, 54] by rw [Try.params5]] at hsz
  have hall := List.all_eq_true.1 hsz
  have f1 := fits g1 fun n hn => by
    have := hall n (DataW.weights_mem_each (j := 0) rfl rfl n hn)
    simpa using this
  have f2 := fits g2 fun n hn => by
    have := hall n (DataW.weights_mem_each (j := 1) rfl rfl n hn)
    simpa using this
  obtain ⟨v, k1, ps, a1, i1, n1, o1, l1⟩ := absd_parts f1 (Fs.start Try.prog.globals.size)
  obtain ⟨u, k2, qs, a2, i2, n2, o2, l2⟩ := absd_parts f2 k1
  have hr := law_spec (orc := noOrc) (fun f _ => rfl) (c := c) (d := d) (i1.mono n2 o2) i2 l1 l2
  have ha : absArgs Try.prog (fun _ => false) 5 Try.f5.params.toList [c.data e1, d.data e2] (Fs.start Try.prog.globals.size) = some ([.agg (c.cells v), .agg (d.cells u)], k2) := by
    rw [show Try.f5.params.toList = [54, 54] by rw [Try.params5]]
    simp only [absArgs, absd_card c a1, absd_card d a2, Option.bind_some, Option.map_some]
  refine (law_walk mixed (goodNone _) (by kernel_rfl) hA (fun j t v hj hv => hval j t v (by simpa using hj) (by simpa using hv)) ha hr).mono fun e W' ⟨he, hB⟩ => ?_
  exact ⟨_, he, law_post (tb := 4) laid (by kernel_rfl) rfl Try.underlying4 rfl rfl hW hB⟩

theorem over : Rows.cardSameRow.holds Try.pinned (OpenSpec.ofChange Rows.cardSameSpec) :=
  OpenClaim.holds_of_wide 5 Try.f5 rfl rfl rfl rfl rfl rfl rfl ⟨rfl, rfl, rfl, rfl, rfl⟩ rfl rfl rfl rfl rfl (by kernel_rfl) Try.func5 (by kernel_rfl)
    (of_decide_eq_true (by kernel_rfl)) (by unfold Func.isWrapper; first | (rw [if_pos (by decide +kernel)]; kernel_rfl) | (rw [if_neg (by decide +kernel)]; exact ⟨rfl, rfl⟩))
    (fun os started H enc _ => lifted os started H enc)

/-- The statement. -/
theorem proved : Rows.CardSameSaid := over
#print axioms proved
end Go.Proofs.Ytnhkllnggpncfaa.cardSame
