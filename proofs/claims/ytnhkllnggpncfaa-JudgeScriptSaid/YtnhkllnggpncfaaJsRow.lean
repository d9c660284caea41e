/- The law JudgeScript returns true at every list of calls; what was handed in reads as it did. -/
import Derived.Test.YtnhkllnggpncfaaRows
import Derived.Test.YtnhkllnggpncfaaFsInts
import Derived.Test.YtnhkllnggpncfaaJsLaw
namespace Go.Proofs.Js
open Go Go.Fs
section
variable {H : Type}

def Note.data (p : Note) : DataW H := .agg [.lit (.int .i64 p.kind), .lit (.int .i64 p.on), .lit (.string p.form)]
def ncells (ps : List Note) : List AV := ps.flatMap fun p => [.int .i64 p.kind, .int .i64 p.on, .str p.form]

theorem absd_note (p : Note) (h : AH) : absD (H := H) Try.prog (fun _ => false) 3 42 p.data h = some ([.int .i64 p.kind, .int .i64 p.on, .str p.form], h) := by kernel_rfl

theorem absl_notes (h : AH) : ∀ ps : List Note, absL (H := H) (absD Try.prog (fun _ => false) 3 42) (ps.map Note.data) h = some (ncells ps, h)
  | [] => rfl
  | p :: ps => by
    rw [List.map_cons, absL, absd_note]
    simp only [absl_notes h ps, Option.bind_some, Option.map_some]
    rfl

theorem cells42 : Try.prog.cellsOf 42 = 3 := by kernel_rfl

theorem ncells_at : ∀ (ps : List Note) (i : Nat) (x : Note), ps[i]? = some x → (ncells ps)[i * 3]? = some (.int .i64 x.kind) ∧ (ncells ps)[i * 3 + 1]? = some (.int .i64 x.on) ∧ (ncells ps)[i * 3 + 2]? = some (.str x.form)
  | [], i, x, h => by simp at h
  | p :: ps, 0, x, h => by
    obtain rfl : p = x := by simpa using h
    exact ⟨rfl, rfl, rfl⟩
  | p :: ps, i + 1, x, h => by
    have ih := ncells_at ps i x (by simpa using h)
    have e : ncells (p :: ps) = .int .i64 p.kind :: .int .i64 p.on :: .str p.form :: ncells ps := rfl
    rw [e, show (i + 1) * 3 = i * 3 + 3 by omega]
    exact ih

theorem ncells_append (a b : List Note) : ncells (a ++ b) = ncells a ++ ncells b := by simp [ncells]

theorem absd_notes {d : DataW H} (hd : d = .nil ∨ ∃ ps qs : List Note, d = .slice (ps.map Note.data) (qs.map Note.data)) (h : AH) :
    ∃ v h' ps, absArg Try.prog (fun _ => false) 4 34 d h = some (v, h') ∧ Notes h' v ps := by
  rcases hd with rfl | ⟨xs, ys, rfl⟩
  · refine ⟨.slice none 0 (.exact 0), h, [], ?_, ⟨none, .exact 0, rfl, .inl rfl⟩⟩
    simp [absArg, absD, Try.underlying34]
  · by_cases hz : xs.length + ys.length = 0
    · have hx0 : xs = [] := List.eq_nil_of_length_eq_zero (by omega)
      have hy0 : ys = [] := List.eq_nil_of_length_eq_zero (by omega)
      subst hx0 hy0
      refine ⟨.slice (some (h.n, 0)) 0 (.exact 0), h.push .dead, [], ?_, ⟨_, .exact 0, rfl, .inl rfl⟩⟩
      unfold absArg
      rw [Try.underlying34]
      simp only
      rw [absD_slice Try.underlying34 (by rfl)]
      rfl
    · refine ⟨.slice (some (h.n, 0)) xs.length (.exact (xs.length + ys.length)), h.push (.cells (ncells (xs ++ ys)) true), xs, ?_, ⟨_, _, rfl, .inr ⟨h.n, _, true, rfl, by simp, Hp.get_push_self _ _, fun i x hi => ?_⟩⟩⟩
      · unfold absArg
        rw [Try.underlying34]
        simp only
        rw [absD_slice Try.underlying34 (by rfl), List.length_map, List.length_map, if_neg hz, cells42, if_pos (by decide), ← List.map_append, absl_notes]
        rfl
      · have hlt : i < xs.length := (List.getElem?_eq_some_iff.1 hi).1
        exact ncells_at (xs ++ ys) i x (by rw [List.getElem?_append_left hlt, hi])

theorem note_shape {enc : TypeId × Value → H} {W : World} {fuel : Nat} {cs : List Value} {d : DataW H} {ps : List MemPlace} (h : DataW.trod enc Try.prog W 0 (fun _ => true) true fuel 42 cs = some (d, ps)) : ∃ p : Note, d = p.data := by
  obtain ⟨f, xs, rfl, hx⟩ := trod_struct Try.underlying42 h
  simp only [List.mapM_cons, List.mapM_nil, Option.bind_eq_bind, Option.bind_eq_some_iff, Option.pure_def, Option.some.injEq] at hx
  obtain ⟨x1, h1, _, ⟨x2, h2, _, ⟨x3, h3, _, rfl, rfl⟩, rfl⟩, rfl⟩ := hx
  obtain ⟨n1, e1, _⟩ := trod_int (d := x1.1) (ps := x1.2) Try.underlying3 h1
  obtain ⟨n2, e2, _⟩ := trod_int (d := x2.1) (ps := x2.2) Try.underlying3 h2
  obtain ⟨n3, e3, _⟩ := trod_string (d := x3.1) (ps := x3.2) Try.underlying9 h3
  exact ⟨⟨n1, n2, n3⟩, by simp [Note.data, e1, e2, e3]⟩

theorem notes_shape {enc : TypeId × Value → H} {W : World} {v : Value} {d : DataW H} {ps : List MemPlace} (h : DataW.Trod enc Try.prog W 0 (fun _ => true) true 34 v d ps) :
    d = .nil ∨ ∃ ps qs : List Note, d = .slice (ps.map Note.data) (qs.map Note.data) := by
  obtain ⟨fuel, h⟩ := h
  rcases trod_slice Try.underlying34 h with h | ⟨f, xs, ys, rfl, hl, hall⟩
  · exact .inl h
  · have key : ∀ zs : List (DataW H × List MemPlace), (∀ x ∈ zs, ∃ cs', DataW.trod enc Try.prog W 0 (fun _ => true) true f 42 cs' = some x) → ∃ ps : List Note, zs.map (·.1) = ps.map Note.data := fun zs => by
      induction zs with
      | nil => exact fun _ => ⟨[], rfl⟩
      | cons z zs ih =>
        intro hz
        obtain ⟨ns, h1⟩ := ih fun x hx => hz x (by simp [hx])
        obtain ⟨c, hc⟩ := hz z (by simp)
        obtain ⟨p, h3⟩ := note_shape (d := z.1) (ps := z.2) hc
        exact ⟨p :: ns, by simp [h1, h3]⟩
    obtain ⟨ps, a1⟩ := key xs fun x hx => hall x (by simp [hx])
    obtain ⟨qs, b1⟩ := key ys fun x hx => hall x (by simp [hx])
    exact .inr ⟨ps, qs, by rw [a1, b1]⟩
end
end Go.Proofs.Js
namespace Go.Proofs.Ytnhkllnggpncfaa.judgeScript
open Go Go.Fs Go.Proofs.Js Go.ChangeShapes

theorem own : ownKnob Try.prog.godebug = none := by kernel_rfl
theorem mixed : Try.prog.follows .mixedOrders = true := by kernel_rfl
theorem laid : laidOutB Try.prog = true := by kernel_rfl

theorem goodNone (P : Program) : GoodOrc P noOrc := fun f g h => by cases h

set_option maxRecDepth 100000 in
theorem lifted (os : Os) (started : os.Started) (H : Type) (enc : TypeId × Value → H) :
    ReturnsInHanded {} Try.checked os 4 .any (Rows.judgeScriptSpec.pre6 enc Try.prog Try.f4 Rows.judgeScriptRow.domain false) (Rows.judgeScriptSpec.post enc Try.prog Try.f4 false true false false) := by
  refine returnsInHanded_of_change (C := Try.checked) own started (by kernel_rfl) Try.func4
    (ChangeSpec.witness6 (enc := enc) (C := Try.checked) false ⟨#[], #[.slice none 0 0], []⟩ 8 (by kernel_rfl) (by kernel_rfl) (by kernel_rfl) (by kernel_rfl)) ?_
  intro W base args ds gs before hval hW _ _
  refine law_contract (tb := 4) (opq := fun _ => false) (fuel := 4) mixed (goodNone _) laid (by kernel_rfl) (by kernel_rfl) rfl Try.underlying4 rfl ?_ W base args ds gs before hval hW
  intro W args ds p hA
  rw [Try.params4] at hA ⊢
  obtain ⟨v1, d1, _, rfl, h1⟩ := trodAll_one hA
  obtain ⟨v, h', ps, a1, a2⟩ := absd_notes (notes_shape h1) (Fs.start Try.prog.globals.size)
  obtain ⟨h2, hr⟩ := law_spec (orc := noOrc) (fun f _ => rfl) a2
  exact ⟨rfl, [v], h', h2, by simp only [absArgs, a1, Option.bind_some, Option.map_some], hr⟩

theorem over : Rows.judgeScriptRow.holds Try.pinned (OpenSpec.ofChange Rows.judgeScriptSpec) :=
  OpenClaim.holds_of_wide 4 Try.f4 rfl rfl rfl rfl rfl rfl rfl ⟨rfl, rfl, rfl, rfl, rfl⟩ rfl rfl rfl rfl rfl (by kernel_rfl) Try.func4 (by kernel_rfl)
    (of_decide_eq_true (by kernel_rfl)) (by unfold Func.isWrapper; first | (rw [if_pos (by decide +kernel)]; kernel_rfl) | (rw [if_neg (by decide +kernel)]; exact ⟨rfl, rfl⟩))
    (fun os started H enc _ => lifted os started H enc)

/-- The statement. -/
theorem proved : Rows.JudgeScriptSaid := over
#print axioms proved
end Go.Proofs.Ytnhkllnggpncfaa.judgeScript
