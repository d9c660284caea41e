/- The quiet operations: arithmetic, strings, equality. -/
import Derived.Test.YtdehfehdaiappaaGreatDoorFsQuiet
import Derived.Laws.Strings
namespace Go.Fs
section
variable {P : Program} {ι : Emb} {h : AH} {w : World}

theorem toList_mk (s : List UInt8) : (ByteArray.mk s.toArray).toList = s := by rw [ByteArray.toList_eq]

theorem int_of {k : IntKind} {n : Int} {v : Value} (hv : VRel ι (.int k n) v) : v = .int k n := by simpa [VRel] using hv
theorem bool_of {b : Bool} {v : Value} (hv : VRel ι (.bool b) v) : v = .bool b := by simpa [VRel] using hv
theorem str_of {s : List UInt8} {v : Value} (hv : VRel ι (.str s) v) : v = .string ⟨s.toArray⟩ := by simpa [VRel] using hv

theorem aint_ok {op : BinOp} {k : IntKind} {a b : Int} {v : AV} (hs : isShift op = false) (hv : aint op k a b = some v) (t : TypeId) :
    ∃ rv, (binOp op t (.int k a) (.int k b)).run P w = .ok rv w ∧ VRel ι v rv := by
  cases op <;> simp only [aint, isShift, Bool.true_eq_false] at hv hs
  case add => cases hv; exact ⟨.int k (k.wrap (a + b)), by simp [binOp, Op.intArith], by simp [VRel]⟩
  case sub => cases hv; exact ⟨.int k (k.wrap (a - b)), by simp [binOp, Op.intArith], by simp [VRel]⟩
  case mul => cases hv; exact ⟨.int k (k.wrap (a * b)), by simp [binOp, Op.intArith], by simp [VRel]⟩
  case quo =>
    split at hv
    · cases hv
    · rename_i hb; cases hv; exact ⟨.int k (k.wrap (a.tdiv b)), by simp [binOp, Op.intDiv, hb], by simp [VRel]⟩
  case rem =>
    split at hv
    · cases hv
    · rename_i hb; cases hv; exact ⟨.int k (a.tmod b), by simp [binOp, Op.intDiv, hb], by simp [VRel]⟩
  case and => cases hv; exact ⟨.int k (bits .and k a b), by simp [binOp, Op.intBits, bits], by simp [VRel]⟩
  case or => cases hv; exact ⟨.int k (bits .or k a b), by simp [binOp, Op.intBits, bits], by simp [VRel]⟩
  case xor => cases hv; exact ⟨.int k (bits .xor k a b), by simp [binOp, Op.intBits, bits], by simp [VRel]⟩
  case andNot => cases hv; exact ⟨.int k (bits .andNot k a b), by simp [binOp, Op.intBits, bits], by simp [VRel]⟩
  case eql => cases hv; exact ⟨.bool (a == b), by simp [binOp, Op.intCmp], by simp [VRel]⟩
  case neq => cases hv; exact ⟨.bool (a != b), by simp [binOp, Op.intCmp], by simp [VRel]⟩
  case lss => cases hv; exact ⟨.bool (a < b), by simp [binOp, Op.intCmp], by simp [VRel]⟩
  case leq => cases hv; exact ⟨.bool (a ≤ b), by simp [binOp, Op.intCmp], by simp [VRel]⟩
  case gtr => cases hv; exact ⟨.bool (b < a), by simp [binOp, Op.intCmp], by simp [VRel]⟩
  case geq => cases hv; exact ⟨.bool (b ≤ a), by simp [binOp, Op.intCmp], by simp [VRel]⟩

theorem ashift_ok {op : BinOp} {k k' : IntKind} {a b : Int} {v : AV} (hv : ashift op k a b = some v) (hs : isShift op = true) (t : TypeId) :
    ∃ rv, (binOp op t (.int k a) (.int k' b)).run P w = .ok rv w ∧ VRel ι v rv := by
  unfold ashift at hv
  split at hv
  · cases hv
  · rename_i hb
    cases op <;> simp [isShift] at hs
    case shl => cases hv; exact ⟨.int k (k.wrap (a * 2 ^ (min b.toNat k.bits))), by simp [binOp, Op.shift, hb], by simp [VRel]⟩
    case shr => cases hv; exact ⟨.int k (a.fdiv (2 ^ (min b.toNat k.bits))), by simp [binOp, Op.shift, hb], by simp [VRel]⟩

theorem astr_ok {op : BinOp} {a b : List UInt8} {v : AV} (hv : astr op a b = some v) (t : TypeId) :
    ∃ rv, (binOp op t (.string ⟨a.toArray⟩) (.string ⟨b.toArray⟩)).run P w = .ok rv w ∧ VRel ι v rv := by
  have e : binOp op t (.string ⟨a.toArray⟩) (.string ⟨b.toArray⟩) = Op.stringOp op ⟨a.toArray⟩ ⟨b.toArray⟩ := by cases op <;> rfl
  rw [e]
  have hd : (a == b) = decide (a = b) := by by_cases h : a = b <;> simp [h]
  cases op <;> simp only [astr] at hv
  case add =>
    split at hv
    · rename_i hle
      cases hv
      refine ⟨.string ⟨(a ++ b).toArray⟩, ?_, by simp [VRel]⟩
      have h1 : ¬ (((⟨a.toArray⟩ : ByteArray).size + (⟨b.toArray⟩ : ByteArray).size : Nat) : Int) > IntKind.i64.max := by
        simp only [ByteArray.size, List.size_toArray, IntKind.max_i64]; omega
      have h2 : (⟨a.toArray⟩ : ByteArray) ++ ⟨b.toArray⟩ = ⟨(a ++ b).toArray⟩ := by
        apply ByteArray.ext
        simp
      simp only [Op.stringOp, if_neg h1, h2, Sem.run_pure]
    · cases hv
  all_goals first
    | (cases hv; done)
    | (cases hv; exact ⟨_, by simp only [Op.stringOp, toList_mk, hd, Sem.run_pure]; rfl, by simp [VRel]⟩)

/-! ### Equality -/

def SK.fits (P : Program) (t : TypeId) : SK → Prop
  | .b => P.underlying t = some .bool
  | .i => ∃ k, P.underlying t = some (.int k)
  | .s => P.underlying t = some .string

theorem scalEq_ok {q : SK} {x y : AV} {rx ry : Value} {b : Bool} {t : TypeId} {d : Nat} (hx : VRel ι x rx) (hy : VRel ι y ry) (he : scalEq q x y = some b)
    (ht : q.fits P t) : (Op.equalIn (d + 1) t rx ry).run P w = .ok b w := by
  cases q
  case b =>
    cases x <;> cases y <;> simp only [scalEq] at he <;> first | (cases he; done) | skip
    cases he
    rw [bool_of hx, bool_of hy]
    simp only [SK.fits] at ht
    simp [Op.equalIn, run_underlying ht]
  case i =>
    cases x <;> cases y <;> simp only [scalEq] at he <;> first | (cases he; done) | skip
    split at he
    · rename_i hk
      subst hk
      cases he
      rw [int_of hx, int_of hy]
      obtain ⟨k, ht⟩ := ht
      simp [Op.equalIn, run_underlying ht]
    · cases he
  case s =>
    cases x <;> cases y <;> simp only [scalEq] at he <;> first | (cases he; done) | skip
    cases he
    rename_i a b
    rw [str_of hx, str_of hy]
    simp only [SK.fits] at ht
    have hb : ((⟨a.toArray⟩ : ByteArray) == ⟨b.toArray⟩) = decide (a = b) := by
      show ((a.toArray : Array UInt8) == b.toArray) = decide (a = b)
      rw [Bool.eq_iff_iff, beq_iff_eq]
      simp
    simp [Op.equalIn, run_underlying ht, hb]

theorem leavesEq_append (xs ys : List AV) : ∀ (l m : List (Nat × SK)), leavesEq xs ys (l ++ m) = match leavesEq xs ys l with | some true => leavesEq xs ys m | r => r
  | [], m => by simp [leavesEq]
  | (i, q) :: l, m => by
    simp only [List.cons_append, leavesEq]
    cases xs[i]? with
    | none => rfl
    | some x =>
      cases ys[i]? with
      | none => rfl
      | some y =>
        simp only []
        cases scalEq q x y with
        | none => rfl
        | some b => cases b <;> simp [leavesEq_append xs ys l m]

/-- A part of a value's cells, as the model takes it out. -/
def Sub (P : Program) (t : TypeId) (off : Nat) (rx : Array Value) (X : Value) : Prop :=
  (∃ sz, aggT P t = some (some sz) ∧ X = .agg (rx.extract off (off + sz))) ∨ (aggT P t = some none ∧ rx[off]? = some X)

theorem part_sub {t : TypeId} {off sz fo s : Nat} {rx : Array Value} {g : Option Nat} (hg : aggT P t = some g) (hs : sizeT P t = some s) (hle : fo + s ≤ sz) (hpos : 0 < s)
    (hx : g = none → ∃ X, rx[off + fo]? = some X) : ∃ X, (part t (rx.extract off (off + sz)) fo).run P w = .ok X w ∧ Sub P t (off + fo) rx X := by
  obtain ⟨h1, h2⟩ := run_isAgg (w := w) hg
  cases g with
  | none =>
    obtain ⟨X, hX⟩ := hx rfl
    refine ⟨X, ?_, .inr ⟨hg, hX⟩⟩
    have : (rx.extract off (off + sz))[fo]? = some X := by
      rw [Array.getElem?_extract]
      have := (Array.getElem?_eq_some_iff.1 hX).1
      rw [if_pos (by omega)]
      exact hX
    simp [part, h1, this]
  | some n =>
    have hn : n = s := by
      unfold sizeT at hs
      unfold aggT at hg
      split at hg <;> simp_all
    subst hn
    refine ⟨.agg (rx.extract (off + fo) (off + fo + n)), ?_, .inl ⟨n, hg, rfl⟩⟩
    have : (rx.extract off (off + sz)).extract fo (fo + n) = rx.extract (off + fo) (off + fo + n) := by
      rw [Array.extract_extract]
      congr 1
      omega
    simp [part, h1, h2 n rfl]
    rw [show min (fo + n) sz = fo + n by omega, Nat.add_assoc]

def shift (off : Nat) (ls : List (Nat × SK)) : List (Nat × SK) := ls.map fun p => (p.1 + off, p.2)

theorem shift_shift (a b : Nat) (ls : List (Nat × SK)) : shift a (shift b ls) = shift (a + b) ls := by
  unfold shift
  rw [List.map_map]
  congr 1
  funext p
  simp
  omega

theorem aggT_some {t : TypeId} {d : TypeDesc} (hu : P.underlying t = some d) : ∃ i, P.info? t = some i := by
  unfold Program.underlying at hu
  cases hi : P.info? t with
  | none => simp [hi] at hu
  | some i => exact ⟨i, rfl⟩
end
end Go.Fs
