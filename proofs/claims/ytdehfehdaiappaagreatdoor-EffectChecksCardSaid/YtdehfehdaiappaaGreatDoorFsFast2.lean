/- The quick machine: operands, operations. -/
import Derived.Test.YtdehfehdaiappaaGreatDoorFsFast
namespace Go.Fs

abbrev TT := Tr AV

noncomputable def getT (i : Nat) (t : TT) : AV := Option.rec AV.undef (fun v => v) (getP (toPa i) t)
theorem getT_eq (i : Nat) (t : TT) : getT i t = (t.get i).getD AV.undef := by
  unfold getT toPa
  rw [getP_eq (i + 1) i (by omega)]
  cases t.get i <;> rfl

/-- The temporaries that a tree holds. -/
noncomputable def tmL (n : Nat) (t : TT) : List AV := (List.range n).map fun i => getT i t

theorem tmL_length (n : Nat) (t : TT) : (tmL n t).length = n := by simp [tmL]
theorem tmL_get (n : Nat) (t : TT) (i : Nat) : (tmL n t)[i]? = if i < n then some (getT i t) else none := by
  unfold tmL
  by_cases h : i < n
  · rw [List.getElem?_map, List.getElem?_range h, if_pos h]; rfl
  · rw [if_neg h, List.getElem?_eq_none]; simp; omega
theorem tmL_getD (n : Nat) (t : TT) (i : Nat) : (tmL n t).getD i AV.undef = if i < n then getT i t else AV.undef := by
  rw [List.getD_eq_getElem?_getD, tmL_get]
  split <;> rfl

theorem ble_lt (i n : Nat) : Nat.ble (Nat.succ i) n = decide (i < n) := by
  rw [Bool.eq_iff_iff, Nat.ble_eq, decide_eq_true_eq]
  omega

noncomputable def evF (n : Nat) (x : CA) (t : TT) : AV :=
  CA.rec (fun i => Bool.rec AV.undef (getT i t) (Nat.ble (Nat.succ i) n)) (fun v => v) (fun i => .ptr (some (i, 0))) (fun i => .func (.func i) [] []) x
theorem evF_eq (n : Nat) (x : CA) (t : TT) : evF n x t = x.ev (tmL n t) := by
  cases x with
  | t i =>
    show @Bool.rec (fun _ => AV) AV.undef (getT i t) (Nat.ble (Nat.succ i) n) = (tmL n t).getD i AV.undef
    rw [tmL_getD, ble_lt]
    by_cases h : i < n <;> simp [h]
  | _ => rfl

section
variable {ρ : Type}

def putT (n : Nat) (d : Option Nat) (v : AV) (t : TT) : TT := match d with
  | none => t
  | some i => if i < n then Tr.setF (i + 1) t i v else t

noncomputable def putF (n : Nat) (d : Option Nat) (v : AV) (t : TT) (k : TT → ρ) : ρ := Option.rec (k t) (fun i => Bool.rec (k t) (setK (toPa i) v t k) (Nat.ble (Nat.succ i) n)) d
theorem putF_eq (n : Nat) (d : Option Nat) (v : AV) (t : TT) (k : TT → ρ) : putF n d v t k = k (putT n d v t) := by
  cases d with
  | none => rfl
  | some i =>
    show @Bool.rec (fun _ => ρ) (k t) (setK (toPa i) v t k) (Nat.ble (Nat.succ i) n) = k (if i < n then Tr.setF (i + 1) t i v else t)
    rw [ble_lt]
    by_cases h : i < n
    · simp only [h, decide_true, if_true]
      exact setK_eq v (i + 1) i (by omega) t (i + 1) (by omega) k
    · simp only [h, decide_false, if_false]

theorem tmL_put (n : Nat) (d : Option Nat) (v : AV) (t : TT) : tmL n (putT n d v t) = put (tmL n t) d v := by
  cases d with
  | none => rfl
  | some i =>
    simp only [putT, put]
    apply List.ext_getElem?
    intro j
    rw [List.getElem?_set]
    by_cases h : i < n
    · simp only [h, if_true]
      rw [tmL_get, tmL_get, getT_eq, getT_eq, Tr.get_setF v (i + 1) t i j (by omega), tmL_length]
      by_cases hij : i = j
      · subst hij; simp [h]
      · simp [hij, Ne.symm hij]
    · simp only [h, if_false]
      by_cases hij : i = j
      · subst hij; rw [if_pos rfl, tmL_get, tmL_length, if_neg h, if_neg h]
      · simp [hij]

/-! ### What a value is -/

noncomputable def onBool (v : AV) (k : Bool → Option ρ) : Option ρ :=
  AV.casesOn v k (fun _ _ => none) (fun _ => none) (fun _ => none) (fun _ _ _ => none) (fun _ => none) (fun _ _ _ => none) none (fun _ _ => none) none (fun _ => none) (fun _ => none) (fun _ => none)
noncomputable def onInt (v : AV) (k : IntKind → Int → Option ρ) : Option ρ :=
  AV.casesOn v (fun _ => none) k (fun _ => none) (fun _ => none) (fun _ _ _ => none) (fun _ => none) (fun _ _ _ => none) none (fun _ _ => none) none (fun _ => none) (fun _ => none) (fun _ => none)
noncomputable def onStr (v : AV) (k : List UInt8 → Option ρ) : Option ρ :=
  AV.casesOn v (fun _ => none) (fun _ _ => none) k (fun _ => none) (fun _ _ _ => none) (fun _ => none) (fun _ _ _ => none) none (fun _ _ => none) none (fun _ => none) (fun _ => none) (fun _ => none)
noncomputable def onPtr (v : AV) (k : Nat → Nat → Option ρ) : Option ρ :=
  AV.casesOn v (fun _ => none) (fun _ _ => none) (fun _ => none) (fun a => Option.rec none (fun p => Prod.rec k p) a) (fun _ _ _ => none) (fun _ => none) (fun _ _ _ => none) none (fun _ _ => none) none (fun _ => none) (fun _ => none) (fun _ => none)
noncomputable def onSlice (v : AV) (k : Option (Nat × Nat) → Nat → Option ρ) : Option ρ :=
  AV.casesOn v (fun _ => none) (fun _ _ => none) (fun _ => none) (fun _ => none) (fun a n _ => k a n) (fun _ => none) (fun _ _ _ => none) none (fun _ _ => none) none (fun _ => none) (fun _ => none) (fun _ => none)
noncomputable def onFunc (v : AV) (k : Nat → List AV → List AV → Option ρ) : Option ρ :=
  match v with
  | .func (.func g) a c => k g a c
  | _ => none
noncomputable def onAgg (v : AV) (k : List AV → Option ρ) : Option ρ :=
  AV.casesOn v (fun _ => none) (fun _ _ => none) (fun _ => none) (fun _ => none) (fun _ _ _ => none) (fun _ => none) (fun _ _ _ => none) none (fun _ _ => none) none k (fun _ => none) (fun _ => none)
noncomputable def onTuple (v : AV) (k : List AV → Option ρ) : Option ρ :=
  AV.casesOn v (fun _ => none) (fun _ _ => none) (fun _ => none) (fun _ => none) (fun _ _ _ => none) (fun _ => none) (fun _ _ _ => none) none (fun _ _ => none) none (fun _ => none) k (fun _ => none)

/-! ### Lists -/

noncomputable def nthF {α : Type} (l : List α) : Nat → Option α := List.rec (fun _ => none) (fun a _ ih i => Nat.rec (some a) (fun j _ => ih j) i) l
theorem nthF_eq {α : Type} : ∀ (l : List α) (i : Nat), nthF l i = l[i]?
  | [], i => by simp [nthF]
  | a :: l, 0 => rfl
  | a :: l, i + 1 => by
    show nthF l i = _
    rw [nthF_eq l i]
    simp

noncomputable def strEqF (a : List UInt8) : List UInt8 → Bool :=
  List.rec (fun b => List.rec true (fun _ _ _ => false) b) (fun x _ ih b => List.rec false (fun y b' _ => Bool.rec false (ih b') (Nat.beq (UInt8.toNat x) (UInt8.toNat y))) b) a
theorem strEqF_eq : ∀ a b : List UInt8, strEqF a b = decide (a = b)
  | [], [] => by simp [strEqF]
  | [], b :: bs => by simp [strEqF]
  | a :: as, [] => by simp [strEqF]
  | a :: as, b :: bs => by
    show @Bool.rec (fun _ => Bool) false (strEqF as bs) (Nat.beq a.toNat b.toNat) = _
    rw [strEqF_eq as bs]
    cases h : Nat.beq a.toNat b.toNat with
    | true =>
      have := UInt8.toNat.inj (Nat.eq_of_beq_eq_true h)
      subst this
      simp
    | false =>
      have : a ≠ b := fun he => by subst he; rw [Nat.beq_refl] at h; cases h
      simp [this]

/-- A list with one thing in its place, if there is such a place. -/
noncomputable def lsetK {α : Type} (x : α) (l : List α) : Nat → (List α → Option ρ) → Option ρ :=
  List.rec (fun _ _ => none) (fun a l ih i k => Nat.rec (k (x :: l)) (fun j _ => ih j fun l' => k (a :: l')) i) l
theorem lsetK_eq {α : Type} (x : α) : ∀ (l : List α) (i : Nat) (k : List α → Option ρ), lsetK x l i k = if i < l.length then k (l.take i ++ [x] ++ l.drop (i + 1)) else none
  | [], i, k => by simp [lsetK]
  | a :: l, 0, k => by
    show k (x :: l) = _
    simp
  | a :: l, i + 1, k => by
    show lsetK x l i (fun l' => k (a :: l')) = _
    rw [lsetK_eq x l i]
    by_cases h : i < l.length
    · simp [h]
    · simp [h]

/-! ### Two operands -/

noncomputable def intBin (g : IntKind → Int → Int → Option AV) (op : BinOp) (e : EqT) (x y : AV) : Option AV :=
  match x, y with
  | .int k a, .int k' b => if k = k' then g k a b else none
  | x, y => abin op e x y

noncomputable def eqBin (neg : Bool) (op : BinOp) (e : EqT) (x y : AV) : Option AV :=
  match x, y with
  | .int k a, .int k' b => if k = k' then some (.bool (Bool.rec (eqF a b) (Bool.rec true false (eqF a b)) neg)) else none
  | .str a, .str b => some (.bool (Bool.rec (strEqF a b) (Bool.rec true false (strEqF a b)) neg))
  | x, y => abin op e x y

noncomputable def mkBin (op : BinOp) (e : EqT) : Option (AV → AV → Option AV) :=
  match op with
  | .add => some (intBin (fun k a b => some (.int k (wrapF k (addF a b)))) .add e)
  | .sub => some (intBin (fun k a b => some (.int k (wrapF k (subF a b)))) .sub e)
  | .lss => some (intBin (fun _ a b => some (.bool (ltF a b))) .lss e)
  | .leq => some (intBin (fun _ a b => some (.bool (leF a b))) .leq e)
  | .gtr => some (intBin (fun _ a b => some (.bool (ltF b a))) .gtr e)
  | .geq => some (intBin (fun _ a b => some (.bool (leF b a))) .geq e)
  | .eql => some (eqBin false .eql e)
  | .neq => some (eqBin true .neq e)
  | op => some (abin op e)

theorem intBin_eq {g : IntKind → Int → Int → Option AV} {op : BinOp} (e : EqT) (hs : isShift op = false) (hg : ∀ k a b, g k a b = aint op k a b) (x y : AV) : intBin g op e x y = abin op e x y := by
  unfold intBin
  split
  · simp only [abin, hs, hg, Bool.false_eq_true, if_false]
  · rfl

theorem boolNot (b : Bool) : (Bool.rec true false b : Bool) = !b := by cases b <;> rfl

theorem eqBin_eql (e : EqT) (x y : AV) : eqBin false .eql e x y = abin .eql e x y := by
  unfold eqBin
  split
  · rename_i k a k' b
    simp only [abin, isShift, aint, eqF_eq, Bool.false_eq_true, if_false]
  · rename_i a b
    simp only [abin, astr, strEqF_eq]
  · rfl

theorem eqBin_neq (e : EqT) (x y : AV) : eqBin true .neq e x y = abin .neq e x y := by
  unfold eqBin
  split
  · rename_i k a k' b
    simp only [abin, isShift, aint, eqF_eq, Bool.false_eq_true, if_false, boolNot]
    rfl
  · rename_i a b
    simp only [abin, astr, strEqF_eq, boolNot]
  · rfl

theorem mkBin_eq (op : BinOp) (e : EqT) : ∃ f, mkBin op e = some f ∧ ∀ x y, f x y = abin op e x y := by
  cases op
  case add => exact ⟨_, rfl, intBin_eq e rfl fun k a b => by rw [wrapF_eq, addF_eq]; rfl⟩
  case sub => exact ⟨_, rfl, intBin_eq e rfl fun k a b => by rw [wrapF_eq, subF_eq]; rfl⟩
  case lss => exact ⟨_, rfl, intBin_eq e rfl fun k a b => by rw [ltF_eq]; rfl⟩
  case leq => exact ⟨_, rfl, intBin_eq e rfl fun k a b => by rw [leF_eq]; rfl⟩
  case gtr => exact ⟨_, rfl, intBin_eq e rfl fun k a b => by rw [ltF_eq]; rfl⟩
  case geq => exact ⟨_, rfl, intBin_eq e rfl fun k a b => by rw [leF_eq]; rfl⟩
  case eql => exact ⟨_, rfl, eqBin_eql e⟩
  case neq => exact ⟨_, rfl, eqBin_neq e⟩
  all_goals exact ⟨_, rfl, fun _ _ => rfl⟩

/-! ### Memory -/

noncomputable def readVarF (h : AH) (b o : Nat) (agg : Option Nat) : Option AV :=
  Option.rec none (fun c => Blk.rec (fun c _ => Option.rec (nthF c o) (fun n => (cut c o n).map .agg) agg) (fun _ => none) none (fun _ _ => none) (fun _ _ => none) c) (hget h b)
theorem readVarF_eq (h : AH) (b o : Nat) (agg : Option Nat) : readVarF h b o agg = readVar h b o agg := by
  unfold readVarF
  rw [hget_eq]
  unfold readVar readCell readCells
  cases h.get b with
  | none => cases agg <;> rfl
  | some c =>
    cases c with
    | cells c ro =>
      cases agg with
      | none => exact nthF_eq c o
      | some n => rfl
    | _ => cases agg <;> rfl

noncomputable def partOfF (agg : Option Nat) (cs : List AV) (off : Nat) : Option AV := Option.rec (nthF cs off) (fun n => (cut cs off n).map .agg) agg
theorem partOfF_eq (agg : Option Nat) (cs : List AV) (off : Nat) : partOfF agg cs off = partOf agg cs off := by
  cases agg with
  | none => exact nthF_eq cs off
  | some n => rfl

/-- One cell written over. -/
noncomputable def store1 (h : AH) (b o : Nat) (v : AV) (k : AH → Option ρ) : Option ρ :=
  Option.rec none (fun c => Blk.rec (fun c ro => Bool.rec (lsetK v c o fun c' => hset h b (.cells c' false) k) none ro) (fun _ => none) none (fun _ _ => none) (fun _ _ => none) c) (hget h b)
theorem store1_eq (h : AH) (b o : Nat) (v : AV) (hv : v.one = true) (k : AH → Option ρ) : store1 h b o v k = (writeCells h b o [v]).bind k := by
  unfold store1 writeCells
  rw [hget_eq]
  cases h.get b with
  | none => rfl
  | some c =>
    cases c with
    | cells c ro =>
      cases ro with
      | true => rfl
      | false =>
        show lsetK v c o (fun c' => hset h b (.cells c' false) k) = _
        rw [lsetK_eq]
        simp only [List.length_singleton, List.all_cons, List.all_nil, hv, Bool.and_true, decide_eq_true_eq]
        by_cases ho : o < c.length
        · rw [if_pos ho, if_pos (by omega), hset_eq]
          rfl
        · rw [if_neg ho, if_neg (by omega)]
          rfl
    | _ => rfl
end
end Go.Fs
