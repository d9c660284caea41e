/- The machine once more, made so that the kernel runs it quickly: temporaries lie in a tree, and what is looked at again is made plain at once. It tells just what the machine tells. First: numbers, values, trees. -/
import Derived.Test.YtdehfehdaiappaaGreatDoorFsRow
namespace Go.Fs

section
variable {ρ : Type}

/-! ### Made plain -/

noncomputable def natK (n : Nat) (k : Nat → ρ) : ρ := Nat.rec (k 0) (fun m _ => k (Nat.succ m)) n
theorem natK_eq (n : Nat) (k : Nat → ρ) : natK n k = k n := by cases n <;> rfl

noncomputable def intK (n : Int) (k : Int → ρ) : ρ := Int.rec (fun m => natK m fun m' => k (.ofNat m')) (fun m => natK m fun m' => k (.negSucc m')) n
theorem intK_eq (n : Int) (k : Int → ρ) : intK n k = k n := by cases n <;> simp [intK, natK_eq]

noncomputable def capK (c : Cap) (k : Cap → ρ) : ρ := Cap.rec (fun n => natK n fun m => k (.exact m)) (fun n => natK n fun m => k (.opn m)) c
theorem capK_eq (c : Cap) (k : Cap → ρ) : capK c k = k c := by cases c <;> simp [capK, natK_eq]

noncomputable def boolK (b : Bool) (k : Bool → ρ) : ρ := Bool.rec (k false) (k true) b
theorem boolK_eq (b : Bool) (k : Bool → ρ) : boolK b k = k b := by cases b <;> rfl

noncomputable def addrK (a : Option (Nat × Nat)) (k : Option (Nat × Nat) → ρ) : ρ :=
  Option.rec (k none) (fun p => Prod.rec (fun b o => natK b fun b' => natK o fun o' => k (some (b', o'))) p) a
theorem addrK_eq (a : Option (Nat × Nat)) (k : Option (Nat × Nat) → ρ) : addrK a k = k a := by
  cases a with
  | none => rfl
  | some p => obtain ⟨b, o⟩ := p; simp [addrK, natK_eq]

noncomputable def mapK (a : Option Nat) (k : Option Nat → ρ) : ρ := Option.rec (k none) (fun b => natK b fun b' => k (some b')) a
theorem mapK_eq (a : Option Nat) (k : Option Nat → ρ) : mapK a k = k a := by cases a <;> simp [mapK, natK_eq]

noncomputable def forceK (v : AV) (k : AV → ρ) : ρ :=
  AV.casesOn v (fun b => boolK b fun b' => k (.bool b')) (fun kd n => intK n fun n' => k (.int kd n')) (fun s => k (.str s)) (fun a => addrK a fun a' => k (.ptr a'))
    (fun a n c => addrK a fun a' => natK n fun n' => capK c fun c' => k (.slice a' n' c')) (fun r => mapK r fun r' => k (.map r')) (fun f a c => k (.func f a c)) (k .nilFunc) (fun t v => k (.iface t v)) (k .nilIface)
    (fun cs => k (.agg cs)) (fun vs => k (.tuple vs)) (fun c => k (.junk c))
theorem forceK_eq (v : AV) (k : AV → ρ) : forceK v k = k v := by
  cases v <;> simp [forceK, boolK_eq, intK_eq, addrK_eq, natK_eq, capK_eq, mapK_eq]

/-- A value that may be there. -/
noncomputable def optK (r : Option AV) (k : AV → Option ρ) : Option ρ := Option.rec none (fun v => forceK v k) r
theorem optK_eq (r : Option AV) (k : AV → Option ρ) : optK r k = r.bind k := by cases r <;> simp [optK, forceK_eq]

/-! ### Trees -/

/-- The way to a place. -/
inductive Pa where
  | z
  | l (p : Pa)
  | r (p : Pa)

noncomputable def toPaF (f : Nat) : Nat → Pa := Nat.rec (fun _ => .z) (fun _ ih k => Bool.rec (Bool.rec (.r (ih (Nat.pred (Nat.div k 2)))) (.l (ih (Nat.div k 2))) (Nat.beq (Nat.mod k 2) 1)) .z (Nat.beq k 0)) f
noncomputable def toPa (k : Nat) : Pa := toPaF (Nat.succ k) k

theorem toPaF_succ (f k : Nat) : toPaF (f + 1) k = if k = 0 then .z else if k % 2 = 1 then .l (toPaF f (k / 2)) else .r (toPaF f (k / 2 - 1)) := by
  show @Bool.rec (fun _ => Pa) (@Bool.rec (fun _ => Pa) (Pa.r (toPaF f (Nat.pred (Nat.div k 2)))) (Pa.l (toPaF f (Nat.div k 2))) (Nat.beq (Nat.mod k 2) 1)) Pa.z (Nat.beq k 0) = _
  by_cases h0 : k = 0
  · subst h0; rfl
  · have e0 : Nat.beq k 0 = false := by cases k with
      | zero => exact absurd rfl h0
      | succ k => rfl
    rw [e0]
    simp only [h0, if_false]
    by_cases h1 : k % 2 = 1
    · have e1 : Nat.beq (Nat.mod k 2) 1 = true := by
        have h2 : Nat.mod k 2 = 1 := h1
        rw [h2]; rfl
      rw [e1]
      simp only [h1, if_true]
      rfl
    · have e1 : Nat.beq (Nat.mod k 2) 1 = false := by
        cases h : Nat.beq (Nat.mod k 2) 1 with
        | false => rfl
        | true => exact absurd (Nat.eq_of_beq_eq_true h) h1
      rw [e1]
      simp only [h1, if_false]
      rfl

noncomputable def getP {α : Type} (p : Pa) : Tr α → Option α :=
  Pa.rec (fun t => Tr.rec none (fun v _ _ _ _ => v) t) (fun _ ih t => Tr.rec none (fun _ l _ _ _ => ih l) t) (fun _ ih t => Tr.rec none (fun _ _ r _ _ => ih r) t) p

theorem getP_eq {α : Type} : ∀ (f k : Nat), k < f → ∀ t : Tr α, getP (toPaF f k) t = t.get k
  | 0, k, h, _ => by omega
  | f + 1, k, h, t => by
    rw [toPaF_succ]
    cases t with
    | leaf =>
      have : (Tr.leaf : Tr α).get k = none := by unfold Tr.get; rfl
      rw [this]
      split
      · rfl
      · split <;> rfl
    | node v l r =>
      rw [show (Tr.node v l r).get k = if k = 0 then v else if k % 2 = 1 then l.get (k / 2) else r.get (k / 2 - 1) from rfl]
      by_cases h0 : k = 0
      · simp only [h0, if_true]; rfl
      · simp only [h0, if_false]
        by_cases h1 : k % 2 = 1
        · simp only [h1, if_true]
          exact getP_eq f _ (by omega) l
        · simp only [h1, if_false]
          exact getP_eq f _ (by omega) r

/-- The tree with a thing in its place, all on the way made plain. -/
noncomputable def setK {α : Type} (p : Pa) (x : α) : Tr α → (Tr α → ρ) → ρ :=
  Pa.rec (fun t k => Tr.rec (k (.node (some x) .leaf .leaf)) (fun _ l r _ _ => k (.node (some x) l r)) t)
    (fun _ ih t k => Tr.rec (ih .leaf fun l' => k (.node none l' .leaf)) (fun v l r _ _ => ih l fun l' => k (.node v l' r)) t)
    (fun _ ih t k => Tr.rec (ih .leaf fun r' => k (.node none .leaf r')) (fun v l r _ _ => ih r fun r' => k (.node v l r')) t) p

theorem setK_eq {α : Type} (x : α) : ∀ (f k : Nat), k < f → ∀ (t : Tr α) (g : Nat), k < g → ∀ (K : Tr α → ρ), setK (toPaF f k) x t K = K (Tr.setF g t k x)
  | 0, k, h, _, _, _, _ => by omega
  | f + 1, k, h, t, 0, hg, _ => by omega
  | f + 1, k, h, t, g + 1, hg, K => by
    rw [toPaF_succ]
    cases t with
    | leaf =>
      unfold Tr.setF
      by_cases h0 : k = 0
      · simp only [h0, if_true]; rfl
      · simp only [h0, if_false]
        by_cases h1 : k % 2 = 1
        · simp only [h1, if_true]
          exact setK_eq x f _ (by omega) .leaf g (by omega) _
        · simp only [h1, if_false]
          exact setK_eq x f _ (by omega) .leaf g (by omega) _
    | node v l r =>
      unfold Tr.setF
      by_cases h0 : k = 0
      · simp only [h0, if_true]; rfl
      · simp only [h0, if_false]
        by_cases h1 : k % 2 = 1
        · simp only [h1, if_true]
          exact setK_eq x f _ (by omega) l g (by omega) _
        · simp only [h1, if_false]
          exact setK_eq x f _ (by omega) r g (by omega) _

/-! ### The heap -/

noncomputable def hget (h : AH) (b : Nat) : Option Blk := Hp.rec (fun _ _ t => getP (toPa b) t) h
theorem hget_eq (h : AH) (b : Nat) : hget h b = h.get b := by
  cases h
  exact getP_eq (b + 1) b (by omega) _

noncomputable def hpush (h : AH) (x : Blk) (k : AH → ρ) : ρ := Hp.rec (fun n low t => natK n fun n' => setK (toPa n') x t fun t' => natK (Nat.succ n') fun m => k ⟨m, low, t'⟩) h
theorem hpush_eq (h : AH) (x : Blk) (k : AH → ρ) : hpush h x k = k (h.push x) := by
  cases h with
  | mk n low t =>
    show natK n (fun n' => setK (toPa n') x t fun t' => natK (Nat.succ n') fun m => k ⟨m, low, t'⟩) = _
    rw [natK_eq]
    unfold toPa
    rw [setK_eq x (n + 1) n (by omega) t (n + 1) (by omega), natK_eq]
    rfl

noncomputable def hset (h : AH) (b : Nat) (x : Blk) (k : AH → ρ) : ρ := Hp.rec (fun n low t => setK (toPa b) x t fun t' => natK (Nat.rec low (fun _ _ => b) (Nat.sub low b)) fun m => k ⟨n, m, t'⟩) h
theorem hset_eq (h : AH) (b : Nat) (x : Blk) (k : AH → ρ) : hset h b x k = k (h.set b x) := by
  cases h with
  | mk n low t =>
    show setK (toPa b) x t (fun t' => natK (Nat.rec low (fun _ _ => b) (Nat.sub low b)) fun m => k ⟨n, m, t'⟩) = _
    unfold toPa
    rw [setK_eq x (b + 1) b (by omega) t (b + 1) (by omega), natK_eq]
    have hm : (Nat.rec low (fun _ _ => b) (Nat.sub low b) : Nat) = min low b := by
      have hs : Nat.sub low b = low - b := rfl
      cases hd : Nat.sub low b with
      | zero => show low = _; omega
      | succ d => show b = _; omega
    rw [hm]
    rfl

/-- A heap's head made plain. -/
noncomputable def heapK (h : AH) (k : AH → ρ) : ρ := Hp.rec (fun n low t => natK n fun n' => natK low fun low' => Tr.rec (k ⟨n', low', .leaf⟩) (fun v l r _ _ => k ⟨n', low', .node v l r⟩) t) h
theorem heapK_eq (h : AH) (k : AH → ρ) : heapK h k = k h := by
  cases h with
  | mk n low t =>
    show natK n (fun n' => natK low fun low' => @Tr.rec Blk (fun _ => ρ) (k ⟨n', low', .leaf⟩) (fun v l r _ _ => k ⟨n', low', .node v l r⟩) t) = _
    rw [natK_eq, natK_eq]
    cases t <;> rfl

/-- What an operation has come to, handed on. -/
noncomputable def resK (r : Option (AV × AH)) (k : AV → AH → Option ρ) : Option ρ := Option.rec none (fun p => Prod.rec (fun v h => forceK v fun v' => heapK h fun h' => k v' h') p) r
theorem resK_eq (r : Option (AV × AH)) (k : AV → AH → Option ρ) : resK r k = r.bind fun p => k p.1 p.2 := by
  cases r with
  | none => rfl
  | some p => obtain ⟨v, h⟩ := p; simp [resK, forceK_eq, heapK_eq]
end

/-! ### Arithmetic -/

noncomputable def addF (a b : Int) : Int := Int.rec (fun m => Int.rec (fun n => .ofNat (Nat.add m n)) (fun _ => a + b) b) (fun _ => a + b) a
theorem addF_eq (a b : Int) : addF a b = a + b := by cases a <;> cases b <;> rfl
noncomputable def subF (a b : Int) : Int := Int.rec (fun m => Int.rec (fun n => Bool.rec (a - b) (.ofNat (Nat.sub m n)) (Nat.ble n m)) (fun _ => a - b) b) (fun _ => a - b) a
theorem subF_eq (a b : Int) : subF a b = a - b := by
  cases a <;> cases b <;> try rfl
  rename_i m n
  show @Bool.rec (fun _ => Int) (Int.ofNat m - Int.ofNat n) (Int.ofNat (Nat.sub m n)) (Nat.ble n m) = _
  cases h : Nat.ble n m with
  | false => rfl
  | true =>
    have := Nat.le_of_ble_eq_true h
    show Int.ofNat (m - n) = _
    simp only [Int.ofNat_eq_natCast]
    omega

noncomputable def ltF (a b : Int) : Bool := Int.rec (fun m => Int.rec (fun n => Nat.ble (Nat.succ m) n) (fun _ => decide (a < b)) b) (fun _ => decide (a < b)) a
theorem ltF_eq (a b : Int) : ltF a b = decide (a < b) := by
  cases a <;> cases b <;> try rfl
  rename_i m n
  show Nat.ble (Nat.succ m) n = _
  rw [Bool.eq_iff_iff, Nat.ble_eq, decide_eq_true_eq]
  simp only [Int.ofNat_eq_natCast]
  omega
noncomputable def leF (a b : Int) : Bool := Int.rec (fun m => Int.rec (fun n => Nat.ble m n) (fun _ => decide (a ≤ b)) b) (fun _ => decide (a ≤ b)) a
theorem leF_eq (a b : Int) : leF a b = decide (a ≤ b) := by
  cases a <;> cases b <;> try rfl
  rename_i m n
  show Nat.ble m n = _
  rw [Bool.eq_iff_iff, Nat.ble_eq, decide_eq_true_eq]
  simp only [Int.ofNat_eq_natCast]
  omega
noncomputable def eqF (a b : Int) : Bool := Int.rec (fun m => Int.rec (fun n => Nat.beq m n) (fun _ => a == b) b) (fun _ => a == b) a
theorem eqF_eq (a b : Int) : eqF a b = (a == b) := by
  cases a <;> cases b <;> try rfl
  rename_i m n
  show Nat.beq m n = _
  rw [Bool.eq_iff_iff, beq_iff_eq, Int.ofNat.injEq]
  exact ⟨Nat.eq_of_beq_eq_true, fun h => by subst h; exact Nat.beq_refl m⟩

/-- The greatest number of a kind, and one below its least's depth. -/
def topOf : IntKind → Nat
  | .i8 => 127
  | .i16 => 32767
  | .i32 => 2147483647
  | .i64 => 9223372036854775807
  | .u8 => 255
  | .u16 => 65535
  | .u32 => 4294967295
  | .u64 => 18446744073709551615

noncomputable def wrapF (k : IntKind) (n : Int) : Int := Int.rec (fun m => Bool.rec (k.wrap n) n (Nat.ble m (topOf k))) (fun m => Bool.rec (k.wrap n) (Bool.rec (k.wrap n) n (Nat.ble m (topOf k))) k.signed) n
theorem wrapF_eq (k : IntKind) (n : Int) : wrapF k n = k.wrap n := by
  cases n with
  | ofNat m =>
    show @Bool.rec (fun _ => Int) (k.wrap (.ofNat m)) (Int.ofNat m) (Nat.ble m (topOf k)) = _
    cases h : Nat.ble m (topOf k) with
    | false => rfl
    | true =>
      have h' := Nat.le_of_ble_eq_true h
      show Int.ofNat m = _
      simp only [Int.ofNat_eq_natCast]
      unfold IntKind.wrap
      cases k <;> simp only [topOf] at h' <;> simp [IntKind.bits, IntKind.signed] <;> omega
  | negSucc m =>
    show @Bool.rec (fun _ => Int) (k.wrap (.negSucc m)) (@Bool.rec (fun _ => Int) (k.wrap (.negSucc m)) (Int.negSucc m) (Nat.ble m (topOf k))) k.signed = _
    cases hs : k.signed with
    | false => rfl
    | true =>
      cases h : Nat.ble m (topOf k) with
      | false => rfl
      | true =>
        have h' := Nat.le_of_ble_eq_true h
        show Int.negSucc m = _
        have h0 : Int.negSucc m = -((m : Int) + 1) := Int.negSucc_eq m
        generalize hn : Int.negSucc m = n at *
        clear h hn
        cases k <;> first | (simp [IntKind.signed] at hs; done) | skip
        all_goals
          simp only [topOf] at h'
          have h1 : n < 0 := by omega
          unfold IntKind.wrap
          simp [IntKind.bits, IntKind.signed]
          omega
end Go.Fs
