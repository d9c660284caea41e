/- Memories of forms: plain lists; the machine's operations on maps. -/
import Derived.Test.YtnhkllnggpncfaaJsCf
import Derived.Test.YtnhkllnggpncfaaFsSym
import Derived.Test.YtnhkllnggpncfaaFsBits
namespace Go.Proofs.Js
open Go Go.Fs

/-- Forms, and how often each was added. -/
abbrev Ent := List (List UInt8 × Nat)
def mes (E : Ent) : List (AV × AV) := E.map fun e => (.str e.1, .int .i64 (e.2 : Int))
def forms (E : Ent) : List AV := E.map fun e => .str e.1
def often (E : Ent) : List AV := E.map fun e => .int .i64 (e.2 : Int)

def findE (f : List UInt8) : Ent → Nat
  | [] => 0
  | e :: E => if f = e.1 then e.2 else findE f E
def idxE (f : List UInt8) : Ent → Option Nat
  | [] => none
  | e :: E => if f = e.1 then some 0 else (idxE f E).map (· + 1)
def putE (f : List UInt8) (n : Nat) : Ent → Ent
  | [] => [(f, n)]
  | e :: E => if f = e.1 then (f, n) :: E else e :: putE f n E

theorem find_mes (f : List UInt8) : ∀ E : Ent, ((mapFind .s (.str f) (mes E)).map fun | some v => v | none => AV.int .i64 0) = some (.int .i64 (findE f E))
  | [] => rfl
  | e :: E => by
    have ih := find_mes f E
    simp only [mes, List.map_cons, mapFind, scalEq, findE]
    by_cases h : f = e.1
    · rw [if_pos h]; simp [h]
    · rw [if_neg h, decide_eq_false h]; exact ih
theorem put_mes (f : List UInt8) (n : Nat) : ∀ E : Ent, mapPut .s (.str f) (.int .i64 n) (mes E) = some (mes (putE f n E))
  | [] => rfl
  | e :: E => by
    have ih := put_mes f n E
    simp only [mes, List.map_cons, mapPut, scalEq, putE]
    by_cases h : f = e.1
    · rw [if_pos h]; simp [h]
    · rw [if_neg h, decide_eq_false h]
      simp only [mes] at ih
      simp [ih]
theorem mes_length (E : Ent) : (mes E).length = E.length := by simp [mes]
theorem forms_length (E : Ent) : (forms E).length = E.length := by simp [forms]
theorem often_length (E : Ent) : (often E).length = E.length := by simp [often]
theorem idx_lt {f : List UInt8} : ∀ {E : Ent} {i : Nat}, idxE f E = some i → i < E.length
  | e :: E, i, h => by
    simp only [idxE] at h
    split at h
    · cases h; simp
    · obtain ⟨j, h1, rfl⟩ := Option.map_eq_some_iff.1 h
      have := idx_lt h1
      simp; omega
theorem idx_none {f : List UInt8} : ∀ {E : Ent}, idxE f E = none → findE f E = 0 ∧ (∀ n, putE f n E = E ++ [(f, n)])
  | [], _ => ⟨rfl, fun _ => rfl⟩
  | e :: E, h => by
    simp only [idxE] at h
    split at h
    · cases h
    · rename_i hn
      have := idx_none (E := E) (by simpa using h)
      exact ⟨by simp [findE, hn, this.1], fun n => by simp [putE, hn, this.2 n]⟩
theorem idx_some {f : List UInt8} : ∀ {E : Ent} {i : Nat}, idxE f E = some i → (often E)[i]? = some (.int .i64 (findE f E : Int)) ∧ ∀ n, forms (putE f n E) = forms E ∧ often (putE f n E) = (often E).set i (.int .i64 (n : Int))
  | e :: E, i, h => by
    simp only [idxE] at h
    split at h
    · rename_i he
      cases h
      exact ⟨by simp [often, findE, he], fun n => ⟨by simp [forms, putE, he], by simp [often, putE, he]⟩⟩
    · rename_i he
      obtain ⟨j, h1, rfl⟩ := Option.map_eq_some_iff.1 h
      obtain ⟨g1, g2⟩ := idx_some h1
      refine ⟨by simp only [often] at g1; simpa [often, findE, he] using g1, fun n => ?_⟩
      obtain ⟨g3, g4⟩ := g2 n
      simp only [forms, often] at g3 g4
      exact ⟨by simp [forms, putE, he, g3], by simp [often, putE, he, g4]⟩
theorem find_le {f : List UInt8} {m : Nat} : ∀ {E : Ent}, (∀ e ∈ E, e.2 ≤ m) → findE f E ≤ m
  | [], _ => Nat.zero_le _
  | e :: E, h => by
    simp only [findE]
    split
    · exact h e (by simp)
    · exact find_le fun x hx => h x (by simp [hx])
theorem put_le {f : List UInt8} {n m : Nat} (hn : n ≤ m) : ∀ {E : Ent}, (∀ e ∈ E, e.2 ≤ m) → ∀ e ∈ putE f n E, e.2 ≤ m
  | [], _, e, he => by simp [putE] at he; subst he; exact hn
  | a :: E, h, e, he => by
    simp only [putE] at he
    split at he
    · rcases List.mem_cons.1 he with rfl | he
      · exact hn
      · exact h e (by simp [he])
    · rcases List.mem_cons.1 he with rfl | he
      · exact h _ (by simp)
      · exact put_le hn (fun x hx => h x (by simp [hx])) e he
theorem put_length (f : List UInt8) (n : Nat) : ∀ E : Ent, (putE f n E).length ≤ E.length + 1
  | [] => Nat.le_refl _
  | e :: E => by
    simp only [putE]
    split
    · simp
    · have := put_length f n E; simp; omega

/-! ### Operations -/
section
variable {call : Rec} {tm : List AV} {h : AH}

def lookB (q : SK) (z : AV) (k : AV) : Option Blk → Option AV
  | some (.map es) => if scalar q k then (mapFind q k es).map fun | some v => v | none => z else none
  | _ => none
def lookV (q : SK) (z m k : AV) (h : AH) : Option (AV × AH) :=
  match m with
  | .map (some r) => (lookB q z k (h.get r)).map fun v => (v, h)
  | .map none => if scalar q k then some (z, h) else none
  | _ => none
theorem op_lookup (q : SK) (z : AV) (m k : CA) : runOp call (.lookup q z false m k) tm h = lookV q z (m.ev tm) (k.ev tm) h := by
  simp only [runOp, CO.quiet, if_true, quietRun, lookV]
  generalize m.ev tm = v
  cases v <;> first | rfl | skip
  rename_i r
  cases r with
  | none => simp only [Bool.false_eq_true, if_false]; split <;> rfl
  | some r =>
    simp only [lookB]
    cases h.get r with
    | none => rfl
    | some b => cases b <;> rfl
theorem lookV_some (q : SK) (z k : AV) (r : Nat) : lookV q z (.map (some r)) k h = (lookB q z k (h.get r)).map fun v => (v, h) := rfl
theorem lookB_mes (f : List UInt8) (E : Ent) : lookB .s (.int .i64 0) (.str f) (some (.map (mes E))) = some (.int .i64 (findE f E)) := by
  simp only [lookB, scalar, if_true]
  exact find_mes f E

def msetB (q : SK) (r : Nat) (k v : AV) (h : AH) : Option Blk → Option (AV × AH)
  | some (.map es) => if scalar q k then (mapPut q k v es).map fun es' => (AV.undef, h.set r (.map es')) else none
  | _ => none
def msetV (q : SK) (m k v : AV) (h : AH) : Option (AV × AH) :=
  match m with
  | .map (some r) => msetB q r k v h (h.get r)
  | _ => none
theorem op_mapset (q : SK) (m k v : CA) : runOp call (.mapset q m k v) tm h = msetV q (m.ev tm) (k.ev tm) (v.ev tm) h := by
  simp only [runOp, CO.quiet, Bool.false_eq_true, if_false, effRun, msetV]
  generalize m.ev tm = u
  cases u with
  | map r =>
    cases r with
    | none => rfl
    | some r =>
      simp only [msetB]
      cases h.get r with
      | none => rfl
      | some b => cases b <;> rfl
  | _ => rfl
theorem msetV_some (q : SK) (k v : AV) (r : Nat) : msetV q (.map (some r)) k v h = msetB q r k v h (h.get r) := rfl
theorem msetB_mes (r : Nat) (f : List UInt8) (n : Nat) (E : Ent) : msetB .s r (.str f) (.int .i64 (n : Int)) h (some (.map (mes E))) = some (AV.undef, h.set r (.map (mes (putE f n E)))) := by
  simp only [msetB, scalar, if_true, put_mes, Option.map_some]

def lenMB : Option Blk → Option AV
  | some (.map es) => some (.int .i64 es.length)
  | _ => none
def lenMV (m : AV) (h : AH) : Option (AV × AH) :=
  match m with
  | .map none => some (.int .i64 0, h)
  | .map (some r) => (lenMB (h.get r)).map fun v => (v, h)
  | _ => none
theorem op_lenM (m : CA) : runOp call (.lenM m) tm h = lenMV (m.ev tm) h := by
  simp only [runOp, CO.quiet, if_true, quietRun, lenMV]
  generalize m.ev tm = u
  cases u <;> first | rfl | skip
  rename_i r
  cases r with
  | none => rfl
  | some r =>
    simp only [lenMB]
    cases h.get r with
    | none => rfl
    | some b => cases b <;> rfl
theorem lenMV_some (r : Nat) : lenMV (.map (some r)) h = (lenMB (h.get r)).map fun v => (v, h) := rfl
theorem lenMB_mes (E : Ent) : lenMB (some (.map (mes E))) = some (.int .i64 (E.length : Int)) := by simp only [lenMB, mes_length]

def nilV (v : AV) (h : AH) : Option (AV × AH) :=
  match v with
  | .ptr (some p) => some (.ptr (some p), h)
  | .func (.func f) fi ca => some (.func (.func f) fi ca, h)
  | _ => none
theorem op_nilchk (x : CA) : runOp call (.nilchk x) tm h = nilV (x.ev tm) h := by
  simp only [runOp, CO.quiet, if_true, quietRun, nilV]
  generalize x.ev tm = u
  cases u <;> first | rfl | skip
  · rename_i a; cases a <;> rfl
  · rename_i f _ _; cases f <;> rfl
theorem nilV_ptr (p : Nat × Nat) : nilV (.ptr (some p)) h = some (.ptr (some p), h) := rfl

def iaddrAV (n esz : Nat) (v i : AV) (h : AH) : Option (AV × AH) :=
  match v, i with
  | .ptr (some (b, o)), .int _ j => if 0 ≤ j ∧ j < n then some (.ptr (some (b, o + j.toNat * esz)), h) else none
  | _, _ => none
theorem op_iaddrA (n esz : Nat) (x i : CA) : runOp call (.iaddrA n esz x i) tm h = iaddrAV n esz (x.ev tm) (i.ev tm) h := by
  simp only [runOp, CO.quiet, if_true, quietRun, iaddrAV]
  generalize x.ev tm = v
  generalize i.ev tm = u
  cases v <;> first | rfl | skip
  rename_i a
  cases a <;> first | rfl | skip
  cases u <;> first | rfl | skip
  simp only
  split <;> rfl
theorem iaddrAV_nat {n esz b o i : Nat} {k : IntKind} (h1 : i < n) : iaddrAV n esz (.ptr (some (b, o))) (.int k (i : Int)) h = some (.ptr (some (b, o + i * esz)), h) := by
  unfold iaddrAV
  simp only
  rw [if_pos ⟨by omega, by omega⟩, Int.toNat_natCast]
theorem op_mkM : runOp call .mkM tm h = some (.map (some h.n), h.push (.map [])) := rfl

theorem append_nil {bytes L : Nat} {x : AV} (hb : bytes ≤ 64) (hL : h.get L = some (.cells [x] false)) :
    appendRun 1 bytes (.slice none 0 (.exact 0)) (.slice (some (L, 0)) 1 (.exact 1)) h = some (.slice (some (h.n, 0)) 1 (.opn 1), h.push (.cells [x] false)) := by
  unfold appendRun
  simp only [lenOf, Option.bind_some, elemsOf, readCells, hL, cut, List.length_cons, List.length_nil]
  simp [appendCore, elemsOf]
  omega
theorem append_row {bytes L b n : Nat} {cs : List AV} {x : AV} (hb : bytes ≤ 64) (hL : h.get L = some (.cells [x] false)) (h1 : AV.one x = true) (hg : h.get b = some (.cells cs false)) (hn : cs.length = n) (h0 : 0 < n) (h2 : n ≤ 4096) :
    appendRun 1 bytes (.slice (some (b, 0)) n (.opn 1)) (.slice (some (L, 0)) 1 (.exact 1)) h = some (.slice (some (h.n, 0)) (n + 1) (.opn 1), (h.set b .dead).push (.cells (cs ++ [x]) false)) := by
  have hne : ¬ n = 0 := by omega
  have hm : (n + 1) * bytes ≤ 140737488355328 := by
    have : (n + 1) * bytes ≤ 4097 * 64 := Nat.mul_le_mul (by omega) hb
    omega
  have ht : List.take n cs = cs := by rw [← hn]; exact List.take_length
  unfold appendRun
  simp only [lenOf, Option.bind_some, elemsOf, readCells, hL, cut, List.length_cons, List.length_nil]
  simp [appendCore, elemsOf, readCells, hg, cut, hn, hne, hm, ht, h1]
  rw [if_neg (by omega), if_pos (by omega)]
end

theorem bits_and1 (n : Int) : ∃ k : Bool, bits .and .i64 n 1 = ((k.toNat : Nat) : Int) := by
  have e : bits .and .i64 n 1 = IntKind.wrap .i64 (((BitVec.ofInt 64 n) &&& (BitVec.ofInt 64 1)).toNat : Int) := rfl
  have e2 : ((BitVec.ofInt 64 n) &&& (BitVec.ofInt 64 1)).toNat = (BitVec.ofInt 64 n).toNat % 2 := by
    rw [BitVec.toNat_and, show (BitVec.ofInt 64 1).toNat = 1 by decide, Nat.and_one_is_mod]
  rw [e, e2, wrap_i64 (by omega) (by omega)]
  rcases Nat.mod_two_eq_zero_or_one (BitVec.ofInt 64 n).toNat with h | h
  · exact ⟨false, by rw [h]; rfl⟩
  · exact ⟨true, by rw [h]; rfl⟩

theorem settle_low {h h' : AH} {v : AV} (hl : h'.low < h.n) : Fs.settle h h' v = (v, h'.withLow (min h.low h'.low)) := by
  unfold Fs.settle; rw [if_neg (by omega)]
end Go.Proofs.Js
