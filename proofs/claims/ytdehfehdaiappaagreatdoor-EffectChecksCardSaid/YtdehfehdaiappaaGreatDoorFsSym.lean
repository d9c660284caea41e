/- The abstract machine step by step, over values that need not be known: each state is first-order, so that simp can walk it. -/
import Derived.Test.YtdehfehdaiappaaGreatDoorFsPure
namespace Go.Fs

inductive Fr where
  | seq (c : CC)
  | block (id : Nat)
  /-- The end of a loop's round: what is to hold there. -/
  | inv (J : List AV → AH → Prop)

section
variable (call : Rec) (Q : AEx → List AV → AH → Prop)

/-- What is left to do behind a piece of code. -/
def RetK : List Fr → AEx → List AV → AH → Prop
  | [], e, tm, h => Q e tm h
  | .seq c :: st, .normal, tm, h => WP call c tm h fun e tm h => RetK st e tm h
  | .seq _ :: st, e, tm, h => RetK st e tm h
  | .block id :: st, .exit i, tm, h => if i = id then RetK st .normal tm h else RetK st (.exit i) tm h
  | .block _ :: st, e, tm, h => RetK st e tm h
  | .inv J :: _, .normal, tm, h => J tm h
  | .inv _ :: st, e, tm, h => RetK st e tm h

def CodeK (c : CC) (st : List Fr) (tm : List AV) (h : AH) : Prop := WP call c tm h (RetK call Q st)

def RunK (os : List CR) (st : List Fr) (tm : List AV) (h : AH) : Prop := ∃ tm' h', runOps call os tm h = some (tm', h') ∧ RetK call Q st .normal tm' h'

/-- An operation's yield, and what comes behind it. -/
def ResK (r : Option (AV × AH)) (dst : Option Nat) (os : List CR) (st : List Fr) (tm : List AV) : Prop :=
  ∃ v h', r = some (v, h') ∧ RunK call Q os st (put tm dst v) h'

/-- A guarded operation, by its guard's value. -/
def GuardK (v : AV) (want : Bool) (op : CO) (dst : Option Nat) (os : List CR) (st : List Fr) (tm : List AV) (h : AH) : Prop :=
  if v.same (.bool want) then ResK call Q (runOp call op tm h) dst os st tm else RunK call Q os st (put tm dst AV.undef) h

def CondK (v : AV) (x y : CC) (st : List Fr) (tm : List AV) (h : AH) : Prop :=
  match v with
  | .bool true => CodeK call Q x st tm h
  | .bool false => CodeK call Q y st tm h
  | _ => False
end

section
variable {call : Rec} {Q : AEx → List AV → AH → Prop} {st : List Fr} {tm : List AV} {h : AH}

theorem CodeK.wp {c : CC} (hk : CodeK call Q c [] tm h) : WP call c tm h Q := hk

theorem RetK_nil (e : AEx) : RetK call Q [] e tm h = Q e tm h := rfl
theorem RetK_seq (c : CC) : RetK call Q (.seq c :: st) .normal tm h = CodeK call Q c st tm h := rfl
theorem RetK_seq_exit (c : CC) (i : Nat) : RetK call Q (.seq c :: st) (.exit i) tm h = RetK call Q st (.exit i) tm h := rfl
theorem RetK_seq_ret (c : CC) : RetK call Q (.seq c :: st) .ret tm h = RetK call Q st .ret tm h := rfl
theorem RetK_block (id : Nat) : RetK call Q (.block id :: st) .normal tm h = RetK call Q st .normal tm h := rfl
theorem RetK_block_ret (id : Nat) : RetK call Q (.block id :: st) .ret tm h = RetK call Q st .ret tm h := rfl
theorem RetK_block_exit (id : Nat) : RetK call Q (.block id :: st) (.exit id) tm h = RetK call Q st .normal tm h := by simp [RetK]
theorem RetK_block_exit_ne (id i : Nat) (hn : (i == id) = false) : RetK call Q (.block id :: st) (.exit i) tm h = RetK call Q st (.exit i) tm h := by
  have : ¬ i = id := by simpa using hn
  simp [RetK, this]

theorem RetK_inv (J : List AV → AH → Prop) : RetK call Q (.inv J :: st) .normal tm h = J tm h := rfl
theorem RetK_inv_exit (J : List AV → AH → Prop) (i : Nat) : RetK call Q (.inv J :: st) (.exit i) tm h = RetK call Q st (.exit i) tm h := rfl
theorem RetK_inv_ret (J : List AV → AH → Prop) : RetK call Q (.inv J :: st) .ret tm h = RetK call Q st .ret tm h := rfl

theorem CodeK_skip : CodeK call Q .skip st tm h = RetK call Q st .normal tm h := by
  unfold CodeK WP
  simp only [runW, Option.some.injEq, Prod.mk.injEq]
  exact propext ⟨fun ⟨_, _, _, ⟨h1, h2, h3⟩, h4⟩ => by subst h1 h2 h3; exact h4, fun hk => ⟨_, _, _, ⟨rfl, rfl, rfl⟩, hk⟩⟩
theorem CodeK_ret : CodeK call Q .ret st tm h = RetK call Q st .ret tm h := by
  unfold CodeK WP
  simp only [runW, Option.some.injEq, Prod.mk.injEq]
  exact propext ⟨fun ⟨_, _, _, ⟨h1, h2, h3⟩, h4⟩ => by subst h1 h2 h3; exact h4, fun hk => ⟨_, _, _, ⟨rfl, rfl, rfl⟩, hk⟩⟩
theorem CodeK_exit (i : Nat) : CodeK call Q (.exit i) st tm h = RetK call Q st (.exit i) tm h := by
  unfold CodeK WP
  simp only [runW, Option.some.injEq, Prod.mk.injEq]
  exact propext ⟨fun ⟨_, _, _, ⟨h1, h2, h3⟩, h4⟩ => by subst h1 h2 h3; exact h4, fun hk => ⟨_, _, _, ⟨rfl, rfl, rfl⟩, hk⟩⟩
theorem CodeK_region (os : List CR) : CodeK call Q (.region os) st tm h = RunK call Q os st tm h := by
  unfold CodeK WP RunK
  simp only [runW, Option.map_eq_some_iff, Prod.mk.injEq]
  exact propext ⟨fun ⟨_, _, _, ⟨⟨a, b⟩, h0, h1, h2, h3⟩, h4⟩ => by subst h1 h2 h3; exact ⟨_, _, h0, h4⟩, fun ⟨a, b, h0, hk⟩ => ⟨_, _, _, ⟨(a, b), h0, rfl, rfl, rfl⟩, hk⟩⟩
theorem CodeK_seq (a b : CC) : CodeK call Q (.seq a b) st tm h = CodeK call Q a (.seq b :: st) tm h := by
  unfold CodeK
  refine propext ⟨fun ⟨e, tm', h', h1, h2⟩ => ?_, fun hk => ?_⟩
  · simp only [runW] at h1
    split at h1
    · rename_i tm1 h3 h4
      exact ⟨_, _, _, h4, e, tm', h', h1, h2⟩
    · rename_i hne
      refine ⟨e, tm', h', h1, ?_⟩
      cases e with
      | normal => exact absurd h1 (hne _ _)
      | exit i => exact h2
      | ret => exact h2
  · refine WP.seq (hk.mono fun e tm' h' he => ?_)
    cases e with
    | normal => exact he
    | exit i => exact he
    | ret => exact he
theorem CodeK_cond (c : CA) (x y : CC) : CodeK call Q (.cond c x y) st tm h = CondK call Q (c.ev tm) x y st tm h := by
  unfold CodeK CondK WP
  simp only [runW]
  generalize c.ev tm = v
  cases v <;> first | simp | skip
  rename_i b
  cases b <;> rfl
theorem CodeK_block (id : Nat) (c : CC) : CodeK call Q (.block id c) st tm h = CodeK call Q c (.block id :: st) tm h := by
  unfold CodeK
  refine propext ⟨fun ⟨e, tm', h', h1, h2⟩ => ?_, fun hk => ?_⟩
  · simp only [runW] at h1
    split at h1
    · rename_i i tm1 h3 h4
      split at h1
      · rename_i hi
        cases h1
        exact ⟨_, _, _, h4, by simp only [RetK, hi, if_true]; exact h2⟩
      · rename_i hi
        cases h1
        exact ⟨_, _, _, h4, by simp only [RetK, hi, if_false]; exact h2⟩
    · rename_i hne
      refine ⟨e, tm', h', h1, ?_⟩
      cases e with
      | normal => exact h2
      | exit i => exact absurd h1 (hne _ _ _)
      | ret => exact h2
  · refine WP.block (hk.mono fun e tm' h' he => ?_)
    cases e with
    | normal => exact he
    | exit i => exact he
    | ret => exact he

/-- Of the heap no more is kept than is told. -/
theorem CodeK_heap {c : CC} (R : AH → Prop) (hR : R h) (hk : ∀ h', R h' → CodeK call Q c st tm h') : CodeK call Q c st tm h := hk h hR

/-- A loop, by what holds at the beginning of each round; n falls. -/
theorem CodeK_loop {c : CC} (I : Nat → List AV → AH → Prop) (n : Nat) (h0 : I n tm h) (hb : ∀ n tm h, I n tm h → CodeK call Q c (.inv (fun tm' h' => ∃ m, m < n ∧ I m tm' h') :: st) tm h) : CodeK call Q (.loop c) st tm h := by
  refine WP.loop I n h0 fun n tm h hI => (hb n tm h hI).mono fun e tm' h' he => ?_
  cases e with
  | normal => exact he
  | exit i => exact he
  | ret => exact he

theorem tmset_self {l : List AV} {i : Nat} {a : AV} (h : i < l.length) : (l.set i a).getD i AV.undef = a := by
  simp [List.getD_eq_getElem?_getD, h]
theorem tmset_ne {l : List AV} {i j : Nat} {a : AV} (h : (i == j) = false) : (l.set i a).getD j AV.undef = l.getD j AV.undef := by
  have : i ≠ j := by simpa using h
  simp [List.getD_eq_getElem?_getD, List.getElem?_set_ne this]

theorem CondK_true (x y : CC) : CondK call Q (.bool true) x y st tm h = CodeK call Q x st tm h := rfl
theorem CondK_false (x y : CC) : CondK call Q (.bool false) x y st tm h = CodeK call Q y st tm h := rfl
theorem CondK_split {b : Bool} {x y : CC} (h1 : b = true → CodeK call Q x st tm h) (h2 : b = false → CodeK call Q y st tm h) : CondK call Q (.bool b) x y st tm h := by
  cases b with
  | true => exact h1 rfl
  | false => exact h2 rfl

theorem RunK_nil : RunK call Q [] st tm h = RetK call Q st .normal tm h := by
  unfold RunK
  simp only [runOps, Option.some.injEq, Prod.mk.injEq]
  exact propext ⟨fun ⟨_, _, ⟨h1, h2⟩, h4⟩ => by subst h1 h2; exact h4, fun hk => ⟨_, _, ⟨rfl, rfl⟩, hk⟩⟩
theorem RunK_cons (dst : Option Nat) (op : CO) (os : List CR) : RunK call Q (⟨dst, op, none⟩ :: os) st tm h = ResK call Q (runOp call op tm h) dst os st tm := by
  unfold RunK ResK
  simp only [runOps, CR.wanted, if_true, Option.bind_eq_some_iff]
  refine propext ⟨fun ⟨a, b, ⟨⟨v, h'⟩, h1, h2⟩, h3⟩ => ⟨v, h', h1, a, b, h2, h3⟩, fun ⟨v, h', h1, a, b, h2, h3⟩ => ⟨a, b, ⟨⟨v, h'⟩, h1, h2⟩, h3⟩⟩
theorem RunK_guard (dst : Option Nat) (op : CO) (j : Nat) (want : Bool) (os : List CR) : RunK call Q (⟨dst, op, some (j, want)⟩ :: os) st tm h = GuardK call Q (tm.getD j AV.undef) want op dst os st tm h := by
  have hw : (CR.mk dst op (some (j, want))).wanted tm = (tm.getD j AV.undef).same (.bool want) := by
    unfold CR.wanted
    simp only
    generalize tm.getD j AV.undef = v
    cases v <;> simp [AV.same]
  unfold RunK GuardK
  simp only [runOps, hw]
  split
  · unfold ResK RunK
    simp only [Option.bind_eq_some_iff]
    refine propext ⟨fun ⟨a, b, ⟨⟨v, h'⟩, h1, h2⟩, h3⟩ => ⟨v, h', h1, a, b, h2, h3⟩, fun ⟨v, h', h1, a, b, h2, h3⟩ => ⟨a, b, ⟨⟨v, h'⟩, h1, h2⟩, h3⟩⟩
  · rfl
theorem ResK_some (v : AV) (h' : AH) (dst : Option Nat) (os : List CR) : ResK call Q (some (v, h')) dst os st tm = RunK call Q os st (put tm dst v) h' := by
  unfold ResK
  simp only [Option.some.injEq, Prod.mk.injEq]
  exact propext ⟨fun ⟨_, _, ⟨h1, h2⟩, h4⟩ => by subst h1 h2; exact h4, fun hk => ⟨_, _, ⟨rfl, rfl⟩, hk⟩⟩

/-- A call of which some facts are told. -/
theorem ResK_ex {r : Option (AV × AH)} {dst : Option Nat} {os : List CR} {R : AV → AH → Prop} (hr : ∃ v h', r = some (v, h') ∧ R v h') (hk : ∀ v h', R v h' → RunK call Q os st (put tm dst v) h') : ResK call Q r dst os st tm := by
  obtain ⟨v, h', h1, h2⟩ := hr
  exact ⟨v, h', h1, hk v h' h2⟩

theorem GuardK_tt (op : CO) (dst : Option Nat) (os : List CR) : GuardK call Q (.bool true) true op dst os st tm h = ResK call Q (runOp call op tm h) dst os st tm := rfl
theorem GuardK_ff (op : CO) (dst : Option Nat) (os : List CR) : GuardK call Q (.bool false) false op dst os st tm h = ResK call Q (runOp call op tm h) dst os st tm := rfl
theorem GuardK_tf (op : CO) (dst : Option Nat) (os : List CR) : GuardK call Q (.bool true) false op dst os st tm h = RunK call Q os st (put tm dst AV.undef) h := rfl
theorem GuardK_ft (op : CO) (dst : Option Nat) (os : List CR) : GuardK call Q (.bool false) true op dst os st tm h = RunK call Q os st (put tm dst AV.undef) h := rfl
theorem GuardK_u (want : Bool) (op : CO) (dst : Option Nat) (os : List CR) : GuardK call Q AV.undef want op dst os st tm h = RunK call Q os st (put tm dst AV.undef) h := rfl
theorem GuardK_split {b want : Bool} {op : CO} {dst : Option Nat} {os : List CR} (h1 : b = true → GuardK call Q (.bool true) want op dst os st tm h) (h2 : b = false → GuardK call Q (.bool false) want op dst os st tm h) :
    GuardK call Q (.bool b) want op dst os st tm h := by
  cases b with
  | true => exact h1 rfl
  | false => exact h2 rfl
end

/-! ### Operations -/

def ptrV (v : AV) (f : Nat → Nat → Option (AV × AH)) : Option (AV × AH) :=
  match v with
  | .ptr (some (b, o)) => f b o
  | _ => none

section
variable {call : Rec} {tm : List AV} {h : AH}
theorem op_mv (x : CA) : runOp call (.mv x) tm h = some (x.ev tm, h) := rfl
theorem op_un (op : UnOp) (x : CA) : runOp call (.un op x) tm h = (aun op (x.ev tm)).map fun v => (v, h) := rfl
theorem op_bin (op : BinOp) (e : EqT) (x y : CA) : runOp call (.bin op e x y) tm h = (abin op e (x.ev tm) (y.ev tm)).map fun v => (v, h) := rfl
/-- A load, an address, by the pointer's value. -/
def loadV (v : AV) (h : AH) (g : Option Nat) : Option (AV × AH) :=
  match v with
  | .ptr (some (b, o)) => (readVar h b o g).map fun v => (v, h)
  | _ => none
theorem loadV_ptr (b o : Nat) (g : Option Nat) : loadV (.ptr (some (b, o))) h g = (readVar h b o g).map fun v => (v, h) := rfl
theorem op_load (g : Option Nat) (x : CA) : runOp call (.load g x) tm h = loadV (x.ev tm) h g := by
  simp only [runOp, CO.quiet, quietRun, if_true, loadV]
  generalize x.ev tm = v
  cases v <;> first | rfl | skip
  rename_i a
  cases a <;> rfl
def faddrV (v : AV) (h : AH) (off : Nat) : Option (AV × AH) :=
  match v with
  | .ptr (some (b, o)) => some (.ptr (some (b, o + off)), h)
  | _ => none
theorem faddrV_ptr (b o off : Nat) : faddrV (.ptr (some (b, o))) h off = some (.ptr (some (b, o + off)), h) := rfl
theorem op_faddr (off : Nat) (x : CA) : runOp call (.faddr off x) tm h = faddrV (x.ev tm) h off := by
  simp only [runOp, CO.quiet, quietRun, if_true, faddrV]
  generalize x.ev tm = v
  cases v <;> first | rfl | skip
  rename_i a
  cases a <;> rfl
/-- A choice, by its condition's value. -/
def pickV (c : AV) (x y : AV) (h : AH) : Option (AV × AH) :=
  match c with
  | .bool true => some (x, h)
  | .bool false => some (y, h)
  | _ => none
theorem pickV_true (x y : AV) : pickV (.bool true) x y h = some (x, h) := rfl
theorem pickV_false (x y : AV) : pickV (.bool false) x y h = some (y, h) := rfl
theorem pickV_bool (c a b : Bool) : pickV (.bool c) (.bool a) (.bool b) h = some (.bool (bif c then a else b), h) := by cases c <;> rfl
theorem pickV_same (c : Bool) (a : AV) : pickV (.bool c) a a h = some (a, h) := by cases c <;> rfl
theorem op_pick (c x y : CA) : runOp call (.pick c x y) tm h = pickV (c.ev tm) (x.ev tm) (y.ev tm) h := by
  simp only [runOp, CO.quiet, quietRun, if_true, pickV]
  generalize c.ev tm = v
  cases v <;> first | rfl | skip
  rename_i b
  cases b <;> rfl
def boxV (v : AV) (h : AH) : Option (AV × AH) := if v.cells.all AV.one then some (.ptr (some (h.n, 0)), h.push (.cells v.cells false)) else none
theorem op_box (x : CA) : runOp call (.box x) tm h = boxV (x.ev tm) h := rfl
theorem boxV_agg (cs : List AV) (hc : cs.all AV.one = true) : boxV (.agg cs) h = some (.ptr (some (h.n, 0)), h.push (.cells cs false)) := by
  unfold boxV; exact if_pos hc
theorem boxV_one (v : AV) (hc : v.cells = [v]) (h1 : v.one = true) : boxV v h = some (.ptr (some (h.n, 0)), h.push (.cells [v] false)) := by
  unfold boxV; rw [hc]; simp [h1]
theorem op_call (f : Nat) (args : List CA) : runOp call (.call (.f f) args) tm h = call f (args.map (CA.ev tm)) h := by
  simp only [runOp, CO.quiet, effRun, CA.ev, Bool.false_eq_true, if_false, List.nil_append, List.append_nil]
theorem op_build (z : List AV) (ps : List (Nat × Nat × CA)) : runOp call (.build z ps) tm h = (fillA tm z ps).map fun cs => (.agg cs, h) := by
  simp only [runOp, CO.quiet, quietRun, if_true, Option.map_map]
  rfl
def lenV (v : AV) (h : AH) : Option (AV × AH) :=
  match v with
  | .slice _ n _ => some (.int .i64 n, h)
  | _ => none
theorem lenV_slice (a : Option (Nat × Nat)) (n : Nat) (c : Cap) : lenV (.slice a n c) h = some (.int .i64 n, h) := rfl
theorem op_lenV (x : CA) : runOp call (.lenV x) tm h = lenV (x.ev tm) h := by
  simp only [runOp, CO.quiet, quietRun, if_true, lenV]
  generalize x.ev tm = v
  cases v <;> rfl
def lenSV (v : AV) (h : AH) : Option (AV × AH) :=
  match v with
  | .str s => some (.int .i64 s.length, h)
  | _ => none
theorem lenSV_str (s : List UInt8) : lenSV (.str s) h = some (.int .i64 s.length, h) := rfl
theorem op_lenS (x : CA) : runOp call (.lenS x) tm h = lenSV (x.ev tm) h := by
  simp only [runOp, CO.quiet, quietRun, if_true, lenSV]
  generalize x.ev tm = v
  cases v <;> rfl
def toIntV (k : IntKind) (v : AV) (h : AH) : Option (AV × AH) :=
  match v with
  | .int _ n => some (.int k (k.wrap n), h)
  | _ => none
theorem toIntV_int (k k' : IntKind) (n : Int) : toIntV k (.int k' n) h = some (.int k (k.wrap n), h) := rfl
theorem op_toInt (k : IntKind) (x : CA) : runOp call (.toInt k x) tm h = toIntV k (x.ev tm) h := by
  simp only [runOp, CO.quiet, quietRun, if_true, toIntV]
  generalize x.ev tm = v
  cases v <;> rfl
/-- An element's address. -/
def iaddrV (esz : Nat) (v i : AV) (h : AH) : Option (AV × AH) :=
  match v, i with
  | .slice (some (b, o)) len _, .int _ n => if 0 ≤ n ∧ n < len then some (.ptr (some (b, o + n.toNat * esz)), h) else none
  | _, _ => none
theorem iaddrV_at {esz b o len : Nat} {c : Cap} {k : IntKind} {n : Int} (h0 : 0 ≤ n) (h1 : n < len) : iaddrV esz (.slice (some (b, o)) len c) (.int k n) h = some (.ptr (some (b, o + n.toNat * esz)), h) := by
  unfold iaddrV; exact if_pos ⟨h0, h1⟩
theorem iaddrV_nat {esz b o len i : Nat} {c : Cap} {k : IntKind} (h1 : i < len) : iaddrV esz (.slice (some (b, o)) len c) (.int k (i : Int)) h = some (.ptr (some (b, o + i * esz)), h) :=
  iaddrV_at (by omega) (by omega)
theorem op_iaddrS (esz : Nat) (x i : CA) : runOp call (.iaddrS esz x i) tm h = iaddrV esz (x.ev tm) (i.ev tm) h := by
  simp only [runOp, CO.quiet, quietRun, if_true, iaddrV]
  generalize x.ev tm = v
  generalize i.ev tm = u
  cases v <;> first | rfl | skip
  rename_i a _ _
  cases a <;> first | rfl | skip
  cases u <;> first | rfl | skip
  simp only
  split <;> rfl
theorem iaddrV_esz {esz b o len i : Nat} {c : Cap} {k : IntKind} (h1 : i < len) : iaddrV esz (.slice (some (b, o)) len c) (.int k (i : Int)) h = some (.ptr (some (b, o + i * esz)), h) := iaddrV_nat h1
/-- A call of a function value. -/
def callV (call : Rec) (f : AV) (args : List AV) (h : AH) : Option (AV × AH) :=
  match f with
  | .func (.func g) first captured => call g (first ++ args ++ captured) h
  | _ => none
theorem callV_fn (g : Nat) (args : List AV) : callV call (.func (.func g) [] []) args h = call g args h := by simp [callV]
theorem op_callV (t : Nat) (args : List CA) : runOp call (.call (.t t) args) tm h = callV call (tm.getD t AV.undef) (args.map (CA.ev tm)) h := by
  simp only [runOp, CO.quiet, effRun, CA.ev, Bool.false_eq_true, if_false, callV]
  generalize tm.getD t AV.undef = v
  cases v <;> rfl
theorem op_append (esz bytes : Nat) (s x : CA) : runOp call (.append esz bytes s x) tm h = appendRun esz bytes (s.ev tm) (x.ev tm) h := rfl
def mkSV (bytes : Nat) (zero : List AV) (l c : AV) (h : AH) : Option (AV × AH) :=
  match l, c with
  | .int _ l, .int _ c => if 0 ≤ l ∧ l ≤ c ∧ bytes * c ≤ 281474976710656 ∧ c ≤ 1152921504606846976 then some (.slice (some (h.n, 0)) l.toNat (.exact c.toNat), h.push (.cells (reps zero c.toNat) false)) else none
  | _, _ => none
theorem op_mkS (bytes esz : Nat) (zero : List AV) (l c : CA) : runOp call (.mkS bytes esz zero l c) tm h = mkSV bytes zero (l.ev tm) (c.ev tm) h := by
  simp only [runOp, CO.quiet, Bool.false_eq_true, if_false, effRun, mkSV]
  generalize l.ev tm = v
  generalize c.ev tm = u
  cases v <;> first | rfl | (cases u <;> rfl)
theorem mkSV_at {bytes : Nat} {zero : List AV} {k k' : IntKind} {l c : Nat} (h1 : l ≤ c) (h2 : bytes * c ≤ 281474976710656) (h3 : c ≤ 1152921504606846976) :
    mkSV bytes zero (.int k (l : Int)) (.int k' (c : Int)) h = some (.slice (some (h.n, 0)) l (.exact c), h.push (.cells (reps zero c) false)) := by
  unfold mkSV
  simp only
  have h4 : ((bytes * c : Nat) : Int) ≤ 281474976710656 := by omega
  rw [Int.natCast_mul] at h4
  rw [if_pos ⟨by omega, by omega, h4, by omega⟩, Int.toNat_natCast, Int.toNat_natCast]
theorem op_litS (esz len : Nat) (zero : List AV) (ps : List (Nat × Nat × CA)) : runOp call (.litS esz len zero ps) tm h =
    (match fillA tm (reps zero len) ps with | some cs => if cs.all AV.one then some (.slice (some (h.n, 0)) len (.exact len), h.push (.cells cs false)) else none | none => none) := rfl
/-- A slice expression without a third bound. -/
def slcVV (tm : List AV) (esz : Nat) (v : AV) (lo hi mx : Option CA) (h : AH) : Option (AV × AH) := (quietRun (.slcV esz (.c v) lo hi mx) tm h).map fun v => (v, h)
theorem op_slcV (esz : Nat) (x : CA) (lo hi mx : Option CA) : runOp call (.slcV esz x lo hi mx) tm h = slcVV tm esz (x.ev tm) lo hi mx h := rfl
theorem slcVV_hi {esz b o n k : Nat} {kd : IntKind} {c : Nat} {tm : List AV} {i : Nat} (hi : tm.getD i AV.undef = .int kd (k : Int)) (h1 : k ≤ c) (h2 : 0 < c) :
    slcVV tm esz (.slice (some (b, o)) n (.exact c)) none (some (.t i)) none h = some (.slice (some (b, o)) k (.exact c), h) := by
  have hb : bounds3 tm n c none (some (.t i)) none = some (0, k, c) := by
    unfold bounds3
    simp only [optBound, Option.bind_some, highOf, CA.ev, hi, bound]
    rw [if_pos ⟨by omega, by omega⟩]
    simp
  unfold slcVV
  simp only [quietRun, CA.ev, hb, Option.map_some]
  have : ¬ c = 0 := by omega
  simp [this]
theorem op_ext (i : Nat) (x : CA) : runOp call (.ext i x) tm h = (match x.ev tm with | .tuple vs => vs[i]? | _ => none).map fun v => (v, h) := rfl
def storeV (n : Nat) (a v : AV) (h : AH) : Option (AV × AH) :=
  match a with
  | .ptr (some (b, o)) => if v.cells.length = n then (writeCells h b o v.cells).map fun h' => (AV.undef, h') else none
  | _ => none
theorem storeV_ptr (n b o : Nat) (v : AV) : storeV n (.ptr (some (b, o))) v h = if v.cells.length = n then (writeCells h b o v.cells).map fun h' => (AV.undef, h') else none := rfl
theorem op_store (n : Nat) (a x : CA) : runOp call (.store n a x) tm h = storeV n (a.ev tm) (x.ev tm) h := by
  simp only [runOp, CO.quiet, Bool.false_eq_true, if_false, effRun, storeV]
  generalize a.ev tm = v
  cases v <;> rfl
theorem op_alloc (z : List AV) : runOp call (.alloc z) tm h = some (.ptr (some (h.n, 0)), h.push (.cells z false)) := rfl
end

/-- One leaf of two aggregates that are held against each other. -/
def leafK (q : SK) (x y : Option AV) (r : Option Bool) : Option Bool :=
  match x, y with
  | some x, some y => match scalEq q x y with
    | some true => r
    | some false => some false
    | none => none
  | _, _ => none
theorem aeqK_agg (sz : Nat) (ls : List (Nat × SK)) (xs ys : List AV) : aeq (.agg sz ls) (.agg xs) (.agg ys) = if xs.length = sz ∧ ys.length = sz then leavesEq xs ys ls else none := rfl
theorem aeqK_scal (a b : Bool) : aeq .scal (.bool a) (.bool b) = some (a == b) := rfl
theorem leavesK_nil (xs ys : List AV) : leavesEq xs ys [] = some true := rfl
theorem leavesK_cons (xs ys : List AV) (i : Nat) (q : SK) (is : List (Nat × SK)) : leavesEq xs ys ((i, q) :: is) = leafK q xs[i]? ys[i]? (leavesEq xs ys is) := by
  simp only [leavesEq, leafK]
  cases xs[i]? <;> cases ys[i]? <;> rfl
theorem leafK_i (k : IntKind) (a b : Int) (r : Bool) : leafK .i (some (.int k a)) (some (.int k b)) (some r) = some (a == b && r) := by
  simp only [leafK, scalEq, if_true]
  cases a == b <;> rfl
theorem leafK_b (a b r : Bool) : leafK .b (some (.bool a)) (some (.bool b)) (some r) = some (a == b && r) := by
  simp only [leafK, scalEq]
  cases a == b <;> rfl
theorem leafK_s (a b : List UInt8) (r : Bool) : leafK .s (some (.str a)) (some (.str b)) (some r) = some (decide (a = b) && r) := by
  simp only [leafK, scalEq]
  cases decide (a = b) <;> rfl

theorem settle_keep {h h' : AH} {v : AV} (hl : h.n ≤ h'.low) (hv : v.under h.n = true) : Fs.settle h h' v = (v, h) := by
  unfold Fs.settle; rw [if_pos ⟨hl, hv⟩]

theorem settle_new {h h' : AH} {v : AV} (hv : v.under h.n = false) : Fs.settle h h' v = (v, h'.withLow (min h.low h'.low)) := by
  unfold Fs.settle; rw [if_neg (by simp [hv])]

/-! ### Regions whose order is open -/

/-- What an operation that reads looks at, with its operands' values in place. -/
def closeOp (tm : List AV) : CO → CO
  | .load g x => .load g (.c (x.ev tm))
  | .lookup q z ok m k => .lookup q z ok (.c (m.ev tm)) (.c (k.ev tm))
  | .b2s x => .b2s (.c (x.ev tm))
  | .lenM x => .lenM (.c (x.ev tm))
  | .toUns x => .toUns (.c (x.ev tm))
  | .fromUns t n x => .fromUns t n (.c (x.ev tm))
  | o => o

theorem closeOp_run {o : CO} (hr : o.reads = true) (tm : List AV) (h : AH) : quietRun (closeOp tm o) [] h = quietRun o tm h := by
  cases o <;> first | rfl | (simp [CO.reads] at hr)

/-- Reads that are to read the same in some of the heaps: from which on, up to which. -/
def KeptOne : List AH → CO → AV → Prop
  | [], _, _ => True
  | h :: hs, c, v => quietRun c [] h = some v ∧ KeptOne hs c v
def Kept (hs : List AH) : List (Nat × Nat × CO × AV) → Prop
  | [] => True
  | (lo, hi, c, v) :: pr => KeptOne ((hs.drop lo).take (hi + 1 - lo)) c v ∧ Kept hs pr

theorem calm_quiet {call : Rec} {o : CD} (hs : o.still = false) (hc : o.calm = true) (tm : List AV) (h : AH) : calmRun call o tm h = quietRun o.op tm h := by
  unfold calmRun
  rw [if_pos (by simpa [CD.calm, hs] using hc)]

theorem keptOne_all {call : Rec} {o : CD} (hs : o.still = false) (hc : o.calm = true) (hr : o.op.reads = true) {tm : List AV} {v : AV} : ∀ {hs : List AH}, KeptOne hs (closeOp tm o.op) v → hs.all (agrees call o tm v) = true
  | [], _ => rfl
  | h :: hs', ⟨h1, h2⟩ => by
    rw [List.all_cons, keptOne_all hs hc hr h2, Bool.and_true]
    rw [closeOp_run hr] at h1
    unfold agrees
    rw [calm_quiet hs hc, h1]
    exact AV.same_refl v

theorem kept_append {hs : List AH} {b : List (Nat × Nat × CO × AV)} : ∀ (a : List (Nat × Nat × CO × AV)), Kept hs (a ++ b) → Kept hs a ∧ Kept hs b
  | [], h => ⟨trivial, h⟩
  | (_, _, _, _) :: a, ⟨h1, h2⟩ => ⟨⟨h1, (kept_append a h2).1⟩, (kept_append a h2).2⟩

section
variable (call : Rec) (Q : AEx → List AV → AH → Prop) (st : List Fr)

def DrawK : List CD → List (Nat × Nat × CO × AV) → List AH → List AV → AH → Prop
  | [], pr, hs, tm, h => Kept (hs ++ [h]) pr ∧ RetK call Q st .normal tm h
  | o :: os, pr, hs, tm, h => o.still = false ∧
    if o.wanted tm then ∃ v h', runOp call o.op tm h = some (v, h') ∧ DrawK os (if o.op.reads then pr ++ [(o.lo, o.hi, closeOp tm o.op, v)] else pr) (if o.op.quiet then hs else hs ++ [h]) (put tm o.dst v) h'
    else DrawK os pr (if o.op.quiet then hs else hs ++ [h]) (put tm o.dst AV.undef) h

def DResK (r : Option (AV × AH)) (o : CD) (os : List CD) (pr : List (Nat × Nat × CO × AV)) (hs : List AH) (tm : List AV) (h : AH) : Prop :=
  ∃ v h', r = some (v, h') ∧ DrawK call Q st os (if o.op.reads then pr ++ [(o.lo, o.hi, closeOp tm o.op, v)] else pr) (if o.op.quiet then hs else hs ++ [h]) (put tm o.dst v) h'

def DGuardK (g : AV) (want : Bool) (o : CD) (os : List CD) (pr : List (Nat × Nat × CO × AV)) (hs : List AH) (tm : List AV) (h : AH) : Prop :=
  if g.same (.bool want) then DResK call Q st (runOp call o.op tm h) o os pr hs tm h
  else DrawK call Q st os pr (if o.op.quiet then hs else hs ++ [h]) (put tm o.dst AV.undef) h
end

section
variable {call : Rec} {Q : AEx → List AV → AH → Prop} {st : List Fr} {tm : List AV} {h : AH} {os : List CD} {pr : List (Nat × Nat × CO × AV)} {hs : List AH}

theorem runT_of : ∀ (os : List CD) (pr : List (Nat × Nat × CO × AV)) (hs : List AH) (tm : List AV) (h : AH), DrawK call Q st os pr hs tm h →
    ∃ rs' hs' tm' h', runT call os tm h = some (rs', hs', tm') ∧ hs'.getLast? = some h' ∧ RetK call Q st .normal tm' h' ∧ Kept (hs ++ hs') pr ∧ steady call (hs ++ hs') os rs' = true
  | [], pr, hs, tm, h, ⟨h1, h2⟩ => ⟨[], [h], tm, h, rfl, rfl, h2, h1, rfl⟩
  | o :: os, pr, hs, tm, h, hk => by
    have hcat : ∀ (b : Bool) (hs' : List AH), (if b then hs else hs ++ [h]) ++ hs' = hs ++ (if b then hs' else h :: hs') := fun b hs' => by cases b <;> simp
    have hlast : ∀ (b : Bool) (hs' : List AH) (h' : AH), hs'.getLast? = some h' → (if b then hs' else h :: hs').getLast? = some h' := fun b hs' h' hl => by
      cases b with
      | true => exact hl
      | false =>
        cases hs' with
        | nil => cases hl
        | cons a l => simpa using hl
    unfold DrawK at hk
    obtain ⟨hst, hk⟩ := hk
    have hcalm : o.calm = o.op.quiet := by simp [CD.calm, hst]
    have hlk : o.looksIn = o.op.reads := by simp [CD.looksIn, hst]
    split at hk
    · rename_i hw
      obtain ⟨v, h1, hrun, hk⟩ := hk
      obtain ⟨rs', hs', tm', h', g1, g2, g3, g4, g5⟩ := runT_of os _ _ _ _ hk
      rw [hcat] at g4 g5
      by_cases hq : o.op.quiet = true
      · have hrun' : ∃ u, quietRun o.op tm h = some u ∧ (u, h) = (v, h1) := by
          unfold runOp at hrun
          rw [if_pos hq] at hrun
          exact Option.map_eq_some_iff.1 hrun
        obtain ⟨u, hu, he⟩ := hrun'
        cases he
        have hc : o.calm = true := hcalm.trans hq
        simp only [hq, if_true] at g4 g5
        have hT : runT call (o :: os) tm h = some ((tm, v, true) :: rs', hs', tm') := by
          simp only [runT, hw, if_true, hc, calm_quiet hst hc, hu, Option.bind_some, g1, Option.map_some]
        by_cases hrd : o.op.reads = true
        · rw [if_pos hrd] at g4
          obtain ⟨k1, k2, _⟩ := kept_append _ g4
          refine ⟨_, hs', tm', h', hT, g2, g3, k1, ?_⟩
          simp only [steady, hc, hlk, hrd, Bool.and_self, Bool.not_true, Bool.false_or, Bool.and_eq_true, g5, and_true]
          exact keptOne_all hst hc hrd k2
        · rw [if_neg hrd] at g4
          refine ⟨_, hs', tm', h', hT, g2, g3, g4, ?_⟩
          simp only [steady, hlk, hrd, Bool.and_false, Bool.not_false, Bool.true_or, Bool.true_and, g5]
      · have hrd : o.op.reads = false := by
          cases ho : o.op <;> rw [ho] at hq <;> first | rfl | (exact absurd rfl hq)
        have hrun' : effRun call o.op tm h = some (v, h1) := by
          unfold runOp at hrun
          rwa [if_neg hq] at hrun
        have hc : ¬ o.calm = true := by rw [hcalm]; exact hq
        simp only [hq, hrd, Bool.false_eq_true, if_false] at g4 g5
        refine ⟨(tm, v, true) :: rs', h :: hs', tm', h', ?_, ?_, g3, g4, ?_⟩
        · simp only [runT, hw, if_true, hc, Bool.false_eq_true, if_false, hrun', Option.bind_some, g1, Option.map_some]
        · exact hlast false hs' h' g2
        · simp only [steady, hlk, hrd, Bool.and_false, Bool.not_false, Bool.true_or, Bool.true_and, g5]
    · rename_i hw
      obtain ⟨rs', hs', tm', h', g1, g2, g3, g4, g5⟩ := runT_of os _ _ _ _ hk
      rw [hcat] at g4 g5
      refine ⟨(tm, AV.undef, false) :: rs', if o.op.quiet then hs' else h :: hs', tm', h', ?_, hlast _ hs' h' g2, g3, g4, ?_⟩
      · simp only [runT, hw, Bool.false_eq_true, if_false, g1, Option.map_some, hcalm]
      · simp only [steady, Bool.false_and, Bool.not_false, Bool.true_or, Bool.true_and, g5]

theorem CodeK_regionD (os : List CD) (hk : DrawK call Q st os [] [] tm h) : CodeK call Q (.regionD os) st tm h := by
  obtain ⟨rs', hs', tm', h', g1, g2, g3, _, g5⟩ := runT_of os [] [] tm h hk
  refine WP.regionD (tm' := tm') (h' := h') ?_ g3
  unfold runD
  simp only [List.nil_append] at g5
  simp only [g1, g5, if_true]
  rw [List.getLastD_eq_getLast?, g2]
  rfl

theorem DrawK_nil : DrawK call Q st [] pr hs tm h = (Kept (hs ++ [h]) pr ∧ RetK call Q st .normal tm h) := rfl
theorem DrawK_cons (dst : Option Nat) (op : CO) (lo hi : Nat) : DrawK call Q st (⟨⟨dst, op, none⟩, lo, hi, false⟩ :: os) pr hs tm h = DResK call Q st (runOp call op tm h) ⟨⟨dst, op, none⟩, lo, hi, false⟩ os pr hs tm h :=
  propext ⟨fun hk => hk.2, fun hk => ⟨rfl, hk⟩⟩
theorem DrawK_guard (dst : Option Nat) (op : CO) (j : Nat) (want : Bool) (lo hi : Nat) : DrawK call Q st (⟨⟨dst, op, some (j, want)⟩, lo, hi, false⟩ :: os) pr hs tm h = DGuardK call Q st (tm.getD j AV.undef) want ⟨⟨dst, op, some (j, want)⟩, lo, hi, false⟩ os pr hs tm h := by
  have hw : (CR.mk dst op (some (j, want))).wanted tm = (tm.getD j AV.undef).same (.bool want) := by
    unfold CR.wanted
    simp only
    generalize tm.getD j AV.undef = v
    cases v <;> simp [AV.same]
  unfold DGuardK
  rw [← hw]
  exact propext ⟨fun hk => hk.2, fun hk => ⟨rfl, hk⟩⟩
theorem DResK_some (v : AV) (h' : AH) (o : CD) : DResK call Q st (some (v, h')) o os pr hs tm h = DrawK call Q st os (if o.op.reads then pr ++ [(o.lo, o.hi, closeOp tm o.op, v)] else pr) (if o.op.quiet then hs else hs ++ [h]) (put tm o.dst v) h' := by
  unfold DResK
  simp only [Option.some.injEq, Prod.mk.injEq]
  exact propext ⟨fun ⟨_, _, ⟨h1, h2⟩, h4⟩ => by subst h1 h2; exact h4, fun hk => ⟨_, _, ⟨rfl, rfl⟩, hk⟩⟩
theorem DGuardK_tt (o : CD) : DGuardK call Q st (.bool true) true o os pr hs tm h = DResK call Q st (runOp call o.op tm h) o os pr hs tm h := rfl
theorem DGuardK_ff (o : CD) : DGuardK call Q st (.bool false) false o os pr hs tm h = DResK call Q st (runOp call o.op tm h) o os pr hs tm h := rfl
theorem DGuardK_tf (o : CD) : DGuardK call Q st (.bool true) false o os pr hs tm h = DrawK call Q st os pr (if o.op.quiet then hs else hs ++ [h]) (put tm o.dst AV.undef) h := rfl
theorem DGuardK_ft (o : CD) : DGuardK call Q st (.bool false) true o os pr hs tm h = DrawK call Q st os pr (if o.op.quiet then hs else hs ++ [h]) (put tm o.dst AV.undef) h := rfl
theorem DGuardK_u (want : Bool) (o : CD) : DGuardK call Q st AV.undef want o os pr hs tm h = DrawK call Q st os pr (if o.op.quiet then hs else hs ++ [h]) (put tm o.dst AV.undef) h := rfl
theorem DGuardK_split {b want : Bool} {o : CD} (h1 : b = true → DGuardK call Q st (.bool true) want o os pr hs tm h) (h2 : b = false → DGuardK call Q st (.bool false) want o os pr hs tm h) :
    DGuardK call Q st (.bool b) want o os pr hs tm h := by
  cases b with
  | true => exact h1 rfl
  | false => exact h2 rfl
theorem kept_load (b o : Nat) (g : Option Nat) (tm0 : List AV) (h : AH) : quietRun (.load g (.c (.ptr (some (b, o))))) tm0 h = readVar h b o g := rfl
end

/-- A call that leaves the heap as it was. -/
def DoneK (res : List CRes) (h : AH) (v : AV) (e : AEx) (tm : List AV) (h' : AH) : Prop :=
  (e = .normal ∨ e = .ret) ∧ h.n ≤ h'.low ∧ v.under h.n = true ∧ resAll tm h' res = some v

/-- A call of which some facts are shown. -/
theorem acall_facts {orc : Orc} {tbl : Nat → Option CF} {f : Nat} {nt : Nat} {res : List CRes} {body : CC} (hno : orc f = none) (hf : tbl f = some ⟨nt, res, body⟩) {args : List AV} {h : AH} {R : AV → AH → Prop}
    (hw : CodeK (acall orc tbl) (fun e tm h' => (e = .normal ∨ e = .ret) ∧ ∃ v, resAll tm h' res = some v ∧ R (Fs.settle h h' v).1 (Fs.settle h h' v).2) body [] (args ++ List.replicate (nt - args.length) AV.undef) (h.withLow h.n)) :
    ∃ v h1, acall orc tbl f args h = some (v, h1) ∧ R v h1 := by
  obtain ⟨e, tm', h', h2, h3, v, h4, h5⟩ := hw
  refine ⟨_, _, acall_intro hno hf ?_, h5⟩
  unfold runFW
  rw [h2]
  rcases h3 with rfl | rfl <;> simp only [h4, Option.map_some]

theorem acall_sym {orc : Orc} {tbl : Nat → Option CF} {f : Nat} {nt : Nat} {res : List CRes} {body : CC} (hno : orc f = none) (hf : tbl f = some ⟨nt, res, body⟩) {args : List AV} {h : AH} {v : AV}
    (hw : CodeK (acall orc tbl) (DoneK res h v) body [] (args ++ List.replicate (nt - args.length) AV.undef) (h.withLow h.n)) : acall orc tbl f args h = some (v, h) := by
  refine acall_wp hno hf (WP.mono hw fun e tm' h' ⟨h1, h2, h3, h4⟩ => ⟨h1, ?_⟩)
  simp only [h4, Option.map_some, settle_keep h2 h3]
end Go.Fs
