/- The abstract machine of the Fs texts, part 6: what it runs, and that each of its runs is one of the program. -/
import Derived.Test.YtlppecefalblmaaGreatDoorFz04
import Derived.Carry
import Derived.Handed
import Derived.WalkKit
import Derived.ProofKit
import Derived.OpenShut
import Derived.SizedLaws
import Derived.Test.YtlppecefalblmaaGreatDoorFz03
section
/- The abstract machine step by step, over values that need not be known: each state is first-order, so that simp can walk it. -/
namespace Go.Fs
inductive Fr where
 | seq (c : CC)
 | block (id : Nat)
 | inv (J : List AV → AH → Prop)
section
variable (call : Rec) (Q : AEx → List AV → AH → Prop)
def RetK : List Fr → AEx → List AV → AH → Prop
 | [], e, tm, h => Q e tm h
 | .seq c :: st, .normal, tm, h => WP call c tm h fun e tm h => RetK st e tm h
 | .seq _ :: st, e, tm, h => RetK st e tm h
 | .block id :: st, .exit i, tm, h => if i = id then RetK st .normal tm h else RetK st (.exit i) tm h
 | .block _ :: st, e, tm, h => RetK st e tm h
 | .inv J :: _, .normal, tm, h => J tm h
 | .inv _ :: st, e, tm, h => RetK st e tm h
def CodeK (c : CC) (st : List Fr) (tm : List AV) (h : AH) : Prop := WP call c tm h (RetK call Q st)
def RunK (os : List CR) (st : List Fr) (tm : List AV) (h : AH) : Prop := ∃ tm' h', runOps call os tm h = some (tm', h') ∧ RetK call Q st .normal tm' h'
def ResK (r : Option (AV × AH)) (dst : Option Nat) (os : List CR) (st : List Fr) (tm : List AV) : Prop :=
 ∃ v h', r = some (v, h') ∧ RunK call Q os st (put tm dst v) h'
def GuardK (v : AV) (want : Bool) (op : CO) (dst : Option Nat) (os : List CR) (st : List Fr) (tm : List AV) (h : AH) : Prop :=
 if v.same (.bool want) then ResK call Q (runOp call op tm h) dst os st tm else RunK call Q os st (put tm dst AV.undef) h
def CondK (v : AV) (x y : CC) (st : List Fr) (tm : List AV) (h : AH) : Prop :=
 match v with
 | .bool true => CodeK call Q x st tm h
 | .bool false => CodeK call Q y st tm h
 | _ => False
end
section
variable {call : Rec} {Q : AEx → List AV → AH → Prop} {st : List Fr} {tm : List AV} {h : AH}
theorem CodeK.wp {c : CC} (hk : CodeK call Q c [] tm h) : WP call c tm h Q := hk
theorem RetK_nil (e : AEx) : RetK call Q [] e tm h = Q e tm h := rfl
theorem RetK_seq (c : CC) : RetK call Q (.seq c :: st) .normal tm h = CodeK call Q c st tm h := rfl
theorem RetK_seq_exit (c : CC) (i : Nat) : RetK call Q (.seq c :: st) (.exit i) tm h = RetK call Q st (.exit i) tm h := rfl
theorem RetK_seq_ret (c : CC) : RetK call Q (.seq c :: st) .ret tm h = RetK call Q st .ret tm h := rfl
theorem RetK_block (id : Nat) : RetK call Q (.block id :: st) .normal tm h = RetK call Q st .normal tm h := rfl
theorem RetK_block_ret (id : Nat) : RetK call Q (.block id :: st) .ret tm h = RetK call Q st .ret tm h := rfl
theorem RetK_block_exit (id : Nat) : RetK call Q (.block id :: st) (.exit id) tm h = RetK call Q st .normal tm h := by simp [RetK]
theorem RetK_block_exit_ne (id i : Nat) (hn : (i == id) = false) : RetK call Q (.block id :: st) (.exit i) tm h = RetK call Q st (.exit i) tm h := by
 have : ¬ i = id := by simpa using hn
 simp [RetK, this]
theorem RetK_inv (J : List AV → AH → Prop) : RetK call Q (.inv J :: st) .normal tm h = J tm h := rfl
theorem RetK_inv_exit (J : List AV → AH → Prop) (i : Nat) : RetK call Q (.inv J :: st) (.exit i) tm h = RetK call Q st (.exit i) tm h := rfl
theorem RetK_inv_ret (J : List AV → AH → Prop) : RetK call Q (.inv J :: st) .ret tm h = RetK call Q st .ret tm h := rfl
theorem CodeK_skip : CodeK call Q .skip st tm h = RetK call Q st .normal tm h := by
 unfold CodeK WP
 simp only [runW, Option.some.injEq, Prod.mk.injEq]
 exact propext ⟨fun ⟨_, _, _, ⟨h1, h2, h3⟩, h4⟩ => by subst h1 h2 h3; exact h4, fun hk => ⟨_, _, _, ⟨rfl, rfl, rfl⟩, hk⟩⟩
theorem CodeK_ret : CodeK call Q .ret st tm h = RetK call Q st .ret tm h := by
 unfold CodeK WP
 simp only [runW, Option.some.injEq, Prod.mk.injEq]
 exact propext ⟨fun ⟨_, _, _, ⟨h1, h2, h3⟩, h4⟩ => by subst h1 h2 h3; exact h4, fun hk => ⟨_, _, _, ⟨rfl, rfl, rfl⟩, hk⟩⟩
theorem CodeK_exit (i : Nat) : CodeK call Q (.exit i) st tm h = RetK call Q st (.exit i) tm h := by
 unfold CodeK WP
 simp only [runW, Option.some.injEq, Prod.mk.injEq]
 exact propext ⟨fun ⟨_, _, _, ⟨h1, h2, h3⟩, h4⟩ => by subst h1 h2 h3; exact h4, fun hk => ⟨_, _, _, ⟨rfl, rfl, rfl⟩, hk⟩⟩
theorem CodeK_region (os : List CR) : CodeK call Q (.region os) st tm h = RunK call Q os st tm h := by
 unfold CodeK WP RunK
 simp only [runW, Option.map_eq_some_iff, Prod.mk.injEq]
 exact propext ⟨fun ⟨_, _, _, ⟨⟨a, b⟩, h0, h1, h2, h3⟩, h4⟩ => by subst h1 h2 h3; exact ⟨_, _, h0, h4⟩, fun ⟨a, b, h0, hk⟩ => ⟨_, _, _, ⟨(a, b), h0, rfl, rfl, rfl⟩, hk⟩⟩
theorem CodeK_seq (a b : CC) : CodeK call Q (.seq a b) st tm h = CodeK call Q a (.seq b :: st) tm h := by
 unfold CodeK
 refine propext ⟨fun ⟨e, tm', h', h1, h2⟩ => ?_, fun hk => ?_⟩
 · simp only [runW] at h1
   split at h1
   · rename_i tm1 h3 h4
     exact ⟨_, _, _, h4, e, tm', h', h1, h2⟩
   · rename_i hne
     refine ⟨e, tm', h', h1, ?_⟩
     cases e with
     | normal => exact absurd h1 (hne _ _)
     | exit i => exact h2
     | ret => exact h2
 · refine WP.seq (hk.mono fun e tm' h' he => ?_)
   cases e with
   | normal => exact he
   | exit i => exact he
   | ret => exact he
theorem CodeK_cond (c : CA) (x y : CC) : CodeK call Q (.cond c x y) st tm h = CondK call Q (c.ev tm) x y st tm h := by
 unfold CodeK CondK WP
 simp only [runW]
 generalize c.ev tm = v
 cases v <;> first | simp | skip
 rename_i b
 cases b <;> rfl
theorem CodeK_block (id : Nat) (c : CC) : CodeK call Q (.block id c) st tm h = CodeK call Q c (.block id :: st) tm h := by
 unfold CodeK
 refine propext ⟨fun ⟨e, tm', h', h1, h2⟩ => ?_, fun hk => ?_⟩
 · simp only [runW] at h1
   split at h1
   · rename_i i tm1 h3 h4
     split at h1
     · rename_i hi
       cases h1
       exact ⟨_, _, _, h4, by simp only [RetK, hi, if_true]; exact h2⟩
     · rename_i hi
       cases h1
       exact ⟨_, _, _, h4, by simp only [RetK, hi, if_false]; exact h2⟩
   · rename_i hne
     refine ⟨e, tm', h', h1, ?_⟩
     cases e with
     | normal => exact h2
     | exit i => exact absurd h1 (hne _ _ _)
     | ret => exact h2
 · refine WP.block (hk.mono fun e tm' h' he => ?_)
   cases e with
   | normal => exact he
   | exit i => exact he
   | ret => exact he
theorem CodeK_loop {c : CC} (I : Nat → List AV → AH → Prop) (n : Nat) (h0 : I n tm h) (hb : ∀ n tm h, I n tm h → CodeK call Q c (.inv (fun tm' h' => ∃ m, m < n ∧ I m tm' h') :: st) tm h) : CodeK call Q (.loop c) st tm h := by
 refine WP.loop I n h0 fun n tm h hI => (hb n tm h hI).mono fun e tm' h' he => ?_
 cases e with
 | normal => exact he
 | exit i => exact he
 | ret => exact he
theorem tmset_self {l : List AV} {i : Nat} {a : AV} (h : i < l.length) : (l.set i a).getD i AV.undef = a := by
 simp [List.getD_eq_getElem?_getD, h]
theorem tmset_ne {l : List AV} {i j : Nat} {a : AV} (h : (i == j) = false) : (l.set i a).getD j AV.undef = l.getD j AV.undef := by
 have : i ≠ j := by simpa using h
 simp [List.getD_eq_getElem?_getD, List.getElem?_set_ne this]
theorem CondK_true (x y : CC) : CondK call Q (.bool true) x y st tm h = CodeK call Q x st tm h := rfl
theorem CondK_false (x y : CC) : CondK call Q (.bool false) x y st tm h = CodeK call Q y st tm h := rfl
theorem CondK_split {b : Bool} {x y : CC} (h1 : b = true → CodeK call Q x st tm h) (h2 : b = false → CodeK call Q y st tm h) : CondK call Q (.bool b) x y st tm h := by
 cases b with
 | true => exact h1 rfl
 | false => exact h2 rfl
theorem RunK_nil : RunK call Q [] st tm h = RetK call Q st .normal tm h := by
 unfold RunK
 simp only [runOps, Option.some.injEq, Prod.mk.injEq]
 exact propext ⟨fun ⟨_, _, ⟨h1, h2⟩, h4⟩ => by subst h1 h2; exact h4, fun hk => ⟨_, _, ⟨rfl, rfl⟩, hk⟩⟩
theorem RunK_cons (dst : Option Nat) (op : CO) (os : List CR) : RunK call Q (⟨dst, op, none⟩ :: os) st tm h = ResK call Q (runOp call op tm h) dst os st tm := by
 unfold RunK ResK
 simp only [runOps, CR.wanted, if_true, Option.bind_eq_some_iff]
 refine propext ⟨fun ⟨a, b, ⟨⟨v, h'⟩, h1, h2⟩, h3⟩ => ⟨v, h', h1, a, b, h2, h3⟩, fun ⟨v, h', h1, a, b, h2, h3⟩ => ⟨a, b, ⟨⟨v, h'⟩, h1, h2⟩, h3⟩⟩
theorem RunK_guard (dst : Option Nat) (op : CO) (j : Nat) (want : Bool) (os : List CR) : RunK call Q (⟨dst, op, some (j, want)⟩ :: os) st tm h = GuardK call Q (tm.getD j AV.undef) want op dst os st tm h := by
 have hw : (CR.mk dst op (some (j, want))).wanted tm = (tm.getD j AV.undef).same (.bool want) := by
  unfold CR.wanted
  simp only
  generalize tm.getD j AV.undef = v
  cases v <;> simp [AV.same]
 unfold RunK GuardK
 simp only [runOps, hw]
 split
 · unfold ResK RunK
   simp only [Option.bind_eq_some_iff]
   refine propext ⟨fun ⟨a, b, ⟨⟨v, h'⟩, h1, h2⟩, h3⟩ => ⟨v, h', h1, a, b, h2, h3⟩, fun ⟨v, h', h1, a, b, h2, h3⟩ => ⟨a, b, ⟨⟨v, h'⟩, h1, h2⟩, h3⟩⟩
 · rfl
theorem ResK_some (v : AV) (h' : AH) (dst : Option Nat) (os : List CR) : ResK call Q (some (v, h')) dst os st tm = RunK call Q os st (put tm dst v) h' := by
 unfold ResK
 simp only [Option.some.injEq, Prod.mk.injEq]
 exact propext ⟨fun ⟨_, _, ⟨h1, h2⟩, h4⟩ => by subst h1 h2; exact h4, fun hk => ⟨_, _, ⟨rfl, rfl⟩, hk⟩⟩
theorem ResK_ex {r : Option (AV × AH)} {dst : Option Nat} {os : List CR} {R : AV → AH → Prop} (hr : ∃ v h', r = some (v, h') ∧ R v h') (hk : ∀ v h', R v h' → RunK call Q os st (put tm dst v) h') : ResK call Q r dst os st tm := by
 obtain ⟨v, h', h1, h2⟩ := hr
 exact ⟨v, h', h1, hk v h' h2⟩
theorem GuardK_tt (op : CO) (dst : Option Nat) (os : List CR) : GuardK call Q (.bool true) true op dst os st tm h = ResK call Q (runOp call op tm h) dst os st tm := rfl
theorem GuardK_ff (op : CO) (dst : Option Nat) (os : List CR) : GuardK call Q (.bool false) false op dst os st tm h = ResK call Q (runOp call op tm h) dst os st tm := rfl
theorem GuardK_tf (op : CO) (dst : Option Nat) (os : List CR) : GuardK call Q (.bool true) false op dst os st tm h = RunK call Q os st (put tm dst AV.undef) h := rfl
theorem GuardK_ft (op : CO) (dst : Option Nat) (os : List CR) : GuardK call Q (.bool false) true op dst os st tm h = RunK call Q os st (put tm dst AV.undef) h := rfl
theorem GuardK_u (want : Bool) (op : CO) (dst : Option Nat) (os : List CR) : GuardK call Q AV.undef want op dst os st tm h = RunK call Q os st (put tm dst AV.undef) h := rfl
theorem GuardK_split {b want : Bool} {op : CO} {dst : Option Nat} {os : List CR} (h1 : b = true → GuardK call Q (.bool true) want op dst os st tm h) (h2 : b = false → GuardK call Q (.bool false) want op dst os st tm h) :
    GuardK call Q (.bool b) want op dst os st tm h := by
 cases b with
 | true => exact h1 rfl
 | false => exact h2 rfl
end
section
variable {call : Rec} {tm : List AV} {h : AH}
theorem op_mv (x : CA) : runOp call (.mv x) tm h = some (x.ev tm, h) := rfl
theorem op_un (op : UnOp) (x : CA) : runOp call (.un op x) tm h = (aun op (x.ev tm)).map fun v => (v, h) := rfl
theorem op_bin (op : BinOp) (e : EqT) (x y : CA) : runOp call (.bin op e x y) tm h = (abin op e (x.ev tm) (y.ev tm)).map fun v => (v, h) := rfl
def loadV (v : AV) (h : AH) (g : Option Nat) : Option (AV × AH) :=
 match v with
 | .ptr (some (b, o)) => (readVar h b o g).map fun v => (v, h)
 | _ => none
theorem loadV_ptr (b o : Nat) (g : Option Nat) : loadV (.ptr (some (b, o))) h g = (readVar h b o g).map fun v => (v, h) := rfl
theorem op_load (g : Option Nat) (x : CA) : runOp call (.load g x) tm h = loadV (x.ev tm) h g := by
 simp only [runOp, CO.quiet, quietRun, if_true, loadV]
 generalize x.ev tm = v
 cases v <;> first | rfl | skip
 rename_i a
 cases a <;> rfl
def faddrV (v : AV) (h : AH) (off : Nat) : Option (AV × AH) :=
 match v with
 | .ptr (some (b, o)) => some (.ptr (some (b, o + off)), h)
 | _ => none
theorem faddrV_ptr (b o off : Nat) : faddrV (.ptr (some (b, o))) h off = some (.ptr (some (b, o + off)), h) := rfl
theorem op_faddr (off : Nat) (x : CA) : runOp call (.faddr off x) tm h = faddrV (x.ev tm) h off := by
 simp only [runOp, CO.quiet, quietRun, if_true, faddrV]
 generalize x.ev tm = v
 cases v <;> first | rfl | skip
 rename_i a
 cases a <;> rfl
def pickV (c : AV) (x y : AV) (h : AH) : Option (AV × AH) :=
 match c with
 | .bool true => some (x, h)
 | .bool false => some (y, h)
 | _ => none
theorem pickV_true (x y : AV) : pickV (.bool true) x y h = some (x, h) := rfl
theorem pickV_false (x y : AV) : pickV (.bool false) x y h = some (y, h) := rfl
theorem pickV_bool (c a b : Bool) : pickV (.bool c) (.bool a) (.bool b) h = some (.bool (bif c then a else b), h) := by cases c <;> rfl
theorem pickV_same (c : Bool) (a : AV) : pickV (.bool c) a a h = some (a, h) := by cases c <;> rfl
theorem op_pick (c x y : CA) : runOp call (.pick c x y) tm h = pickV (c.ev tm) (x.ev tm) (y.ev tm) h := by
 simp only [runOp, CO.quiet, quietRun, if_true, pickV]
 generalize c.ev tm = v
 cases v <;> first | rfl | skip
 rename_i b
 cases b <;> rfl
def boxV (v : AV) (h : AH) : Option (AV × AH) := if v.cells.all AV.one then some (.ptr (some (h.n, 0)), h.push (.cells v.cells false)) else none
theorem op_box (x : CA) : runOp call (.box x) tm h = boxV (x.ev tm) h := rfl
theorem boxV_agg (cs : List AV) (hc : cs.all AV.one = true) : boxV (.agg cs) h = some (.ptr (some (h.n, 0)), h.push (.cells cs false)) := by
 unfold boxV; exact if_pos hc
theorem op_call (f : Nat) (args : List CA) : runOp call (.call (.f f) args) tm h = call f (args.map (CA.ev tm)) h := by
 simp only [runOp, CO.quiet, effRun, CA.ev, Bool.false_eq_true, if_false, List.nil_append, List.append_nil]
theorem op_build (z : List AV) (ps : List (Nat × Nat × CA)) : runOp call (.build z ps) tm h = (fillA tm z ps).map fun cs => (.agg cs, h) := by
 simp only [runOp, CO.quiet, quietRun, if_true, Option.map_map]
 rfl
def lenV (v : AV) (h : AH) : Option (AV × AH) :=
 match v with
 | .slice _ n _ => some (.int .i64 n, h)
 | _ => none
theorem lenV_slice (a : Option (Nat × Nat)) (n : Nat) (c : Cap) : lenV (.slice a n c) h = some (.int .i64 n, h) := rfl
theorem op_lenV (x : CA) : runOp call (.lenV x) tm h = lenV (x.ev tm) h := by
 simp only [runOp, CO.quiet, quietRun, if_true, lenV]
 generalize x.ev tm = v
 cases v <;> rfl
def lenSV (v : AV) (h : AH) : Option (AV × AH) :=
 match v with
 | .str s => some (.int .i64 s.length, h)
 | _ => none
theorem lenSV_str (s : List UInt8) : lenSV (.str s) h = some (.int .i64 s.length, h) := rfl
theorem op_lenS (x : CA) : runOp call (.lenS x) tm h = lenSV (x.ev tm) h := by
 simp only [runOp, CO.quiet, quietRun, if_true, lenSV]
 generalize x.ev tm = v
 cases v <;> rfl
def toIntV (k : IntKind) (v : AV) (h : AH) : Option (AV × AH) :=
 match v with
 | .int _ n => some (.int k (k.wrap n), h)
 | _ => none
theorem toIntV_int (k k' : IntKind) (n : Int) : toIntV k (.int k' n) h = some (.int k (k.wrap n), h) := rfl
theorem op_toInt (k : IntKind) (x : CA) : runOp call (.toInt k x) tm h = toIntV k (x.ev tm) h := by
 simp only [runOp, CO.quiet, quietRun, if_true, toIntV]
 generalize x.ev tm = v
 cases v <;> rfl
def iaddrV (esz : Nat) (v i : AV) (h : AH) : Option (AV × AH) :=
 match v, i with
 | .slice (some (b, o)) len _, .int _ n => if 0 ≤ n ∧ n < len then some (.ptr (some (b, o + n.toNat * esz)), h) else none
 | _, _ => none
theorem iaddrV_at {esz b o len : Nat} {c : Cap} {k : IntKind} {n : Int} (h0 : 0 ≤ n) (h1 : n < len) : iaddrV esz (.slice (some (b, o)) len c) (.int k n) h = some (.ptr (some (b, o + n.toNat * esz)), h) := by
 unfold iaddrV; exact if_pos ⟨h0, h1⟩
theorem iaddrV_nat {esz b o len i : Nat} {c : Cap} {k : IntKind} (h1 : i < len) : iaddrV esz (.slice (some (b, o)) len c) (.int k (i : Int)) h = some (.ptr (some (b, o + i * esz)), h) :=
 iaddrV_at (by omega) (by omega)
theorem op_iaddrS (esz : Nat) (x i : CA) : runOp call (.iaddrS esz x i) tm h = iaddrV esz (x.ev tm) (i.ev tm) h := by
 simp only [runOp, CO.quiet, quietRun, if_true, iaddrV]
 generalize x.ev tm = v
 generalize i.ev tm = u
 cases v <;> first | rfl | skip
 rename_i a _ _
 cases a <;> first | rfl | skip
 cases u <;> first | rfl | skip
 simp only
 split <;> rfl
def callV (call : Rec) (f : AV) (args : List AV) (h : AH) : Option (AV × AH) :=
 match f with
 | .func (.func g) first captured => call g (first ++ args ++ captured) h
 | _ => none
theorem op_callV (t : Nat) (args : List CA) : runOp call (.call (.t t) args) tm h = callV call (tm.getD t AV.undef) (args.map (CA.ev tm)) h := by
 simp only [runOp, CO.quiet, effRun, CA.ev, Bool.false_eq_true, if_false, callV]
 generalize tm.getD t AV.undef = v
 cases v <;> rfl
theorem op_append (esz bytes : Nat) (s x : CA) : runOp call (.append esz bytes s x) tm h = appendRun esz bytes (s.ev tm) (x.ev tm) h := rfl
def mkSV (bytes : Nat) (zero : List AV) (l c : AV) (h : AH) : Option (AV × AH) :=
 match l, c with
 | .int _ l, .int _ c => if 0 ≤ l ∧ l ≤ c ∧ bytes * c ≤ 281474976710656 ∧ c ≤ 1152921504606846976 then some (.slice (some (h.n, 0)) l.toNat (.exact c.toNat), h.push (.cells (reps zero c.toNat) false)) else none
 | _, _ => none
theorem op_mkS (bytes esz : Nat) (zero : List AV) (l c : CA) : runOp call (.mkS bytes esz zero l c) tm h = mkSV bytes zero (l.ev tm) (c.ev tm) h := by
 simp only [runOp, CO.quiet, Bool.false_eq_true, if_false, effRun, mkSV]
 generalize l.ev tm = v
 generalize c.ev tm = u
 cases v <;> first | rfl | (cases u <;> rfl)
theorem mkSV_at {bytes : Nat} {zero : List AV} {k k' : IntKind} {l c : Nat} (h1 : l ≤ c) (h2 : bytes * c ≤ 281474976710656) (h3 : c ≤ 1152921504606846976) :
    mkSV bytes zero (.int k (l : Int)) (.int k' (c : Int)) h = some (.slice (some (h.n, 0)) l (.exact c), h.push (.cells (reps zero c) false)) := by
 unfold mkSV
 simp only
 have h4 : ((bytes * c : Nat) : Int) ≤ 281474976710656 := by omega
 rw [Int.natCast_mul] at h4
 rw [if_pos ⟨by omega, by omega, h4, by omega⟩, Int.toNat_natCast, Int.toNat_natCast]
theorem op_litS (esz len : Nat) (zero : List AV) (ps : List (Nat × Nat × CA)) : runOp call (.litS esz len zero ps) tm h =
    (match fillA tm (reps zero len) ps with | some cs => if cs.all AV.one then some (.slice (some (h.n, 0)) len (.exact len), h.push (.cells cs false)) else none | none => none) := rfl
def slcVV (tm : List AV) (esz : Nat) (v : AV) (lo hi mx : Option CA) (h : AH) : Option (AV × AH) := (quietRun (.slcV esz (.c v) lo hi mx) tm h).map fun v => (v, h)
theorem op_slcV (esz : Nat) (x : CA) (lo hi mx : Option CA) : runOp call (.slcV esz x lo hi mx) tm h = slcVV tm esz (x.ev tm) lo hi mx h := rfl
theorem slcVV_hi {esz b o n k : Nat} {kd : IntKind} {c : Nat} {tm : List AV} {i : Nat} (hi : tm.getD i AV.undef = .int kd (k : Int)) (h1 : k ≤ c) (h2 : 0 < c) :
    slcVV tm esz (.slice (some (b, o)) n (.exact c)) none (some (.t i)) none h = some (.slice (some (b, o)) k (.exact c), h) := by
 have hb : bounds3 tm n c none (some (.t i)) none = some (0, k, c) := by
  unfold bounds3
  simp only [optBound, Option.bind_some, highOf, CA.ev, hi, bound]
  rw [if_pos ⟨by omega, by omega⟩]
  simp
 unfold slcVV
 simp only [quietRun, CA.ev, hb, Option.map_some]
 have : ¬ c = 0 := by omega
 simp [this]
theorem op_ext (i : Nat) (x : CA) : runOp call (.ext i x) tm h = (match x.ev tm with | .tuple vs => vs[i]? | _ => none).map fun v => (v, h) := rfl
def storeV (n : Nat) (a v : AV) (h : AH) : Option (AV × AH) :=
 match a with
 | .ptr (some (b, o)) => if v.cells.length = n then (writeCells h b o v.cells).map fun h' => (AV.undef, h') else none
 | _ => none
theorem storeV_ptr (n b o : Nat) (v : AV) : storeV n (.ptr (some (b, o))) v h = if v.cells.length = n then (writeCells h b o v.cells).map fun h' => (AV.undef, h') else none := rfl
theorem op_store (n : Nat) (a x : CA) : runOp call (.store n a x) tm h = storeV n (a.ev tm) (x.ev tm) h := by
 simp only [runOp, CO.quiet, Bool.false_eq_true, if_false, effRun, storeV]
 generalize a.ev tm = v
 cases v <;> rfl
theorem op_alloc (z : List AV) : runOp call (.alloc z) tm h = some (.ptr (some (h.n, 0)), h.push (.cells z false)) := rfl
end
def leafK (q : SK) (x y : Option AV) (r : Option Bool) : Option Bool :=
 match x, y with
 | some x, some y => match scalEq q x y with
   | some true => r
   | some false => some false
   | none => none
 | _, _ => none
theorem aeqK_agg (sz : Nat) (ls : List (Nat × SK)) (xs ys : List AV) : aeq (.agg sz ls) (.agg xs) (.agg ys) = if xs.length = sz ∧ ys.length = sz then leavesEq xs ys ls else none := rfl
theorem aeqK_scal (a b : Bool) : aeq .scal (.bool a) (.bool b) = some (a == b) := rfl
theorem leavesK_nil (xs ys : List AV) : leavesEq xs ys [] = some true := rfl
theorem leavesK_cons (xs ys : List AV) (i : Nat) (q : SK) (is : List (Nat × SK)) : leavesEq xs ys ((i, q) :: is) = leafK q xs[i]? ys[i]? (leavesEq xs ys is) := by
 simp only [leavesEq, leafK]
 cases xs[i]? <;> cases ys[i]? <;> rfl
theorem leafK_i (k : IntKind) (a b : Int) (r : Bool) : leafK .i (some (.int k a)) (some (.int k b)) (some r) = some (a == b && r) := by
 simp only [leafK, scalEq, if_true]
 cases a == b <;> rfl
theorem leafK_b (a b r : Bool) : leafK .b (some (.bool a)) (some (.bool b)) (some r) = some (a == b && r) := by
 simp only [leafK, scalEq]
 cases a == b <;> rfl
theorem leafK_s (a b : List UInt8) (r : Bool) : leafK .s (some (.str a)) (some (.str b)) (some r) = some (decide (a = b) && r) := by
 simp only [leafK, scalEq]
 cases decide (a = b) <;> rfl
theorem settle_keep {h h' : AH} {v : AV} (hl : h.n ≤ h'.low) (hv : v.under h.n = true) : Fs.settle h h' v = (v, h) := by
 unfold Fs.settle; rw [if_pos ⟨hl, hv⟩]
theorem settle_new {h h' : AH} {v : AV} (hv : v.under h.n = false) : Fs.settle h h' v = (v, h'.withLow (min h.low h'.low)) := by
 unfold Fs.settle; rw [if_neg (by simp [hv])]
def closeOp (tm : List AV) : CO → CO
 | .load g x => .load g (.c (x.ev tm))
 | .lookup q z ok m k => .lookup q z ok (.c (m.ev tm)) (.c (k.ev tm))
 | .b2s x => .b2s (.c (x.ev tm))
 | .lenM x => .lenM (.c (x.ev tm))
 | .toUns x => .toUns (.c (x.ev tm))
 | .fromUns t n x => .fromUns t n (.c (x.ev tm))
 | o => o
theorem closeOp_run {o : CO} (hr : o.reads = true) (tm : List AV) (h : AH) : quietRun (closeOp tm o) [] h = quietRun o tm h := by
 cases o <;> first | rfl | (simp [CO.reads] at hr)
def KeptOne : List AH → CO → AV → Prop
 | [], _, _ => True
 | h :: hs, c, v => quietRun c [] h = some v ∧ KeptOne hs c v
def Kept (hs : List AH) : List (Nat × Nat × CO × AV) → Prop
 | [] => True
 | (lo, hi, c, v) :: pr => KeptOne ((hs.drop lo).take (hi + 1 - lo)) c v ∧ Kept hs pr
theorem calm_quiet {call : Rec} {o : CD} (hs : o.still = false) (hc : o.calm = true) (tm : List AV) (h : AH) : calmRun call o tm h = quietRun o.op tm h := by
 unfold calmRun
 rw [if_pos (by simpa [CD.calm, hs] using hc)]
theorem keptOne_all {call : Rec} {o : CD} (hs : o.still = false) (hc : o.calm = true) (hr : o.op.reads = true) {tm : List AV} {v : AV} : ∀ {hs : List AH}, KeptOne hs (closeOp tm o.op) v → hs.all (agrees call o tm v) = true
 | [], _ => rfl
 | h :: hs', ⟨h1, h2⟩ => by
   rw [List.all_cons, keptOne_all hs hc hr h2, Bool.and_true]
   rw [closeOp_run hr] at h1
   unfold agrees
   rw [calm_quiet hs hc, h1]
   exact AV.same_refl v
theorem kept_append {hs : List AH} {b : List (Nat × Nat × CO × AV)} : ∀ (a : List (Nat × Nat × CO × AV)), Kept hs (a ++ b) → Kept hs a ∧ Kept hs b
 | [], h => ⟨trivial, h⟩
 | (_, _, _, _) :: a, ⟨h1, h2⟩ => ⟨⟨h1, (kept_append a h2).1⟩, (kept_append a h2).2⟩
section
variable (call : Rec) (Q : AEx → List AV → AH → Prop) (st : List Fr)
def DrawK : List CD → List (Nat × Nat × CO × AV) → List AH → List AV → AH → Prop
 | [], pr, hs, tm, h => Kept (hs ++ [h]) pr ∧ RetK call Q st .normal tm h
 | o :: os, pr, hs, tm, h => o.still = false ∧
   if o.wanted tm then ∃ v h', runOp call o.op tm h = some (v, h') ∧ DrawK os (if o.op.reads then pr ++ [(o.lo, o.hi, closeOp tm o.op, v)] else pr) (if o.op.quiet then hs else hs ++ [h]) (put tm o.dst v) h'
   else DrawK os pr (if o.op.quiet then hs else hs ++ [h]) (put tm o.dst AV.undef) h
def DResK (r : Option (AV × AH)) (o : CD) (os : List CD) (pr : List (Nat × Nat × CO × AV)) (hs : List AH) (tm : List AV) (h : AH) : Prop :=
 ∃ v h', r = some (v, h') ∧ DrawK call Q st os (if o.op.reads then pr ++ [(o.lo, o.hi, closeOp tm o.op, v)] else pr) (if o.op.quiet then hs else hs ++ [h]) (put tm o.dst v) h'
def DGuardK (g : AV) (want : Bool) (o : CD) (os : List CD) (pr : List (Nat × Nat × CO × AV)) (hs : List AH) (tm : List AV) (h : AH) : Prop :=
 if g.same (.bool want) then DResK call Q st (runOp call o.op tm h) o os pr hs tm h
 else DrawK call Q st os pr (if o.op.quiet then hs else hs ++ [h]) (put tm o.dst AV.undef) h
end
section
variable {call : Rec} {Q : AEx → List AV → AH → Prop} {st : List Fr} {tm : List AV} {h : AH} {os : List CD} {pr : List (Nat × Nat × CO × AV)} {hs : List AH}
theorem runT_of : ∀ (os : List CD) (pr : List (Nat × Nat × CO × AV)) (hs : List AH) (tm : List AV) (h : AH), DrawK call Q st os pr hs tm h →
    ∃ rs' hs' tm' h', runT call os tm h = some (rs', hs', tm') ∧ hs'.getLast? = some h' ∧ RetK call Q st .normal tm' h' ∧ Kept (hs ++ hs') pr ∧ steady call (hs ++ hs') os rs' = true
 | [], pr, hs, tm, h, ⟨h1, h2⟩ => ⟨[], [h], tm, h, rfl, rfl, h2, h1, rfl⟩
 | o :: os, pr, hs, tm, h, hk => by
   have hcat : ∀ (b : Bool) (hs' : List AH), (if b then hs else hs ++ [h]) ++ hs' = hs ++ (if b then hs' else h :: hs') := fun b hs' => by cases b <;> simp
   have hlast : ∀ (b : Bool) (hs' : List AH) (h' : AH), hs'.getLast? = some h' → (if b then hs' else h :: hs').getLast? = some h' := fun b hs' h' hl => by
    cases b with
    | true => exact hl
    | false =>
      cases hs' with
      | nil => cases hl
      | cons a l => simpa using hl
   unfold DrawK at hk
   obtain ⟨hst, hk⟩ := hk
   have hcalm : o.calm = o.op.quiet := by simp [CD.calm, hst]
   have hlk : o.looksIn = o.op.reads := by simp [CD.looksIn, hst]
   split at hk
   · rename_i hw
     obtain ⟨v, h1, hrun, hk⟩ := hk
     obtain ⟨rs', hs', tm', h', g1, g2, g3, g4, g5⟩ := runT_of os _ _ _ _ hk
     rw [hcat] at g4 g5
     by_cases hq : o.op.quiet = true
     · have hrun' : ∃ u, quietRun o.op tm h = some u ∧ (u, h) = (v, h1) := by
         unfold runOp at hrun
         rw [if_pos hq] at hrun
         exact Option.map_eq_some_iff.1 hrun
       obtain ⟨u, hu, he⟩ := hrun'
       cases he
       have hc : o.calm = true := hcalm.trans hq
       simp only [hq, if_true] at g4 g5
       have hT : runT call (o :: os) tm h = some ((tm, v, true) :: rs', hs', tm') := by
        simp only [runT, hw, if_true, hc, calm_quiet hst hc, hu, Option.bind_some, g1, Option.map_some]
       by_cases hrd : o.op.reads = true
       · rw [if_pos hrd] at g4
         obtain ⟨k1, k2, _⟩ := kept_append _ g4
         refine ⟨_, hs', tm', h', hT, g2, g3, k1, ?_⟩
         simp only [steady, hc, hlk, hrd, Bool.and_self, Bool.not_true, Bool.false_or, Bool.and_eq_true, g5, and_true]
         exact keptOne_all hst hc hrd k2
       · rw [if_neg hrd] at g4
         refine ⟨_, hs', tm', h', hT, g2, g3, g4, ?_⟩
         simp only [steady, hlk, hrd, Bool.and_false, Bool.not_false, Bool.true_or, Bool.true_and, g5]
     · have hrd : o.op.reads = false := by
         cases ho : o.op <;> rw [ho] at hq <;> first | rfl | (exact absurd rfl hq)
       have hrun' : effRun call o.op tm h = some (v, h1) := by
        unfold runOp at hrun
        rwa [if_neg hq] at hrun
       have hc : ¬ o.calm = true := by rw [hcalm]; exact hq
       simp only [hq, hrd, Bool.false_eq_true, if_false] at g4 g5
       refine ⟨(tm, v, true) :: rs', h :: hs', tm', h', ?_, ?_, g3, g4, ?_⟩
       · simp only [runT, hw, if_true, hc, Bool.false_eq_true, if_false, hrun', Option.bind_some, g1, Option.map_some]
       · exact hlast false hs' h' g2
       · simp only [steady, hlk, hrd, Bool.and_false, Bool.not_false, Bool.true_or, Bool.true_and, g5]
   · rename_i hw
     obtain ⟨rs', hs', tm', h', g1, g2, g3, g4, g5⟩ := runT_of os _ _ _ _ hk
     rw [hcat] at g4 g5
     refine ⟨(tm, AV.undef, false) :: rs', if o.op.quiet then hs' else h :: hs', tm', h', ?_, hlast _ hs' h' g2, g3, g4, ?_⟩
     · simp only [runT, hw, Bool.false_eq_true, if_false, g1, Option.map_some, hcalm]
     · simp only [steady, Bool.false_and, Bool.not_false, Bool.true_or, Bool.true_and, g5]
theorem CodeK_regionD (os : List CD) (hk : DrawK call Q st os [] [] tm h) : CodeK call Q (.regionD os) st tm h := by
 obtain ⟨rs', hs', tm', h', g1, g2, g3, _, g5⟩ := runT_of os [] [] tm h hk
 refine WP.regionD (tm' := tm') (h' := h') ?_ g3
 unfold runD
 simp only [List.nil_append] at g5
 simp only [g1, g5, if_true]
 rw [List.getLastD_eq_getLast?, g2]
 rfl
theorem DrawK_nil : DrawK call Q st [] pr hs tm h = (Kept (hs ++ [h]) pr ∧ RetK call Q st .normal tm h) := rfl
theorem DrawK_cons (dst : Option Nat) (op : CO) (lo hi : Nat) : DrawK call Q st (⟨⟨dst, op, none⟩, lo, hi, false⟩ :: os) pr hs tm h = DResK call Q st (runOp call op tm h) ⟨⟨dst, op, none⟩, lo, hi, false⟩ os pr hs tm h :=
 propext ⟨fun hk => hk.2, fun hk => ⟨rfl, hk⟩⟩
theorem DrawK_guard (dst : Option Nat) (op : CO) (j : Nat) (want : Bool) (lo hi : Nat) : DrawK call Q st (⟨⟨dst, op, some (j, want)⟩, lo, hi, false⟩ :: os) pr hs tm h = DGuardK call Q st (tm.getD j AV.undef) want ⟨⟨dst, op, some (j, want)⟩, lo, hi, false⟩ os pr hs tm h := by
 have hw : (CR.mk dst op (some (j, want))).wanted tm = (tm.getD j AV.undef).same (.bool want) := by
  unfold CR.wanted
  simp only
  generalize tm.getD j AV.undef = v
  cases v <;> simp [AV.same]
 unfold DGuardK
 rw [← hw]
 exact propext ⟨fun hk => hk.2, fun hk => ⟨rfl, hk⟩⟩
theorem DResK_some (v : AV) (h' : AH) (o : CD) : DResK call Q st (some (v, h')) o os pr hs tm h = DrawK call Q st os (if o.op.reads then pr ++ [(o.lo, o.hi, closeOp tm o.op, v)] else pr) (if o.op.quiet then hs else hs ++ [h]) (put tm o.dst v) h' := by
 unfold DResK
 simp only [Option.some.injEq, Prod.mk.injEq]
 exact propext ⟨fun ⟨_, _, ⟨h1, h2⟩, h4⟩ => by subst h1 h2; exact h4, fun hk => ⟨_, _, ⟨rfl, rfl⟩, hk⟩⟩
theorem DGuardK_tt (o : CD) : DGuardK call Q st (.bool true) true o os pr hs tm h = DResK call Q st (runOp call o.op tm h) o os pr hs tm h := rfl
theorem DGuardK_ff (o : CD) : DGuardK call Q st (.bool false) false o os pr hs tm h = DResK call Q st (runOp call o.op tm h) o os pr hs tm h := rfl
theorem DGuardK_tf (o : CD) : DGuardK call Q st (.bool true) false o os pr hs tm h = DrawK call Q st os pr (if o.op.quiet then hs else hs ++ [h]) (put tm o.dst AV.undef) h := rfl
theorem DGuardK_ft (o : CD) : DGuardK call Q st (.bool false) true o os pr hs tm h = DrawK call Q st os pr (if o.op.quiet then hs else hs ++ [h]) (put tm o.dst AV.undef) h := rfl
theorem DGuardK_u (want : Bool) (o : CD) : DGuardK call Q st AV.undef want o os pr hs tm h = DrawK call Q st os pr (if o.op.quiet then hs else hs ++ [h]) (put tm o.dst AV.undef) h := rfl
theorem DGuardK_split {b want : Bool} {o : CD} (h1 : b = true → DGuardK call Q st (.bool true) want o os pr hs tm h) (h2 : b = false → DGuardK call Q st (.bool false) want o os pr hs tm h) :
    DGuardK call Q st (.bool b) want o os pr hs tm h := by
 cases b with
 | true => exact h1 rfl
 | false => exact h2 rfl
theorem kept_load (b o : Nat) (g : Option Nat) (tm0 : List AV) (h : AH) : quietRun (.load g (.c (.ptr (some (b, o))))) tm0 h = readVar h b o g := rfl
end
def DoneK (res : List CRes) (h : AH) (v : AV) (e : AEx) (tm : List AV) (h' : AH) : Prop :=
 (e = .normal ∨ e = .ret) ∧ h.n ≤ h'.low ∧ v.under h.n = true ∧ resAll tm h' res = some v
theorem acall_facts {orc : Orc} {tbl : Nat → Option CF} {f : Nat} {nt : Nat} {res : List CRes} {body : CC} (hno : orc f = none) (hf : tbl f = some ⟨nt, res, body⟩) {args : List AV} {h : AH} {R : AV → AH → Prop}
    (hw : CodeK (acall orc tbl) (fun e tm h' => (e = .normal ∨ e = .ret) ∧ ∃ v, resAll tm h' res = some v ∧ R (Fs.settle h h' v).1 (Fs.settle h h' v).2) body [] (args ++ List.replicate (nt - args.length) AV.undef) (h.withLow h.n)) :
    ∃ v h1, acall orc tbl f args h = some (v, h1) ∧ R v h1 := by
 obtain ⟨e, tm', h', h2, h3, v, h4, h5⟩ := hw
 refine ⟨_, _, acall_intro hno hf ?_, h5⟩
 unfold runFW
 rw [h2]
 rcases h3 with rfl | rfl <;> simp only [h4, Option.map_some]
theorem acall_sym {orc : Orc} {tbl : Nat → Option CF} {f : Nat} {nt : Nat} {res : List CRes} {body : CC} (hno : orc f = none) (hf : tbl f = some ⟨nt, res, body⟩) {args : List AV} {h : AH} {v : AV}
    (hw : CodeK (acall orc tbl) (DoneK res h v) body [] (args ++ List.replicate (nt - args.length) AV.undef) (h.withLow h.n)) : acall orc tbl f args h = some (v, h) := by
 refine acall_wp hno hf (WP.mono hw fun e tm' h' ⟨h1, h2, h3, h4⟩ => ⟨h1, ?_⟩)
 simp only [h4, Option.map_some, settle_keep h2 h3]
end Go.Fs
end

section
/- From an abstract run at what is handed in to a given statement: 'the law returns true; what was handed in reads as it did'. -/
namespace Go.Fs
open Go.RowKit Go.ChangeShapes
section
variable {H : Type} {enc : TypeId × Value → H} {P : Program}
theorem below_trodAll (hl : laidOutB P = true) {W W' : World} (hb : Below W.heap.size W W') : ∀ {ts : List TypeId} {vs : List Value} {ds : List (DataW H)} {ps : List MemPlace},
    (ts.all fun t => P.readableRec t && decide (t < P.types.size)) = true → DataW.TrodAll enc P W 0 (fun _ => true) true ts vs ds ps → (∀ x ∈ ps, x.block < W.heap.size) →
      DataW.TrodAll enc P W' 0 (fun b => decide (b < W.heap.size)) true ts vs ds ps
 | [], [], [], _, _, h, _ => h
 | t :: ts, v :: vs, d :: ds, ps, hts, ⟨p, q, h1, h2, he⟩, hlt => by
   subst he
   simp only [List.all_cons, Bool.and_eq_true, decide_eq_true_eq] at hts
   exact ⟨p, q, Below.trod hl hts.1.1 hts.1.2 h1 hb fun x hx => hlt x (List.mem_append_left _ hx), below_trodAll hl hb hts.2 h2 fun x hx => hlt x (List.mem_append_right _ hx), rfl⟩
theorem law_post (hl : laidOutB P = true) {f : Func} {s : ChangeSpec} {fresh handsOn : Bool} {W W' : World} {args : Array Value} {ds gs : List (DataW H)} {before : List MemPlace} {tb : TypeId}
    (hts : (f.params.toList.all fun t => P.readableRec t && decide (t < P.types.size)) = true) (hres : f.resultTypes = #[tb]) (hb : P.underlying tb = some .bool) (hs : s.vars = [])
    (hfn : s.fn H (ds ++ []) = { results := [.lit (.bool true)], args := ds }) (hW : DataW.Whole enc P f.params.toList s.vars false W args.toList ds gs before) (hB : Below W.heap.size W W') :
    s.post enc P f false fresh handsOn false W args (.bool true) W' := by
 have hW' := hW
 obtain ⟨p, q, hA, hV, he, _, _⟩ := hW'
 rw [hs] at hV
 obtain ⟨rfl, rfl⟩ := trodVars_none hV
 have hlt := hW.lt
 refine ⟨ds, [], before, [], p, [], hW, ?_, ?_, ?_, hB.frame _, fun h => by cases h⟩
 · rw [hres, hfn]
   exact trodAll_cons_mk (p := []) (shut_bool hb _) trodAll_mk0
 · rw [hfn]
   exact below_trodAll hl hB hts hA fun x hx => hlt x (by rw [he]; exact List.mem_append_left _ (by simpa using hx))
 · rw [hfn, hs]
   rfl
end
end Go.Fs
end

section
/- Lists of integers that are handed in. -/
namespace Go.Fs
section
variable {H : Type} {P : Program} {opq : TypeId → Bool}
def Ints (k : IntKind) (h : AH) (v : AV) (xs : List Int) : Prop :=
 ∃ (a : Option (Nat × Nat)) (c : Cap), v = .slice a xs.length c ∧ (∀ x ∈ xs, k.min ≤ x ∧ x ≤ k.max) ∧
  (xs = [] ∨ ∃ (b : Nat) (cells : List AV) (ro : Bool), a = some (b, 0) ∧ b < h.n ∧ h.get b = some (.cells cells ro) ∧ ∀ (i : Nat) (x : Int), xs[i]? = some x → cells[i]? = some (.int k x))
theorem Ints.mono {k : IntKind} {h h' : AH} {v : AV} {xs : List Int} (hi : Ints k h v xs) (hn : h.n ≤ h'.n) (ho : ∀ b, b < h.n → h'.get b = h.get b) : Ints k h' v xs := by
 obtain ⟨a, c, h1, h2, h3⟩ := hi
 refine ⟨a, c, h1, h2, ?_⟩
 rcases h3 with h3 | ⟨b, cells, ro, g1, g2, g3, g4⟩
 · exact .inl h3
 · exact .inr ⟨b, cells, ro, g1, by omega, by rw [ho b g2]; exact g3, g4⟩
theorem absD_slice {t e : TypeId} {f : Nat} (hu : P.underlying t = some (.slice e)) (ho : opq t = false) (xs ys : List (DataW H)) (h : AH) : absD P opq (f + 1) t (.slice xs ys) h =
    if xs.length + ys.length = 0 then some ([.slice (some (h.n, 0)) 0 (.exact 0)], h.push .dead) else if 0 < P.cellsOf e then
     (absL (absD P opq f e) (xs ++ ys) h).map fun (cs, h') => ([.slice (some (h'.n, 0)) xs.length (.exact (xs.length + ys.length))], h'.push (.cells cs true)) else none := by
 conv => lhs; unfold absD
 simp [hu, ho]
end
end Go.Fs
end

section
/- Laws with parameters over variables that read as listed, and one more that holds whatever number. -/
namespace Go.Fs
open Go.RowKit Go.ChangeShapes
section
variable {H : Type} {enc : TypeId × Value → H} {P : Program}
theorem good_acall (hm : P.follows .mixedOrders = true) {orc : Orc} (ho : GoodOrc P orc) {f : Nat} {args : List AV} {h : AH} {v : AV} {h' : AH} (hr : acall orc (tbl P) f args h = some (v, h')) : GoodAt P f args h v h' := by
 obtain ⟨n, hn⟩ := acall_ex hr
 exact run_good hm ho n f args h v h' hn
theorem returns_args {C : Checked} {os : Os} {f : FuncId} {fn : Func} {s : ChangeSpec} {X : World → Prop} (hX : ∀ w w' : World, w.heap = w'.heap → X w → X w')
    (own : ownKnob C.prog.godebug = none) (started : os.Started) (noInit : C.prog.inits.idxOf? f = none) (hfn : C.prog.funcs[f]? = some fn)
    (witness : ∃ (w : World) (tape : Tape) (i : Input), w.os = os ∧ (w.forCall tape i).Shaped C.prog ∧ i.vars = [] ∧ Input.okWide C.prog (w.forCall tape i) .any w.heap.size f i ∧
      ((s.pre enc C.prog fn [] false (w.forCall tape i).memory i.args ∧ X (w.forCall tape i).memory) ∧ sizedMet enc C.prog fn (OpenSpec.ofChange s) false (w.forCall tape i).memory i.args) ∧ Assume.holds {} C.prog (lone (Frame.enter C.prog f i.args .normal) [] (w.forCall tape i)))
    (go : ∀ (W : World) (base : Nat) (args : Array Value) (ds gs : List (DataW H)) (before : List MemPlace), (∀ (j : Nat) t v, fn.params[j]? = some t → args[j]? = some v → Value.okWide C.prog W .any base t v) →
      DataW.Whole enc C.prog fn.params.toList s.vars false W args.toList ds gs before → X W → W.ShapedOpen C.prog → (DataW.weightsEach C.prog (fn.params.toList ++ s.plain.varTypes C.prog) (ds ++ gs)).all (· ≤ reachBytes) = true →
      Calls C.prog f args W fun e W' => ∃ v, e = .returned v ∧ s.post enc C.prog fn false true false false W args v W') :
    ReturnsInHanded {} C os f .any (fun w args => (s.pre enc C.prog fn [] false w args ∧ X w) ∧ sizedMet enc C.prog fn (OpenSpec.ofChange s) false w args) (s.post enc C.prog fn false true false false) := by
 refine returnsInHanded_of_calls own started noInit witness ?_
 intro w tape i _ hsh _ hok hpre _
 obtain ⟨_, _, _, fn', hfn', _, _, _, _, hval⟩ := hok
 obtain rfl : fn' = fn := Option.some.inj (hfn'.symm.trans hfn)
 obtain ⟨⟨⟨ds, gs, before, hw, _⟩, hx⟩, hz⟩ := hpre
 refine (go (w.forCall tape i) w.heap.size i.args ds gs before hval (DataW.Whole.of_heap (w' := w.forCall tape i) (by rfl) hw) (hX _ _ (by rfl) hx) hsh (hz.weights hw)).mono fun e W' ⟨v, he, hp⟩ => ?_
 subst he
 exact ChangeSpec.post_blind hp
end
end Go.Fs
end

section
/- Rows that are written over to the end of their spare room: the rows are opened anew, with that room. -/
namespace Go.Fs
theorem BRel.back {ι ι' : Emb} {w w' : World} {b : Nat} {c : Blk} (hle : ι.le ι') (hbi : b < ι.n) (h1 : BRel ι w b c) (h2 : BRel ι' w' b c) : BRel ι w' b c := by
 have e1 := hle.blk b hbi
 have e2 := hle.sh b hbi
 have e3 := hle.size b hbi
 have e4 := hle.ty b hbi
 cases c with
 | cells cs ro =>
   obtain ⟨arr, e, fr, g1, g2, g3, g4⟩ := h2
   obtain ⟨arr0, e0, fr0, k1, k2, k3, k4⟩ := h1
   refine ⟨arr, e, fr, by rw [← e1]; exact g1, by rw [← e3]; exact g2, fun i c hc => ?_, fun hro => ⟨(g4.1 hro).1, by rw [← e2]; exact (g4.1 hro).2⟩, by rw [← e4]; exact g4.2⟩
   obtain ⟨x, g5, g6⟩ := g3 i c hc
   obtain ⟨x0, k5, k6⟩ := k3 i c hc
   exact ⟨x, by rw [← e2]; exact g5, g6.back hle k6.under⟩
 | map es =>
   obtain ⟨rs, cl, g1, g2⟩ := h2
   obtain ⟨rs0, cl0, k1, k2⟩ := h1
   refine ⟨rs, cl, by rw [← e1]; exact g1, ?_⟩
   clear g1 k1
   revert g2 k2
   generalize rs.toList = L
   generalize rs0.toList = L0
   induction es generalizing L L0 with
   | nil => intro g2 _; exact g2
   | cons p es ih =>
     obtain ⟨k, x⟩ := p
     intro g2 k2
     obtain ⟨r1, rs1, rfl, m1, m2, m3⟩ := g2
     obtain ⟨r2, rs2, rfl, n1, n2, n3⟩ := k2
     exact ⟨r1, rs1, rfl, m1.back hle n1.under, m2.back hle n2.under, ih _ _ m3 n3⟩
 | iter s p => exact ⟨by rw [← e1]; exact h2.1, by rw [← e2]; exact h2.2⟩
 | typ b' t => exact h1
 | dead => trivial
theorem Rel.recast {G : Nat} {ι : Emb} {h h2 : AH} {w : World} (r : Rel G ι h w) (hn : h2.n = h.n)
    (hc : ∀ b c', h2.get b = some c' → ∃ c, h.get b = some c ∧ (c'.rw → c.rw) ∧ (c'.live → c.live) ∧ BRel ι w b c') : Rel G ι h2 w := by
 refine ⟨by rw [hn]; exact r.n, fun b c' hb => ?_, by rw [hn]; exact r.gn, r.glob, fun b c' hb => ?_, fun b b' c c' hb hb' hne hrw hlv => ?_⟩
 · obtain ⟨c, h1, _⟩ := hc b c' hb
   rw [hn]; exact r.dom b c h1
 · obtain ⟨c, _, _, _, h4⟩ := hc b c' hb
   exact h4
 · obtain ⟨d, h1, h2, _, _⟩ := hc b c hb
   obtain ⟨d', g1, _, g3, _⟩ := hc b' c' hb'
   exact r.sep b b' d d' h1 g1 hne (h2 hrw) (g3 hlv)
def Hp.sets {α : Type} : List (Nat × α) → Hp α → Hp α
 | [], h => h
 | (b, c) :: l, h => (Hp.sets l h).set b c
theorem Hp.n_sets {α : Type} : ∀ (l : List (Nat × α)) (h : Hp α), (Hp.sets l h).n = h.n
 | [], _ => rfl
 | (b, c) :: l, h => by simp only [Hp.sets, Hp.n_set]; exact Hp.n_sets l h
theorem Hp.low_sets {α : Type} : ∀ (l : List (Nat × α)) (h : Hp α), (Hp.sets l h).low ≤ h.low ∧ ∀ p ∈ l, (Hp.sets l h).low ≤ p.1
 | [], _ => ⟨Nat.le_refl _, fun _ hp => by simp at hp⟩
 | (b, c) :: l, h => by
   have ih := Hp.low_sets l h
   simp only [Hp.sets, Hp.low_set]
   refine ⟨by omega, fun p hp => ?_⟩
   simp only [List.mem_cons] at hp
   rcases hp with rfl | hp
   · simp only; omega
   · have := ih.2 p hp; omega
theorem Hp.get_sets_not {α : Type} {k : Nat} : ∀ {l : List (Nat × α)} {h : Hp α}, (∀ p ∈ l, p.1 ≠ k) → (Hp.sets l h).get k = h.get k
 | [], _, _ => rfl
 | (b, c) :: l, h, hk => by
   simp only [Hp.sets]
   rw [Hp.get_set_ne _ _ _ _ (Ne.symm (hk (b, c) (by simp)))]
   exact Hp.get_sets_not fun p hp => hk p (by simp [hp])
theorem Hp.get_sets_mem {α : Type} {k : Nat} {x : α} : ∀ {l : List (Nat × α)} {h : Hp α}, (k, x) ∈ l → (l.map Prod.fst).Nodup → (Hp.sets l h).get k = some x
 | [], _, hm, _ => by simp at hm
 | (b, c) :: l, h, hm, hd => by
   simp only [List.map_cons, List.nodup_cons] at hd
   simp only [Hp.sets]
   simp only [List.mem_cons] at hm
   rcases hm with he | hm
   · cases he; exact Hp.get_set_self _ _ _
   · have : k ≠ b := fun e => hd.1 (by rw [← e]; exact List.mem_map.2 ⟨_, hm, rfl⟩)
     rw [Hp.get_set_ne _ _ _ _ this]
     exact Hp.get_sets_mem hm hd.2
def apartRow (esz : Nat) (h : AH) : AV → Option (Option Nat)
 | .slice none _ (.exact 0) => some none
 | .slice (some (b, 0)) len (.exact c) => match h.get b with
   | some (.cells cs false) => if len ≤ c ∧ cs.length = c * esz ∧ c ≤ 1152921504606846976 then some (some b) else none
   | _ => none
 | .slice (some (b, 0)) len (.opn e) => match h.get b with
   | some (.cells cs false) => if e = esz ∧ cs.length = len * esz then some (some b) else none
   | _ => none
 | _ => none
def OpenRow (esz : Nat) (h : AH) (ob : Option Nat) (x : AV) : Prop :=
 (ob = none ∧ x = .slice none 0 (.exact 0)) ∨
 ∃ b len c cs, ob = some b ∧ x = .slice (some (b, 0)) len (.exact c) ∧ h.get b = some (.cells cs false) ∧ cs.length = c * esz ∧ len ≤ c ∧ c ≤ maxLen
theorem BRel.opened {ι : Emb} {w : World} {b : Nat} {cs : List AV} (hb : BRel ι w b (.cells cs false)) (k : Nat) (hle : ι.sh b + cs.length + k ≤ ι.size b) :
    ∃ sp, sp.length = k ∧ BRel ι w b (.cells (cs ++ sp) false) := by
 obtain ⟨arr, e, fr, h1, h2, h3, h4, h5⟩ := hb
 have key : ∀ j : Nat, ∃ a : AV, ∀ v, arr[ι.sh b + cs.length + j]? = some v → VRel ι a v := fun j => by
  cases hv : arr[ι.sh b + cs.length + j]? with
  | none => exact ⟨AV.undef, fun v hv' => by cases hv'⟩
  | some v =>
    obtain ⟨a, ha⟩ := (h4 rfl).2 _ v (by omega) hv
    exact ⟨a, fun v' hv' => by cases hv'; exact ha ι⟩
 let f := fun j => Classical.choose (key j)
 have hf : ∀ j v, arr[ι.sh b + cs.length + j]? = some v → VRel ι (f j) v := fun j => Classical.choose_spec (key j)
 refine ⟨(List.range k).map f, by simp, arr, e, fr, h1, h2, fun i c hc => ?_, fun hro => ⟨(h4 hro).1, fun j v hj hv => (h4 hro).2 j v (by simp at hj; omega) hv⟩, h5⟩
 have hlt0 := (List.getElem?_eq_some_iff.1 hc).1
 simp only [List.length_append, List.length_map, List.length_range] at hlt0
 by_cases hi : i < cs.length
 · rw [List.getElem?_append_left hi] at hc
   exact h3 i c hc
 · rw [List.getElem?_append_right (by omega), List.getElem?_map, List.getElem?_range (by omega)] at hc
   simp only [Option.map_some, Option.some.injEq] at hc
   have hlt : ι.sh b + i < arr.size := by omega
   refine ⟨arr[ι.sh b + i], by simp [hlt], ?_⟩
   rw [← hc]
   refine hf _ _ ?_
   rw [show ι.sh b + cs.length + (i - cs.length) = ι.sh b + i by omega]
   simp [hlt]
section
variable {P : Program} {G : Nat} {ι : Emb} {h : AH} {w : World}
theorem row_open (r : Rel G ι h w) {esz : Nat} (hp : 0 < esz) {x : AV} {rx : Value} {ob : Option Nat} (hx : VRel ι x rx) (ha : apartRow esz h x = some ob) :
    ∃ x', VRel ι x' rx ∧ ((ob = none ∧ x' = .slice none 0 (.exact 0)) ∨ ∃ b len c cs cs', ob = some b ∧ x' = .slice (some (b, 0)) len (.exact c) ∧ h.get b = some (.cells cs false) ∧ BRel ι w b (.cells cs' false) ∧ cs'.length = c * esz ∧ len ≤ c ∧ c ≤ maxLen) := by
 have hmx : maxLen = 9223372036854775807 := rfl
 unfold apartRow at ha
 split at ha
 · cases ha
   have hx' := hx
   simp only [VRel] at hx'
   obtain ⟨h1, _, h3⟩ := hx'
   exact ⟨_, by rw [h3]; simp [VRel], .inl ⟨rfl, rfl⟩⟩
 · rename_i b len c
   split at ha
   · rename_i cs hb
     split at ha
     · rename_i hc
       cases ha
       exact ⟨_, hx, .inr ⟨b, len, c, cs, cs, rfl, rfl, hb, r.brel b _ hb, hc.2.1, hc.1, by omega⟩⟩
     · cases ha
   · cases ha
 · rename_i b len e
   split at ha
   · rename_i cs hb
     split at ha
     · rename_i hc
       cases ha
       obtain ⟨rfl, hl⟩ := hc
       simp only [VRel] at hx
       obtain ⟨hbn, _, o', c', rfl, hm, hcase⟩ := hx
       have hB := r.brel b _ hb
       rcases hcase with ⟨h1, h2, h3⟩ | ⟨rfl, rfl, h3⟩
       · have hmul : len * e ≤ c' * e := Nat.mul_le_mul_right _ h2
         obtain ⟨sp, g1, g2⟩ := hB.opened (c' * e - len * e) (by omega)
         refine ⟨.slice (some (b, 0)) len (.exact c'), ?_, .inr ⟨b, len, c', cs, cs ++ sp, rfl, rfl, hb, g2, by rw [List.length_append, g1, hl]; omega, h2, hm⟩⟩
         simp only [VRel]
         exact ⟨hbn, h2, _, rfl, fun _ => by rw [h1]⟩
       · refine ⟨.slice (some (b, 0)) 0 (.exact 0), ?_, .inr ⟨b, 0, 0, cs, cs, rfl, rfl, hb, hB, by omega, Nat.le_refl _, by omega⟩⟩
         simp only [VRel]
         exact ⟨hbn, Nat.le_refl _, _, rfl, fun hh => by omega⟩
     · cases ha
   · cases ha
 · cases ha
theorem rows_open (r : Rel G ι h w) {esz : Nat} (hp : 0 < esz) : ∀ {L : List AV} {rs : List Value} {obs : List (Option Nat)}, VRels ι L rs → L.mapM (apartRow esz h) = some obs →
    ∃ (L' : List AV) (U : List (Nat × Blk)), VRels ι L' rs ∧ L'.length = obs.length ∧ U.map Prod.fst = obs.filterMap id ∧ (∀ p ∈ U, ∃ cs cs', h.get p.1 = some (.cells cs false) ∧ p.2 = .cells cs' false ∧ BRel ι w p.1 p.2) ∧
     ∀ hx : AH, (∀ p ∈ U, hx.get p.1 = some p.2) → ∀ (i : Nat) (x : AV), L'[i]? = some x → ∃ ob, obs[i]? = some ob ∧ OpenRow esz hx ob x
 | [], rs, obs, hr, hm => by
   simp only [List.mapM_nil, Option.pure_def, Option.some.injEq] at hm
   subst hm
   exact ⟨[], [], hr, rfl, rfl, fun p hp => by simp at hp, fun hx _ i x hi => by simp at hi⟩
 | x :: L, rs, obs, hr, hm => by
   simp only [List.mapM_cons, Option.bind_eq_bind, Option.bind_eq_some_iff, Option.pure_def, Option.some.injEq] at hm
   obtain ⟨ob, h1, obs', h2, rfl⟩ := hm
   simp only [VRels] at hr
   obtain ⟨rx, rs', rfl, g1, g2⟩ := hr
   obtain ⟨L', U, k1, k2, k3, k4, k5⟩ := rows_open r hp g2 h2
   obtain ⟨x', q1, q2⟩ := row_open r hp g1 h1
   rcases q2 with ⟨rfl, rfl⟩ | ⟨b, len, c, cs, cs', rfl, rfl, m1, m2, m3, m4, m5⟩
   · refine ⟨_ :: L', U, by simp only [VRels]; exact ⟨_, _, rfl, q1, k1⟩, by simp [k2], by simpa using k3, k4, fun hx hU i x hi => ?_⟩
     cases i with
     | zero => simp only [List.getElem?_cons_zero, Option.some.injEq] at hi; subst hi; exact ⟨none, rfl, .inl ⟨rfl, rfl⟩⟩
     | succ i => simp only [List.getElem?_cons_succ] at hi ⊢; exact k5 hx hU i x hi
   · refine ⟨_ :: L', (b, .cells cs' false) :: U, by simp only [VRels]; exact ⟨_, _, rfl, q1, k1⟩, by simp [k2], by simpa using k3, fun p hp => ?_, fun hx hU i x hi => ?_⟩
     · simp only [List.mem_cons] at hp
       rcases hp with rfl | hp
       · exact ⟨cs, cs', m1, rfl, m2⟩
       · exact k4 p hp
     · cases i with
       | zero =>
         simp only [List.getElem?_cons_zero, Option.some.injEq] at hi
         subst hi
         exact ⟨some b, rfl, .inr ⟨b, len, c, cs', rfl, rfl, hU (b, .cells cs' false) (by simp), m3, m4, m5⟩⟩
       | succ i => simp only [List.getElem?_cons_succ] at hi ⊢; exact k5 hx (fun p hp => hU p (by simp [hp])) i x hi
def apartOrc (esz : Nat) : List AV → AH → Option (AV × AH)
 | [.slice (some (bL, 0)) m _], h => match h.get bL with
   | some (.cells L _) => if L.length = m ∧ m ≤ 1000000 then (match L.mapM (apartRow esz h) with
     | some obs => if (bL :: obs.filterMap id).Nodup then some (.bool true, Hp.sets ((bL :: obs.filterMap id).map fun b => (b, Blk.dead)) h) else none
     | none => none) else none
   | _ => none
 | _, _ => none
def ApartRun (P : Program) (esz f : Nat) : Prop :=
 ∀ (h : AH) (bL m : Nat) (cap : Cap) (ro : Bool) (L : List AV) (obs : List (Option Nat)), h.get bL = some (.cells L ro) → bL < h.n → L.length = m → m ≤ 1000000 → obs.length = m →
  (∀ (i : Nat) (x : AV), L[i]? = some x → ∃ ob, obs[i]? = some ob ∧ OpenRow esz h ob x) → (∀ b, some b ∈ obs → b < h.n) → (obs.filterMap id).Nodup → bL ∉ obs.filterMap id →
  ∃ h1, acall noOrc (tbl P) f [.slice (some (bL, 0)) m cap] h = some (.bool true, h1) ∧ ∀ b, b < h.n → b ∉ obs.filterMap id → h1.get b = h.get b
theorem good_apart (hm : P.follows .mixedOrders = true) {esz f : Nat} (hp : 0 < esz) (hrun : ApartRun P esz f) (hb : ((P.funcs[f]?).bind (·.body)).isSome = true) {args : List AV} {h : AH} {v : AV} {h' : AH} (hs : apartOrc esz args h = some (v, h')) : GoodAt P f args h v h' := by
 unfold apartOrc at hs
 split at hs
 · rename_i bL m cap
   split at hs
   · rename_i L ro hL
     split at hs
     · rename_i hlen
       obtain ⟨hlen, hmm⟩ := hlen
       split at hs
       · rename_i obs hobs
         split at hs
         · rename_i hnd
           cases hs
           have hfn : ∃ fn b, P.funcs[f]? = some fn ∧ fn.body = some b ∧ (fn.name == "runtime.NumGoroutine") = false := by
            obtain ⟨h1, hr1, _⟩ := hrun ((start 0).push (.cells [] true)) (start 0).n 0 (.exact 0) true [] [] (Hp.get_push_self _ _) (by simp) rfl (by omega) rfl (fun i x hi => by simp at hi) (fun b hb => by simp at hb) (by simp) (by simp)
            obtain ⟨n, hn⟩ := acall_ex hr1
            exact ((run_good hm (good_noOrc P) n f _ _ _ _ hn).body hb).1
           refine .inl ⟨hfn, fun ι w rargs r hargs => ?_⟩
           obtain ⟨arrL, eL, frL, z1, z2, z3, z4⟩ := r.brel bL _ hL
           have hbL := r.dom bL _ hL
           have hreal : ∃ rs : List Value, VRels ι L rs ∧ ∀ (i : Nat) (v : Value), rs[i]? = some v → arrL[ι.sh bL + i]? = some v := by
            refine ⟨(arrL.toList.drop (ι.sh bL)).take L.length, VRels.mk ?_ fun i c hc => ?_, fun i v hi => ?_⟩
            · rw [List.length_take, List.length_drop]
              rcases Nat.eq_zero_or_pos L.length with h0 | h0
              · omega
              · obtain ⟨v, g1, _⟩ := z3 (L.length - 1) _ (List.getElem?_eq_getElem (by omega))
                have := (Array.getElem?_eq_some_iff.1 g1).1
                simp; omega
            · obtain ⟨v, g1, g2⟩ := z3 i c hc
              have hi := (List.getElem?_eq_some_iff.1 hc).1
              exact ⟨v, by rw [List.getElem?_take_of_lt hi, List.getElem?_drop, Array.getElem?_toList]; exact g1, g2⟩
            · have hlt := (List.getElem?_eq_some_iff.1 hi).1
              rw [List.length_take] at hlt
              rw [List.getElem?_take_of_lt (by omega), List.getElem?_drop, Array.getElem?_toList] at hi
              exact hi
           obtain ⟨rs, hrs, hat⟩ := hreal
           obtain ⟨L', U, k1, k2, k3, k4, k5⟩ := rows_open r hp hrs hobs
           have hndU : (((bL, Blk.cells L' true) :: U).map Prod.fst).Nodup := by simpa [k3] using hnd
           have hh2n : (Hp.sets ((bL, .cells L' true) :: U) h).n = h.n := Hp.n_sets _ _
           have hget : ∀ p ∈ (bL, Blk.cells L' true) :: U, (Hp.sets ((bL, Blk.cells L' true) :: U) h).get p.1 = some p.2 := fun p hp => Hp.get_sets_mem hp hndU
           have hnot : ∀ b, b ∉ bL :: obs.filterMap id → (Hp.sets ((bL, Blk.cells L' true) :: U) h).get b = h.get b := fun b hb => Hp.get_sets_not fun p hp he => by
            refine hb ?_
            have h9 : p.1 ∈ ((bL, Blk.cells L' true) :: U).map Prod.fst := List.mem_map.2 ⟨p, hp, rfl⟩
            rw [List.map_cons, k3] at h9
            rw [← he]; exact h9
           generalize hH2 : Hp.sets ((bL, Blk.cells L' true) :: U) h = h2 at *
           have hll : L'.length = L.length := by
            rw [← k1.length, hrs.length]
           have hcast : ∀ b c', h2.get b = some c' → ∃ c, h.get b = some c ∧ (c'.rw → c.rw) ∧ (c'.live → c.live) ∧ BRel ι w b c' := fun b c' hb' => by
            by_cases hbm : b ∈ bL :: obs.filterMap id
            · rw [← k3] at hbm
              have : b ∈ ((bL, Blk.cells L' true) :: U).map Prod.fst := hbm
              obtain ⟨p, hp1, rfl⟩ := List.mem_map.1 this
              have := hget p hp1
              rw [this] at hb'
              cases hb'
              simp only [List.mem_cons] at hp1
              rcases hp1 with rfl | hp1
              · have hB : BRel ι w bL (.cells L' true) := ⟨arrL, eL, frL, z1, z2, fun i c hc => by
                  obtain ⟨v, g1, g2⟩ := k1.get i c hc
                  exact ⟨v, hat i v g1, g2⟩, (fun hh => by cases hh), z4.2⟩
                exact ⟨_, hL, (fun hh : true = false => by cases hh), (fun _ => trivial), hB⟩
              · obtain ⟨cs, cs', g1, g2, g3⟩ := k4 p hp1
                exact ⟨_, g1, (fun _ => rfl), (fun _ => trivial), g3⟩
            · rw [hnot b hbm] at hb'
              exact ⟨c', hb', id, id, r.brel b c' hb'⟩
           have r2 : Rel P.globals.size ι h2 w := r.recast hh2n hcast
           have hndo : (obs.filterMap id).Nodup ∧ bL ∉ obs.filterMap id := by
            rw [List.nodup_cons] at hnd; exact ⟨hnd.2, hnd.1⟩
           obtain ⟨h3, hr3, hkeep⟩ := hrun h2 bL m cap true L' obs (hget (bL, .cells L' true) (by simp)) (by rw [hh2n]; exact hbL) (by omega) hmm (by rw [← k2, hll]; exact hlen)
            (fun i x hi => k5 h2 (fun p hp => hget p (by simp [hp])) i x hi) (fun b hb => by
              have : b ∈ obs.filterMap id := List.mem_filterMap.2 ⟨some b, hb, rfl⟩
              rw [← k3] at this
              obtain ⟨p, hp1, rfl⟩ := List.mem_map.1 this
              obtain ⟨cs, cs', g1, _⟩ := k4 p hp1
              rw [hh2n]; exact r.dom _ _ g1) hndo.1 hndo.2
           obtain ⟨n, hn⟩ := acall_ex hr3
           refine (((run_good hm (good_noOrc P) n f _ _ _ _ hn).body hb).2 ι w rargs r2 hargs).mono fun e w' ⟨ι3, rv, he, q1, q2, q3⟩ => ?_
           have hdead : ∀ b c, (Hp.sets ((bL :: obs.filterMap id).map fun b => (b, Blk.dead)) h).get b = some c → (c = .dead ∧ ∃ d, h.get b = some d) ∨ (b ∉ bL :: obs.filterMap id ∧ h.get b = some c) := fun b c hb' => by
            by_cases hbm : b ∈ bL :: obs.filterMap id
            · left
              have := Hp.get_sets_mem (h := h) (k := b) (x := Blk.dead) (l := (bL :: obs.filterMap id).map fun b => (b, Blk.dead)) (List.mem_map.2 ⟨b, hbm, rfl⟩) (by rw [List.map_map, show (Prod.fst ∘ fun (b : Nat) => (b, Blk.dead)) = id from rfl, List.map_id]; exact hnd)
              rw [this] at hb'
              cases hb'
              refine ⟨rfl, ?_⟩
              rw [← k3] at hbm
              have hbm' : b ∈ ((bL, Blk.cells L' true) :: U).map Prod.fst := hbm
              obtain ⟨p, hp1, rfl⟩ := List.mem_map.1 hbm'
              obtain ⟨c, g1, _⟩ := hcast _ _ (hget p hp1)
              exact ⟨c, g1⟩
            · right
              rw [Hp.get_sets_not (fun p hp he => by
               obtain ⟨b', hb1, rfl⟩ := List.mem_map.1 hp
               exact hbm (he ▸ hb1))] at hb'
              exact ⟨hbm, hb'⟩
           refine ⟨ι, rv, he, ?_, ⟨by rw [Hp.n_sets]; exact r.n, fun b c hb' => ?_, by rw [Hp.n_sets]; exact r.gn, r.glob, fun b c hb' => ?_, fun b b' c c' hb1 hb2 hne hrw hlv => ?_⟩,
            ⟨ι.le_refl, q3.os, q3.tape, q3.output, q3.size, fun k hk hn' => q3.kept k hk fun b c hb' hrw => ?_, fun b c hb' hrw => ?_, by rw [Hp.n_sets]; exact Nat.le_refl _, (Hp.low_sets _ _).1, fun b hb1 hb2 => ?_⟩⟩
           · simp only [VRel] at q1 ⊢; exact q1
           · rw [Hp.n_sets]
             rcases hdead b c hb' with ⟨_, d, hd⟩ | ⟨_, hd⟩
             · exact r.dom b d hd
             · exact r.dom b c hd
           · rcases hdead b c hb' with ⟨rfl, _⟩ | ⟨hbm, hd⟩
             · trivial
             · have hbn := r.dom b c hd
               have h3b : h3.get b = some c := by
                rw [hkeep b (by rw [hh2n]; exact hbn) fun hh => hbm (by simp [hh]), hnot b hbm, hd]
               exact BRel.back q3.le (by rw [r.n]; exact hbn) (r.brel b c hd) (q2.brel b c h3b)
           · rcases hdead b c hb1 with ⟨rfl, _⟩ | ⟨_, hd⟩
             · exact hrw.elim
             · rcases hdead b' c' hb2 with ⟨rfl, _⟩ | ⟨_, hd'⟩
               · exact hlv.elim
               · exact r.sep b b' c c' hd hd' hne hrw hlv
           · obtain ⟨d, g1, g2, _⟩ := hcast b c hb'
             exact hn' b d g1 (g2 hrw)
           · rcases hdead b c hb' with ⟨rfl, _⟩ | ⟨_, hd⟩
             · exact hrw.elim
             · exact .inr ⟨b, c, hd, hrw, rfl⟩
           · refine Hp.get_sets_not fun p hp he => ?_
             have := (Hp.low_sets ((bL :: obs.filterMap id).map fun b => (b, Blk.dead)) h).2 p hp
             omega
         · cases hs
       · cases hs
     · cases hs
   · cases hs
 · cases hs
end
end Go.Fs
end

section
/- Closed calls that read what lies in a first heap alone: what they come to over it, they come to over each heap that has grown out of it. -/
namespace Go.Fs
def Tr.allK {α : Type} : (Nat → α → Bool) → Tr α → Bool
 | _, .leaf => true
 | p, .node v l r => (match v with | none => true | some x => p 0 x) && (Tr.allK (fun k x => p (2 * k + 1) x) l && Tr.allK (fun k x => p (2 * k + 2) x) r)
theorem Tr.allK_get {α : Type} : ∀ {t : Tr α} {p : Nat → α → Bool} {k : Nat} {x : α}, Tr.allK p t = true → t.get k = some x → p k x = true
 | .leaf, p, k, x, _, h => by simp [Tr.get] at h
 | .node v l r, p, k, x, ha, h => by
   simp only [Tr.allK, Bool.and_eq_true] at ha
   unfold Tr.get at h
   split at h
   · rename_i h0
     subst h0
     have := ha.1
     rw [h] at this
     exact this
   · split at h
     · rename_i h1
       have := Tr.allK_get ha.2.1 h
       rwa [show 2 * (k / 2) + 1 = k by omega] at this
     · have := Tr.allK_get ha.2.2 h
       rwa [show 2 * (k / 2 - 1) + 2 = k by omega] at this
def Blk.plain (n : Nat) : Blk → Bool
 | .cells cs ro => ro && AV.unders n cs
 | .dead => true
 | _ => false
def heapOk (G : Nat) (h : AH) : Bool := Nat.ble G h.n && Tr.allK (fun b c => Nat.ble (b + 1) h.n && c.plain h.n) h.t
def Grown (h0 h : AH) : Prop := h0.n ≤ h.n ∧ ∀ b, b < h0.n → h.get b = h0.get b
theorem Grown.refl (h : AH) : Grown h h := ⟨Nat.le_refl _, fun _ _ => rfl⟩
theorem Grown.low {h0 h : AH} (g : Grown h0 h) (l : Nat) : Grown h0 (h.withLow l) := ⟨by simpa using g.1, fun b hb => by simpa using g.2 b hb⟩
theorem Grown.push {h0 h : AH} (g : Grown h0 h) (c : Blk) : Grown h0 (h.push c) := ⟨by have := g.1; simp; omega, fun b hb => by have := g.1; rw [Hp.get_push_ne _ _ _ (by omega)]; exact g.2 b hb⟩
theorem Grown.set {h0 h : AH} (g : Grown h0 h) {k : Nat} (hk : h0.n ≤ k) (c : Blk) : Grown h0 (h.set k c) := ⟨by simpa using g.1, fun b hb => by rw [Hp.get_set_ne _ _ _ _ (by omega)]; exact g.2 b hb⟩
theorem unders_at {n : Nat} : ∀ {cs : List AV} {i : Nat} {c : AV}, AV.unders n cs = true → cs[i]? = some c → c.under n = true
 | a :: as, 0, c, h, hc => by
   simp only [AV.unders, Bool.and_eq_true] at h
   simp only [List.getElem?_cons_zero, Option.some.injEq] at hc
   subst hc; exact h.1
 | a :: as, i + 1, c, h, hc => by
   simp only [AV.unders, Bool.and_eq_true] at h
   exact unders_at h.2 (by simpa using hc)
theorem Rel.sub {G : Nat} {ι : Emb} {h h0 : AH} {w : World} (r : Rel G ι h w) (hok : heapOk G h0 = true) (hg : Grown h0 h) : Rel G ⟨h0.n, ι.blk, ι.sh, ι.size, ι.ty⟩ h0 w ∧ ∀ b c, h0.get b = some c → ¬ c.rw := by
 simp only [heapOk, Bool.and_eq_true] at hok
 have hG : G ≤ h0.n := Nat.le_of_ble_eq_true hok.1
 have hat : ∀ b c, h0.get b = some c → b < h0.n ∧ c.plain h0.n = true := fun b c hb => by
  have := Tr.allK_get hok.2 (show h0.t.get b = some c from hb)
  simp only [Bool.and_eq_true] at this
  exact ⟨Nat.le_of_ble_eq_true this.1, this.2⟩
 have hle : (⟨h0.n, ι.blk, ι.sh, ι.size, ι.ty⟩ : Emb).le ι := ⟨by rw [r.n]; exact hg.1, fun _ _ => rfl, fun _ _ => rfl, fun _ _ => rfl, fun _ _ => rfl⟩
 have hro : ∀ b c, h0.get b = some c → ¬ c.rw := fun b c hb hrw => by
  have := (hat b c hb).2
  cases c with
  | cells cs ro => simp only [Blk.plain, Bool.and_eq_true] at this; simp only [Blk.rw] at hrw; rw [hrw] at this; cases this.1
  | dead => exact hrw
  | map es => cases this
  | typ a b => cases this
  | iter a b => cases this
 refine ⟨⟨rfl, fun b c hb => (hat b c hb).1, hG, r.glob, fun b c hb => ?_, fun b b' c c' hb _ _ hrw _ => absurd hrw (hro b c hb)⟩, hro⟩
 obtain ⟨h1, h2⟩ := hat b c hb
 have hb' : h.get b = some c := by rw [hg.2 b h1, hb]
 have hB := r.brel b c hb'
 cases c with
 | cells cs ro =>
   simp only [Blk.plain, Bool.and_eq_true] at h2
   obtain ⟨arr, e, fr, g1, g2, g3, g4, g5⟩ := hB
   refine ⟨arr, e, fr, g1, g2, fun i c hc => ?_, fun hh => (by rw [hh] at h2; cases h2.1), g5⟩
   obtain ⟨v, q1, q2⟩ := g3 i c hc
   exact ⟨v, q1, q2.back hle (unders_at h2.2 hc)⟩
 | dead => trivial
 | map es => cases h2
 | typ a b => cases h2
 | iter a b => cases h2
section
variable {P : Program}
open Classical in
theorem some_getD {α : Type} {o : Option α} {d : α} (h : o.isSome = true) : o = some (o.getD d) := by cases o <;> simp_all
end
end Go.Fs
end

section
/- Several functions told over one first heap. -/
namespace Go.Fs
variable {P : Program}
noncomputable def isStr (r : Option (AV × AH)) (s : List UInt8) : Bool := match r with
 | some (v, _) => v.same (.str s)
 | none => false
theorem isStr_eq {r : Option (AV × AH)} {s : List UInt8} (h : isStr r s = true) : r.map Prod.fst = some (.str s) := by
 unfold isStr at h
 split at h
 · rw [Option.map_some, AV.same_eq h]
 · cases h
end Go.Fs
end

section
/- Laws with parameters over variables that read as listed, some of them interface values of which no more is known than that. -/
namespace Go.Fs
open Go.RowKit Go.ChangeShapes
def GrownI (h0 h : AH) : Prop := h0.n ≤ h.n ∧ ∀ b, b < h0.n → h.get b = h0.get b ∨ ∃ u x, h.get b = some (.cells [.iface u x] true) ∧ h0.get b = some (.cells [.junk true] true)
theorem GrownI.of {h0 h1 h : AH} (g : GrownI h0 h1) (k : Grown h1 h) : GrownI h0 h :=
 ⟨Nat.le_trans g.1 k.1, fun b hb => by rw [k.2 b (Nat.lt_of_lt_of_le hb g.1)]; exact g.2 b hb⟩
theorem GrownI.refl (h : AH) : GrownI h h := ⟨Nat.le_refl _, fun _ _ => .inl rfl⟩
theorem GrownI.set {h : AH} {k : Nat} {u : TypeId} {x : AV} (hk : h.get k = some (.cells [.junk true] true)) {h0 : AH} (g : GrownI h0 h) (h0k : h0.get k = some (.cells [.junk true] true)) : GrownI h0 (h.set k (.cells [.iface u x] true)) :=
 ⟨g.1, fun b hb => by
  by_cases e : b = k
  · subst e
    exact .inr ⟨u, x, Hp.get_set_self _ _ _, h0k⟩
  · rw [Hp.get_set_ne _ _ _ _ e]; exact g.2 b hb⟩
theorem Rel.subI {G : Nat} {ι : Emb} {h h0 : AH} {w : World} (r : Rel G ι h w) (hok : heapOk G h0 = true) (hg : GrownI h0 h) : Rel G ⟨h0.n, ι.blk, ι.sh, ι.size, ι.ty⟩ h0 w ∧ ∀ b c, h0.get b = some c → ¬ c.rw := by
 simp only [heapOk, Bool.and_eq_true] at hok
 have hG : G ≤ h0.n := Nat.le_of_ble_eq_true hok.1
 have hat : ∀ b c, h0.get b = some c → b < h0.n ∧ c.plain h0.n = true := fun b c hb => by
  have := Tr.allK_get hok.2 (show h0.t.get b = some c from hb)
  simp only [Bool.and_eq_true] at this
  exact ⟨Nat.le_of_ble_eq_true this.1, this.2⟩
 have hle : (⟨h0.n, ι.blk, ι.sh, ι.size, ι.ty⟩ : Emb).le ι := ⟨by rw [r.n]; exact hg.1, fun _ _ => rfl, fun _ _ => rfl, fun _ _ => rfl, fun _ _ => rfl⟩
 have hro : ∀ b c, h0.get b = some c → ¬ c.rw := fun b c hb hrw => by
  have := (hat b c hb).2
  cases c with
  | cells cs ro => simp only [Blk.plain, Bool.and_eq_true] at this; simp only [Blk.rw] at hrw; rw [hrw] at this; cases this.1
  | dead => exact hrw
  | map es => cases this
  | typ a b => cases this
  | iter a b => cases this
 refine ⟨⟨rfl, fun b c hb => (hat b c hb).1, hG, r.glob, fun b c hb => ?_, fun b b' c c' hb _ _ hrw _ => absurd hrw (hro b c hb)⟩, hro⟩
 obtain ⟨h1, h2⟩ := hat b c hb
 rcases hg.2 b h1 with he | ⟨u, x, he, he0⟩
 · have hb' : h.get b = some c := by rw [he, hb]
   have hB := r.brel b c hb'
   cases c with
   | cells cs ro =>
     simp only [Blk.plain, Bool.and_eq_true] at h2
     obtain ⟨arr, e, fr, g1, g2, g3, g4, g5⟩ := hB
     refine ⟨arr, e, fr, g1, g2, fun i c hc => ?_, fun hh => (by rw [hh] at h2; cases h2.1), g5⟩
     obtain ⟨v, q1, q2⟩ := g3 i c hc
     exact ⟨v, q1, q2.back hle (unders_at h2.2 hc)⟩
   | dead => trivial
   | map es => cases h2
   | typ a b => cases h2
   | iter a b => cases h2
 · rw [he0] at hb
   cases hb
   have hB := r.brel b _ he
   obtain ⟨arr, e, fr, g1, g2, g3, g4, g5⟩ := hB
   refine ⟨arr, e, fr, g1, g2, fun i c hc => ?_, fun hh => (by cases hh), g5⟩
   cases i with
   | zero =>
     obtain ⟨v, q1, q2⟩ := g3 0 _ rfl
     simp only [VRel] at q2
     obtain ⟨rx, rfl, _⟩ := q2
     simp at hc
     subst hc
     exact ⟨_, q1, by simp only [VRel]; exact ⟨rfl, by simp, fun _ => rfl⟩⟩
   | succ i => simp at hc
section
variable {P : Program}
theorem good_overI (hm : P.follows .mixedOrders = true) {orc : Orc} (ho : GoodOrc P orc) {n f : Nat} (hb : ((P.funcs[f]?).bind (·.body)).isSome = true) {args : List AV} {v : AV} {h0 h1 h : AH} (hok : heapOk P.globals.size h0 = true)
    (hr : runQ orc (tbl P) n f args h0 = some (v, h1)) (ha : AV.unders 0 args = true) (hv : v.under 0 = true) (hg : GrownI h0 h) : GoodAt P f args h v h := by
 rw [runQ_eq] at hr
 obtain ⟨k1, k2⟩ := (run_good hm ho n f args _ v h1 hr).body hb
 refine .inl ⟨k1, fun ι w rargs r hargs => ?_⟩
 obtain ⟨r0, hro⟩ := r.subI hok hg
 refine (k2 _ w rargs r0 (unders_any hargs ha)).mono fun e w' ⟨ι', rv, he, q1, q2, q3⟩ => ?_
 have hkept : ∀ k, k < w.heap.size → w'.heap[k]? = w.heap[k]? := fun k hk => q3.kept k hk fun b c hb hrw => absurd hrw (hro b c hb)
 exact ⟨ι, rv, he, under_any q1 hv, r.later hkept, ⟨ι.le_refl, q3.os, q3.tape, q3.output, q3.size, fun k hk _ => hkept k hk, fun b c hb hc => .inr ⟨b, c, hb, hc, rfl⟩, Nat.le_refl _, Nat.le_refl _, fun _ _ _ => rfl⟩⟩
open Classical in
noncomputable def orcOversI (P : Program) (orc : Orc) (h0 : AH) (n : Nat) (gs : List Nat) : Orc := fun f => match gs.contains f with
 | true => some fun args h => if GrownI h0 h ∧ AV.unders 0 args = true then (match runQ orc (tbl P) n f args h0 with
   | some (v, _) => if v.under 0 = true then some (v, h) else none
   | none => none) else none
 | false => orc f
theorem good_orcOversI (hm : P.follows .mixedOrders = true) {orc : Orc} (ho : GoodOrc P orc) {h0 : AH} (hok : heapOk P.globals.size h0 = true) {n : Nat} {gs : List Nat} (hb : (gs.all fun g => ((P.funcs[g]?).bind (·.body)).isSome) = true) : GoodOrc P (orcOversI P orc h0 n gs) := by
 intro f s hs args h v h' hv
 unfold orcOversI at hs
 split at hs
 · rename_i hc
   cases hs
   simp only at hv
   split at hv
   · rename_i hx
     split at hv
     · rename_i v0 h1 hrun
       split at hv
       · rename_i hv0
         cases hv
         exact good_overI hm ho (List.all_eq_true.1 hb f (List.contains_iff_mem.1 hc)) hok hrun hx.2 hv0 hx.1
       · cases hv
     · cases hv
   · cases hv
 · exact ho f s hs args h v h' hv
theorem acall_oversI {orc orc' : Orc} {h0 h : AH} {n g : Nat} {gs : List Nat} {args : List AV} {v : AV} (he : orc' g = orcOversI P orc h0 n gs g) (hc : gs.contains g = true) (hr : (runQ orc (tbl P) n g args h0).map Prod.fst = some v) (ha : AV.unders 0 args = true) (hv : v.under 0 = true) (hg : GrownI h0 h) :
    acall orc' (tbl P) g args h = some (v, h) := by
 classical
 obtain ⟨⟨x, h1⟩, h2, h3⟩ := Option.map_eq_some_iff.1 hr
 simp only at h3
 subst h3
 have e : orc' g = some fun args h => if GrownI h0 h ∧ AV.unders 0 args = true then (match runQ orc (tbl P) n g args h0 with
  | some (v, _) => if v.under 0 = true then some (v, h) else none
  | none => none) else none := by
  rw [he]
  unfold orcOversI
  rw [hc]
 refine acall_orc e ?_
 rw [if_pos ⟨hg, ha⟩, h2]
 simp only
 rw [if_pos hv]
end
section
variable {H : Type} {enc : TypeId × Value → H} {P : Program}
end
end Go.Fs
end

section
/- Regions some of whose calls leave the heap as it is ('still'): their symbolic steps. -/
namespace Go.Fs
section
variable (call : Rec)
def StillOne : List AH → Nat → List AV → AV → Prop
 | [], _, _, _ => True
 | h :: hs, f, as, v => (∃ h', call f as (h.withLow h.n) = some (v, h') ∧ h'.n = h.n ∧ h.n ≤ h'.low) ∧ StillOne hs f as v
def Stills (hs : List AH) : List (Nat × Nat × Nat × List AV × AV) → Prop
 | [] => True
 | (lo, hi, f, as, v) :: sp => StillOne call ((hs.drop lo).take (hi + 1 - lo)) f as v ∧ Stills hs sp
variable (Q : AEx → List AV → AH → Prop) (st : List Fr)
def DrawS : List CD → List (Nat × Nat × CO × AV) → List (Nat × Nat × Nat × List AV × AV) → List AH → List AV → AH → Prop
 | [], pr, sp, hs, tm, h => Kept (hs ++ [h]) pr ∧ Stills call (hs ++ [h]) sp ∧ RetK call Q st .normal tm h
 | o :: os, pr, sp, hs, tm, h =>
   if o.wanted tm then
    (if o.still then (match o.op with
      | .call (.f f) args => ∃ v h', call f (args.map (CA.ev tm)) (h.withLow h.n) = some (v, h') ∧ h'.n = h.n ∧ h.n ≤ h'.low ∧ DrawS os pr (sp ++ [(o.lo, o.hi, f, args.map (CA.ev tm), v)]) hs (put tm o.dst v) h
      | _ => False)
    else ∃ v h', runOp call o.op tm h = some (v, h') ∧ DrawS os (if o.op.reads then pr ++ [(o.lo, o.hi, closeOp tm o.op, v)] else pr) sp (if o.op.quiet then hs else hs ++ [h]) (put tm o.dst v) h')
   else DrawS os pr sp (if o.calm then hs else hs ++ [h]) (put tm o.dst AV.undef) h
def DResS (r : Option (AV × AH)) (o : CD) (os : List CD) (pr : List (Nat × Nat × CO × AV)) (sp : List (Nat × Nat × Nat × List AV × AV)) (hs : List AH) (tm : List AV) (h : AH) : Prop :=
 ∃ v h', r = some (v, h') ∧ DrawS call Q st os (if o.op.reads then pr ++ [(o.lo, o.hi, closeOp tm o.op, v)] else pr) sp (if o.op.quiet then hs else hs ++ [h]) (put tm o.dst v) h'
def SResS (r : Option (AV × AH)) (dst : Option Nat) (lo hi f : Nat) (as : List AV) (os : List CD) (pr : List (Nat × Nat × CO × AV)) (sp : List (Nat × Nat × Nat × List AV × AV)) (hs : List AH) (tm : List AV) (h : AH) : Prop :=
 ∃ v h', r = some (v, h') ∧ h'.n = h.n ∧ h.n ≤ h'.low ∧ DrawS call Q st os pr (sp ++ [(lo, hi, f, as, v)]) hs (put tm dst v) h
end
section
variable {call : Rec} {Q : AEx → List AV → AH → Prop} {st : List Fr} {tm : List AV} {h : AH} {os : List CD} {pr : List (Nat × Nat × CO × AV)} {sp : List (Nat × Nat × Nat × List AV × AV)} {hs : List AH}
theorem stills_append {hs : List AH} {b : List (Nat × Nat × Nat × List AV × AV)} : ∀ (a : List (Nat × Nat × Nat × List AV × AV)), Stills call hs (a ++ b) → Stills call hs a ∧ Stills call hs b
 | [], h => ⟨trivial, h⟩
 | (_, _, _, _, _) :: a, ⟨h1, h2⟩ => ⟨⟨h1, (stills_append a h2).1⟩, (stills_append a h2).2⟩
theorem stillRun_call {f : Nat} {args : List CA} {tm : List AV} {h h' : AH} {v : AV} (h1 : call f (args.map (CA.ev tm)) (h.withLow h.n) = some (v, h')) (h2 : h'.n = h.n) (h3 : h.n ≤ h'.low) : stillRun call (.call (.f f) args) tm h = some v := by
 unfold stillRun
 simp only [effRun, CA.ev, List.nil_append, List.append_nil, h1]
 rw [if_pos ⟨h2, h3⟩]
theorem stillOne_all {o : CD} {f : Nat} {args : List CA} (ho : o.op = .call (.f f) args) {tm : List AV} {v : AV} : ∀ {hs : List AH}, StillOne call hs f (args.map (CA.ev tm)) v → hs.all (agrees call o tm v) = true
 | [], _ => rfl
 | h :: hs', ⟨⟨h', h1, h2, h3⟩, h4⟩ => by
   rw [List.all_cons, stillOne_all ho h4, Bool.and_true]
   unfold agrees calmRun
   rw [ho, if_neg (by simp [CO.quiet]), stillRun_call h1 h2 h3]
   exact AV.same_refl v
theorem runS_of : ∀ (os : List CD) (pr : List (Nat × Nat × CO × AV)) (sp : List (Nat × Nat × Nat × List AV × AV)) (hs : List AH) (tm : List AV) (h : AH), DrawS call Q st os pr sp hs tm h →
    ∃ rs' hs' tm' h', runT call os tm h = some (rs', hs', tm') ∧ hs'.getLast? = some h' ∧ RetK call Q st .normal tm' h' ∧ Kept (hs ++ hs') pr ∧ Stills call (hs ++ hs') sp ∧ steady call (hs ++ hs') os rs' = true
 | [], pr, sp, hs, tm, h, ⟨h1, h2, h3⟩ => ⟨[], [h], tm, h, rfl, rfl, h3, h1, h2, rfl⟩
 | o :: os, pr, sp, hs, tm, h, hk => by
   have hcat : ∀ (b : Bool) (hs' : List AH), (if b then hs else hs ++ [h]) ++ hs' = hs ++ (if b then hs' else h :: hs') := fun b hs' => by cases b <;> simp
   have hlast : ∀ (b : Bool) (hs' : List AH) (h' : AH), hs'.getLast? = some h' → (if b then hs' else h :: hs').getLast? = some h' := fun b hs' h' hl => by
    cases b with
    | true => exact hl
    | false =>
      cases hs' with
      | nil => cases hl
      | cons a l => simpa using hl
   unfold DrawS at hk
   split at hk
   · rename_i hw
     split at hk
     · rename_i hst
       split at hk
       · rename_i f args hop
         obtain ⟨v, h1, r1, r2, r3, hk⟩ := hk
         obtain ⟨rs', hs', tm', h', g1, g2, g3, g4, g6, g5⟩ := runS_of os _ _ _ _ _ hk
         obtain ⟨k1, k2, _⟩ := stills_append _ g6
         have hc : o.calm = true := by simp [CD.calm, hst]
         have hrun : calmRun call o tm h = some v := by
          unfold calmRun
          rw [hop, if_neg (by simp [CO.quiet]), stillRun_call r1 r2 r3]
         refine ⟨(tm, v, true) :: rs', hs', tm', h', ?_, g2, g3, g4, k1, ?_⟩
         · simp only [runT, hw, if_true, hc, hrun, Option.bind_some, g1, Option.map_some]
         · simp only [steady, hc, CD.looksIn, hst, Bool.true_or, Bool.and_self, Bool.not_true, Bool.false_or, Bool.and_eq_true, g5, and_true]
           exact stillOne_all hop k2
       · exact hk.elim
     · rename_i hst
       have hst : o.still = false := by simpa using hst
       have hcalm : o.calm = o.op.quiet := by simp [CD.calm, hst]
       have hlk : o.looksIn = o.op.reads := by simp [CD.looksIn, hst]
       obtain ⟨v, h1, hrun, hk⟩ := hk
       obtain ⟨rs', hs', tm', h', g1, g2, g3, g4, g6, g5⟩ := runS_of os _ _ _ _ _ hk
       rw [hcat] at g4 g5 g6
       by_cases hq : o.op.quiet = true
       · have hrun' : ∃ u, quietRun o.op tm h = some u ∧ (u, h) = (v, h1) := by
           unfold runOp at hrun
           rw [if_pos hq] at hrun
           exact Option.map_eq_some_iff.1 hrun
         obtain ⟨u, hu, he⟩ := hrun'
         cases he
         have hc : o.calm = true := hcalm.trans hq
         simp only [hq, if_true] at g4 g5 g6
         have hT : runT call (o :: os) tm h = some ((tm, v, true) :: rs', hs', tm') := by
          simp only [runT, hw, if_true, hc, calm_quiet hst hc, hu, Option.bind_some, g1, Option.map_some]
         by_cases hrd : o.op.reads = true
         · rw [if_pos hrd] at g4
           obtain ⟨k1, k2, _⟩ := kept_append _ g4
           refine ⟨_, hs', tm', h', hT, g2, g3, k1, g6, ?_⟩
           simp only [steady, hc, hlk, hrd, Bool.and_self, Bool.not_true, Bool.false_or, Bool.and_eq_true, g5, and_true]
           exact keptOne_all hst hc hrd k2
         · rw [if_neg hrd] at g4
           refine ⟨_, hs', tm', h', hT, g2, g3, g4, g6, ?_⟩
           simp only [steady, hlk, hrd, Bool.and_false, Bool.not_false, Bool.true_or, Bool.true_and, g5]
       · have hrd : o.op.reads = false := by
           cases ho : o.op <;> rw [ho] at hq <;> first | rfl | (exact absurd rfl hq)
         have hrun' : effRun call o.op tm h = some (v, h1) := by
          unfold runOp at hrun
          rwa [if_neg hq] at hrun
         have hc : ¬ o.calm = true := by rw [hcalm]; exact hq
         simp only [hq, hrd, Bool.false_eq_true, if_false] at g4 g5 g6
         refine ⟨(tm, v, true) :: rs', h :: hs', tm', h', ?_, ?_, g3, g4, g6, ?_⟩
         · simp only [runT, hw, if_true, hc, Bool.false_eq_true, if_false, hrun', Option.bind_some, g1, Option.map_some]
         · exact hlast false hs' h' g2
         · simp only [steady, hlk, hrd, Bool.and_false, Bool.not_false, Bool.true_or, Bool.true_and, g5]
   · rename_i hw
     obtain ⟨rs', hs', tm', h', g1, g2, g3, g4, g6, g5⟩ := runS_of os _ _ _ _ _ hk
     rw [hcat] at g4 g5 g6
     refine ⟨(tm, AV.undef, false) :: rs', if o.calm then hs' else h :: hs', tm', h', ?_, hlast _ hs' h' g2, g3, g4, g6, ?_⟩
     · simp only [runT, hw, Bool.false_eq_true, if_false, g1, Option.map_some]
     · simp only [steady, Bool.false_and, Bool.not_false, Bool.true_or, Bool.true_and, g5]
theorem CodeK_regionS (os : List CD) (hk : DrawS call Q st os [] [] [] tm h) : CodeK call Q (.regionD os) st tm h := by
 obtain ⟨rs', hs', tm', h', g1, g2, g3, _, _, g5⟩ := runS_of os [] [] [] tm h hk
 refine WP.regionD (tm' := tm') (h' := h') ?_ g3
 unfold runD
 simp only [List.nil_append] at g5
 simp only [g1, g5, if_true]
 rw [List.getLastD_eq_getLast?, g2]
 rfl
theorem DrawS_cons (dst : Option Nat) (op : CO) (lo hi : Nat) : DrawS call Q st (⟨⟨dst, op, none⟩, lo, hi, false⟩ :: os) pr sp hs tm h = DResS call Q st (runOp call op tm h) ⟨⟨dst, op, none⟩, lo, hi, false⟩ os pr sp hs tm h := rfl
theorem DrawS_still (dst : Option Nat) (f : Nat) (args : List CA) (lo hi : Nat) : DrawS call Q st (⟨⟨dst, .call (.f f) args, none⟩, lo, hi, true⟩ :: os) pr sp hs tm h = SResS call Q st (call f (args.map (CA.ev tm)) (h.withLow h.n)) dst lo hi f (args.map (CA.ev tm)) os pr sp hs tm h := rfl
theorem DResS_some (v : AV) (h' : AH) (o : CD) : DResS call Q st (some (v, h')) o os pr sp hs tm h = DrawS call Q st os (if o.op.reads then pr ++ [(o.lo, o.hi, closeOp tm o.op, v)] else pr) sp (if o.op.quiet then hs else hs ++ [h]) (put tm o.dst v) h' := by
 unfold DResS
 simp only [Option.some.injEq, Prod.mk.injEq]
 exact propext ⟨fun ⟨_, _, ⟨h1, h2⟩, h4⟩ => by subst h1 h2; exact h4, fun hk => ⟨_, _, ⟨rfl, rfl⟩, hk⟩⟩
end
end Go.Fs
end

section
/- Steps of the symbolic walk that look at one operation alone. -/
namespace Go.Fs
section
variable {call : Rec} {Q : AEx → List AV → AH → Prop} {st : List Fr} {tm tm' : List AV} {h h' : AH} {v : AV} {os : List CR} {dst : Option Nat} {op : CO}
theorem K_seq {a b : CC} (k : CodeK call Q a (.seq b :: st) tm h) : CodeK call Q (.seq a b) st tm h := by rw [CodeK_seq]; exact k
theorem K_region (k : RunK call Q os st tm h) : CodeK call Q (.region os) st tm h := by rw [CodeK_region]; exact k
theorem K_skip (k : RetK call Q st .normal tm h) : CodeK call Q .skip st tm h := by rw [CodeK_skip]; exact k
theorem K_ret (k : RetK call Q st .ret tm h) : CodeK call Q .ret st tm h := by rw [CodeK_ret]; exact k
theorem K_exit {i : Nat} (k : RetK call Q st (.exit i) tm h) : CodeK call Q (.exit i) st tm h := by rw [CodeK_exit]; exact k
theorem K_block {i : Nat} {c : CC} (k : CodeK call Q c (.block i :: st) tm h) : CodeK call Q (.block i c) st tm h := by rw [CodeK_block]; exact k
theorem K_cond {c : CA} {x y : CC} (hv : c.ev tm = v) (k : CondK call Q v x y st tm h) : CodeK call Q (.cond c x y) st tm h := by rw [CodeK_cond, hv]; exact k
theorem C_true {x y : CC} (k : CodeK call Q x st tm h) : CondK call Q (.bool true) x y st tm h := k
theorem C_false {x y : CC} (k : CodeK call Q y st tm h) : CondK call Q (.bool false) x y st tm h := k
theorem R_nil (k : RetK call Q st .normal tm h) : RunK call Q [] st tm h := by rw [RunK_nil]; exact k
theorem R_cons (hr : runOp call op tm h = some (v, h')) (ht : put tm dst v = tm') (k : RunK call Q os st tm' h') : RunK call Q (⟨dst, op, none⟩ :: os) st tm h := by
 rw [RunK_cons, hr, ResK_some, ht]; exact k
theorem R_any {g : Option (Nat × Bool)} (hg : CR.wanted ⟨dst, op, g⟩ tm = true) (hr : runOp call op tm h = some (v, h')) (ht : put tm dst v = tm') (k : RunK call Q os st tm' h') : RunK call Q (⟨dst, op, g⟩ :: os) st tm h := by
 obtain ⟨a, b, h1, h2⟩ := k
 refine ⟨a, b, ?_, h2⟩
 simp only [runOps, hg, if_true, hr, Option.bind_some, ht]
 exact h1
theorem R_skip {j : Nat} {w : Bool} (hg : CR.wanted ⟨dst, op, some (j, w)⟩ tm = false) (ht : put tm dst AV.undef = tm') (k : RunK call Q os st tm' h) : RunK call Q (⟨dst, op, some (j, w)⟩ :: os) st tm h := by
 obtain ⟨a, b, h1, h2⟩ := k
 refine ⟨a, b, ?_, h2⟩
 simp only [runOps, hg, Bool.false_eq_true, if_false, ht]
 exact h1
theorem R_ex {r : Option (AV × AH)} {R : AV → AH → Prop} (hr : runOp call op tm h = r) (hx : ∃ v h', r = some (v, h') ∧ R v h') (k : ∀ v h', R v h' → RunK call Q os st (put tm dst v) h') : RunK call Q (⟨dst, op, none⟩ :: os) st tm h := by
 rw [RunK_cons, hr]
 exact ResK_ex hx k
theorem R_tm (ht : tm = tm') (k : RunK call Q os st tm' h) : RunK call Q os st tm h := ht ▸ k
theorem T_nil {e : AEx} (k : Q e tm h) : RetK call Q [] e tm h := k
theorem T_seq {c : CC} (k : CodeK call Q c st tm h) : RetK call Q (.seq c :: st) .normal tm h := k
theorem T_seq_exit {c : CC} {i : Nat} (k : RetK call Q st (.exit i) tm h) : RetK call Q (.seq c :: st) (.exit i) tm h := k
theorem T_seq_ret {c : CC} (k : RetK call Q st .ret tm h) : RetK call Q (.seq c :: st) .ret tm h := k
theorem T_block {i : Nat} (k : RetK call Q st .normal tm h) : RetK call Q (.block i :: st) .normal tm h := k
theorem T_block_ret {i : Nat} (k : RetK call Q st .ret tm h) : RetK call Q (.block i :: st) .ret tm h := k
theorem T_block_exit {i : Nat} (k : RetK call Q st .normal tm h) : RetK call Q (.block i :: st) (.exit i) tm h := by rw [RetK_block_exit]; exact k
theorem T_block_exit_ne {i j : Nat} (hn : (i == j) = false) (k : RetK call Q st (.exit i) tm h) : RetK call Q (.block j :: st) (.exit i) tm h := by rw [RetK_block_exit_ne _ _ hn]; exact k
theorem T_inv {J : List AV → AH → Prop} (k : J tm h) : RetK call Q (.inv J :: st) .normal tm h := k
theorem T_inv_exit {J : List AV → AH → Prop} {i : Nat} (k : RetK call Q st (.exit i) tm h) : RetK call Q (.inv J :: st) (.exit i) tm h := k
theorem T_inv_ret {J : List AV → AH → Prop} (k : RetK call Q st .ret tm h) : RetK call Q (.inv J :: st) .ret tm h := k
variable {ds : List CD} {pr pr' : List (Nat × Nat × CO × AV)} {sp : List (Nat × Nat × Nat × List AV × AV)} {hs hs' : List AH} {lo hi : Nat}
theorem K_regionS (k : DrawS call Q st ds [] [] [] tm h) : CodeK call Q (.regionD ds) st tm h := CodeK_regionS _ k
theorem D_nil (k1 : Kept (hs ++ [h]) pr) (k2 : Stills call (hs ++ [h]) sp) (k : RetK call Q st .normal tm h) : DrawS call Q st [] pr sp hs tm h := ⟨k1, k2, k⟩
theorem D_cons (hr : runOp call op tm h = some (v, h')) (ht : put tm dst v = tm') (hp : (if op.reads then pr ++ [(lo, hi, closeOp tm op, v)] else pr) = pr') (hh : (if op.quiet then hs else hs ++ [h]) = hs') (k : DrawS call Q st ds pr' sp hs' tm' h') :
    DrawS call Q st (⟨⟨dst, op, none⟩, lo, hi, false⟩ :: ds) pr sp hs tm h := by
 rw [DrawS_cons, hr, DResS_some, ht, hp, hh]; exact k
theorem D_ex {r : Option (AV × AH)} {R : AV → AH → Prop} (h1 : op.reads = false) (h2 : op.quiet = false) (hr : runOp call op tm h = r) (hx : ∃ v h', r = some (v, h') ∧ R v h') (k : ∀ v h', R v h' → DrawS call Q st ds pr sp (hs ++ [h]) (put tm dst v) h') :
    DrawS call Q st (⟨⟨dst, op, none⟩, lo, hi, false⟩ :: ds) pr sp hs tm h := by
 obtain ⟨v, h', e, hR⟩ := hx
 exact D_cons (hr.trans e) rfl (by rw [h1]; rfl) (by rw [h2]; rfl) (k v h' hR)
theorem D_still {f : Nat} {args : List CA} {as : List AV} (ha : args.map (CA.ev tm) = as) (hr : call f as (h.withLow h.n) = some (v, h')) (hn : h'.n = h.n) (hl : h.n ≤ h'.low) (ht : put tm dst v = tm') (k : DrawS call Q st ds pr (sp ++ [(lo, hi, f, as, v)]) hs tm' h) :
    DrawS call Q st (⟨⟨dst, .call (.f f) args, none⟩, lo, hi, true⟩ :: ds) pr sp hs tm h := by
 rw [DrawS_still, ha]
 exact ⟨v, h', hr, hn, hl, by rw [ht]; exact k⟩
theorem D_tm (ht : tm = tm') (k : DrawS call Q st ds pr sp hs tm' h) : DrawS call Q st ds pr sp hs tm h := ht ▸ k
theorem D_wanted {j : Nat} {w : Bool} {s : Bool} (hg : tm.getD j AV.undef = .bool w) (k : DrawS call Q st (⟨⟨dst, op, none⟩, lo, hi, s⟩ :: ds) pr sp hs tm h) : DrawS call Q st (⟨⟨dst, op, some (j, w)⟩, lo, hi, s⟩ :: ds) pr sp hs tm h := by
 have e1 : CR.wanted ⟨dst, op, some (j, w)⟩ tm = true := by unfold CR.wanted; simp only [hg]; simp
 have e2 : CR.wanted ⟨dst, op, none⟩ tm = true := rfl
 unfold DrawS at k ⊢
 simp only [e1, e2, if_true] at k ⊢
 exact k
end
end Go.Fs
end

section
/- The steps' equations, bound together: one name for them all. -/
namespace Go.Fs
set_option linter.defProp false
noncomputable def opsB := (And.intro (And.intro (And.intro (And.intro (And.intro (And.intro @Go.Fs.op_lenS (And.intro @Go.Fs.lenSV_str @Go.Fs.op_lenV)) (And.intro @Go.Fs.lenV_slice (And.intro @Go.Fs.op_toInt @Go.Fs.toIntV_int))) (And.intro (And.intro @Go.Fs.op_iaddrS (And.intro @Nat.add_assoc @Nat.le_min)) (And.intro @Nat.le_add_right (And.intro @Nat.min_self @beq_self_eq_true.{0})))) (And.intro (And.intro (And.intro @bne_self_eq_false.{0} (And.intro @Bool.not_true @Bool.not_false)) (And.intro @decide_true (And.intro @decide_false @decide_eq_true_eq))) (And.intro (And.intro @Bool.and_eq_true (And.intro @List.mapM_cons.{0, 0, 0} @List.mapM_nil.{0, 0, 0})) (And.intro @Option.bind_eq_bind.{0} (And.intro @Option.pure_def.{0} @Go.Fs.aeqK_agg))))) (And.intro (And.intro (And.intro (And.intro @Go.Fs.aeqK_scal (And.intro @Go.Fs.leavesK_nil @Go.Fs.leavesK_cons)) (And.intro @Go.Fs.leafK_i (And.intro @Go.Fs.leafK_b @Go.Fs.leafK_s))) (And.intro (And.intro @Go.Fs.kept_load (And.intro @Go.Fs.op_mv @Go.Fs.op_un)) (And.intro @Go.Fs.op_bin (And.intro @Go.Fs.op_load @Go.Fs.loadV_ptr)))) (And.intro (And.intro (And.intro @Go.Fs.op_faddr (And.intro @Go.Fs.faddrV_ptr @Go.Fs.op_pick)) (And.intro @Go.Fs.pickV_true (And.intro @Go.Fs.pickV_false @Go.Fs.pickV_bool))) (And.intro (And.intro @Go.Fs.pickV_same (And.intro @Go.Fs.op_box @Go.Fs.boxV_agg)) (And.intro (And.intro @Go.Fs.op_call @Go.Fs.op_build) (And.intro @Go.Fs.op_ext @Go.Fs.op_alloc)))))) (And.intro (And.intro (And.intro (And.intro (And.intro @Go.Fs.op_store (And.intro @Go.Fs.storeV_ptr @List.all_cons.{0})) (And.intro @List.all_nil.{0} (And.intro @Bool.and_self @Bool.and_true))) (And.intro (And.intro @Bool.true_and (And.intro @List.getD_cons_zero.{0} @List.getD_cons_succ.{0})) (And.intro @Option.map_some.{0, 0} (And.intro @Option.bind_some.{0, 0} @List.map_cons.{0, 0})))) (And.intro (And.intro (And.intro @List.map_nil.{0, 0} (And.intro @Go.Fs.Hp.n_withLow @Go.Fs.Hp.n_push)) (And.intro @Go.Fs.Hp.n_set (And.intro @Go.Fs.Hp.low_withLow @Go.Fs.Hp.low_push))) (And.intro (And.intro @Go.Fs.Hp.low_set (And.intro @Go.Fs.Hp.get_push @Go.Fs.Hp.get_set)) (And.intro (And.intro @Go.Fs.Hp.get_withLow @Bool.false_eq_true) (And.intro @if_false.{1} @if_true.{1}))))) (And.intro (And.intro (And.intro (And.intro @List.getElem?_cons_zero.{0} (And.intro @List.getElem?_cons_succ.{0} @Nat.zero_add)) (And.intro @Nat.add_zero (And.intro @List.length_cons.{0} @List.length_nil.{0}))) (And.intro (And.intro @List.take_succ_cons.{0} (And.intro @List.take_zero.{0} @List.drop_zero.{0})) (And.intro @List.drop_succ_cons.{0} (And.intro @List.cons_append.{0} @List.nil_append.{0})))) (And.intro (And.intro (And.intro @List.append_nil.{0} (And.intro @and_true @true_and)) (And.intro @and_self (And.intro @or_true @true_or))) (And.intro (And.intro @cond_true.{1} (And.intro @cond_false.{1} @Nat.le_refl)) (And.intro (And.intro @Nat.add_eq_left @Nat.left_eq_add) (And.intro @Nat.add_right_cancel_iff @Nat.add_left_cancel_iff)))))))
noncomputable def ctlB := (And.intro (And.intro (And.intro (And.intro (And.intro @Go.Fs.RetK_inv @Go.Fs.RetK_inv_exit) (And.intro @Go.Fs.RetK_inv_ret (And.intro @Go.Fs.DrawK_nil @Go.Fs.DrawK_cons))) (And.intro (And.intro @Go.Fs.DrawK_guard @Go.Fs.DResK_some) (And.intro @Go.Fs.DGuardK_tt (And.intro @Go.Fs.DGuardK_ff @Go.Fs.DGuardK_tf)))) (And.intro (And.intro (And.intro @Go.Fs.DGuardK_ft @Go.Fs.DGuardK_u) (And.intro @Go.Fs.CodeK_seq (And.intro @Go.Fs.CodeK_region @Go.Fs.CodeK_skip))) (And.intro (And.intro @Go.Fs.CodeK_ret @Go.Fs.CodeK_exit) (And.intro @Go.Fs.CodeK_cond (And.intro @Go.Fs.CodeK_block @Go.Fs.CondK_true))))) (And.intro (And.intro (And.intro (And.intro @Go.Fs.CondK_false @Go.Fs.RunK_cons) (And.intro @Go.Fs.RunK_nil (And.intro @Go.Fs.RunK_guard @Go.Fs.GuardK_tt))) (And.intro (And.intro @Go.Fs.GuardK_ff @Go.Fs.GuardK_tf) (And.intro @Go.Fs.GuardK_ft (And.intro @Go.Fs.GuardK_u @Go.Fs.ResK_some)))) (And.intro (And.intro (And.intro @Go.Fs.RetK_nil @Go.Fs.RetK_seq) (And.intro @Go.Fs.RetK_seq_exit (And.intro @Go.Fs.RetK_seq_ret @Go.Fs.RetK_block))) (And.intro (And.intro @Go.Fs.RetK_block_ret @Go.Fs.RetK_block_exit) (And.intro @Go.Fs.RetK_block_exit_ne (And.intro @List.set_cons_zero.{0} @List.set_cons_succ.{0}))))))
noncomputable def fsEv := And.intro (And.intro @List.getD_cons_zero.{0} @List.getD_cons_succ.{0}) (And.intro (And.intro @Go.Fs.tmset_self @Go.Fs.tmset_ne) @List.length_set.{0})
noncomputable def fsPut := And.intro @List.set_cons_succ.{0} @List.set_cons_zero.{0}
noncomputable def fsAstr := And.intro @astr.eq_1 (And.intro @astr.eq_2 (And.intro @astr.eq_3 (And.intro @astr.eq_4 (And.intro @astr.eq_5 (And.intro @astr.eq_6 @astr.eq_7)))))
noncomputable def fsReps := And.intro @reps.eq_1 @reps.eq_2
noncomputable def fsTm := And.intro @tmset_self (And.intro @tmset_ne @List.length_set.{0})
@[reducible] def Zm (d s : Nat) : CR := ⟨some d, .mv (.t s), none⟩
@[reducible] def Zl (d s : Nat) : CR := ⟨some d, .load none (.t s), none⟩
@[reducible] def Zf (d f s : Nat) : CR := ⟨some d, .faddr f (.t s), none⟩
@[reducible] def Ze (d f s : Nat) : CR := ⟨some d, .ext f (.t s), none⟩
@[reducible] def Zb (d : Nat) (o : BinOp) (x y : CA) : CR := ⟨some d, .bin o .other x y, none⟩
@[reducible] def Zo (d : Nat) (o : CO) : CR := ⟨some d, o, none⟩
@[reducible] def Zn (o : CO) : CR := ⟨none, o, none⟩
@[reducible] def Zg (d : Nat) (o : CO) (j : Nat) (w : Bool) : CR := ⟨some d, o, some (j, w)⟩
theorem Fj {a b : Prop} (x : a) (y : b) : a ∧ b := ⟨x, y⟩
class Red (A : Prop) (B : outParam Prop) : Prop where
 to : B → A
section
variable {call : Rec} {Q : AEx → List AV → AH → Prop} {st : List Fr} {tm tm' : List AV} {h h' : AH} {v : AV} {os : List CR} {dst : Option Nat} {op : CO}
instance {a b : CC} : Red (CodeK call Q (.seq a b) st tm h) (CodeK call Q a (.seq b :: st) tm h) := ⟨K_seq⟩
instance : Red (CodeK call Q (.region os) st tm h) (RunK call Q os st tm h) := ⟨K_region⟩
instance : Red (RunK call Q [] st tm h) (RetK call Q st .normal tm h) := ⟨R_nil⟩
instance {c : CC} : Red (RetK call Q (.seq c :: st) .normal tm h) (CodeK call Q c st tm h) := ⟨T_seq⟩
instance {x y : CC} : Red (CondK call Q (.bool true) x y st tm h) (CodeK call Q x st tm h) := ⟨C_true⟩
instance {x y : CC} : Red (CondK call Q (.bool false) x y st tm h) (CodeK call Q y st tm h) := ⟨C_false⟩
instance : Red (CodeK call Q .skip st tm h) (RetK call Q st .normal tm h) := ⟨K_skip⟩
instance {i : Nat} {c : CC} : Red (CodeK call Q (.block i c) st tm h) (CodeK call Q c (.block i :: st) tm h) := ⟨K_block⟩
instance : Red (CodeK call Q .ret st tm h) (RetK call Q st .ret tm h) := ⟨K_ret⟩
instance {i : Nat} : Red (CodeK call Q (.exit i) st tm h) (RetK call Q st (.exit i) tm h) := ⟨K_exit⟩
instance {i : Nat} : Red (RetK call Q (.block i :: st) .normal tm h) (RetK call Q st .normal tm h) := ⟨T_block⟩
instance {i : Nat} : Red (RetK call Q (.block i :: st) (.exit i) tm h) (RetK call Q st .normal tm h) := ⟨T_block_exit⟩
instance {i : Nat} : Red (RetK call Q (.block i :: st) .ret tm h) (RetK call Q st .ret tm h) := ⟨T_block_ret⟩
instance {c : CC} {i : Nat} : Red (RetK call Q (.seq c :: st) (.exit i) tm h) (RetK call Q st (.exit i) tm h) := ⟨T_seq_exit⟩
instance {c : CC} : Red (RetK call Q (.seq c :: st) .ret tm h) (RetK call Q st .ret tm h) := ⟨T_seq_ret⟩
instance {J : List AV → AH → Prop} : Red (RetK call Q (.inv J :: st) .normal tm h) (J tm h) := ⟨T_inv⟩
instance {J : List AV → AH → Prop} {i : Nat} : Red (RetK call Q (.inv J :: st) (.exit i) tm h) (RetK call Q st (.exit i) tm h) := ⟨T_inv_exit⟩
instance {J : List AV → AH → Prop} : Red (RetK call Q (.inv J :: st) .ret tm h) (RetK call Q st .ret tm h) := ⟨T_inv_ret⟩
instance {e : AEx} : Red (RetK call Q [] e tm h) (Q e tm h) := ⟨T_nil⟩
theorem A_any {g : Option (Nat × Bool)} (k : RunK call Q os st tm' h') (hg : CR.wanted ⟨dst, op, g⟩ tm = true := by (simp only [CR.wanted, CA.ev, fsEv, Nat.reduceBEq, Nat.reduceLT, fct]; first | done | (with_unfolding_all exact rfl))) (hr : runOp call op tm h = some (v, h') := by (simp (maxDischargeDepth := 12) only [opsB, Nat.reduceEqDiff, Nat.reduceBEq, Nat.reduceBNe, Int.reduceBEq, Int.reduceBNe, Int.reduceLT, Int.reduceLE, Int.reduceEq, AV.one, AV.cells, CA.ev, abin, aint, aun, isShift, readVar, readCell, readCells, writeCells, fillA, reduceIte, Nat.reduceAdd, Nat.reduceSub, Nat.reduceLT, Nat.reduceLeDiff, resAll, resOne, AV.under, AV.unders, cut, fsEv, Int.reduceToNat, fct]; (first | done | with_reducible rfl))) (ht : put tm dst v = tm' := by (simp only [put, fsPut]; (first | done | with_reducible rfl))) : RunK call Q (⟨dst, op, g⟩ :: os) st tm h := R_any hg hr ht k
theorem A_skip {j : Nat} {w : Bool} (k : RunK call Q os st tm' h) (hg : CR.wanted ⟨dst, op, some (j, w)⟩ tm = false := by (simp only [CR.wanted, CA.ev, fsEv, Nat.reduceBEq, Nat.reduceLT, fct]; first | done | (with_unfolding_all exact rfl))) (ht : put tm dst AV.undef = tm' := by (simp only [put, fsPut]; (first | done | with_reducible rfl))) : RunK call Q (⟨dst, op, some (j, w)⟩ :: os) st tm h := R_skip hg ht k
theorem A_cond {c : CA} {x y : CC} (k : CondK call Q v x y st tm h) (hv : c.ev tm = v := by (simp only [CA.ev, fsEv, Nat.reduceBEq, Nat.reduceLT, fct]; (first | done | with_reducible rfl))) : CodeK call Q (.cond c x y) st tm h := K_cond hv k
theorem A_exne {i j : Nat} (k : RetK call Q st (.exit i) tm h) (hn : (i == j) = false := by decide) : RetK call Q (.block j :: st) (.exit i) tm h := T_block_exit_ne hn k
variable {ds : List CD} {pr pr' : List (Nat × Nat × CO × AV)} {sp : List (Nat × Nat × Nat × List AV × AV)} {hs hs' : List AH} {lo hi : Nat}
instance : Red (CodeK call Q (.regionD ds) st tm h) (DrawS call Q st ds [] [] [] tm h) := ⟨K_regionS⟩
theorem A_dnil (k : RetK call Q st .normal tm h) (k1 : Kept (hs ++ [h]) pr := by (first | exact trivial | simp only [opsB, Nat.reduceEqDiff, Nat.reduceBEq, Nat.reduceBNe, Int.reduceBEq, Int.reduceBNe, Int.reduceLT, Int.reduceLE, Int.reduceEq, AV.one, AV.cells, CA.ev, abin, aint, aun, isShift, readVar, readCell, readCells, writeCells, fillA, reduceIte, Nat.reduceAdd, Nat.reduceSub, Nat.reduceLT, Nat.reduceLeDiff, resAll, resOne, AV.under, AV.unders, cut, fsEv, Kept, KeptOne, Stills, StillOne, List.drop_succ_cons, List.take_succ_cons, List.drop_nil, List.take_nil, kept_load, fct])) (k2 : Stills call (hs ++ [h]) sp := by (first | exact trivial | simp only [opsB, Nat.reduceEqDiff, Nat.reduceBEq, Nat.reduceBNe, Int.reduceBEq, Int.reduceBNe, Int.reduceLT, Int.reduceLE, Int.reduceEq, AV.one, AV.cells, CA.ev, abin, aint, aun, isShift, readVar, readCell, readCells, writeCells, fillA, reduceIte, Nat.reduceAdd, Nat.reduceSub, Nat.reduceLT, Nat.reduceLeDiff, resAll, resOne, AV.under, AV.unders, cut, fsEv, Kept, KeptOne, Stills, StillOne, List.drop_succ_cons, List.take_succ_cons, List.drop_nil, List.take_nil, kept_load, fct])) : DrawS call Q st [] pr sp hs tm h := D_nil k1 k2 k
theorem A_dcons (k : DrawS call Q st ds pr' sp hs' tm' h') (hr : runOp call op tm h = some (v, h') := by (simp (maxDischargeDepth := 12) only [opsB, Nat.reduceEqDiff, Nat.reduceBEq, Nat.reduceBNe, Int.reduceBEq, Int.reduceBNe, Int.reduceLT, Int.reduceLE, Int.reduceEq, AV.one, AV.cells, CA.ev, abin, aint, aun, isShift, readVar, readCell, readCells, writeCells, fillA, reduceIte, Nat.reduceAdd, Nat.reduceSub, Nat.reduceLT, Nat.reduceLeDiff, resAll, resOne, AV.under, AV.unders, cut, fsEv, Int.reduceToNat, fct]; (first | done | with_reducible rfl))) (ht : put tm dst v = tm' := by (simp only [put, fsPut]; (first | done | with_reducible rfl))) (hp : (if op.reads then pr ++ [(lo, hi, closeOp tm op, v)] else pr) = pr' := by (simp only [CO.reads, closeOp, CA.ev, fsEv, Nat.reduceBEq, Nat.reduceLT, List.nil_append, List.cons_append, if_true, if_false, reduceIte, Bool.false_eq_true, fct]; (first | done | with_reducible rfl))) (hh : (if op.quiet then hs else hs ++ [h]) = hs' := by (simp only [CO.quiet, List.nil_append, List.cons_append, if_true, if_false, reduceIte, Bool.false_eq_true]; (first | done | with_reducible rfl))) :
    DrawS call Q st (⟨⟨dst, op, none⟩, lo, hi, false⟩ :: ds) pr sp hs tm h := D_cons hr ht hp hh k
theorem A_dstill {f : Nat} {args : List CA} {as : List AV} (k : DrawS call Q st ds pr (sp ++ [(lo, hi, f, as, v)]) hs tm' h) (ha : args.map (CA.ev tm) = as := by (simp only [List.map_cons, List.map_nil, CA.ev, fsEv, Nat.reduceBEq, Nat.reduceLT, fct]; (first | done | with_reducible rfl))) (hr : call f as (h.withLow h.n) = some (v, h') := by (simp (maxDischargeDepth := 12) only [opsB, Nat.reduceEqDiff, Nat.reduceBEq, Nat.reduceBNe, Int.reduceBEq, Int.reduceBNe, Int.reduceLT, Int.reduceLE, Int.reduceEq, AV.one, AV.cells, CA.ev, abin, aint, aun, isShift, readVar, readCell, readCells, writeCells, fillA, reduceIte, Nat.reduceAdd, Nat.reduceSub, Nat.reduceLT, Nat.reduceLeDiff, resAll, resOne, AV.under, AV.unders, cut, fsEv, Int.reduceToNat, fct]; (first | done | with_reducible rfl))) (hn : h'.n = h.n := by (simp only [Hp.n_withLow, Hp.low_withLow, Hp.n_set, Hp.n_push, Nat.le_refl])) (hl : h.n ≤ h'.low := by (simp only [Hp.n_withLow, Hp.low_withLow, Hp.n_set, Hp.n_push, Nat.le_refl])) (ht : put tm dst v = tm' := by (simp only [put, fsPut]; (first | done | with_reducible rfl))) :
    DrawS call Q st (⟨⟨dst, .call (.f f) args, none⟩, lo, hi, true⟩ :: ds) pr sp hs tm h := D_still ha hr hn hl ht k
theorem A_dwanted {j : Nat} {w : Bool} {s : Bool} (k : DrawS call Q st (⟨⟨dst, op, none⟩, lo, hi, s⟩ :: ds) pr sp hs tm h) (hg : tm.getD j AV.undef = .bool w := by (simp only [CA.ev, fsEv, Nat.reduceBEq, Nat.reduceLT, fct]; (first | done | with_reducible rfl))) : DrawS call Q st (⟨⟨dst, op, some (j, w)⟩, lo, hi, s⟩ :: ds) pr sp hs tm h := D_wanted hg k
theorem A_end {A B : Prop} (k : B) (e : A = B := by (simp only [DoneK, opsB, Nat.reduceEqDiff, Nat.reduceBEq, Nat.reduceBNe, Int.reduceBEq, Int.reduceBNe, Int.reduceLT, Int.reduceLE, Int.reduceEq, AV.one, AV.cells, CA.ev, abin, aint, aun, isShift, readVar, readCell, readCells, writeCells, fillA, reduceIte, Nat.reduceAdd, Nat.reduceSub, Nat.reduceLT, Nat.reduceLeDiff, resAll, resOne, AV.under, AV.unders, cut, if_true, if_false, Bool.false_eq_true, fsEv, fct]; first | done | with_reducible rfl)) : A := e ▸ k
theorem A_walk {A B : Prop} (k : B) (e : A = B := by (simp only [opsB, ctlB, Nat.reduceEqDiff, Nat.reduceBEq, Nat.reduceBNe, Int.reduceBEq, Int.reduceBNe, Int.reduceLT, Int.reduceLE, Int.reduceEq, CO.quiet, CO.reads, AV.one, AV.cells, CA.ev, abin, aint, aun, isShift, readVar, readCell, readCells, writeCells, fillA, reduceIte, Nat.reduceAdd, Nat.reduceSub, Nat.reduceLT, Nat.reduceLeDiff, resAll, resOne, AV.under, AV.unders, cut, put, DoneK, Kept, KeptOne, closeOp, fsEv, fct, *]; first | done | with_reducible rfl)) : A := e ▸ k
theorem A_tm {tm0 : List AV} (k : RunK call Q os st tm' h) (ht : tm0 = tm' := by (simp only [put, fsPut]; first | done | with_reducible rfl)) : RunK call Q os st tm0 h := R_tm ht k
theorem A_dtm {tm0 : List AV} (k : DrawS call Q st ds pr sp hs tm' h) (ht : tm0 = tm' := by (simp only [put, fsPut]; first | done | with_reducible rfl)) : DrawS call Q st ds pr sp hs tm0 h := D_tm ht k
theorem GO {A B : Prop} (k : B) (e : B → A := by (intro hB; (repeat' with_reducible first | refine Red.to ?_ | refine A_any ?_ | refine A_skip ?_ | refine A_cond ?_ | refine A_exne ?_); exact hB)) : A := e k
theorem GOD {A B : Prop} (k : B) (e : B → A := by (intro hB; (repeat' with_reducible first | refine Red.to ?_ | refine A_any ?_ | refine A_skip ?_ | refine A_cond ?_ | refine A_dcons ?_ | refine A_dstill ?_ | refine A_dwanted ?_ | refine A_dnil ?_ | refine A_exne ?_); exact hB)) : A := e k
theorem GD {A B : Prop} (k : B) (e : B → A := by (intro hB; dsimp only [Zm, Zl, Zf, Ze, Zb, Zo, Zn, Zg, List.length, List.replicate, List.append, List.cons_append, List.nil_append, Nat.reduceAdd, Nat.reduceSub]; exact hB)) : A := e k
end
end Go.Fs
end

section
/- A region whose order is open, walked in every order. -/
namespace Go.Fs
open Go
variable {P : Program}
def wpSet (call : Rec) (ops : Array Oper) (cs : List CR) (Q : List AV → AH → Prop) : Nat → Array Bool → List AV → AH → Prop
 | 0, listed, tm, h => Region.ready .any ops listed = [] ∧ Q tm h
 | fuel + 1, listed, tm, h => (Region.ready .any ops listed = [] → Q tm h) ∧
   ∀ i ∈ Region.ready .any ops listed, ∃ c, cs[i]? = some c ∧
    ((c.wanted tm = true ∧ ∃ v h', runOp call c.op tm h = some (v, h') ∧ wpSet call ops cs Q fuel (listed.setIfInBounds i true) (put tm c.dst v) h') ∨
     (c.wanted tm = false ∧ wpSet call ops cs Q fuel (listed.setIfInBounds i true) (put tm c.dst AV.undef) h))
theorem set_wp {call : Rec} (hrec : GoodRec P call) {ops : Array Oper} {cs : List CR} (hcs : ops.toList.mapM (cOper P ops) = some cs) {Q : List AV → AH → Prop} {Qr : Exit → Act → World → Prop} {df : List Deferred} {ι0 : Emb} {h0 : AH} {w0 : World}
    (hQ : ∀ ι w a tm h, Q tm h → a.defers = df → ARel ι tm a → Rel P.globals.size ι h w → Stp ι0 ι h0 h w0 w → Qr .normal a w) :
    ∀ (fuel : Nat) (listed : Array Bool) (tm : List AV) (h : AH), wpSet call ops cs Q fuel listed tm h → ∀ (ι : Emb) (w : World) (a : Act), a.defers = df → ARel ι tm a → Rel P.globals.size ι h w → Stp ι0 ι h0 h w0 w → wpAny P .any ops Qr fuel listed a w := by
 intro fuel
 induction fuel with
 | zero =>
   intro listed tm h hw ι w a hd ha r s
   exact ⟨hw.1, hQ ι w a tm h hw.2 hd ha r s⟩
 | succ fuel ih =>
   intro listed tm h hw ι w a hd ha r s
   refine ⟨fun hr => hQ ι w a tm h (hw.1 hr) hd ha r s, fun i hi => ?_⟩
   obtain ⟨c, hci, hor⟩ := hw.2 i hi
   obtain ⟨hun, o, ho, hdeps⟩ := mem_ready.1 hi
   have hat := (mapM_at _ _ _ hcs).2 i o c (by simpa using ho) hci
   unfold cOper at hat
   split at hat
   case h_2 => cases hat
   rename_i g hg
   obtain ⟨cc, hcc⟩ : ∃ cc, cc = (cOp P o.op).getD .stop := ⟨_, rfl⟩
   rw [← hcc] at hat
   have hc : c = ⟨o.dst, cc, g⟩ := by simpa using hat.symm
   have hw' := wanted_eq hg ha o.dst cc
   rw [← hc] at hw'
   unfold wpOp
   rw [ho]
   simp only
   rw [hw']
   rcases hor with ⟨h1, v, h', h2, h3⟩ | ⟨h1, h3⟩
   · rw [h1]
     simp only [if_true]
     left
     rw [hc] at h2 h3
     refine op_wp hrec hcc h2 r ha fun ι' rv w' k1 k2 k3 => ?_
     exact ih _ _ _ h3 ι' w' _ (by rw [← hd]; cases o.dst <;> rfl) (ARel.put (ha.mono k3.le) k1 o.dst) k2 (s.trans k3)
   · rw [h1]
     simp only [Bool.false_eq_true, if_false]
     rw [hc] at h3
     exact ih _ _ _ h3 ι w _ (by rw [← hd]; cases o.dst <;> rfl) (ARel.put ha VRel.undef o.dst) r s
def CWP (P : Program) (c : Code) (Post : AEx → List AV → AH → Prop) (tm : List AV) (h : AH) : Prop :=
 ∀ (ι : Emb) (w : World) (a : Act) (Q : Exit → Act → World → Prop), Rel P.globals.size ι h w → ARel ι tm a →
  (∀ ex tm' h' ι' w' a', Post ex tm' h' → a'.defers = a.defers → ARel ι' tm' a' → Rel P.globals.size ι' h' w' → Stp ι ι' h h' w w' → Q ex.real a' w') → c.wp P Q a w
theorem CWP.run {call : Rec} (hrec : GoodRec P call) (hm : P.follows .mixedOrders = true) {fuel : Nat} {c : Code} {Post : AEx → List AV → AH → Prop} {tm tm' : List AV} {h h' : AH} {ex : AEx}
    (hr : runC call fuel (cC P c) tm h = some (ex, tm', h')) (hp : Post ex tm' h') : CWP P c Post tm h :=
 fun ι w a Q r ha hQ => code_wp hrec hm fuel c _ rfl tm h ex tm' h' hr ι w a Q r ha fun ι' w' a' h1 h2 h3 h4 => hQ ex tm' h' ι' w' a' hp h1 h2 h3 h4
theorem CWP.seq {x y : Code} {Post : AEx → List AV → AH → Prop} {tm : List AV} {h : AH} (hx : CWP P x (fun ex tm1 h1 => match ex with | .normal => CWP P y Post tm1 h1 | e => Post e tm1 h1) tm h) : CWP P (.seq x y) Post tm h := by
 intro ι w a Q r ha hQ
 refine wp_seq (hx ι w a _ r ha fun ex tm1 h1 ι1 w1 a1 hp d1 d2 d3 d4 => ?_)
 cases ex with
 | normal => exact hp ι1 w1 a1 Q d3 d2 fun ex2 tm2 h2 ι2 w2 a2 q e1 e2 e3 e4 => hQ ex2 tm2 h2 ι2 w2 a2 q (e1.trans d1) e2 e3 (d4.trans e4)
 | exit id => exact hQ _ tm1 h1 ι1 w1 a1 hp d1 d2 d3 d4
 | ret => exact hQ _ tm1 h1 ι1 w1 a1 hp d1 d2 d3 d4
theorem CWP.set {call : Rec} (hrec : GoodRec P call) (hm : P.follows .mixedOrders = true) {id : Nat} {ops : Array Oper} {cs : List CR} (hcs : ops.toList.mapM (cOper P ops) = some cs) {Post : AEx → List AV → AH → Prop} {tm : List AV} {h : AH}
    (hw : wpSet call ops cs (Post .normal) ops.size (Array.replicate ops.size false) tm h) : CWP P (.region id ops true) Post tm h := by
 intro ι w a Q r ha hQ
 refine wp_region_any hm ?_
 exact set_wp hrec hcs (ι0 := ι) (h0 := h) (w0 := w) (df := a.defers) (fun ι' w' a' tm' h' hp hd ha' r' s' => hQ .normal tm' h' ι' w' a' hp hd ha' r' s') _ _ tm h hw ι _ a rfl ha r.drew (Stp.drew ι h w)
theorem calls_cwp {f : Nat} {fn : Func} {b : Code} (hfn : P.funcs[f]? = some fn) (hb : fn.body = some b) {rs : List CRes} (hrs : fn.results.toList.mapM (cRes P) = some rs) {args : List AV} {h : AH} {x : Bool}
    (hw : CWP P b (fun ex tm' h1 => (ex = .normal ∨ ex = .ret) ∧ resAll tm' h1 rs = some (.bool x) ∧ h.n ≤ h1.n ∧ h.n ≤ h1.low) (args ++ List.replicate (fn.ntmps - args.length) AV.undef) (h.withLow h.n))
    {ι : Emb} {w : World} {rargs : List Value} (r : Rel P.globals.size ι h w) (hargs : VRels ι args rargs) :
    Calls P f rargs.toArray w fun e w' => ∃ ι' rv, e = .returned rv ∧ VRel ι' (.bool x) rv ∧ Rel P.globals.size ι' h w' ∧ Stp ι ι' h h w w' := by
 have hlen := hargs.length
 refine calls_of_wp hfn hb ?_
 refine hw ι w _ _ (r.withLow _) ?_ fun ex tm' h1 ι1 w1 a1 hp d1 d2 d3 d4 => ?_
 · unfold ARel
   simp only [Array.toList_append, Array.toList_replicate]
   have h2 : rargs.toArray.size = args.length := by simpa using hlen
   rw [h2]
   exact hargs.toArray.append (VRels.replicate VRel.undef _)
 · obtain ⟨hex, hu, hn, hl⟩ := hp
   obtain ⟨y, k1, k2⟩ := resAll_ok d3 d2 hrs hu
   obtain ⟨ι2, k3, k4, k5⟩ := settle_ok r k2 d3 d4
   have hset : Fs.settle h h1 (.bool x) = (.bool x, h) := by unfold Fs.settle; rw [if_pos ⟨hl, rfl⟩]
   rw [hset] at k3 k4 k5
   have hfin : a1.defers = [] ∧ ∃ y, (results fn a1.tmps).run P w1 = .ok y w1 ∧ ∃ ι' rv, Ending.returned y = .returned rv ∧ VRel ι' (.bool x) rv ∧ Rel P.globals.size ι' h w1 ∧ Stp ι ι' h h w w1 :=
    ⟨d1, y, k1, ι2, y, rfl, k3, k4, k5⟩
   rcases hex with rfl | rfl
   · exact hfin
   · exact hfin
end Go.Fs
end

