/- The abstract machine of the Fs texts, part 6: what it runs, and that each of its runs is one of the program. -/
import Derived.Test.YtlppecefalblmaaGreatDoorFz04
import Derived.Carry
import Derived.Handed
import Derived.WalkKit
import Derived.ProofKit
import Derived.OpenShut
import Derived.SizedLaws
import Derived.Test.YtlppecefalblmaaGreatDoorFz03
import Derived.Lib.Bytealg
import Derived.Laws.AppendOwn
import Derived.Lib.Builder
import Derived.Lib.SplitLaws
import Derived.Lib.Join
section
/- The abstract machine step by step, over values that need not be known: each state is first-order, so that simp can walk it. -/
namespace Go.Fs
inductive Fr where
 | seq (c : CC)
 | block (id : Nat)
 | inv (J : List AV → AH → Prop)
section
variable (call : Rec) (Q : AEx → List AV → AH → Prop)
def RetK : List Fr → AEx → List AV → AH → Prop
 | [], e, tm, h => Q e tm h
 | .seq c :: st, .normal, tm, h => WP call c tm h fun e tm h => RetK st e tm h
 | .seq _ :: st, e, tm, h => RetK st e tm h
 | .block id :: st, .exit i, tm, h => if i = id then RetK st .normal tm h else RetK st (.exit i) tm h
 | .block _ :: st, e, tm, h => RetK st e tm h
 | .inv J :: _, .normal, tm, h => J tm h
 | .inv _ :: st, e, tm, h => RetK st e tm h
def CodeK (c : CC) (st : List Fr) (tm : List AV) (h : AH) : Prop := WP call c tm h (RetK call Q st)
def RunK (os : List CR) (st : List Fr) (tm : List AV) (h : AH) : Prop := ∃ tm' h', runOps call os tm h = some (tm', h') ∧ RetK call Q st .normal tm' h'
def ResK (r : Option (AV × AH)) (dst : Option Nat) (os : List CR) (st : List Fr) (tm : List AV) : Prop :=
 ∃ v h', r = some (v, h') ∧ RunK call Q os st (put tm dst v) h'
def GuardK (v : AV) (want : Bool) (op : CO) (dst : Option Nat) (os : List CR) (st : List Fr) (tm : List AV) (h : AH) : Prop :=
 if v.same (.bool want) then ResK call Q (runOp call op tm h) dst os st tm else RunK call Q os st (put tm dst AV.undef) h
def CondK (v : AV) (x y : CC) (st : List Fr) (tm : List AV) (h : AH) : Prop :=
 match v with
 | .bool true => CodeK call Q x st tm h
 | .bool false => CodeK call Q y st tm h
 | _ => False
end
section
variable {call : Rec} {Q : AEx → List AV → AH → Prop} {st : List Fr} {tm : List AV} {h : AH}
theorem CodeK.wp {c : CC} (hk : CodeK call Q c [] tm h) : WP call c tm h Q := hk
theorem RetK_nil (e : AEx) : RetK call Q [] e tm h = Q e tm h := rfl
theorem RetK_seq (c : CC) : RetK call Q (.seq c :: st) .normal tm h = CodeK call Q c st tm h := rfl
theorem RetK_seq_exit (c : CC) (i : Nat) : RetK call Q (.seq c :: st) (.exit i) tm h = RetK call Q st (.exit i) tm h := rfl
theorem RetK_seq_ret (c : CC) : RetK call Q (.seq c :: st) .ret tm h = RetK call Q st .ret tm h := rfl
theorem RetK_block (id : Nat) : RetK call Q (.block id :: st) .normal tm h = RetK call Q st .normal tm h := rfl
theorem RetK_block_ret (id : Nat) : RetK call Q (.block id :: st) .ret tm h = RetK call Q st .ret tm h := rfl
theorem RetK_block_exit (id : Nat) : RetK call Q (.block id :: st) (.exit id) tm h = RetK call Q st .normal tm h := by simp [RetK]
theorem RetK_block_exit_ne (id i : Nat) (hn : (i == id) = false) : RetK call Q (.block id :: st) (.exit i) tm h = RetK call Q st (.exit i) tm h := by
 have : ¬ i = id := by simpa using hn
 simp [RetK, this]
theorem RetK_inv (J : List AV → AH → Prop) : RetK call Q (.inv J :: st) .normal tm h = J tm h := rfl
theorem RetK_inv_exit (J : List AV → AH → Prop) (i : Nat) : RetK call Q (.inv J :: st) (.exit i) tm h = RetK call Q st (.exit i) tm h := rfl
theorem RetK_inv_ret (J : List AV → AH → Prop) : RetK call Q (.inv J :: st) .ret tm h = RetK call Q st .ret tm h := rfl
theorem CodeK_skip : CodeK call Q .skip st tm h = RetK call Q st .normal tm h := by
 unfold CodeK WP
 simp only [runW, Option.some.injEq, Prod.mk.injEq]
 exact propext ⟨fun ⟨_, _, _, ⟨h1, h2, h3⟩, h4⟩ => by subst h1 h2 h3; exact h4, fun hk => ⟨_, _, _, ⟨rfl, rfl, rfl⟩, hk⟩⟩
theorem CodeK_ret : CodeK call Q .ret st tm h = RetK call Q st .ret tm h := by
 unfold CodeK WP
 simp only [runW, Option.some.injEq, Prod.mk.injEq]
 exact propext ⟨fun ⟨_, _, _, ⟨h1, h2, h3⟩, h4⟩ => by subst h1 h2 h3; exact h4, fun hk => ⟨_, _, _, ⟨rfl, rfl, rfl⟩, hk⟩⟩
theorem CodeK_exit (i : Nat) : CodeK call Q (.exit i) st tm h = RetK call Q st (.exit i) tm h := by
 unfold CodeK WP
 simp only [runW, Option.some.injEq, Prod.mk.injEq]
 exact propext ⟨fun ⟨_, _, _, ⟨h1, h2, h3⟩, h4⟩ => by subst h1 h2 h3; exact h4, fun hk => ⟨_, _, _, ⟨rfl, rfl, rfl⟩, hk⟩⟩
theorem CodeK_region (os : List CR) : CodeK call Q (.region os) st tm h = RunK call Q os st tm h := by
 unfold CodeK WP RunK
 simp only [runW, Option.map_eq_some_iff, Prod.mk.injEq]
 exact propext ⟨fun ⟨_, _, _, ⟨⟨a, b⟩, h0, h1, h2, h3⟩, h4⟩ => by subst h1 h2 h3; exact ⟨_, _, h0, h4⟩, fun ⟨a, b, h0, hk⟩ => ⟨_, _, _, ⟨(a, b), h0, rfl, rfl, rfl⟩, hk⟩⟩
theorem CodeK_seq (a b : CC) : CodeK call Q (.seq a b) st tm h = CodeK call Q a (.seq b :: st) tm h := by
 unfold CodeK
 refine propext ⟨fun ⟨e, tm', h', h1, h2⟩ => ?_, fun hk => ?_⟩
 · simp only [runW] at h1
   split at h1
   · rename_i tm1 h3 h4
     exact ⟨_, _, _, h4, e, tm', h', h1, h2⟩
   · rename_i hne
     refine ⟨e, tm', h', h1, ?_⟩
     cases e with
     | normal => exact absurd h1 (hne _ _)
     | exit i => exact h2
     | ret => exact h2
 · refine WP.seq (hk.mono fun e tm' h' he => ?_)
   cases e with
   | normal => exact he
   | exit i => exact he
   | ret => exact he
theorem CodeK_cond (c : CA) (x y : CC) : CodeK call Q (.cond c x y) st tm h = CondK call Q (c.ev tm) x y st tm h := by
 unfold CodeK CondK WP
 simp only [runW]
 generalize c.ev tm = v
 cases v <;> first | simp | skip
 rename_i b
 cases b <;> rfl
theorem CodeK_block (id : Nat) (c : CC) : CodeK call Q (.block id c) st tm h = CodeK call Q c (.block id :: st) tm h := by
 unfold CodeK
 refine propext ⟨fun ⟨e, tm', h', h1, h2⟩ => ?_, fun hk => ?_⟩
 · simp only [runW] at h1
   split at h1
   · rename_i i tm1 h3 h4
     split at h1
     · rename_i hi
       cases h1
       exact ⟨_, _, _, h4, by simp only [RetK, hi, if_true]; exact h2⟩
     · rename_i hi
       cases h1
       exact ⟨_, _, _, h4, by simp only [RetK, hi, if_false]; exact h2⟩
   · rename_i hne
     refine ⟨e, tm', h', h1, ?_⟩
     cases e with
     | normal => exact h2
     | exit i => exact absurd h1 (hne _ _ _)
     | ret => exact h2
 · refine WP.block (hk.mono fun e tm' h' he => ?_)
   cases e with
   | normal => exact he
   | exit i => exact he
   | ret => exact he
theorem CodeK_loop {c : CC} (I : Nat → List AV → AH → Prop) (n : Nat) (h0 : I n tm h) (hb : ∀ n tm h, I n tm h → CodeK call Q c (.inv (fun tm' h' => ∃ m, m < n ∧ I m tm' h') :: st) tm h) : CodeK call Q (.loop c) st tm h := by
 refine WP.loop I n h0 fun n tm h hI => (hb n tm h hI).mono fun e tm' h' he => ?_
 cases e with
 | normal => exact he
 | exit i => exact he
 | ret => exact he
theorem tmset_self {l : List AV} {i : Nat} {a : AV} (h : i < l.length) : (l.set i a).getD i AV.undef = a := by
 simp [List.getD_eq_getElem?_getD, h]
theorem tmset_ne {l : List AV} {i j : Nat} {a : AV} (h : (i == j) = false) : (l.set i a).getD j AV.undef = l.getD j AV.undef := by
 have : i ≠ j := by simpa using h
 simp [List.getD_eq_getElem?_getD, List.getElem?_set_ne this]
theorem CondK_true (x y : CC) : CondK call Q (.bool true) x y st tm h = CodeK call Q x st tm h := rfl
theorem CondK_false (x y : CC) : CondK call Q (.bool false) x y st tm h = CodeK call Q y st tm h := rfl
theorem CondK_split {b : Bool} {x y : CC} (h1 : b = true → CodeK call Q x st tm h) (h2 : b = false → CodeK call Q y st tm h) : CondK call Q (.bool b) x y st tm h := by
 cases b with
 | true => exact h1 rfl
 | false => exact h2 rfl
theorem RunK_nil : RunK call Q [] st tm h = RetK call Q st .normal tm h := by
 unfold RunK
 simp only [runOps, Option.some.injEq, Prod.mk.injEq]
 exact propext ⟨fun ⟨_, _, ⟨h1, h2⟩, h4⟩ => by subst h1 h2; exact h4, fun hk => ⟨_, _, ⟨rfl, rfl⟩, hk⟩⟩
theorem RunK_cons (dst : Option Nat) (op : CO) (os : List CR) : RunK call Q (⟨dst, op, none⟩ :: os) st tm h = ResK call Q (runOp call op tm h) dst os st tm := by
 unfold RunK ResK
 simp only [runOps, CR.wanted, if_true, Option.bind_eq_some_iff]
 refine propext ⟨fun ⟨a, b, ⟨⟨v, h'⟩, h1, h2⟩, h3⟩ => ⟨v, h', h1, a, b, h2, h3⟩, fun ⟨v, h', h1, a, b, h2, h3⟩ => ⟨a, b, ⟨⟨v, h'⟩, h1, h2⟩, h3⟩⟩
theorem RunK_guard (dst : Option Nat) (op : CO) (j : Nat) (want : Bool) (os : List CR) : RunK call Q (⟨dst, op, some (j, want)⟩ :: os) st tm h = GuardK call Q (tm.getD j AV.undef) want op dst os st tm h := by
 have hw : (CR.mk dst op (some (j, want))).wanted tm = (tm.getD j AV.undef).same (.bool want) := by
  unfold CR.wanted
  simp only
  generalize tm.getD j AV.undef = v
  cases v <;> simp [AV.same]
 unfold RunK GuardK
 simp only [runOps, hw]
 split
 · unfold ResK RunK
   simp only [Option.bind_eq_some_iff]
   refine propext ⟨fun ⟨a, b, ⟨⟨v, h'⟩, h1, h2⟩, h3⟩ => ⟨v, h', h1, a, b, h2, h3⟩, fun ⟨v, h', h1, a, b, h2, h3⟩ => ⟨a, b, ⟨⟨v, h'⟩, h1, h2⟩, h3⟩⟩
 · rfl
theorem ResK_some (v : AV) (h' : AH) (dst : Option Nat) (os : List CR) : ResK call Q (some (v, h')) dst os st tm = RunK call Q os st (put tm dst v) h' := by
 unfold ResK
 simp only [Option.some.injEq, Prod.mk.injEq]
 exact propext ⟨fun ⟨_, _, ⟨h1, h2⟩, h4⟩ => by subst h1 h2; exact h4, fun hk => ⟨_, _, ⟨rfl, rfl⟩, hk⟩⟩
theorem ResK_ex {r : Option (AV × AH)} {dst : Option Nat} {os : List CR} {R : AV → AH → Prop} (hr : ∃ v h', r = some (v, h') ∧ R v h') (hk : ∀ v h', R v h' → RunK call Q os st (put tm dst v) h') : ResK call Q r dst os st tm := by
 obtain ⟨v, h', h1, h2⟩ := hr
 exact ⟨v, h', h1, hk v h' h2⟩
theorem GuardK_tt (op : CO) (dst : Option Nat) (os : List CR) : GuardK call Q (.bool true) true op dst os st tm h = ResK call Q (runOp call op tm h) dst os st tm := rfl
theorem GuardK_ff (op : CO) (dst : Option Nat) (os : List CR) : GuardK call Q (.bool false) false op dst os st tm h = ResK call Q (runOp call op tm h) dst os st tm := rfl
theorem GuardK_tf (op : CO) (dst : Option Nat) (os : List CR) : GuardK call Q (.bool true) false op dst os st tm h = RunK call Q os st (put tm dst AV.undef) h := rfl
theorem GuardK_ft (op : CO) (dst : Option Nat) (os : List CR) : GuardK call Q (.bool false) true op dst os st tm h = RunK call Q os st (put tm dst AV.undef) h := rfl
theorem GuardK_u (want : Bool) (op : CO) (dst : Option Nat) (os : List CR) : GuardK call Q AV.undef want op dst os st tm h = RunK call Q os st (put tm dst AV.undef) h := rfl
theorem GuardK_split {b want : Bool} {op : CO} {dst : Option Nat} {os : List CR} (h1 : b = true → GuardK call Q (.bool true) want op dst os st tm h) (h2 : b = false → GuardK call Q (.bool false) want op dst os st tm h) :
    GuardK call Q (.bool b) want op dst os st tm h := by
 cases b with
 | true => exact h1 rfl
 | false => exact h2 rfl
end
section
variable {call : Rec} {tm : List AV} {h : AH}
theorem op_mv (x : CA) : runOp call (.mv x) tm h = some (x.ev tm, h) := rfl
theorem op_un (op : UnOp) (x : CA) : runOp call (.un op x) tm h = (aun op (x.ev tm)).map fun v => (v, h) := rfl
theorem op_bin (op : BinOp) (e : EqT) (x y : CA) : runOp call (.bin op e x y) tm h = (abin op e (x.ev tm) (y.ev tm)).map fun v => (v, h) := rfl
def loadV (v : AV) (h : AH) (g : Option Nat) : Option (AV × AH) :=
 match v with
 | .ptr (some (b, o)) => (readVar h b o g).map fun v => (v, h)
 | _ => none
theorem loadV_ptr (b o : Nat) (g : Option Nat) : loadV (.ptr (some (b, o))) h g = (readVar h b o g).map fun v => (v, h) := rfl
theorem op_load (g : Option Nat) (x : CA) : runOp call (.load g x) tm h = loadV (x.ev tm) h g := by
 simp only [runOp, CO.quiet, quietRun, if_true, loadV]
 generalize x.ev tm = v
 cases v <;> first | rfl | skip
 rename_i a
 cases a <;> rfl
def faddrV (v : AV) (h : AH) (off : Nat) : Option (AV × AH) :=
 match v with
 | .ptr (some (b, o)) => some (.ptr (some (b, o + off)), h)
 | _ => none
theorem faddrV_ptr (b o off : Nat) : faddrV (.ptr (some (b, o))) h off = some (.ptr (some (b, o + off)), h) := rfl
theorem op_faddr (off : Nat) (x : CA) : runOp call (.faddr off x) tm h = faddrV (x.ev tm) h off := by
 simp only [runOp, CO.quiet, quietRun, if_true, faddrV]
 generalize x.ev tm = v
 cases v <;> first | rfl | skip
 rename_i a
 cases a <;> rfl
def pickV (c : AV) (x y : AV) (h : AH) : Option (AV × AH) :=
 match c with
 | .bool true => some (x, h)
 | .bool false => some (y, h)
 | _ => none
theorem pickV_true (x y : AV) : pickV (.bool true) x y h = some (x, h) := rfl
theorem pickV_false (x y : AV) : pickV (.bool false) x y h = some (y, h) := rfl
theorem pickV_bool (c a b : Bool) : pickV (.bool c) (.bool a) (.bool b) h = some (.bool (bif c then a else b), h) := by cases c <;> rfl
theorem pickV_same (c : Bool) (a : AV) : pickV (.bool c) a a h = some (a, h) := by cases c <;> rfl
theorem op_pick (c x y : CA) : runOp call (.pick c x y) tm h = pickV (c.ev tm) (x.ev tm) (y.ev tm) h := by
 simp only [runOp, CO.quiet, quietRun, if_true, pickV]
 generalize c.ev tm = v
 cases v <;> first | rfl | skip
 rename_i b
 cases b <;> rfl
def boxV (v : AV) (h : AH) : Option (AV × AH) := if v.cells.all AV.one then some (.ptr (some (h.n, 0)), h.push (.cells v.cells false)) else none
theorem op_box (x : CA) : runOp call (.box x) tm h = boxV (x.ev tm) h := rfl
theorem boxV_agg (cs : List AV) (hc : cs.all AV.one = true) : boxV (.agg cs) h = some (.ptr (some (h.n, 0)), h.push (.cells cs false)) := by
 unfold boxV; exact if_pos hc
theorem op_call (f : Nat) (args : List CA) : runOp call (.call (.f f) args) tm h = call f (args.map (CA.ev tm)) h := by
 simp only [runOp, CO.quiet, effRun, CA.ev, Bool.false_eq_true, if_false, List.nil_append, List.append_nil]
theorem op_build (z : List AV) (ps : List (Nat × Nat × CA)) : runOp call (.build z ps) tm h = (fillA tm z ps).map fun cs => (.agg cs, h) := by
 simp only [runOp, CO.quiet, quietRun, if_true, Option.map_map]
 rfl
def lenV (v : AV) (h : AH) : Option (AV × AH) :=
 match v with
 | .slice _ n _ => some (.int .i64 n, h)
 | _ => none
theorem lenV_slice (a : Option (Nat × Nat)) (n : Nat) (c : Cap) : lenV (.slice a n c) h = some (.int .i64 n, h) := rfl
theorem op_lenV (x : CA) : runOp call (.lenV x) tm h = lenV (x.ev tm) h := by
 simp only [runOp, CO.quiet, quietRun, if_true, lenV]
 generalize x.ev tm = v
 cases v <;> rfl
def lenSV (v : AV) (h : AH) : Option (AV × AH) :=
 match v with
 | .str s => some (.int .i64 s.length, h)
 | _ => none
theorem lenSV_str (s : List UInt8) : lenSV (.str s) h = some (.int .i64 s.length, h) := rfl
theorem op_lenS (x : CA) : runOp call (.lenS x) tm h = lenSV (x.ev tm) h := by
 simp only [runOp, CO.quiet, quietRun, if_true, lenSV]
 generalize x.ev tm = v
 cases v <;> rfl
def toIntV (k : IntKind) (v : AV) (h : AH) : Option (AV × AH) :=
 match v with
 | .int _ n => some (.int k (k.wrap n), h)
 | _ => none
theorem toIntV_int (k k' : IntKind) (n : Int) : toIntV k (.int k' n) h = some (.int k (k.wrap n), h) := rfl
theorem op_toInt (k : IntKind) (x : CA) : runOp call (.toInt k x) tm h = toIntV k (x.ev tm) h := by
 simp only [runOp, CO.quiet, quietRun, if_true, toIntV]
 generalize x.ev tm = v
 cases v <;> rfl
def iaddrV (esz : Nat) (v i : AV) (h : AH) : Option (AV × AH) :=
 match v, i with
 | .slice (some (b, o)) len _, .int _ n => if 0 ≤ n ∧ n < len then some (.ptr (some (b, o + n.toNat * esz)), h) else none
 | _, _ => none
theorem iaddrV_at {esz b o len : Nat} {c : Cap} {k : IntKind} {n : Int} (h0 : 0 ≤ n) (h1 : n < len) : iaddrV esz (.slice (some (b, o)) len c) (.int k n) h = some (.ptr (some (b, o + n.toNat * esz)), h) := by
 unfold iaddrV; exact if_pos ⟨h0, h1⟩
theorem iaddrV_nat {esz b o len i : Nat} {c : Cap} {k : IntKind} (h1 : i < len) : iaddrV esz (.slice (some (b, o)) len c) (.int k (i : Int)) h = some (.ptr (some (b, o + i * esz)), h) :=
 iaddrV_at (by omega) (by omega)
theorem op_iaddrS (esz : Nat) (x i : CA) : runOp call (.iaddrS esz x i) tm h = iaddrV esz (x.ev tm) (i.ev tm) h := by
 simp only [runOp, CO.quiet, quietRun, if_true, iaddrV]
 generalize x.ev tm = v
 generalize i.ev tm = u
 cases v <;> first | rfl | skip
 rename_i a _ _
 cases a <;> first | rfl | skip
 cases u <;> first | rfl | skip
 simp only
 split <;> rfl
theorem op_append (esz bytes : Nat) (s x : CA) : runOp call (.append esz bytes s x) tm h = appendRun esz bytes (s.ev tm) (x.ev tm) h := rfl
theorem op_litS (esz len : Nat) (zero : List AV) (ps : List (Nat × Nat × CA)) : runOp call (.litS esz len zero ps) tm h =
    (match fillA tm (reps zero len) ps with | some cs => if cs.all AV.one then some (.slice (some (h.n, 0)) len (.exact len), h.push (.cells cs false)) else none | none => none) := rfl
theorem op_ext (i : Nat) (x : CA) : runOp call (.ext i x) tm h = (match x.ev tm with | .tuple vs => vs[i]? | _ => none).map fun v => (v, h) := rfl
def storeV (n : Nat) (a v : AV) (h : AH) : Option (AV × AH) :=
 match a with
 | .ptr (some (b, o)) => if v.cells.length = n then (writeCells h b o v.cells).map fun h' => (AV.undef, h') else none
 | _ => none
theorem storeV_ptr (n b o : Nat) (v : AV) : storeV n (.ptr (some (b, o))) v h = if v.cells.length = n then (writeCells h b o v.cells).map fun h' => (AV.undef, h') else none := rfl
theorem op_store (n : Nat) (a x : CA) : runOp call (.store n a x) tm h = storeV n (a.ev tm) (x.ev tm) h := by
 simp only [runOp, CO.quiet, Bool.false_eq_true, if_false, effRun, storeV]
 generalize a.ev tm = v
 cases v <;> rfl
theorem op_alloc (z : List AV) : runOp call (.alloc z) tm h = some (.ptr (some (h.n, 0)), h.push (.cells z false)) := rfl
end
def leafK (q : SK) (x y : Option AV) (r : Option Bool) : Option Bool :=
 match x, y with
 | some x, some y => match scalEq q x y with
   | some true => r
   | some false => some false
   | none => none
 | _, _ => none
theorem aeqK_agg (sz : Nat) (ls : List (Nat × SK)) (xs ys : List AV) : aeq (.agg sz ls) (.agg xs) (.agg ys) = if xs.length = sz ∧ ys.length = sz then leavesEq xs ys ls else none := rfl
theorem aeqK_scal (a b : Bool) : aeq .scal (.bool a) (.bool b) = some (a == b) := rfl
theorem leavesK_nil (xs ys : List AV) : leavesEq xs ys [] = some true := rfl
theorem leavesK_cons (xs ys : List AV) (i : Nat) (q : SK) (is : List (Nat × SK)) : leavesEq xs ys ((i, q) :: is) = leafK q xs[i]? ys[i]? (leavesEq xs ys is) := by
 simp only [leavesEq, leafK]
 cases xs[i]? <;> cases ys[i]? <;> rfl
theorem leafK_i (k : IntKind) (a b : Int) (r : Bool) : leafK .i (some (.int k a)) (some (.int k b)) (some r) = some (a == b && r) := by
 simp only [leafK, scalEq, if_true]
 cases a == b <;> rfl
theorem leafK_b (a b r : Bool) : leafK .b (some (.bool a)) (some (.bool b)) (some r) = some (a == b && r) := by
 simp only [leafK, scalEq]
 cases a == b <;> rfl
theorem leafK_s (a b : List UInt8) (r : Bool) : leafK .s (some (.str a)) (some (.str b)) (some r) = some (decide (a = b) && r) := by
 simp only [leafK, scalEq]
 cases decide (a = b) <;> rfl
theorem settle_keep {h h' : AH} {v : AV} (hl : h.n ≤ h'.low) (hv : v.under h.n = true) : Fs.settle h h' v = (v, h) := by
 unfold Fs.settle; rw [if_pos ⟨hl, hv⟩]
theorem settle_new {h h' : AH} {v : AV} (hv : v.under h.n = false) : Fs.settle h h' v = (v, h'.withLow (min h.low h'.low)) := by
 unfold Fs.settle; rw [if_neg (by simp [hv])]
def closeOp (tm : List AV) : CO → CO
 | .load g x => .load g (.c (x.ev tm))
 | .lookup q z ok m k => .lookup q z ok (.c (m.ev tm)) (.c (k.ev tm))
 | .b2s x => .b2s (.c (x.ev tm))
 | .lenM x => .lenM (.c (x.ev tm))
 | .toUns x => .toUns (.c (x.ev tm))
 | .fromUns t n x => .fromUns t n (.c (x.ev tm))
 | o => o
theorem closeOp_run {o : CO} (hr : o.reads = true) (tm : List AV) (h : AH) : quietRun (closeOp tm o) [] h = quietRun o tm h := by
 cases o <;> first | rfl | (simp [CO.reads] at hr)
def KeptOne : List AH → CO → AV → Prop
 | [], _, _ => True
 | h :: hs, c, v => quietRun c [] h = some v ∧ KeptOne hs c v
def Kept (hs : List AH) : List (Nat × Nat × CO × AV) → Prop
 | [] => True
 | (lo, hi, c, v) :: pr => KeptOne ((hs.drop lo).take (hi + 1 - lo)) c v ∧ Kept hs pr
theorem calm_quiet {call : Rec} {o : CD} (hs : o.still = false) (hc : o.calm = true) (tm : List AV) (h : AH) : calmRun call o tm h = quietRun o.op tm h := by
 unfold calmRun
 rw [if_pos (by simpa [CD.calm, hs] using hc)]
theorem keptOne_all {call : Rec} {o : CD} (hs : o.still = false) (hc : o.calm = true) (hr : o.op.reads = true) {tm : List AV} {v : AV} : ∀ {hs : List AH}, KeptOne hs (closeOp tm o.op) v → hs.all (agrees call o tm v) = true
 | [], _ => rfl
 | h :: hs', ⟨h1, h2⟩ => by
   rw [List.all_cons, keptOne_all hs hc hr h2, Bool.and_true]
   rw [closeOp_run hr] at h1
   unfold agrees
   rw [calm_quiet hs hc, h1]
   exact AV.same_refl v
theorem kept_append {hs : List AH} {b : List (Nat × Nat × CO × AV)} : ∀ (a : List (Nat × Nat × CO × AV)), Kept hs (a ++ b) → Kept hs a ∧ Kept hs b
 | [], h => ⟨trivial, h⟩
 | (_, _, _, _) :: a, ⟨h1, h2⟩ => ⟨⟨h1, (kept_append a h2).1⟩, (kept_append a h2).2⟩
section
variable (call : Rec) (Q : AEx → List AV → AH → Prop) (st : List Fr)
def DrawK : List CD → List (Nat × Nat × CO × AV) → List AH → List AV → AH → Prop
 | [], pr, hs, tm, h => Kept (hs ++ [h]) pr ∧ RetK call Q st .normal tm h
 | o :: os, pr, hs, tm, h => o.still = false ∧
   if o.wanted tm then ∃ v h', runOp call o.op tm h = some (v, h') ∧ DrawK os (if o.op.reads then pr ++ [(o.lo, o.hi, closeOp tm o.op, v)] else pr) (if o.op.quiet then hs else hs ++ [h]) (put tm o.dst v) h'
   else DrawK os pr (if o.op.quiet then hs else hs ++ [h]) (put tm o.dst AV.undef) h
def DResK (r : Option (AV × AH)) (o : CD) (os : List CD) (pr : List (Nat × Nat × CO × AV)) (hs : List AH) (tm : List AV) (h : AH) : Prop :=
 ∃ v h', r = some (v, h') ∧ DrawK call Q st os (if o.op.reads then pr ++ [(o.lo, o.hi, closeOp tm o.op, v)] else pr) (if o.op.quiet then hs else hs ++ [h]) (put tm o.dst v) h'
def DGuardK (g : AV) (want : Bool) (o : CD) (os : List CD) (pr : List (Nat × Nat × CO × AV)) (hs : List AH) (tm : List AV) (h : AH) : Prop :=
 if g.same (.bool want) then DResK call Q st (runOp call o.op tm h) o os pr hs tm h
 else DrawK call Q st os pr (if o.op.quiet then hs else hs ++ [h]) (put tm o.dst AV.undef) h
end
section
variable {call : Rec} {Q : AEx → List AV → AH → Prop} {st : List Fr} {tm : List AV} {h : AH} {os : List CD} {pr : List (Nat × Nat × CO × AV)} {hs : List AH}
theorem runT_of : ∀ (os : List CD) (pr : List (Nat × Nat × CO × AV)) (hs : List AH) (tm : List AV) (h : AH), DrawK call Q st os pr hs tm h →
    ∃ rs' hs' tm' h', runT call os tm h = some (rs', hs', tm') ∧ hs'.getLast? = some h' ∧ RetK call Q st .normal tm' h' ∧ Kept (hs ++ hs') pr ∧ steady call (hs ++ hs') os rs' = true
 | [], pr, hs, tm, h, ⟨h1, h2⟩ => ⟨[], [h], tm, h, rfl, rfl, h2, h1, rfl⟩
 | o :: os, pr, hs, tm, h, hk => by
   have hcat : ∀ (b : Bool) (hs' : List AH), (if b then hs else hs ++ [h]) ++ hs' = hs ++ (if b then hs' else h :: hs') := fun b hs' => by cases b <;> simp
   have hlast : ∀ (b : Bool) (hs' : List AH) (h' : AH), hs'.getLast? = some h' → (if b then hs' else h :: hs').getLast? = some h' := fun b hs' h' hl => by
    cases b with
    | true => exact hl
    | false =>
      cases hs' with
      | nil => cases hl
      | cons a l => simpa using hl
   unfold DrawK at hk
   obtain ⟨hst, hk⟩ := hk
   have hcalm : o.calm = o.op.quiet := by simp [CD.calm, hst]
   have hlk : o.looksIn = o.op.reads := by simp [CD.looksIn, hst]
   split at hk
   · rename_i hw
     obtain ⟨v, h1, hrun, hk⟩ := hk
     obtain ⟨rs', hs', tm', h', g1, g2, g3, g4, g5⟩ := runT_of os _ _ _ _ hk
     rw [hcat] at g4 g5
     by_cases hq : o.op.quiet = true
     · have hrun' : ∃ u, quietRun o.op tm h = some u ∧ (u, h) = (v, h1) := by
         unfold runOp at hrun
         rw [if_pos hq] at hrun
         exact Option.map_eq_some_iff.1 hrun
       obtain ⟨u, hu, he⟩ := hrun'
       cases he
       have hc : o.calm = true := hcalm.trans hq
       simp only [hq, if_true] at g4 g5
       have hT : runT call (o :: os) tm h = some ((tm, v, true) :: rs', hs', tm') := by
        simp only [runT, hw, if_true, hc, calm_quiet hst hc, hu, Option.bind_some, g1, Option.map_some]
       by_cases hrd : o.op.reads = true
       · rw [if_pos hrd] at g4
         obtain ⟨k1, k2, _⟩ := kept_append _ g4
         refine ⟨_, hs', tm', h', hT, g2, g3, k1, ?_⟩
         simp only [steady, hc, hlk, hrd, Bool.and_self, Bool.not_true, Bool.false_or, Bool.and_eq_true, g5, and_true]
         exact keptOne_all hst hc hrd k2
       · rw [if_neg hrd] at g4
         refine ⟨_, hs', tm', h', hT, g2, g3, g4, ?_⟩
         simp only [steady, hlk, hrd, Bool.and_false, Bool.not_false, Bool.true_or, Bool.true_and, g5]
     · have hrd : o.op.reads = false := by
         cases ho : o.op <;> rw [ho] at hq <;> first | rfl | (exact absurd rfl hq)
       have hrun' : effRun call o.op tm h = some (v, h1) := by
        unfold runOp at hrun
        rwa [if_neg hq] at hrun
       have hc : ¬ o.calm = true := by rw [hcalm]; exact hq
       simp only [hq, hrd, Bool.false_eq_true, if_false] at g4 g5
       refine ⟨(tm, v, true) :: rs', h :: hs', tm', h', ?_, ?_, g3, g4, ?_⟩
       · simp only [runT, hw, if_true, hc, Bool.false_eq_true, if_false, hrun', Option.bind_some, g1, Option.map_some]
       · exact hlast false hs' h' g2
       · simp only [steady, hlk, hrd, Bool.and_false, Bool.not_false, Bool.true_or, Bool.true_and, g5]
   · rename_i hw
     obtain ⟨rs', hs', tm', h', g1, g2, g3, g4, g5⟩ := runT_of os _ _ _ _ hk
     rw [hcat] at g4 g5
     refine ⟨(tm, AV.undef, false) :: rs', if o.op.quiet then hs' else h :: hs', tm', h', ?_, hlast _ hs' h' g2, g3, g4, ?_⟩
     · simp only [runT, hw, Bool.false_eq_true, if_false, g1, Option.map_some, hcalm]
     · simp only [steady, Bool.false_and, Bool.not_false, Bool.true_or, Bool.true_and, g5]
theorem CodeK_regionD (os : List CD) (hk : DrawK call Q st os [] [] tm h) : CodeK call Q (.regionD os) st tm h := by
 obtain ⟨rs', hs', tm', h', g1, g2, g3, _, g5⟩ := runT_of os [] [] tm h hk
 refine WP.regionD (tm' := tm') (h' := h') ?_ g3
 unfold runD
 simp only [List.nil_append] at g5
 simp only [g1, g5, if_true]
 rw [List.getLastD_eq_getLast?, g2]
 rfl
theorem DrawK_nil : DrawK call Q st [] pr hs tm h = (Kept (hs ++ [h]) pr ∧ RetK call Q st .normal tm h) := rfl
theorem DrawK_cons (dst : Option Nat) (op : CO) (lo hi : Nat) : DrawK call Q st (⟨⟨dst, op, none⟩, lo, hi, false⟩ :: os) pr hs tm h = DResK call Q st (runOp call op tm h) ⟨⟨dst, op, none⟩, lo, hi, false⟩ os pr hs tm h :=
 propext ⟨fun hk => hk.2, fun hk => ⟨rfl, hk⟩⟩
theorem DrawK_guard (dst : Option Nat) (op : CO) (j : Nat) (want : Bool) (lo hi : Nat) : DrawK call Q st (⟨⟨dst, op, some (j, want)⟩, lo, hi, false⟩ :: os) pr hs tm h = DGuardK call Q st (tm.getD j AV.undef) want ⟨⟨dst, op, some (j, want)⟩, lo, hi, false⟩ os pr hs tm h := by
 have hw : (CR.mk dst op (some (j, want))).wanted tm = (tm.getD j AV.undef).same (.bool want) := by
  unfold CR.wanted
  simp only
  generalize tm.getD j AV.undef = v
  cases v <;> simp [AV.same]
 unfold DGuardK
 rw [← hw]
 exact propext ⟨fun hk => hk.2, fun hk => ⟨rfl, hk⟩⟩
theorem DResK_some (v : AV) (h' : AH) (o : CD) : DResK call Q st (some (v, h')) o os pr hs tm h = DrawK call Q st os (if o.op.reads then pr ++ [(o.lo, o.hi, closeOp tm o.op, v)] else pr) (if o.op.quiet then hs else hs ++ [h]) (put tm o.dst v) h' := by
 unfold DResK
 simp only [Option.some.injEq, Prod.mk.injEq]
 exact propext ⟨fun ⟨_, _, ⟨h1, h2⟩, h4⟩ => by subst h1 h2; exact h4, fun hk => ⟨_, _, ⟨rfl, rfl⟩, hk⟩⟩
theorem DGuardK_tt (o : CD) : DGuardK call Q st (.bool true) true o os pr hs tm h = DResK call Q st (runOp call o.op tm h) o os pr hs tm h := rfl
theorem DGuardK_ff (o : CD) : DGuardK call Q st (.bool false) false o os pr hs tm h = DResK call Q st (runOp call o.op tm h) o os pr hs tm h := rfl
theorem DGuardK_tf (o : CD) : DGuardK call Q st (.bool true) false o os pr hs tm h = DrawK call Q st os pr (if o.op.quiet then hs else hs ++ [h]) (put tm o.dst AV.undef) h := rfl
theorem DGuardK_ft (o : CD) : DGuardK call Q st (.bool false) true o os pr hs tm h = DrawK call Q st os pr (if o.op.quiet then hs else hs ++ [h]) (put tm o.dst AV.undef) h := rfl
theorem DGuardK_u (want : Bool) (o : CD) : DGuardK call Q st AV.undef want o os pr hs tm h = DrawK call Q st os pr (if o.op.quiet then hs else hs ++ [h]) (put tm o.dst AV.undef) h := rfl
theorem DGuardK_split {b want : Bool} {o : CD} (h1 : b = true → DGuardK call Q st (.bool true) want o os pr hs tm h) (h2 : b = false → DGuardK call Q st (.bool false) want o os pr hs tm h) :
    DGuardK call Q st (.bool b) want o os pr hs tm h := by
 cases b with
 | true => exact h1 rfl
 | false => exact h2 rfl
theorem kept_load (b o : Nat) (g : Option Nat) (tm0 : List AV) (h : AH) : quietRun (.load g (.c (.ptr (some (b, o))))) tm0 h = readVar h b o g := rfl
end
def DoneK (res : List CRes) (h : AH) (v : AV) (e : AEx) (tm : List AV) (h' : AH) : Prop :=
 (e = .normal ∨ e = .ret) ∧ h.n ≤ h'.low ∧ v.under h.n = true ∧ resAll tm h' res = some v
theorem acall_facts {orc : Orc} {tbl : Nat → Option CF} {f : Nat} {nt : Nat} {res : List CRes} {body : CC} (hno : orc f = none) (hf : tbl f = some ⟨nt, res, body⟩) {args : List AV} {h : AH} {R : AV → AH → Prop}
    (hw : CodeK (acall orc tbl) (fun e tm h' => (e = .normal ∨ e = .ret) ∧ ∃ v, resAll tm h' res = some v ∧ R (Fs.settle h h' v).1 (Fs.settle h h' v).2) body [] (args ++ List.replicate (nt - args.length) AV.undef) (h.withLow h.n)) :
    ∃ v h1, acall orc tbl f args h = some (v, h1) ∧ R v h1 := by
 obtain ⟨e, tm', h', h2, h3, v, h4, h5⟩ := hw
 refine ⟨_, _, acall_intro hno hf ?_, h5⟩
 unfold runFW
 rw [h2]
 rcases h3 with rfl | rfl <;> simp only [h4, Option.map_some]
theorem acall_sym {orc : Orc} {tbl : Nat → Option CF} {f : Nat} {nt : Nat} {res : List CRes} {body : CC} (hno : orc f = none) (hf : tbl f = some ⟨nt, res, body⟩) {args : List AV} {h : AH} {v : AV}
    (hw : CodeK (acall orc tbl) (DoneK res h v) body [] (args ++ List.replicate (nt - args.length) AV.undef) (h.withLow h.n)) : acall orc tbl f args h = some (v, h) := by
 refine acall_wp hno hf (WP.mono hw fun e tm' h' ⟨h1, h2, h3, h4⟩ => ⟨h1, ?_⟩)
 simp only [h4, Option.map_some, settle_keep h2 h3]
end Go.Fs
end

section
/- From an abstract run at what is handed in to a given statement: 'the law returns true; what was handed in reads as it did'. -/
namespace Go.Fs
open Go.RowKit Go.ChangeShapes
section
variable {H : Type} {enc : TypeId × Value → H} {P : Program}
theorem below_trodAll (hl : laidOutB P = true) {W W' : World} (hb : Below W.heap.size W W') : ∀ {ts : List TypeId} {vs : List Value} {ds : List (DataW H)} {ps : List MemPlace},
    (ts.all fun t => P.readableRec t && decide (t < P.types.size)) = true → DataW.TrodAll enc P W 0 (fun _ => true) true ts vs ds ps → (∀ x ∈ ps, x.block < W.heap.size) →
      DataW.TrodAll enc P W' 0 (fun b => decide (b < W.heap.size)) true ts vs ds ps
 | [], [], [], _, _, h, _ => h
 | t :: ts, v :: vs, d :: ds, ps, hts, ⟨p, q, h1, h2, he⟩, hlt => by
   subst he
   simp only [List.all_cons, Bool.and_eq_true, decide_eq_true_eq] at hts
   exact ⟨p, q, Below.trod hl hts.1.1 hts.1.2 h1 hb fun x hx => hlt x (List.mem_append_left _ hx), below_trodAll hl hb hts.2 h2 fun x hx => hlt x (List.mem_append_right _ hx), rfl⟩
theorem law_post (hl : laidOutB P = true) {f : Func} {s : ChangeSpec} {fresh handsOn : Bool} {W W' : World} {args : Array Value} {ds gs : List (DataW H)} {before : List MemPlace} {tb : TypeId}
    (hts : (f.params.toList.all fun t => P.readableRec t && decide (t < P.types.size)) = true) (hres : f.resultTypes = #[tb]) (hb : P.underlying tb = some .bool) (hs : s.vars = [])
    (hfn : s.fn H (ds ++ []) = { results := [.lit (.bool true)], args := ds }) (hW : DataW.Whole enc P f.params.toList s.vars false W args.toList ds gs before) (hB : Below W.heap.size W W') :
    s.post enc P f false fresh handsOn false W args (.bool true) W' := by
 have hW' := hW
 obtain ⟨p, q, hA, hV, he, _, _⟩ := hW'
 rw [hs] at hV
 obtain ⟨rfl, rfl⟩ := trodVars_none hV
 have hlt := hW.lt
 refine ⟨ds, [], before, [], p, [], hW, ?_, ?_, ?_, hB.frame _, fun h => by cases h⟩
 · rw [hres, hfn]
   exact trodAll_cons_mk (p := []) (shut_bool hb _) trodAll_mk0
 · rw [hfn]
   exact below_trodAll hl hB hts hA fun x hx => hlt x (by rw [he]; exact List.mem_append_left _ (by simpa using hx))
 · rw [hfn, hs]
   rfl
end
end Go.Fs
end

section
/- Lists of integers that are handed in. -/
namespace Go.Fs
section
variable {H : Type} {P : Program} {opq : TypeId → Bool}
def Ints (k : IntKind) (h : AH) (v : AV) (xs : List Int) : Prop :=
 ∃ (a : Option (Nat × Nat)) (c : Cap), v = .slice a xs.length c ∧ (∀ x ∈ xs, k.min ≤ x ∧ x ≤ k.max) ∧
  (xs = [] ∨ ∃ (b : Nat) (cells : List AV) (ro : Bool), a = some (b, 0) ∧ b < h.n ∧ h.get b = some (.cells cells ro) ∧ ∀ (i : Nat) (x : Int), xs[i]? = some x → cells[i]? = some (.int k x))
theorem Ints.mono {k : IntKind} {h h' : AH} {v : AV} {xs : List Int} (hi : Ints k h v xs) (hn : h.n ≤ h'.n) (ho : ∀ b, b < h.n → h'.get b = h.get b) : Ints k h' v xs := by
 obtain ⟨a, c, h1, h2, h3⟩ := hi
 refine ⟨a, c, h1, h2, ?_⟩
 rcases h3 with h3 | ⟨b, cells, ro, g1, g2, g3, g4⟩
 · exact .inl h3
 · exact .inr ⟨b, cells, ro, g1, by omega, by rw [ho b g2]; exact g3, g4⟩
theorem absD_int {k : IntKind} {e : TypeId} {f : Nat} (he : P.underlying e = some (.int k)) (n : Int) (h : AH) : absD (H := H) P opq (f + 1) e (.lit (.int k n)) h = some ([.int k n], h) := by
 conv => lhs; unfold absD
 simp [he]
theorem absD_slice {t e : TypeId} {f : Nat} (hu : P.underlying t = some (.slice e)) (ho : opq t = false) (xs ys : List (DataW H)) (h : AH) : absD P opq (f + 1) t (.slice xs ys) h =
    if xs.length + ys.length = 0 then some ([.slice (some (h.n, 0)) 0 (.exact 0)], h.push .dead) else if 0 < P.cellsOf e then
     (absL (absD P opq f e) (xs ++ ys) h).map fun (cs, h') => ([.slice (some (h'.n, 0)) xs.length (.exact (xs.length + ys.length))], h'.push (.cells cs true)) else none := by
 conv => lhs; unfold absD
 simp [hu, ho]
theorem absL_ints {k : IntKind} {e : TypeId} {f : Nat} (he : P.underlying e = some (.int k)) (h : AH) : ∀ (ns : List Int), absL (H := H) (absD P opq (f + 1) e) (ns.map fun n => .lit (.int k n)) h = some (ns.map (.int k ·), h)
 | [] => rfl
 | n :: ns => by
   rw [List.map_cons, absL, absD_int he]
   simp [absL_ints he h ns]
theorem absArg_ints {k : IntKind} {t e : TypeId} {f : Nat} (hu : P.underlying t = some (.slice e)) (he : P.underlying e = some (.int k)) (hc : P.cellsOf e = 1) (ho : opq t = false) {d : DataW H}
    (hd : d = .nil ∨ ∃ xs ys : List Int, d = .slice (xs.map fun n => .lit (.int k n)) (ys.map fun n => .lit (.int k n)) ∧ xs.length + ys.length ≤ maxLen ∧ (∀ n ∈ xs ++ ys, k.min ≤ n ∧ n ≤ k.max)) (h : AH) :
    ∃ v h' xs, absArg P opq (f + 2) t d h = some (v, h') ∧ Ints k h' v xs ∧ h.n ≤ h'.n ∧ (∀ b, b < h.n → h'.get b = h.get b) ∧ xs.length ≤ maxLen := by
 rcases hd with rfl | ⟨xs, ys, rfl, hl, hall⟩
 · refine ⟨.slice none 0 (.exact 0), h, [], ?_, ⟨none, .exact 0, rfl, by simp, .inl rfl⟩, Nat.le_refl _, fun _ _ => rfl, by simp⟩
   simp [absArg, absD, hu]
 · have hx : ∀ x ∈ xs, k.min ≤ x ∧ x ≤ k.max := fun x hx => hall x (by simp [hx])
   by_cases hz : xs.length + ys.length = 0
   · have hx0 : xs = [] := List.eq_nil_of_length_eq_zero (by omega)
     have hy0 : ys = [] := List.eq_nil_of_length_eq_zero (by omega)
     subst hx0 hy0
     refine ⟨.slice (some (h.n, 0)) 0 (.exact 0), h.push .dead, [], ?_, ⟨_, .exact 0, rfl, by simp, .inl rfl⟩, by simp, fun b hb => Hp.get_push_ne _ _ _ (by omega), by simp⟩
     unfold absArg
     rw [hu]
     simp only [absD_slice hu ho, List.map_nil, List.length_nil, Nat.add_zero, if_true, Option.bind_some]
   · refine ⟨.slice (some (h.n, 0)) xs.length (.exact (xs.length + ys.length)), h.push (.cells ((xs ++ ys).map (.int k ·)) true), xs, ?_, ⟨_, _, rfl, hx, .inr ⟨h.n, _, true, rfl, by simp, Hp.get_push_self _ _, fun i x hi => ?_⟩⟩, by simp, fun b hb => Hp.get_push_ne _ _ _ (by omega), by omega⟩
     · have := absL_ints (H := H) (P := P) (opq := opq) (f := f) he h (xs ++ ys)
       rw [List.map_append] at this
       unfold absArg
       rw [hu]
       simp only [absD_slice hu ho, List.length_map, if_neg hz, hc, this, Option.map_some, Option.bind_some, if_true, Nat.lt_one_iff]
     · have hlt : i < xs.length := (List.getElem?_eq_some_iff.1 hi).1
       rw [List.getElem?_map, List.getElem?_append_left hlt, hi]
       rfl
end
end Go.Fs
end

section
/- Laws with parameters over variables that read as listed, and one more that holds whatever number. -/
namespace Go.Fs
open Go.RowKit Go.ChangeShapes
section
variable {H : Type} {enc : TypeId × Value → H} {P : Program}
end
end Go.Fs
end

section
/- Rows that are written over to the end of their spare room: the rows are opened anew, with that room. -/
namespace Go.Fs
theorem BRel.back {ι ι' : Emb} {w w' : World} {b : Nat} {c : Blk} (hle : ι.le ι') (hbi : b < ι.n) (h1 : BRel ι w b c) (h2 : BRel ι' w' b c) : BRel ι w' b c := by
 have e1 := hle.blk b hbi
 have e2 := hle.sh b hbi
 have e3 := hle.size b hbi
 have e4 := hle.ty b hbi
 cases c with
 | cells cs ro =>
   obtain ⟨arr, e, fr, g1, g2, g3, g4⟩ := h2
   obtain ⟨arr0, e0, fr0, k1, k2, k3, k4⟩ := h1
   refine ⟨arr, e, fr, by rw [← e1]; exact g1, by rw [← e3]; exact g2, fun i c hc => ?_, fun hro => ⟨(g4.1 hro).1, by rw [← e2]; exact (g4.1 hro).2⟩, by rw [← e4]; exact g4.2⟩
   obtain ⟨x, g5, g6⟩ := g3 i c hc
   obtain ⟨x0, k5, k6⟩ := k3 i c hc
   exact ⟨x, by rw [← e2]; exact g5, g6.back hle k6.under⟩
 | map es =>
   obtain ⟨rs, cl, g1, g2⟩ := h2
   obtain ⟨rs0, cl0, k1, k2⟩ := h1
   refine ⟨rs, cl, by rw [← e1]; exact g1, ?_⟩
   clear g1 k1
   revert g2 k2
   generalize rs.toList = L
   generalize rs0.toList = L0
   induction es generalizing L L0 with
   | nil => intro g2 _; exact g2
   | cons p es ih =>
     obtain ⟨k, x⟩ := p
     intro g2 k2
     obtain ⟨r1, rs1, rfl, m1, m2, m3⟩ := g2
     obtain ⟨r2, rs2, rfl, n1, n2, n3⟩ := k2
     exact ⟨r1, rs1, rfl, m1.back hle n1.under, m2.back hle n2.under, ih _ _ m3 n3⟩
 | iter s p => exact ⟨by rw [← e1]; exact h2.1, by rw [← e2]; exact h2.2⟩
 | typ b' t => exact h1
 | dead => trivial
section
variable {P : Program} {G : Nat} {ι : Emb} {h : AH} {w : World}
end
end Go.Fs
end

section
/- Closed calls that read what lies in a first heap alone: what they come to over it, they come to over each heap that has grown out of it. -/
namespace Go.Fs
def Tr.allK {α : Type} : (Nat → α → Bool) → Tr α → Bool
 | _, .leaf => true
 | p, .node v l r => (match v with | none => true | some x => p 0 x) && (Tr.allK (fun k x => p (2 * k + 1) x) l && Tr.allK (fun k x => p (2 * k + 2) x) r)
theorem Tr.allK_get {α : Type} : ∀ {t : Tr α} {p : Nat → α → Bool} {k : Nat} {x : α}, Tr.allK p t = true → t.get k = some x → p k x = true
 | .leaf, p, k, x, _, h => by simp [Tr.get] at h
 | .node v l r, p, k, x, ha, h => by
   simp only [Tr.allK, Bool.and_eq_true] at ha
   unfold Tr.get at h
   split at h
   · rename_i h0
     subst h0
     have := ha.1
     rw [h] at this
     exact this
   · split at h
     · rename_i h1
       have := Tr.allK_get ha.2.1 h
       rwa [show 2 * (k / 2) + 1 = k by omega] at this
     · have := Tr.allK_get ha.2.2 h
       rwa [show 2 * (k / 2 - 1) + 2 = k by omega] at this
def Blk.plain (n : Nat) : Blk → Bool
 | .cells cs ro => ro && AV.unders n cs
 | .dead => true
 | _ => false
def heapOk (G : Nat) (h : AH) : Bool := Nat.ble G h.n && Tr.allK (fun b c => Nat.ble (b + 1) h.n && c.plain h.n) h.t
def Grown (h0 h : AH) : Prop := h0.n ≤ h.n ∧ ∀ b, b < h0.n → h.get b = h0.get b
theorem Grown.refl (h : AH) : Grown h h := ⟨Nat.le_refl _, fun _ _ => rfl⟩
theorem Grown.low {h0 h : AH} (g : Grown h0 h) (l : Nat) : Grown h0 (h.withLow l) := ⟨by simpa using g.1, fun b hb => by simpa using g.2 b hb⟩
theorem Grown.push {h0 h : AH} (g : Grown h0 h) (c : Blk) : Grown h0 (h.push c) := ⟨by have := g.1; simp; omega, fun b hb => by have := g.1; rw [Hp.get_push_ne _ _ _ (by omega)]; exact g.2 b hb⟩
theorem Grown.set {h0 h : AH} (g : Grown h0 h) {k : Nat} (hk : h0.n ≤ k) (c : Blk) : Grown h0 (h.set k c) := ⟨by simpa using g.1, fun b hb => by rw [Hp.get_set_ne _ _ _ _ (by omega)]; exact g.2 b hb⟩
theorem unders_at {n : Nat} : ∀ {cs : List AV} {i : Nat} {c : AV}, AV.unders n cs = true → cs[i]? = some c → c.under n = true
 | a :: as, 0, c, h, hc => by
   simp only [AV.unders, Bool.and_eq_true] at h
   simp only [List.getElem?_cons_zero, Option.some.injEq] at hc
   subst hc; exact h.1
 | a :: as, i + 1, c, h, hc => by
   simp only [AV.unders, Bool.and_eq_true] at h
   exact unders_at h.2 (by simpa using hc)
theorem Rel.sub {G : Nat} {ι : Emb} {h h0 : AH} {w : World} (r : Rel G ι h w) (hok : heapOk G h0 = true) (hg : Grown h0 h) : Rel G ⟨h0.n, ι.blk, ι.sh, ι.size, ι.ty⟩ h0 w ∧ ∀ b c, h0.get b = some c → ¬ c.rw := by
 simp only [heapOk, Bool.and_eq_true] at hok
 have hG : G ≤ h0.n := Nat.le_of_ble_eq_true hok.1
 have hat : ∀ b c, h0.get b = some c → b < h0.n ∧ c.plain h0.n = true := fun b c hb => by
  have := Tr.allK_get hok.2 (show h0.t.get b = some c from hb)
  simp only [Bool.and_eq_true] at this
  exact ⟨Nat.le_of_ble_eq_true this.1, this.2⟩
 have hle : (⟨h0.n, ι.blk, ι.sh, ι.size, ι.ty⟩ : Emb).le ι := ⟨by rw [r.n]; exact hg.1, fun _ _ => rfl, fun _ _ => rfl, fun _ _ => rfl, fun _ _ => rfl⟩
 have hro : ∀ b c, h0.get b = some c → ¬ c.rw := fun b c hb hrw => by
  have := (hat b c hb).2
  cases c with
  | cells cs ro => simp only [Blk.plain, Bool.and_eq_true] at this; simp only [Blk.rw] at hrw; rw [hrw] at this; cases this.1
  | dead => exact hrw
  | map es => cases this
  | typ a b => cases this
  | iter a b => cases this
 refine ⟨⟨rfl, fun b c hb => (hat b c hb).1, hG, r.glob, fun b c hb => ?_, fun b b' c c' hb _ _ hrw _ => absurd hrw (hro b c hb)⟩, hro⟩
 obtain ⟨h1, h2⟩ := hat b c hb
 have hb' : h.get b = some c := by rw [hg.2 b h1, hb]
 have hB := r.brel b c hb'
 cases c with
 | cells cs ro =>
   simp only [Blk.plain, Bool.and_eq_true] at h2
   obtain ⟨arr, e, fr, g1, g2, g3, g4, g5⟩ := hB
   refine ⟨arr, e, fr, g1, g2, fun i c hc => ?_, fun hh => (by rw [hh] at h2; cases h2.1), g5⟩
   obtain ⟨v, q1, q2⟩ := g3 i c hc
   exact ⟨v, q1, q2.back hle (unders_at h2.2 hc)⟩
 | dead => trivial
 | map es => cases h2
 | typ a b => cases h2
 | iter a b => cases h2
section
variable {P : Program}
open Classical in
theorem some_getD {α : Type} {o : Option α} {d : α} (h : o.isSome = true) : o = some (o.getD d) := by cases o <;> simp_all
end
end Go.Fs
end

section
/- Several functions told over one first heap. -/
namespace Go.Fs
variable {P : Program}
end Go.Fs
end

section
/- Laws with parameters over variables that read as listed, some of them interface values of which no more is known than that. -/
namespace Go.Fs
open Go.RowKit Go.ChangeShapes
theorem trod_ptr {H : Type} {P : Program} {enc : TypeId × Value → H} {w : World} {base : Nat} {sp : Nat → Bool} {held : Bool} {fuel : Nat} {t : TypeId} {cs : List Value} {x : DataW H} {ps : List MemPlace}
    (h : DataW.trod enc P w base sp held fuel t cs = some (.ptr x, ps)) : ∃ e, P.underlying t = some (.pointer e) := by
 cases fuel with
 | zero => cases h
 | succ f =>
   unfold DataW.trod at h
   split at h
   case h_6 => exact ⟨_, by assumption⟩
   all_goals first | (cases h; done) | skip
   all_goals (repeat' split at h)
   all_goals first | (cases h; done) | (simp only [Option.map_eq_some_iff, Prod.mk.injEq] at h; obtain ⟨x, h1, h2, h3⟩ := h; cases h2; done) | skip
   all_goals simp only [Option.bind_eq_some_iff, Option.map_eq_some_iff, Prod.mk.injEq] at h
   all_goals first | (obtain ⟨_, _, _, _, h2, _⟩ := h; cases h2; done) | skip
   all_goals (obtain ⟨_, _, h2⟩ := h; split at h2 <;> cases h2)
theorem trod_iface {H : Type} {P : Program} {enc : TypeId × Value → H} {w : World} {base : Nat} {sp : Nat → Bool} {fuel : Nat} {t : TypeId} {ms : Array (String × TypeId)} {cs : List Value} {s : String} {x : DataW H} {ps : List MemPlace} (hu : P.underlying t = some (.interface ms))
    (h : DataW.trod enc P w base sp false fuel t cs = some (.iface s (.ptr x), ps)) : ∃ u v e, cs = [.iface u v] ∧ P.underlying u = some (.pointer e) ∧ P.typeName? 3 u = some s := by
 cases fuel with
 | zero => cases h
 | succ f =>
   unfold DataW.trod at h
   split at h <;> rename_i h1 <;> (rw [hu] at h1) <;> first | (cases h1; done) | skip
   · cases h
   · split at h
     · cases h
     · simp only [Option.map_eq_some_iff, Prod.mk.injEq, DataW.iface.injEq] at h
       obtain ⟨⟨y, q⟩, h3, ⟨h5, h4⟩, _⟩ := h
       simp only at h4
       subst h4
       obtain ⟨e, he⟩ := trod_ptr h3
       refine ⟨_, _, e, rfl, he, ?_⟩
       rw [← h5]; assumption
     · cases h
   all_goals (cases h)
theorem laid_iface {P : Program} {w : World} {n s : String} {x : DataW Unit} {g t : Nat} {ms : Array (String × TypeId)} (hg : P.globalNamed n = some g) (ht : (P.globals[g]?).map (·.type) = some t) (hu : P.underlying t = some (.interface ms)) :
    ∀ {laid : List (String × DataW Unit)} {ps : List MemPlace}, DataW.LaidVars P w laid ps → (n, .iface s (.ptr x)) ∈ laid → ∃ u v e, w.cell? ⟨g, 0, none⟩ = some (.iface u v) ∧ P.underlying u = some (.pointer e) ∧ P.typeName? 3 u = some s ∧ MemPlace.cell g 0 ∈ ps
 | [], _, _, hm => by cases hm
 | (n', d') :: l, ps, hv, hm => by
   obtain ⟨g', t', cs, fuel, p, q, h1, h2, h3, h4, h5, h6⟩ := hv
   rcases List.mem_cons.1 hm with he | hm
   · cases he
     obtain rfl : g = g' := Option.some.inj (hg.symm.trans h1)
     obtain rfl : t = t' := Option.some.inj (ht.symm.trans h2)
     obtain ⟨u, v, e, hc, hp, ht⟩ := trod_iface hu h4
     have h0 : cs[0]? = some (.iface u v) := by
      have : cs.toList[0]? = some (.iface u v) := by rw [hc]; rfl
      simpa using this
     refine ⟨u, v, e, ?_, hp, ht, ?_⟩
     · unfold World.var? at h3
       rw [hg] at h3
       simp only [Option.bind_some] at h3
       split at h3
       · rename_i c e fr hh
         cases h3
         unfold World.cell?
         simp only [Option.isSome_none, Bool.false_eq_true, if_false, hh]
         exact h0
       · cases h3
     · subst h6
       have hsz : cs.size = 1 := by have := congrArg List.length hc; simpa using this
       rw [hsz]
       simp [MemPlace.row]
   · obtain ⟨u, v, e, k1, k2, k4, k3⟩ := laid_iface hg ht hu h5 hm
     exact ⟨u, v, e, k1, k2, k4, by subst h6; simp [k3]⟩
theorem laid_ifaceP {P : Program} {w : World} {n s : String} {d : DataW Unit} {x : DataW Unit} {g t : Nat} {ms : Array (String × TypeId)} (hg : P.globalNamed n = some g) (ht : (P.globals[g]?).map (·.type) = some t) (hu : P.underlying t = some (.interface ms)) {laid : List (String × DataW Unit)} (hw : laidMet P laid w) (hd : d = .iface s (.ptr x)) (hm : (n, d) ∈ laid) :
    ∃ u v, w.cell? ⟨g, 0, none⟩ = some (.iface u v) ∧ ∀ ι : Emb, VRel ι (.iface u (.junk true)) (.iface u v) := by
 subst hd
 obtain ⟨ps, hv, _, hok⟩ := hw
 obtain ⟨u, v, e, h1, h2, h4, h3⟩ := laid_iface hg ht hu hv hm
 obtain ⟨a, rfl⟩ := Go.WideShapes.okWide_pointer h2 ((hok g 0 h3).2 u v h1)
 exact ⟨u, _, h1, fun ι => by simp only [VRel]; exact ⟨_, rfl, rfl, by simp, fun _ => rfl⟩⟩
def GrownI (h0 h : AH) : Prop := h0.n ≤ h.n ∧ ∀ b, b < h0.n → h.get b = h0.get b ∨ ∃ u x, h.get b = some (.cells [.iface u x] true) ∧ h0.get b = some (.cells [.junk true] true)
theorem GrownI.of {h0 h1 h : AH} (g : GrownI h0 h1) (k : Grown h1 h) : GrownI h0 h :=
 ⟨Nat.le_trans g.1 k.1, fun b hb => by rw [k.2 b (Nat.lt_of_lt_of_le hb g.1)]; exact g.2 b hb⟩
theorem GrownI.refl (h : AH) : GrownI h h := ⟨Nat.le_refl _, fun _ _ => .inl rfl⟩
theorem GrownI.set {h : AH} {k : Nat} {u : TypeId} {x : AV} (hk : h.get k = some (.cells [.junk true] true)) {h0 : AH} (g : GrownI h0 h) (h0k : h0.get k = some (.cells [.junk true] true)) : GrownI h0 (h.set k (.cells [.iface u x] true)) :=
 ⟨g.1, fun b hb => by
  by_cases e : b = k
  · subst e
    exact .inr ⟨u, x, Hp.get_set_self _ _ _, h0k⟩
  · rw [Hp.get_set_ne _ _ _ _ e]; exact g.2 b hb⟩
theorem Rel.subI {G : Nat} {ι : Emb} {h h0 : AH} {w : World} (r : Rel G ι h w) (hok : heapOk G h0 = true) (hg : GrownI h0 h) : Rel G ⟨h0.n, ι.blk, ι.sh, ι.size, ι.ty⟩ h0 w ∧ ∀ b c, h0.get b = some c → ¬ c.rw := by
 simp only [heapOk, Bool.and_eq_true] at hok
 have hG : G ≤ h0.n := Nat.le_of_ble_eq_true hok.1
 have hat : ∀ b c, h0.get b = some c → b < h0.n ∧ c.plain h0.n = true := fun b c hb => by
  have := Tr.allK_get hok.2 (show h0.t.get b = some c from hb)
  simp only [Bool.and_eq_true] at this
  exact ⟨Nat.le_of_ble_eq_true this.1, this.2⟩
 have hle : (⟨h0.n, ι.blk, ι.sh, ι.size, ι.ty⟩ : Emb).le ι := ⟨by rw [r.n]; exact hg.1, fun _ _ => rfl, fun _ _ => rfl, fun _ _ => rfl, fun _ _ => rfl⟩
 have hro : ∀ b c, h0.get b = some c → ¬ c.rw := fun b c hb hrw => by
  have := (hat b c hb).2
  cases c with
  | cells cs ro => simp only [Blk.plain, Bool.and_eq_true] at this; simp only [Blk.rw] at hrw; rw [hrw] at this; cases this.1
  | dead => exact hrw
  | map es => cases this
  | typ a b => cases this
  | iter a b => cases this
 refine ⟨⟨rfl, fun b c hb => (hat b c hb).1, hG, r.glob, fun b c hb => ?_, fun b b' c c' hb _ _ hrw _ => absurd hrw (hro b c hb)⟩, hro⟩
 obtain ⟨h1, h2⟩ := hat b c hb
 rcases hg.2 b h1 with he | ⟨u, x, he, he0⟩
 · have hb' : h.get b = some c := by rw [he, hb]
   have hB := r.brel b c hb'
   cases c with
   | cells cs ro =>
     simp only [Blk.plain, Bool.and_eq_true] at h2
     obtain ⟨arr, e, fr, g1, g2, g3, g4, g5⟩ := hB
     refine ⟨arr, e, fr, g1, g2, fun i c hc => ?_, fun hh => (by rw [hh] at h2; cases h2.1), g5⟩
     obtain ⟨v, q1, q2⟩ := g3 i c hc
     exact ⟨v, q1, q2.back hle (unders_at h2.2 hc)⟩
   | dead => trivial
   | map es => cases h2
   | typ a b => cases h2
   | iter a b => cases h2
 · rw [he0] at hb
   cases hb
   have hB := r.brel b _ he
   obtain ⟨arr, e, fr, g1, g2, g3, g4, g5⟩ := hB
   refine ⟨arr, e, fr, g1, g2, fun i c hc => ?_, fun hh => (by cases hh), g5⟩
   cases i with
   | zero =>
     obtain ⟨v, q1, q2⟩ := g3 0 _ rfl
     simp only [VRel] at q2
     obtain ⟨rx, rfl, _⟩ := q2
     simp at hc
     subst hc
     exact ⟨_, q1, by simp only [VRel]; exact ⟨rfl, by simp, fun _ => rfl⟩⟩
   | succ i => simp at hc
section
variable {P : Program}
theorem good_overI (hm : P.follows .mixedOrders = true) {orc : Orc} (ho : GoodOrc P orc) {n f : Nat} (hb : ((P.funcs[f]?).bind (·.body)).isSome = true) {args : List AV} {v : AV} {h0 h1 h : AH} (hok : heapOk P.globals.size h0 = true)
    (hr : runQ orc (tbl P) n f args h0 = some (v, h1)) (ha : AV.unders 0 args = true) (hv : v.under 0 = true) (hg : GrownI h0 h) : GoodAt P f args h v h := by
 rw [runQ_eq] at hr
 obtain ⟨k1, k2⟩ := (run_good hm ho n f args _ v h1 hr).body hb
 refine .inl ⟨k1, fun ι w rargs r hargs => ?_⟩
 obtain ⟨r0, hro⟩ := r.subI hok hg
 refine (k2 _ w rargs r0 (unders_any hargs ha)).mono fun e w' ⟨ι', rv, he, q1, q2, q3⟩ => ?_
 have hkept : ∀ k, k < w.heap.size → w'.heap[k]? = w.heap[k]? := fun k hk => q3.kept k hk fun b c hb hrw => absurd hrw (hro b c hb)
 exact ⟨ι, rv, he, under_any q1 hv, r.later hkept, ⟨ι.le_refl, q3.os, q3.tape, q3.output, q3.size, fun k hk _ => hkept k hk, fun b c hb hc => .inr ⟨b, c, hb, hc, rfl⟩, Nat.le_refl _, Nat.le_refl _, fun _ _ _ => rfl⟩⟩
open Classical in
noncomputable def orcOversI (P : Program) (orc : Orc) (h0 : AH) (n : Nat) (gs : List Nat) : Orc := fun f => match gs.contains f with
 | true => some fun args h => if GrownI h0 h ∧ AV.unders 0 args = true then (match runQ orc (tbl P) n f args h0 with
   | some (v, _) => if v.under 0 = true then some (v, h) else none
   | none => none) else none
 | false => orc f
theorem good_orcOversI (hm : P.follows .mixedOrders = true) {orc : Orc} (ho : GoodOrc P orc) {h0 : AH} (hok : heapOk P.globals.size h0 = true) {n : Nat} {gs : List Nat} (hb : (gs.all fun g => ((P.funcs[g]?).bind (·.body)).isSome) = true) : GoodOrc P (orcOversI P orc h0 n gs) := by
 intro f s hs args h v h' hv
 unfold orcOversI at hs
 split at hs
 · rename_i hc
   cases hs
   simp only at hv
   split at hv
   · rename_i hx
     split at hv
     · rename_i v0 h1 hrun
       split at hv
       · rename_i hv0
         cases hv
         exact good_overI hm ho (List.all_eq_true.1 hb f (List.contains_iff_mem.1 hc)) hok hrun hx.2 hv0 hx.1
       · cases hv
     · cases hv
   · cases hv
 · exact ho f s hs args h v h' hv
theorem acall_oversI {orc orc' : Orc} {h0 h : AH} {n g : Nat} {gs : List Nat} {args : List AV} {v : AV} (he : orc' g = orcOversI P orc h0 n gs g) (hc : gs.contains g = true) (hr : (runQ orc (tbl P) n g args h0).map Prod.fst = some v) (ha : AV.unders 0 args = true) (hv : v.under 0 = true) (hg : GrownI h0 h) :
    acall orc' (tbl P) g args h = some (v, h) := by
 classical
 obtain ⟨⟨x, h1⟩, h2, h3⟩ := Option.map_eq_some_iff.1 hr
 simp only at h3
 subst h3
 have e : orc' g = some fun args h => if GrownI h0 h ∧ AV.unders 0 args = true then (match runQ orc (tbl P) n g args h0 with
  | some (v, _) => if v.under 0 = true then some (v, h) else none
  | none => none) else none := by
  rw [he]
  unfold orcOversI
  rw [hc]
 refine acall_orc e ?_
 rw [if_pos ⟨hg, ha⟩, h2]
 simp only
 rw [if_pos hv]
end
section
variable {H : Type} {enc : TypeId × Value → H} {P : Program}
theorem law_laids (hm : P.follows .mixedOrders = true) {orc : Orc} {f k : Nat} (hb : ((P.funcs[f]?).bind (·.body)).isSome = true) {opq : TypeId → Bool} {fuel : Nat} {ts : List TypeId} {vs : Array Value} {ds : List (DataW H)} {ps : List MemPlace} {w : World} {base : Nat} {as : List AV} {h0 h h' : AH} {x : Bool}
    {laid : List (String × DataW Unit)} (ht : DataW.TrodAll enc P w 0 (fun _ => true) true ts vs.toList ds ps) (hok : ∀ (j : Nat) t v, ts[j]? = some t → vs.toList[j]? = some v → Value.okWide P w .any base t v)
    (hl : absLaid P k laid (start P.globals.size) = some h0) (hw : laidMet P laid w) {g g1 g2 : Nat} (hg : g < P.globals.size) (hg1 : g1 < P.globals.size) (hg2 : g2 < P.globals.size) {m : Int} (hc : w.cell? ⟨g, 0, none⟩ = some (.int .i64 m))
    {u1 u2 : TypeId} {v1 v2 : Value} (hc1 : w.cell? ⟨g1, 0, none⟩ = some (.iface u1 v1)) (hc2 : w.cell? ⟨g2, 0, none⟩ = some (.iface u2 v2)) (hj1 : ∀ ι : Emb, VRel ι (.iface u1 (.junk true)) (.iface u1 v1)) (hj2 : ∀ ι : Emb, VRel ι (.iface u2 (.junk true)) (.iface u2 v2))
    (ho : GoodOrc P orc) (ha : absArgs P opq fuel ts ds (((h0.set g (.cells [.int .i64 m] true)).set g1 (.cells [.iface u1 (.junk true)] true)).set g2 (.cells [.iface u2 (.junk true)] true)) = some (as, h)) (hr : acall orc (tbl P) f as h = some (.bool x, h')) :
    Calls P f vs w fun e w' => e = .returned (.bool x) ∧ Below w.heap.size w w' := by
 obtain ⟨ps0, hv, _⟩ := hw
 obtain ⟨ι, r, hro, hle⟩ := laid_rel hv hl (start_relW P.globals.size w) (fun b c hb => by rw [start_get] at hb; cases hb) (Emb.le_refl _)
 obtain ⟨r2, ro2⟩ := r.setVar hro hle hg hc (a := .int .i64 m) (by simp [VRel])
 obtain ⟨r3, ro3⟩ := r2.setVar ro2 hle hg1 hc1 (hj1 ι)
 obtain ⟨r4, ro4⟩ := r3.setVar ro3 hle hg2 hc2 (hj2 ι)
 obtain ⟨ι', r5, _, ro5, v⟩ := openArgs ht hok r4 ro4 ha
 have := calls_acall hm ho hb hr r5 v ro5
 simpa using this
end
end Go.Fs
end

section
/- Functions of Go's library that have no text: what the model's entries do, told ahead of the machine. -/
namespace Go.Fs
def extName (P : Program) (fn : Func) : Option (List AV → AH → Option (AV × AH)) :=
 if fn.name = "internal/abi.NoEscape" then some fun args h => match args with
  | [x] => some (x, h)
  | _ => none
 else if fn.name = "internal/bytealg.IndexByteString" then some fun args h => match args with
  | [.str s, .int .u8 c] => some (.int .i64 (Lib.indexByte s c.toNat.toUInt8), h)
  | _ => none
 else if fn.name = "internal/bytealg.CountString" then some fun args h => match args with
  | [.str s, .int .u8 c] => some (.int .i64 (Lib.countByte s c.toNat.toUInt8 : Nat), h)
  | _ => none
 else if fn.name = "internal/bytealg.MakeNoZero" then match fn.resultTypes.toList with
  | [t] => match P.underlying t with
    | some (.slice e) => some fun args h => match args with
      | [.int .i64 n] => if 0 ≤ n ∧ n ≤ 281474976710656 then some (.slice (some (h.n, 0)) n.toNat (.opn 1), (h.push (.cells (List.replicate n.toNat (.junk true)) false)).push (.typ h.n e)) else none
      | _ => none
    | _ => none
  | _ => none
 else none
def orcExt (P : Program) : Orc := fun f => match P.funcs[f]? with
 | some fn => match fn.body with
   | some _ => none
   | none => if fn.origin = "" then extName P fn else none
 | none => none
theorem next_empty : Extern.allNextRows.lookup "" = none := by kernel_rfl
theorem next_none {fn : Func} (ho : fn.origin = "") (h : Extern.allNextRows.lookup fn.name = none) : Extern.findNext fn = none := by
 unfold Extern.findNext
 simp [ho, h, next_empty]
theorem find_row {fn : Func} {e : Array Value → Sem Value} (h1 : Extern.allGenericRows.lookup fn.name = none) (h2 : Extern.allTypedRows.lookup fn.name = none) (h : Extern.allRows.lookup fn.name = some e) : Extern.find fn = some e := by
 unfold Extern.find
 simp [h1, h2, h]
theorem find_typed {fn : Func} {e : Array TypeId → Array TypeId → Array Value → Sem Value} (h1 : Extern.allGenericRows.lookup fn.name = none) (h2 : Extern.allTypedRows.lookup fn.name = some e) : Extern.find fn = some (e fn.params fn.resultTypes) := by
 unfold Extern.find
 simp [h1, h2]
theorem ext_pure {P : Program} {f : Nat} {fn : Func} {e : Array Value → Sem Value} (hf : P.funcs[f]? = some fn) (hb : fn.body = none) (hname : (fn.name == "runtime.NumGoroutine") = false)
    (hn : Extern.findNext fn = none) (he : Extern.find fn = some e) {args : List AV} {h : AH} {v : AV}
    (hrun : ∀ (ι : Emb) (w : World) (rargs : List Value), Rel P.globals.size ι h w → VRels ι args rargs → ∃ rv, (e rargs.toArray).run P w = .ok rv w ∧ VRel ι v rv) : GoodAt P f args h v h := by
 refine .inr ⟨⟨fn, hf, hb⟩, fun ι w rargs r ha => ?_⟩
 obtain ⟨rv, h1, h2⟩ := hrun ι w rargs r ha
 exact ⟨ι, rv, w, by rw [run_callFunc_extern hf hname (by simp [hb]) hn he, h1]; rfl, h2, r, Stp.refl _ _ _⟩
theorem digits_ints : ∀ (n t : Nat) (acc : Array Value), (∀ v ∈ acc.toList, ∃ k, v = .int .u8 k) → ∀ v ∈ (Extern.BytealgMakeNoZero.digits n t acc).toList, ∃ k, v = .int .u8 k
 | 0, _, _, h => h
 | n + 1, t, acc, h => by
   rw [Extern.BytealgMakeNoZero.digits]
   refine digits_ints n _ _ fun v hv => ?_
   rw [Array.toList_push, List.mem_append] at hv
   rcases hv with hv | hv
   · exact h v hv
   · simp at hv; exact ⟨_, hv⟩
theorem digits_size : ∀ (n t : Nat) (acc : Array Value), (Extern.BytealgMakeNoZero.digits n t acc).size = acc.size + n
 | 0, _, _ => rfl
 | n + 1, t, acc => by
   rw [Extern.BytealgMakeNoZero.digits, digits_size n]
   simp
   omega
theorem run_noZero {P : Program} (w : World) (ps : Array TypeId) (t e : TypeId) (ht : P.underlying t = some (.slice e)) (n : Nat) (hn : n ≤ 281474976710656) :
    ∃ cs : Array Value, (Extern.BytealgMakeNoZero.makeNoZero ps #[t] #[.int .i64 n]).run P w = .ok (.slice (some ⟨w.heap.size, 0, none⟩) n cs.size) (w.drew.drew.alloc (.cells cs e)) ∧ n ≤ cs.size ∧ cs.size ≤ maxLen ∧ ∀ v ∈ cs.toList, ∃ k, v = .int .u8 k := by
 have hdef : Extern.BytealgMakeNoZero.makeNoZero ps #[t] #[.int .i64 n] =
     (do
       let .slice elem ← underlying t | stuck "bytealg.MakeNoZero: slice type expected"
       if (n : Int) < 0 || (n : Int) > 2 ^ 48 then runtimePanic (.error "makeslice: len out of range")
       let cap ← choose (.appendCap (n : Int).toNat 0 elem)
       askRoom cap
       let bytes ← choose (.extern "internal/bytealg.MakeNoZero.bytes" 0)
       let a ← newRow elem (Extern.BytealgMakeNoZero.digits cap bytes #[])
       pure (.slice (some a) (n : Int).toNat cap)) := rfl
 refine ⟨Extern.BytealgMakeNoZero.digits (grownCap w n 0 e) ((Question.extern "internal/bytealg.MakeNoZero.bytes" 0).cut (w.tape (w.drawn + 1) (.extern "internal/bytealg.MakeNoZero.bytes" 0))) #[], ?_, ?_, ?_, digits_ints _ _ _ (by simp)⟩
 · rw [hdef]
   have h1 : ¬ (n : Int) < 0 := by omega
   have h2 : ¬ (281474976710656 : Int) < (n : Int) := by omega
   simp [run_underlying ht, h1, h2, Question.forced, newRow, digits_size, grownCap]
 · rw [digits_size]
   simpa using grownCap_ge w n 0 e
 · rw [digits_size]
   simpa using grownCap_le_maxLen w n 0 e (by have : maxLen = 9223372036854775807 := rfl; omega)
theorem one_rel' {ι : Emb} {a : AV} {rs : List Value} (h : VRels ι [a] rs) : ∃ r, rs = [r] ∧ VRel ι a r := by
 simp only [VRels] at h
 obtain ⟨r, rs', rfl, h1, rfl⟩ := h
 exact ⟨r, rfl, h1⟩
theorem two_rel' {ι : Emb} {a b : AV} {rs : List Value} (h : VRels ι [a, b] rs) : ∃ r s, rs = [r, s] ∧ VRel ι a r ∧ VRel ι b s := by
 simp only [VRels] at h
 obtain ⟨r, rs', rfl, h1, s, rs2, rfl, h2, rfl⟩ := h
 exact ⟨r, s, rfl, h1, h2⟩
theorem good_ext (P : Program) : GoodOrc P (orcExt P) := by
 intro f s hs args h v h' hv
 unfold orcExt at hs
 cases hf : P.funcs[f]? with
 | none => simp [hf] at hs
 | some fn =>
   simp only [hf] at hs
   cases hb : fn.body with
   | some b => simp [hb] at hs
   | none =>
     simp only [hb] at hs
     split at hs
     · rename_i ho
       unfold extName at hs
       split at hs
       · rename_i hnm
         cases hs
         simp only at hv
         split at hv
         · rename_i x
           cases hv
           refine ext_pure hf hb (by rw [hnm]; decide) (next_none ho (by rw [hnm]; kernel_rfl)) (e := Extern.AbiNoEscape.same) (find_row (by rw [hnm]; kernel_rfl) (by rw [hnm]; kernel_rfl) (by rw [hnm]; kernel_rfl)) fun ι w rargs r ha => ?_
           obtain ⟨rx, rfl, h1⟩ := one_rel' ha
           exact ⟨rx, rfl, h1⟩
         · cases hv
       split at hs
       · rename_i hnm
         cases hs
         simp only at hv
         split at hv
         · rename_i x c
           cases hv
           refine ext_pure hf hb (by rw [hnm]; decide) (next_none ho (by rw [hnm]; kernel_rfl)) (e := Extern.BytealgIndexByte.indexByte) (find_row (by rw [hnm]; kernel_rfl) (by rw [hnm]; kernel_rfl) (by rw [hnm]; kernel_rfl)) fun ι w rargs r ha => ?_
           obtain ⟨rx, ry, rfl, h1, h2⟩ := two_rel' ha
           rw [str_of h1, int_of h2]
           exact ⟨_, Lib.run_indexByteString _ _ w, by simp [VRel]⟩
         · cases hv
       split at hs
       · rename_i hnm
         cases hs
         simp only at hv
         split at hv
         · rename_i x c
           cases hv
           refine ext_pure hf hb (by rw [hnm]; decide) (next_none ho (by rw [hnm]; kernel_rfl)) (e := Extern.BytealgCount.count) (find_row (by rw [hnm]; kernel_rfl) (by rw [hnm]; kernel_rfl) (by rw [hnm]; kernel_rfl)) fun ι w rargs r ha => ?_
           obtain ⟨rx, ry, rfl, h1, h2⟩ := two_rel' ha
           rw [str_of h1, int_of h2]
           exact ⟨_, Lib.run_countString _ _ w, by simp [VRel]⟩
         · cases hv
       split at hs
       · rename_i hnm
         split at hs
         · rename_i t ht
           split at hs
           · rename_i e hu
             cases hs
             simp only at hv
             split at hv
             · rename_i n
               split at hv
               · rename_i hle
                 cases hv
                 have hres : fn.resultTypes = #[t] := by apply Array.ext'; simpa using ht
                 refine .inr ⟨⟨fn, hf, hb⟩, fun ι w rargs r ha => ?_⟩
                 obtain ⟨rx, rfl, h1⟩ := one_rel' ha
                 rw [int_of h1]
                 obtain ⟨cs, g1, g2, g2m, g3⟩ := run_noZero (P := P) w fn.params t e hu n.toNat (by omega)
                 rw [show ((n.toNat : Nat) : Int) = n by omega] at g1
                 have hcall := run_callFunc_extern hf (by rw [hnm]; decide) (by simp [hb]) (next_none ho (by rw [hnm]; kernel_rfl)) (find_typed (e := Extern.BytealgMakeNoZero.makeNoZero) (by rw [hnm]; kernel_rfl) (by rw [hnm]; kernel_rfl)) [Value.int .i64 n].toArray w
                 rw [hres, g1] at hcall
                 obtain ⟨k1, k2⟩ := new_ok (G := P.globals.size) (r.drew.drew) e (cs := List.replicate n.toNat (.junk true)) (arr := cs) (fun i c hc => by
                  obtain ⟨hi, hci⟩ := List.getElem?_eq_some_iff.1 hc
                  simp only [List.length_replicate] at hi
                  simp only [List.getElem_replicate] at hci
                  subst hci
                  obtain ⟨k, hk⟩ := g3 (cs[i]'(by omega)) (by simp)
                  refine ⟨cs[i]'(by omega), by simp, ?_⟩
                  rw [hk]
                  simp only [VRel]
                  exact ⟨rfl, fun b hb => (by cases hb), fun _ => rfl⟩) (fun j v hj hv => by
                  obtain ⟨k, hk⟩ := g3 v (List.mem_of_getElem? (i := j) (by rw [Array.getElem?_toList]; exact hv))
                  exact ⟨.int .u8 k, fun _ => by simp [VRel, hk]⟩)
                 have hn : ι.n = h.n := r.n
                 have hdz : w.drew.drew.heap.size = w.heap.size := rfl
                 obtain ⟨k3, k4⟩ := pushTyp k1 (b := h.n) (t := e) (by rw [← hn]; simp) (by rw [← hn]; simp) (by rw [← hn]; simp)
                 refine ⟨_, _, _, hcall, ?_, k3, (((Stp.drew ι h w).trans (Stp.drew ι h w.drew)).trans k2).trans k4⟩
                 refine VRel.mono (Emb.le_add _ _ _ _ _) ?_
                 simp only [VRel]
                 refine ⟨by rw [← hn]; simp, by omega, 0, cs.size, by rw [← hn]; simp [hdz], g2m, .inl ⟨by rw [← hn]; simp, by omega, by rw [← hn]; simp⟩⟩
               · cases hv
             · cases hv
           · cases hs
         · cases hs
       · cases hs
     · cases hs
end Go.Fs
end

section
/- Regions some of whose calls leave the heap as it is ('still'): their symbolic steps. -/
namespace Go.Fs
section
variable (call : Rec)
def StillOne : List AH → Nat → List AV → AV → Prop
 | [], _, _, _ => True
 | h :: hs, f, as, v => (∃ h', call f as (h.withLow h.n) = some (v, h') ∧ h'.n = h.n ∧ h.n ≤ h'.low) ∧ StillOne hs f as v
def Stills (hs : List AH) : List (Nat × Nat × Nat × List AV × AV) → Prop
 | [] => True
 | (lo, hi, f, as, v) :: sp => StillOne call ((hs.drop lo).take (hi + 1 - lo)) f as v ∧ Stills hs sp
variable (Q : AEx → List AV → AH → Prop) (st : List Fr)
def DrawS : List CD → List (Nat × Nat × CO × AV) → List (Nat × Nat × Nat × List AV × AV) → List AH → List AV → AH → Prop
 | [], pr, sp, hs, tm, h => Kept (hs ++ [h]) pr ∧ Stills call (hs ++ [h]) sp ∧ RetK call Q st .normal tm h
 | o :: os, pr, sp, hs, tm, h =>
   if o.wanted tm then
    (if o.still then (match o.op with
      | .call (.f f) args => ∃ v h', call f (args.map (CA.ev tm)) (h.withLow h.n) = some (v, h') ∧ h'.n = h.n ∧ h.n ≤ h'.low ∧ DrawS os pr (sp ++ [(o.lo, o.hi, f, args.map (CA.ev tm), v)]) hs (put tm o.dst v) h
      | _ => False)
    else ∃ v h', runOp call o.op tm h = some (v, h') ∧ DrawS os (if o.op.reads then pr ++ [(o.lo, o.hi, closeOp tm o.op, v)] else pr) sp (if o.op.quiet then hs else hs ++ [h]) (put tm o.dst v) h')
   else DrawS os pr sp (if o.calm then hs else hs ++ [h]) (put tm o.dst AV.undef) h
def DResS (r : Option (AV × AH)) (o : CD) (os : List CD) (pr : List (Nat × Nat × CO × AV)) (sp : List (Nat × Nat × Nat × List AV × AV)) (hs : List AH) (tm : List AV) (h : AH) : Prop :=
 ∃ v h', r = some (v, h') ∧ DrawS call Q st os (if o.op.reads then pr ++ [(o.lo, o.hi, closeOp tm o.op, v)] else pr) sp (if o.op.quiet then hs else hs ++ [h]) (put tm o.dst v) h'
def SResS (r : Option (AV × AH)) (dst : Option Nat) (lo hi f : Nat) (as : List AV) (os : List CD) (pr : List (Nat × Nat × CO × AV)) (sp : List (Nat × Nat × Nat × List AV × AV)) (hs : List AH) (tm : List AV) (h : AH) : Prop :=
 ∃ v h', r = some (v, h') ∧ h'.n = h.n ∧ h.n ≤ h'.low ∧ DrawS call Q st os pr (sp ++ [(lo, hi, f, as, v)]) hs (put tm dst v) h
end
section
variable {call : Rec} {Q : AEx → List AV → AH → Prop} {st : List Fr} {tm : List AV} {h : AH} {os : List CD} {pr : List (Nat × Nat × CO × AV)} {sp : List (Nat × Nat × Nat × List AV × AV)} {hs : List AH}
theorem stills_append {hs : List AH} {b : List (Nat × Nat × Nat × List AV × AV)} : ∀ (a : List (Nat × Nat × Nat × List AV × AV)), Stills call hs (a ++ b) → Stills call hs a ∧ Stills call hs b
 | [], h => ⟨trivial, h⟩
 | (_, _, _, _, _) :: a, ⟨h1, h2⟩ => ⟨⟨h1, (stills_append a h2).1⟩, (stills_append a h2).2⟩
theorem stillRun_call {f : Nat} {args : List CA} {tm : List AV} {h h' : AH} {v : AV} (h1 : call f (args.map (CA.ev tm)) (h.withLow h.n) = some (v, h')) (h2 : h'.n = h.n) (h3 : h.n ≤ h'.low) : stillRun call (.call (.f f) args) tm h = some v := by
 unfold stillRun
 simp only [effRun, CA.ev, List.nil_append, List.append_nil, h1]
 rw [if_pos ⟨h2, h3⟩]
theorem stillOne_all {o : CD} {f : Nat} {args : List CA} (ho : o.op = .call (.f f) args) {tm : List AV} {v : AV} : ∀ {hs : List AH}, StillOne call hs f (args.map (CA.ev tm)) v → hs.all (agrees call o tm v) = true
 | [], _ => rfl
 | h :: hs', ⟨⟨h', h1, h2, h3⟩, h4⟩ => by
   rw [List.all_cons, stillOne_all ho h4, Bool.and_true]
   unfold agrees calmRun
   rw [ho, if_neg (by simp [CO.quiet]), stillRun_call h1 h2 h3]
   exact AV.same_refl v
theorem runS_of : ∀ (os : List CD) (pr : List (Nat × Nat × CO × AV)) (sp : List (Nat × Nat × Nat × List AV × AV)) (hs : List AH) (tm : List AV) (h : AH), DrawS call Q st os pr sp hs tm h →
    ∃ rs' hs' tm' h', runT call os tm h = some (rs', hs', tm') ∧ hs'.getLast? = some h' ∧ RetK call Q st .normal tm' h' ∧ Kept (hs ++ hs') pr ∧ Stills call (hs ++ hs') sp ∧ steady call (hs ++ hs') os rs' = true
 | [], pr, sp, hs, tm, h, ⟨h1, h2, h3⟩ => ⟨[], [h], tm, h, rfl, rfl, h3, h1, h2, rfl⟩
 | o :: os, pr, sp, hs, tm, h, hk => by
   have hcat : ∀ (b : Bool) (hs' : List AH), (if b then hs else hs ++ [h]) ++ hs' = hs ++ (if b then hs' else h :: hs') := fun b hs' => by cases b <;> simp
   have hlast : ∀ (b : Bool) (hs' : List AH) (h' : AH), hs'.getLast? = some h' → (if b then hs' else h :: hs').getLast? = some h' := fun b hs' h' hl => by
    cases b with
    | true => exact hl
    | false =>
      cases hs' with
      | nil => cases hl
      | cons a l => simpa using hl
   unfold DrawS at hk
   split at hk
   · rename_i hw
     split at hk
     · rename_i hst
       split at hk
       · rename_i f args hop
         obtain ⟨v, h1, r1, r2, r3, hk⟩ := hk
         obtain ⟨rs', hs', tm', h', g1, g2, g3, g4, g6, g5⟩ := runS_of os _ _ _ _ _ hk
         obtain ⟨k1, k2, _⟩ := stills_append _ g6
         have hc : o.calm = true := by simp [CD.calm, hst]
         have hrun : calmRun call o tm h = some v := by
          unfold calmRun
          rw [hop, if_neg (by simp [CO.quiet]), stillRun_call r1 r2 r3]
         refine ⟨(tm, v, true) :: rs', hs', tm', h', ?_, g2, g3, g4, k1, ?_⟩
         · simp only [runT, hw, if_true, hc, hrun, Option.bind_some, g1, Option.map_some]
         · simp only [steady, hc, CD.looksIn, hst, Bool.true_or, Bool.and_self, Bool.not_true, Bool.false_or, Bool.and_eq_true, g5, and_true]
           exact stillOne_all hop k2
       · exact hk.elim
     · rename_i hst
       have hst : o.still = false := by simpa using hst
       have hcalm : o.calm = o.op.quiet := by simp [CD.calm, hst]
       have hlk : o.looksIn = o.op.reads := by simp [CD.looksIn, hst]
       obtain ⟨v, h1, hrun, hk⟩ := hk
       obtain ⟨rs', hs', tm', h', g1, g2, g3, g4, g6, g5⟩ := runS_of os _ _ _ _ _ hk
       rw [hcat] at g4 g5 g6
       by_cases hq : o.op.quiet = true
       · have hrun' : ∃ u, quietRun o.op tm h = some u ∧ (u, h) = (v, h1) := by
           unfold runOp at hrun
           rw [if_pos hq] at hrun
           exact Option.map_eq_some_iff.1 hrun
         obtain ⟨u, hu, he⟩ := hrun'
         cases he
         have hc : o.calm = true := hcalm.trans hq
         simp only [hq, if_true] at g4 g5 g6
         have hT : runT call (o :: os) tm h = some ((tm, v, true) :: rs', hs', tm') := by
          simp only [runT, hw, if_true, hc, calm_quiet hst hc, hu, Option.bind_some, g1, Option.map_some]
         by_cases hrd : o.op.reads = true
         · rw [if_pos hrd] at g4
           obtain ⟨k1, k2, _⟩ := kept_append _ g4
           refine ⟨_, hs', tm', h', hT, g2, g3, k1, g6, ?_⟩
           simp only [steady, hc, hlk, hrd, Bool.and_self, Bool.not_true, Bool.false_or, Bool.and_eq_true, g5, and_true]
           exact keptOne_all hst hc hrd k2
         · rw [if_neg hrd] at g4
           refine ⟨_, hs', tm', h', hT, g2, g3, g4, g6, ?_⟩
           simp only [steady, hlk, hrd, Bool.and_false, Bool.not_false, Bool.true_or, Bool.true_and, g5]
       · have hrd : o.op.reads = false := by
           cases ho : o.op <;> rw [ho] at hq <;> first | rfl | (exact absurd rfl hq)
         have hrun' : effRun call o.op tm h = some (v, h1) := by
          unfold runOp at hrun
          rwa [if_neg hq] at hrun
         have hc : ¬ o.calm = true := by rw [hcalm]; exact hq
         simp only [hq, hrd, Bool.false_eq_true, if_false] at g4 g5 g6
         refine ⟨(tm, v, true) :: rs', h :: hs', tm', h', ?_, ?_, g3, g4, g6, ?_⟩
         · simp only [runT, hw, if_true, hc, Bool.false_eq_true, if_false, hrun', Option.bind_some, g1, Option.map_some]
         · exact hlast false hs' h' g2
         · simp only [steady, hlk, hrd, Bool.and_false, Bool.not_false, Bool.true_or, Bool.true_and, g5]
   · rename_i hw
     obtain ⟨rs', hs', tm', h', g1, g2, g3, g4, g6, g5⟩ := runS_of os _ _ _ _ _ hk
     rw [hcat] at g4 g5 g6
     refine ⟨(tm, AV.undef, false) :: rs', if o.calm then hs' else h :: hs', tm', h', ?_, hlast _ hs' h' g2, g3, g4, g6, ?_⟩
     · simp only [runT, hw, Bool.false_eq_true, if_false, g1, Option.map_some]
     · simp only [steady, Bool.false_and, Bool.not_false, Bool.true_or, Bool.true_and, g5]
theorem CodeK_regionS (os : List CD) (hk : DrawS call Q st os [] [] [] tm h) : CodeK call Q (.regionD os) st tm h := by
 obtain ⟨rs', hs', tm', h', g1, g2, g3, _, _, g5⟩ := runS_of os [] [] [] tm h hk
 refine WP.regionD (tm' := tm') (h' := h') ?_ g3
 unfold runD
 simp only [List.nil_append] at g5
 simp only [g1, g5, if_true]
 rw [List.getLastD_eq_getLast?, g2]
 rfl
theorem DrawS_cons (dst : Option Nat) (op : CO) (lo hi : Nat) : DrawS call Q st (⟨⟨dst, op, none⟩, lo, hi, false⟩ :: os) pr sp hs tm h = DResS call Q st (runOp call op tm h) ⟨⟨dst, op, none⟩, lo, hi, false⟩ os pr sp hs tm h := rfl
theorem DrawS_still (dst : Option Nat) (f : Nat) (args : List CA) (lo hi : Nat) : DrawS call Q st (⟨⟨dst, .call (.f f) args, none⟩, lo, hi, true⟩ :: os) pr sp hs tm h = SResS call Q st (call f (args.map (CA.ev tm)) (h.withLow h.n)) dst lo hi f (args.map (CA.ev tm)) os pr sp hs tm h := rfl
theorem DResS_some (v : AV) (h' : AH) (o : CD) : DResS call Q st (some (v, h')) o os pr sp hs tm h = DrawS call Q st os (if o.op.reads then pr ++ [(o.lo, o.hi, closeOp tm o.op, v)] else pr) sp (if o.op.quiet then hs else hs ++ [h]) (put tm o.dst v) h' := by
 unfold DResS
 simp only [Option.some.injEq, Prod.mk.injEq]
 exact propext ⟨fun ⟨_, _, ⟨h1, h2⟩, h4⟩ => by subst h1 h2; exact h4, fun hk => ⟨_, _, ⟨rfl, rfl⟩, hk⟩⟩
end
end Go.Fs
end

section
/- Steps of the symbolic walk that look at one operation alone. -/
namespace Go.Fs
section
variable {call : Rec} {Q : AEx → List AV → AH → Prop} {st : List Fr} {tm tm' : List AV} {h h' : AH} {v : AV} {os : List CR} {dst : Option Nat} {op : CO}
theorem K_seq {a b : CC} (k : CodeK call Q a (.seq b :: st) tm h) : CodeK call Q (.seq a b) st tm h := by rw [CodeK_seq]; exact k
theorem K_region (k : RunK call Q os st tm h) : CodeK call Q (.region os) st tm h := by rw [CodeK_region]; exact k
theorem K_skip (k : RetK call Q st .normal tm h) : CodeK call Q .skip st tm h := by rw [CodeK_skip]; exact k
theorem K_ret (k : RetK call Q st .ret tm h) : CodeK call Q .ret st tm h := by rw [CodeK_ret]; exact k
theorem K_exit {i : Nat} (k : RetK call Q st (.exit i) tm h) : CodeK call Q (.exit i) st tm h := by rw [CodeK_exit]; exact k
theorem K_block {i : Nat} {c : CC} (k : CodeK call Q c (.block i :: st) tm h) : CodeK call Q (.block i c) st tm h := by rw [CodeK_block]; exact k
theorem K_cond {c : CA} {x y : CC} (hv : c.ev tm = v) (k : CondK call Q v x y st tm h) : CodeK call Q (.cond c x y) st tm h := by rw [CodeK_cond, hv]; exact k
theorem C_true {x y : CC} (k : CodeK call Q x st tm h) : CondK call Q (.bool true) x y st tm h := k
theorem C_false {x y : CC} (k : CodeK call Q y st tm h) : CondK call Q (.bool false) x y st tm h := k
theorem R_nil (k : RetK call Q st .normal tm h) : RunK call Q [] st tm h := by rw [RunK_nil]; exact k
theorem R_cons (hr : runOp call op tm h = some (v, h')) (ht : put tm dst v = tm') (k : RunK call Q os st tm' h') : RunK call Q (⟨dst, op, none⟩ :: os) st tm h := by
 rw [RunK_cons, hr, ResK_some, ht]; exact k
theorem R_any {g : Option (Nat × Bool)} (hg : CR.wanted ⟨dst, op, g⟩ tm = true) (hr : runOp call op tm h = some (v, h')) (ht : put tm dst v = tm') (k : RunK call Q os st tm' h') : RunK call Q (⟨dst, op, g⟩ :: os) st tm h := by
 obtain ⟨a, b, h1, h2⟩ := k
 refine ⟨a, b, ?_, h2⟩
 simp only [runOps, hg, if_true, hr, Option.bind_some, ht]
 exact h1
theorem R_skip {j : Nat} {w : Bool} (hg : CR.wanted ⟨dst, op, some (j, w)⟩ tm = false) (ht : put tm dst AV.undef = tm') (k : RunK call Q os st tm' h) : RunK call Q (⟨dst, op, some (j, w)⟩ :: os) st tm h := by
 obtain ⟨a, b, h1, h2⟩ := k
 refine ⟨a, b, ?_, h2⟩
 simp only [runOps, hg, Bool.false_eq_true, if_false, ht]
 exact h1
theorem R_ex {r : Option (AV × AH)} {R : AV → AH → Prop} (hr : runOp call op tm h = r) (hx : ∃ v h', r = some (v, h') ∧ R v h') (k : ∀ v h', R v h' → RunK call Q os st (put tm dst v) h') : RunK call Q (⟨dst, op, none⟩ :: os) st tm h := by
 rw [RunK_cons, hr]
 exact ResK_ex hx k
theorem R_tm (ht : tm = tm') (k : RunK call Q os st tm' h) : RunK call Q os st tm h := ht ▸ k
theorem T_nil {e : AEx} (k : Q e tm h) : RetK call Q [] e tm h := k
theorem T_seq {c : CC} (k : CodeK call Q c st tm h) : RetK call Q (.seq c :: st) .normal tm h := k
theorem T_seq_exit {c : CC} {i : Nat} (k : RetK call Q st (.exit i) tm h) : RetK call Q (.seq c :: st) (.exit i) tm h := k
theorem T_seq_ret {c : CC} (k : RetK call Q st .ret tm h) : RetK call Q (.seq c :: st) .ret tm h := k
theorem T_block {i : Nat} (k : RetK call Q st .normal tm h) : RetK call Q (.block i :: st) .normal tm h := k
theorem T_block_ret {i : Nat} (k : RetK call Q st .ret tm h) : RetK call Q (.block i :: st) .ret tm h := k
theorem T_block_exit {i : Nat} (k : RetK call Q st .normal tm h) : RetK call Q (.block i :: st) (.exit i) tm h := by rw [RetK_block_exit]; exact k
theorem T_block_exit_ne {i j : Nat} (hn : (i == j) = false) (k : RetK call Q st (.exit i) tm h) : RetK call Q (.block j :: st) (.exit i) tm h := by rw [RetK_block_exit_ne _ _ hn]; exact k
theorem T_inv {J : List AV → AH → Prop} (k : J tm h) : RetK call Q (.inv J :: st) .normal tm h := k
theorem T_inv_exit {J : List AV → AH → Prop} {i : Nat} (k : RetK call Q st (.exit i) tm h) : RetK call Q (.inv J :: st) (.exit i) tm h := k
theorem T_inv_ret {J : List AV → AH → Prop} (k : RetK call Q st .ret tm h) : RetK call Q (.inv J :: st) .ret tm h := k
variable {ds : List CD} {pr pr' : List (Nat × Nat × CO × AV)} {sp : List (Nat × Nat × Nat × List AV × AV)} {hs hs' : List AH} {lo hi : Nat}
theorem K_regionS (k : DrawS call Q st ds [] [] [] tm h) : CodeK call Q (.regionD ds) st tm h := CodeK_regionS _ k
theorem D_nil (k1 : Kept (hs ++ [h]) pr) (k2 : Stills call (hs ++ [h]) sp) (k : RetK call Q st .normal tm h) : DrawS call Q st [] pr sp hs tm h := ⟨k1, k2, k⟩
theorem D_cons (hr : runOp call op tm h = some (v, h')) (ht : put tm dst v = tm') (hp : (if op.reads then pr ++ [(lo, hi, closeOp tm op, v)] else pr) = pr') (hh : (if op.quiet then hs else hs ++ [h]) = hs') (k : DrawS call Q st ds pr' sp hs' tm' h') :
    DrawS call Q st (⟨⟨dst, op, none⟩, lo, hi, false⟩ :: ds) pr sp hs tm h := by
 rw [DrawS_cons, hr, DResS_some, ht, hp, hh]; exact k
theorem D_ex {r : Option (AV × AH)} {R : AV → AH → Prop} (h1 : op.reads = false) (h2 : op.quiet = false) (hr : runOp call op tm h = r) (hx : ∃ v h', r = some (v, h') ∧ R v h') (k : ∀ v h', R v h' → DrawS call Q st ds pr sp (hs ++ [h]) (put tm dst v) h') :
    DrawS call Q st (⟨⟨dst, op, none⟩, lo, hi, false⟩ :: ds) pr sp hs tm h := by
 obtain ⟨v, h', e, hR⟩ := hx
 exact D_cons (hr.trans e) rfl (by rw [h1]; rfl) (by rw [h2]; rfl) (k v h' hR)
theorem D_still {f : Nat} {args : List CA} {as : List AV} (ha : args.map (CA.ev tm) = as) (hr : call f as (h.withLow h.n) = some (v, h')) (hn : h'.n = h.n) (hl : h.n ≤ h'.low) (ht : put tm dst v = tm') (k : DrawS call Q st ds pr (sp ++ [(lo, hi, f, as, v)]) hs tm' h) :
    DrawS call Q st (⟨⟨dst, .call (.f f) args, none⟩, lo, hi, true⟩ :: ds) pr sp hs tm h := by
 rw [DrawS_still, ha]
 exact ⟨v, h', hr, hn, hl, by rw [ht]; exact k⟩
theorem D_tm (ht : tm = tm') (k : DrawS call Q st ds pr sp hs tm' h) : DrawS call Q st ds pr sp hs tm h := ht ▸ k
theorem D_wanted {j : Nat} {w : Bool} {s : Bool} (hg : tm.getD j AV.undef = .bool w) (k : DrawS call Q st (⟨⟨dst, op, none⟩, lo, hi, s⟩ :: ds) pr sp hs tm h) : DrawS call Q st (⟨⟨dst, op, some (j, w)⟩, lo, hi, s⟩ :: ds) pr sp hs tm h := by
 have e1 : CR.wanted ⟨dst, op, some (j, w)⟩ tm = true := by unfold CR.wanted; simp only [hg]; simp
 have e2 : CR.wanted ⟨dst, op, none⟩ tm = true := rfl
 unfold DrawS at k ⊢
 simp only [e1, e2, if_true] at k ⊢
 exact k
theorem D_not {j : Nat} {w : Bool} (hg : tm.getD j AV.undef = .bool (!w)) (hh : (if op.quiet then hs else hs ++ [h]) = hs') (ht : put tm dst AV.undef = tm') (k : DrawS call Q st ds pr sp hs' tm' h) : DrawS call Q st (⟨⟨dst, op, some (j, w)⟩, lo, hi, false⟩ :: ds) pr sp hs tm h := by
 have e1 : CR.wanted ⟨dst, op, some (j, w)⟩ tm = false := by unfold CR.wanted; simp only [hg]; cases w <;> rfl
 have e2 : CD.calm ⟨⟨dst, op, some (j, w)⟩, lo, hi, false⟩ = op.quiet := by simp [CD.calm]
 unfold DrawS
 simp only [e1, e2, Bool.false_eq_true, if_false, hh, ht]
 exact k
end
end Go.Fs
end

section
/- The steps' equations, bound together: one name for them all. -/
namespace Go.Fs
set_option linter.defProp false
noncomputable def opsB := (And.intro (And.intro (And.intro (And.intro (And.intro (And.intro @Go.Fs.op_lenS (And.intro @Go.Fs.lenSV_str @Go.Fs.op_lenV)) (And.intro @Go.Fs.lenV_slice (And.intro @Go.Fs.op_toInt @Go.Fs.toIntV_int))) (And.intro (And.intro @Go.Fs.op_iaddrS (And.intro @Nat.add_assoc @Nat.le_min)) (And.intro @Nat.le_add_right (And.intro @Nat.min_self @beq_self_eq_true.{0})))) (And.intro (And.intro (And.intro @bne_self_eq_false.{0} (And.intro @Bool.not_true @Bool.not_false)) (And.intro @decide_true (And.intro @decide_false @decide_eq_true_eq))) (And.intro (And.intro @Bool.and_eq_true (And.intro @List.mapM_cons.{0, 0, 0} @List.mapM_nil.{0, 0, 0})) (And.intro @Option.bind_eq_bind.{0} (And.intro @Option.pure_def.{0} @Go.Fs.aeqK_agg))))) (And.intro (And.intro (And.intro (And.intro @Go.Fs.aeqK_scal (And.intro @Go.Fs.leavesK_nil @Go.Fs.leavesK_cons)) (And.intro @Go.Fs.leafK_i (And.intro @Go.Fs.leafK_b @Go.Fs.leafK_s))) (And.intro (And.intro @Go.Fs.kept_load (And.intro @Go.Fs.op_mv @Go.Fs.op_un)) (And.intro @Go.Fs.op_bin (And.intro @Go.Fs.op_load @Go.Fs.loadV_ptr)))) (And.intro (And.intro (And.intro @Go.Fs.op_faddr (And.intro @Go.Fs.faddrV_ptr @Go.Fs.op_pick)) (And.intro @Go.Fs.pickV_true (And.intro @Go.Fs.pickV_false @Go.Fs.pickV_bool))) (And.intro (And.intro @Go.Fs.pickV_same (And.intro @Go.Fs.op_box @Go.Fs.boxV_agg)) (And.intro (And.intro @Go.Fs.op_call @Go.Fs.op_build) (And.intro @Go.Fs.op_ext @Go.Fs.op_alloc)))))) (And.intro (And.intro (And.intro (And.intro (And.intro @Go.Fs.op_store (And.intro @Go.Fs.storeV_ptr @List.all_cons.{0})) (And.intro @List.all_nil.{0} (And.intro @Bool.and_self @Bool.and_true))) (And.intro (And.intro @Bool.true_and (And.intro @List.getD_cons_zero.{0} @List.getD_cons_succ.{0})) (And.intro @Option.map_some.{0, 0} (And.intro @Option.bind_some.{0, 0} @List.map_cons.{0, 0})))) (And.intro (And.intro (And.intro @List.map_nil.{0, 0} (And.intro @Go.Fs.Hp.n_withLow @Go.Fs.Hp.n_push)) (And.intro @Go.Fs.Hp.n_set (And.intro @Go.Fs.Hp.low_withLow @Go.Fs.Hp.low_push))) (And.intro (And.intro @Go.Fs.Hp.low_set (And.intro @Go.Fs.Hp.get_push @Go.Fs.Hp.get_set)) (And.intro (And.intro @Go.Fs.Hp.get_withLow @Bool.false_eq_true) (And.intro @if_false.{1} @if_true.{1}))))) (And.intro (And.intro (And.intro (And.intro @List.getElem?_cons_zero.{0} (And.intro @List.getElem?_cons_succ.{0} @Nat.zero_add)) (And.intro @Nat.add_zero (And.intro @List.length_cons.{0} @List.length_nil.{0}))) (And.intro (And.intro @List.take_succ_cons.{0} (And.intro @List.take_zero.{0} @List.drop_zero.{0})) (And.intro @List.drop_succ_cons.{0} (And.intro @List.cons_append.{0} @List.nil_append.{0})))) (And.intro (And.intro (And.intro @List.append_nil.{0} (And.intro @and_true @true_and)) (And.intro @and_self (And.intro @or_true @true_or))) (And.intro (And.intro @cond_true.{1} (And.intro @cond_false.{1} @Nat.le_refl)) (And.intro (And.intro @Nat.add_eq_left @Nat.left_eq_add) (And.intro @Nat.add_right_cancel_iff @Nat.add_left_cancel_iff)))))))
noncomputable def ctlB := (And.intro (And.intro (And.intro (And.intro (And.intro @Go.Fs.RetK_inv @Go.Fs.RetK_inv_exit) (And.intro @Go.Fs.RetK_inv_ret (And.intro @Go.Fs.DrawK_nil @Go.Fs.DrawK_cons))) (And.intro (And.intro @Go.Fs.DrawK_guard @Go.Fs.DResK_some) (And.intro @Go.Fs.DGuardK_tt (And.intro @Go.Fs.DGuardK_ff @Go.Fs.DGuardK_tf)))) (And.intro (And.intro (And.intro @Go.Fs.DGuardK_ft @Go.Fs.DGuardK_u) (And.intro @Go.Fs.CodeK_seq (And.intro @Go.Fs.CodeK_region @Go.Fs.CodeK_skip))) (And.intro (And.intro @Go.Fs.CodeK_ret @Go.Fs.CodeK_exit) (And.intro @Go.Fs.CodeK_cond (And.intro @Go.Fs.CodeK_block @Go.Fs.CondK_true))))) (And.intro (And.intro (And.intro (And.intro @Go.Fs.CondK_false @Go.Fs.RunK_cons) (And.intro @Go.Fs.RunK_nil (And.intro @Go.Fs.RunK_guard @Go.Fs.GuardK_tt))) (And.intro (And.intro @Go.Fs.GuardK_ff @Go.Fs.GuardK_tf) (And.intro @Go.Fs.GuardK_ft (And.intro @Go.Fs.GuardK_u @Go.Fs.ResK_some)))) (And.intro (And.intro (And.intro @Go.Fs.RetK_nil @Go.Fs.RetK_seq) (And.intro @Go.Fs.RetK_seq_exit (And.intro @Go.Fs.RetK_seq_ret @Go.Fs.RetK_block))) (And.intro (And.intro @Go.Fs.RetK_block_ret @Go.Fs.RetK_block_exit) (And.intro @Go.Fs.RetK_block_exit_ne (And.intro @List.set_cons_zero.{0} @List.set_cons_succ.{0}))))))
noncomputable def fsEv := And.intro (And.intro @List.getD_cons_zero.{0} @List.getD_cons_succ.{0}) (And.intro (And.intro @Go.Fs.tmset_self @Go.Fs.tmset_ne) @List.length_set.{0})
noncomputable def fsPut := And.intro @List.set_cons_succ.{0} @List.set_cons_zero.{0}
noncomputable def fsAstr := And.intro @astr.eq_1 (And.intro @astr.eq_2 (And.intro @astr.eq_3 (And.intro @astr.eq_4 (And.intro @astr.eq_5 (And.intro @astr.eq_6 @astr.eq_7)))))
noncomputable def fsTm := And.intro @tmset_self (And.intro @tmset_ne @List.length_set.{0})
@[reducible] def Zm (d s : Nat) : CR := ⟨some d, .mv (.t s), none⟩
@[reducible] def Zl (d s : Nat) : CR := ⟨some d, .load none (.t s), none⟩
@[reducible] def Zf (d f s : Nat) : CR := ⟨some d, .faddr f (.t s), none⟩
@[reducible] def Ze (d f s : Nat) : CR := ⟨some d, .ext f (.t s), none⟩
@[reducible] def Zb (d : Nat) (o : BinOp) (x y : CA) : CR := ⟨some d, .bin o .other x y, none⟩
@[reducible] def Zo (d : Nat) (o : CO) : CR := ⟨some d, o, none⟩
@[reducible] def Zn (o : CO) : CR := ⟨none, o, none⟩
@[reducible] def Zg (d : Nat) (o : CO) (j : Nat) (w : Bool) : CR := ⟨some d, o, some (j, w)⟩
theorem Fj {a b : Prop} (x : a) (y : b) : a ∧ b := ⟨x, y⟩
class Red (A : Prop) (B : outParam Prop) : Prop where
 to : B → A
section
variable {call : Rec} {Q : AEx → List AV → AH → Prop} {st : List Fr} {tm tm' : List AV} {h h' : AH} {v : AV} {os : List CR} {dst : Option Nat} {op : CO}
instance {a b : CC} : Red (CodeK call Q (.seq a b) st tm h) (CodeK call Q a (.seq b :: st) tm h) := ⟨K_seq⟩
instance : Red (CodeK call Q (.region os) st tm h) (RunK call Q os st tm h) := ⟨K_region⟩
instance : Red (RunK call Q [] st tm h) (RetK call Q st .normal tm h) := ⟨R_nil⟩
instance {c : CC} : Red (RetK call Q (.seq c :: st) .normal tm h) (CodeK call Q c st tm h) := ⟨T_seq⟩
instance {x y : CC} : Red (CondK call Q (.bool true) x y st tm h) (CodeK call Q x st tm h) := ⟨C_true⟩
instance {x y : CC} : Red (CondK call Q (.bool false) x y st tm h) (CodeK call Q y st tm h) := ⟨C_false⟩
instance : Red (CodeK call Q .skip st tm h) (RetK call Q st .normal tm h) := ⟨K_skip⟩
instance {i : Nat} {c : CC} : Red (CodeK call Q (.block i c) st tm h) (CodeK call Q c (.block i :: st) tm h) := ⟨K_block⟩
instance : Red (CodeK call Q .ret st tm h) (RetK call Q st .ret tm h) := ⟨K_ret⟩
instance {i : Nat} : Red (CodeK call Q (.exit i) st tm h) (RetK call Q st (.exit i) tm h) := ⟨K_exit⟩
instance {i : Nat} : Red (RetK call Q (.block i :: st) .normal tm h) (RetK call Q st .normal tm h) := ⟨T_block⟩
instance {i : Nat} : Red (RetK call Q (.block i :: st) (.exit i) tm h) (RetK call Q st .normal tm h) := ⟨T_block_exit⟩
instance {i : Nat} : Red (RetK call Q (.block i :: st) .ret tm h) (RetK call Q st .ret tm h) := ⟨T_block_ret⟩
instance {c : CC} {i : Nat} : Red (RetK call Q (.seq c :: st) (.exit i) tm h) (RetK call Q st (.exit i) tm h) := ⟨T_seq_exit⟩
instance {c : CC} : Red (RetK call Q (.seq c :: st) .ret tm h) (RetK call Q st .ret tm h) := ⟨T_seq_ret⟩
instance {J : List AV → AH → Prop} : Red (RetK call Q (.inv J :: st) .normal tm h) (J tm h) := ⟨T_inv⟩
instance {J : List AV → AH → Prop} {i : Nat} : Red (RetK call Q (.inv J :: st) (.exit i) tm h) (RetK call Q st (.exit i) tm h) := ⟨T_inv_exit⟩
instance {J : List AV → AH → Prop} : Red (RetK call Q (.inv J :: st) .ret tm h) (RetK call Q st .ret tm h) := ⟨T_inv_ret⟩
instance {e : AEx} : Red (RetK call Q [] e tm h) (Q e tm h) := ⟨T_nil⟩
theorem A_any {g : Option (Nat × Bool)} (k : RunK call Q os st tm' h') (hg : CR.wanted ⟨dst, op, g⟩ tm = true := by (simp only [CR.wanted, CA.ev, fsEv, Nat.reduceBEq, Nat.reduceLT, fct]; first | done | (with_unfolding_all exact rfl))) (hr : runOp call op tm h = some (v, h') := by (simp (maxDischargeDepth := 12) only [opsB, Nat.reduceEqDiff, Nat.reduceBEq, Nat.reduceBNe, Int.reduceBEq, Int.reduceBNe, Int.reduceLT, Int.reduceLE, Int.reduceEq, AV.one, AV.cells, CA.ev, abin, aint, aun, isShift, readVar, readCell, readCells, writeCells, fillA, reduceIte, Nat.reduceAdd, Nat.reduceSub, Nat.reduceLT, Nat.reduceLeDiff, resAll, resOne, AV.under, AV.unders, cut, fsEv, Int.reduceToNat, fct]; (first | done | with_reducible rfl))) (ht : put tm dst v = tm' := by (simp only [put, fsPut]; (first | done | with_reducible rfl))) : RunK call Q (⟨dst, op, g⟩ :: os) st tm h := R_any hg hr ht k
theorem A_skip {j : Nat} {w : Bool} (k : RunK call Q os st tm' h) (hg : CR.wanted ⟨dst, op, some (j, w)⟩ tm = false := by (simp only [CR.wanted, CA.ev, fsEv, Nat.reduceBEq, Nat.reduceLT, fct]; first | done | (with_unfolding_all exact rfl))) (ht : put tm dst AV.undef = tm' := by (simp only [put, fsPut]; (first | done | with_reducible rfl))) : RunK call Q (⟨dst, op, some (j, w)⟩ :: os) st tm h := R_skip hg ht k
theorem A_cond {c : CA} {x y : CC} (k : CondK call Q v x y st tm h) (hv : c.ev tm = v := by (simp only [CA.ev, fsEv, Nat.reduceBEq, Nat.reduceLT, fct]; (first | done | with_reducible rfl))) : CodeK call Q (.cond c x y) st tm h := K_cond hv k
theorem A_exne {i j : Nat} (k : RetK call Q st (.exit i) tm h) (hn : (i == j) = false := by decide) : RetK call Q (.block j :: st) (.exit i) tm h := T_block_exit_ne hn k
variable {ds : List CD} {pr pr' : List (Nat × Nat × CO × AV)} {sp : List (Nat × Nat × Nat × List AV × AV)} {hs hs' : List AH} {lo hi : Nat}
instance : Red (CodeK call Q (.regionD ds) st tm h) (DrawS call Q st ds [] [] [] tm h) := ⟨K_regionS⟩
theorem A_dnil (k : RetK call Q st .normal tm h) (k1 : Kept (hs ++ [h]) pr := by (first | exact trivial | simp only [opsB, Nat.reduceEqDiff, Nat.reduceBEq, Nat.reduceBNe, Int.reduceBEq, Int.reduceBNe, Int.reduceLT, Int.reduceLE, Int.reduceEq, AV.one, AV.cells, CA.ev, abin, aint, aun, isShift, readVar, readCell, readCells, writeCells, fillA, reduceIte, Nat.reduceAdd, Nat.reduceSub, Nat.reduceLT, Nat.reduceLeDiff, resAll, resOne, AV.under, AV.unders, cut, fsEv, Kept, KeptOne, Stills, StillOne, List.drop_succ_cons, List.take_succ_cons, List.drop_nil, List.take_nil, kept_load, fct])) (k2 : Stills call (hs ++ [h]) sp := by (first | exact trivial | simp only [opsB, Nat.reduceEqDiff, Nat.reduceBEq, Nat.reduceBNe, Int.reduceBEq, Int.reduceBNe, Int.reduceLT, Int.reduceLE, Int.reduceEq, AV.one, AV.cells, CA.ev, abin, aint, aun, isShift, readVar, readCell, readCells, writeCells, fillA, reduceIte, Nat.reduceAdd, Nat.reduceSub, Nat.reduceLT, Nat.reduceLeDiff, resAll, resOne, AV.under, AV.unders, cut, fsEv, Kept, KeptOne, Stills, StillOne, List.drop_succ_cons, List.take_succ_cons, List.drop_nil, List.take_nil, kept_load, fct])) : DrawS call Q st [] pr sp hs tm h := D_nil k1 k2 k
theorem A_dcons (k : DrawS call Q st ds pr' sp hs' tm' h') (hr : runOp call op tm h = some (v, h') := by (simp (maxDischargeDepth := 12) only [opsB, Nat.reduceEqDiff, Nat.reduceBEq, Nat.reduceBNe, Int.reduceBEq, Int.reduceBNe, Int.reduceLT, Int.reduceLE, Int.reduceEq, AV.one, AV.cells, CA.ev, abin, aint, aun, isShift, readVar, readCell, readCells, writeCells, fillA, reduceIte, Nat.reduceAdd, Nat.reduceSub, Nat.reduceLT, Nat.reduceLeDiff, resAll, resOne, AV.under, AV.unders, cut, fsEv, Int.reduceToNat, fct]; (first | done | with_reducible rfl))) (ht : put tm dst v = tm' := by (simp only [put, fsPut]; (first | done | with_reducible rfl))) (hp : (if op.reads then pr ++ [(lo, hi, closeOp tm op, v)] else pr) = pr' := by (simp only [CO.reads, closeOp, CA.ev, fsEv, Nat.reduceBEq, Nat.reduceLT, List.nil_append, List.cons_append, if_true, if_false, reduceIte, Bool.false_eq_true, fct]; (first | done | with_reducible rfl))) (hh : (if op.quiet then hs else hs ++ [h]) = hs' := by (simp only [CO.quiet, List.nil_append, List.cons_append, if_true, if_false, reduceIte, Bool.false_eq_true]; (first | done | with_reducible rfl))) :
    DrawS call Q st (⟨⟨dst, op, none⟩, lo, hi, false⟩ :: ds) pr sp hs tm h := D_cons hr ht hp hh k
theorem A_dstill {f : Nat} {args : List CA} {as : List AV} (k : DrawS call Q st ds pr (sp ++ [(lo, hi, f, as, v)]) hs tm' h) (ha : args.map (CA.ev tm) = as := by (simp only [List.map_cons, List.map_nil, CA.ev, fsEv, Nat.reduceBEq, Nat.reduceLT, fct]; (first | done | with_reducible rfl))) (hr : call f as (h.withLow h.n) = some (v, h') := by (simp (maxDischargeDepth := 12) only [opsB, Nat.reduceEqDiff, Nat.reduceBEq, Nat.reduceBNe, Int.reduceBEq, Int.reduceBNe, Int.reduceLT, Int.reduceLE, Int.reduceEq, AV.one, AV.cells, CA.ev, abin, aint, aun, isShift, readVar, readCell, readCells, writeCells, fillA, reduceIte, Nat.reduceAdd, Nat.reduceSub, Nat.reduceLT, Nat.reduceLeDiff, resAll, resOne, AV.under, AV.unders, cut, fsEv, Int.reduceToNat, fct]; (first | done | with_reducible rfl))) (hn : h'.n = h.n := by (simp only [Hp.n_withLow, Hp.low_withLow, Hp.n_set, Hp.n_push, Nat.le_refl])) (hl : h.n ≤ h'.low := by (simp only [Hp.n_withLow, Hp.low_withLow, Hp.n_set, Hp.n_push, Nat.le_refl])) (ht : put tm dst v = tm' := by (simp only [put, fsPut]; (first | done | with_reducible rfl))) :
    DrawS call Q st (⟨⟨dst, .call (.f f) args, none⟩, lo, hi, true⟩ :: ds) pr sp hs tm h := D_still ha hr hn hl ht k
theorem A_dwanted {j : Nat} {w : Bool} {s : Bool} (k : DrawS call Q st (⟨⟨dst, op, none⟩, lo, hi, s⟩ :: ds) pr sp hs tm h) (hg : tm.getD j AV.undef = .bool w := by (simp only [CA.ev, fsEv, Nat.reduceBEq, Nat.reduceLT, fct]; (first | done | with_reducible rfl))) : DrawS call Q st (⟨⟨dst, op, some (j, w)⟩, lo, hi, s⟩ :: ds) pr sp hs tm h := D_wanted hg k
theorem A_end {A B : Prop} (k : B) (e : A = B := by (simp only [DoneK, opsB, Nat.reduceEqDiff, Nat.reduceBEq, Nat.reduceBNe, Int.reduceBEq, Int.reduceBNe, Int.reduceLT, Int.reduceLE, Int.reduceEq, AV.one, AV.cells, CA.ev, abin, aint, aun, isShift, readVar, readCell, readCells, writeCells, fillA, reduceIte, Nat.reduceAdd, Nat.reduceSub, Nat.reduceLT, Nat.reduceLeDiff, resAll, resOne, AV.under, AV.unders, cut, if_true, if_false, Bool.false_eq_true, fsEv, fct]; first | done | with_reducible rfl)) : A := e ▸ k
theorem A_walk {A B : Prop} (k : B) (e : A = B := by (simp only [opsB, ctlB, Nat.reduceEqDiff, Nat.reduceBEq, Nat.reduceBNe, Int.reduceBEq, Int.reduceBNe, Int.reduceLT, Int.reduceLE, Int.reduceEq, CO.quiet, CO.reads, AV.one, AV.cells, CA.ev, abin, aint, aun, isShift, readVar, readCell, readCells, writeCells, fillA, reduceIte, Nat.reduceAdd, Nat.reduceSub, Nat.reduceLT, Nat.reduceLeDiff, resAll, resOne, AV.under, AV.unders, cut, put, DoneK, Kept, KeptOne, closeOp, fsEv, fct, *]; first | done | with_reducible rfl)) : A := e ▸ k
theorem A_tm {tm0 : List AV} (k : RunK call Q os st tm' h) (ht : tm0 = tm' := by (simp only [put, fsPut]; first | done | with_reducible rfl)) : RunK call Q os st tm0 h := R_tm ht k
theorem GO {A B : Prop} (k : B) (e : B → A := by (intro hB; (repeat' with_reducible first | refine Red.to ?_ | refine A_any ?_ | refine A_skip ?_ | refine A_cond ?_ | refine A_exne ?_); exact hB)) : A := e k
theorem GOD {A B : Prop} (k : B) (e : B → A := by (intro hB; (repeat' with_reducible first | refine Red.to ?_ | refine A_any ?_ | refine A_skip ?_ | refine A_cond ?_ | refine A_dcons ?_ | refine A_dstill ?_ | refine A_dwanted ?_ | refine A_dnil ?_ | refine A_exne ?_); exact hB)) : A := e k
theorem GD {A B : Prop} (k : B) (e : B → A := by (intro hB; dsimp only [Zm, Zl, Zf, Ze, Zb, Zo, Zn, Zg, List.length, List.replicate, List.append, List.cons_append, List.nil_append, Nat.reduceAdd, Nat.reduceSub]; exact hB)) : A := e k
end
end Go.Fs
end

section
/- Bits. -/
namespace Go.Fs
theorem wrap_i64 {n : Int} (h1 : -9223372036854775808 ≤ n) (h2 : n ≤ 9223372036854775807) : IntKind.wrap .i64 n = n := by
 have e3 : IntKind.bits .i64 = 64 := rfl
 have e4 : IntKind.signed .i64 = true := rfl
 unfold IntKind.wrap
 simp only [e3, e4, Bool.true_and]
 have hp : (2 : Int) ^ 64 = 18446744073709551616 := by decide
 have hq : (2 : Int) ^ (64 - 1) = 9223372036854775808 := by decide
 simp only [hp, hq]
 split
 · rename_i h; simp only [decide_eq_true_eq] at h; omega
 · rename_i h; simp only [decide_eq_true_eq] at h; omega
end Go.Fs
end

section
/- Words with blanks between them, cut at the blanks, are the words. -/
namespace Go.Fs.Plain
open Go
end Go.Fs.Plain
end

section
/- Rows of things of a width: read, written, appended to. -/
namespace Go.Fs
open Go
set_option linter.unnecessarySimpa false
set_option linter.unusedSimpArgs false
variable {α : Type} {f : α → List AV} {k : Nat}
theorem rows_len (hk : ∀ a, (f a).length = k) : ∀ l : List α, (l.flatMap f).length = l.length * k
 | [] => by simp
 | a :: l => by rw [List.flatMap_cons, List.length_append, hk, rows_len hk l, List.length_cons, Nat.add_mul]; omega
theorem rows_one (h1 : ∀ a, (f a).all AV.one = true) : ∀ l : List α, (l.flatMap f).all AV.one = true
 | [] => rfl
 | a :: l => by rw [List.flatMap_cons, List.all_append, h1, rows_one h1 l]; rfl
theorem rows_split (l : List α) {i : Nat} {a : α} (h : l[i]? = some a) : l.flatMap f = (l.take i).flatMap f ++ (f a ++ (l.drop (i + 1)).flatMap f) := by
 obtain ⟨hi, e⟩ := List.getElem?_eq_some_iff.1 h
 conv => lhs; rw [← List.take_append_drop i l, List.drop_eq_getElem_cons hi, e]
 rw [List.flatMap_append, List.flatMap_cons]
theorem rows_at (hk : ∀ a, (f a).length = k) {l : List α} {pre post : List AV} {i : Nat} {a : α} (h : l[i]? = some a) :
    ((pre ++ l.flatMap f ++ post).drop (pre.length + i * k)).take k = f a ∧ pre.length + i * k + k ≤ (pre ++ l.flatMap f ++ post).length := by
 have hi := (List.getElem?_eq_some_iff.1 h).1
 have e1 : ((l.take i).flatMap f).length = i * k := by rw [rows_len hk, List.length_take, Nat.min_eq_left (by omega)]
 have e2 : pre ++ l.flatMap f ++ post = (pre ++ (l.take i).flatMap f) ++ (f a ++ ((l.drop (i + 1)).flatMap f ++ post)) := by
  rw [rows_split l h]; simp only [List.append_assoc]
 have e3 : (pre ++ (l.take i).flatMap f).length = pre.length + i * k := by rw [List.length_append, e1]
 rw [e2]
 refine ⟨?_, ?_⟩
 · rw [← e3, List.drop_left, List.take_append, hk, Nat.sub_self, List.take_zero, List.append_nil, List.take_of_length_le (by rw [hk]; omega)]
 · rw [List.length_append, e3, List.length_append, hk]; omega
theorem rows_cut (hk : ∀ a, (f a).length = k) {l : List α} {pre post : List AV} {i : Nat} {a : α} (h : l[i]? = some a) : cut (pre ++ l.flatMap f ++ post) (pre.length + i * k) k = some (f a) := by
 obtain ⟨h1, h2⟩ := rows_at (pre := pre) (post := post) hk h
 unfold cut
 rw [if_pos h2, h1]
theorem rows_cell (hk : ∀ a, (f a).length = k) {l : List α} {pre post : List AV} {i j : Nat} {a : α} (h : l[i]? = some a) (hj : j < k) : (pre ++ l.flatMap f ++ post)[pre.length + i * k + j]? = (f a)[j]? := by
 obtain ⟨h1, h2⟩ := rows_at (pre := pre) (post := post) hk h
 rw [← h1, List.getElem?_take_of_lt hj, List.getElem?_drop]
theorem rows_over (hk : ∀ a, (f a).length = k) {l : List α} {pre post : List AV} {i : Nat} (a : α) (h : i < l.length) : over (pre ++ l.flatMap f ++ post) (pre.length + i * k) (f a) = pre ++ (l.set i a).flatMap f ++ post := by
 obtain ⟨b, hb⟩ : ∃ b, l[i]? = some b := ⟨_, List.getElem?_eq_getElem h⟩
 have e1 : ((l.take i).flatMap f).length = i * k := by rw [rows_len hk, List.length_take, Nat.min_eq_left (by omega)]
 have hs : (l.set i a)[i]? = some a := by rw [List.getElem?_set_self h]
 have e4 : (l.set i a).take i = l.take i := by rw [List.take_set_of_le (Nat.le_refl _)]
 have e5 : (l.set i a).drop (i + 1) = l.drop (i + 1) := by rw [List.drop_set_of_lt (Nat.lt_succ_self _)]
 have e2 : pre ++ l.flatMap f ++ post = (pre ++ (l.take i).flatMap f) ++ (f b ++ ((l.drop (i + 1)).flatMap f ++ post)) := by
  rw [rows_split l hb]; simp only [List.append_assoc]
 have e6 : pre ++ (l.set i a).flatMap f ++ post = (pre ++ (l.take i).flatMap f) ++ (f a ++ ((l.drop (i + 1)).flatMap f ++ post)) := by
  rw [rows_split _ hs, e4, e5]; simp only [List.append_assoc]
 have e3 : (pre ++ (l.take i).flatMap f).length = pre.length + i * k := by rw [List.length_append, e1]
 rw [e2, e6]
 unfold over
 rw [← e3, List.take_left, hk, show (pre ++ (l.take i).flatMap f).length + k = (pre ++ (l.take i).flatMap f).length + (f b).length by rw [hk], List.drop_append, List.drop_eq_nil_of_le (by omega), List.nil_append,
  Nat.add_sub_cancel_left, List.drop_left, List.append_assoc]
def RowW (f : α → List AV) (k M : Nat) (h : AH) (v : AV) (l : List α) : Prop :=
 (l = [] ∧ v = .slice none 0 (.exact 0)) ∨ ∃ b, M ≤ b ∧ b < h.n ∧ v = .slice (some (b, 0)) l.length (.opn k) ∧ h.get b = some (.cells (l.flatMap f) false) ∧ l ≠ []
theorem RowW.keep {M : Nat} {h h' : AH} {v : AV} {l : List α} (r : RowW f k M h v l) (hn : h.n ≤ h'.n) (ho : ∀ b, M ≤ b → b < h.n → h'.get b = h.get b) : RowW f k M h' v l := by
 rcases r with r | ⟨b, h1, h2, h3, h4, h5⟩
 · exact .inl r
 · exact .inr ⟨b, h1, by omega, h3, by rw [ho b h1 h2]; exact h4, h5⟩
theorem RowW.low {M N : Nat} {h : AH} {v : AV} {l : List α} (r : RowW f k M h v l) (hm : N ≤ M) : RowW f k N h v l := by
 rcases r with r | ⟨b, h1, h2, h3, h4, h5⟩
 · exact .inl r
 · exact .inr ⟨b, by omega, h2, h3, h4, h5⟩
theorem app_row {M bytes : Nat} (hk : ∀ a, (f a).length = k) (hk0 : 0 < k) (h1 : ∀ a, (f a).all AV.one = true) {h : AH} {bx : Nat} {v : AV} {l : List α} {a : α} {ro : Bool} (hf : RowW f k M h v l) (hM : M ≤ h.n) (hl : (l.length + 1) * bytes ≤ 140737488355328) (hl2 : l.length + 1 ≤ 1152921504606846976) (hbx : h.get bx = some (.cells (f a) ro)) :
    ∃ v' h', appendRun k bytes v (.slice (some (bx, 0)) 1 (.exact 1)) h = some (v', h') ∧ (RowW f k M h' v' (l ++ [a]) ∧ h'.n = h.n + 1 ∧ (∀ b, b < M → h'.get b = h.get b) ∧ (∀ b, b < h.n → (∀ n c, v ≠ .slice (some (b, 0)) n c) → h'.get b = h.get b) ∧ (∀ N, N ≤ M → N ≤ h.low → N ≤ h'.low) ∧ v' = .slice (some (h.n, 0)) (l.length + 1) (.opn k)) := by
 have e1 : lenOf (.slice (some (bx, 0)) 1 (.exact 1)) = some 1 := rfl
 have e2 : elemsOf k h (.slice (some (bx, 0)) 1 (.exact 1)) = some (f a) := by
  simp [elemsOf, readCells, hbx, Fs.cut, hk a]
  rw [List.take_of_length_le (by rw [hk]; omega)]
 have eN : (l ++ [a]).flatMap f = l.flatMap f ++ f a := by simp
 have eL : (l ++ [a]).length = l.length + 1 := by simp
 unfold appendRun
 rw [e1, Option.bind_some, e2, Option.bind_some]
 rcases hf with ⟨rfl, rfl⟩ | ⟨b, h2, h3, rfl, h5, hne⟩
 · refine ⟨_, h.push (.cells (f a) false), ?_, .inr ⟨h.n, hM, by simp, rfl, by rw [eN]; exact Hp.get_push_self _ _, by simp⟩, rfl, fun b' hb' => Hp.get_push_ne _ _ _ (by omega), fun b' hb' _ => Hp.get_push_ne _ _ _ (by omega), fun N _ hl => hl, by simp⟩
   simp only [appendCore, elemsOf, if_true, Option.bind_some, Nat.zero_add, List.nil_append, List.length_nil]
   rw [if_neg (by omega), if_pos ⟨by simpa using hl, by simpa using hl2⟩]
   simp
 · have fl := rows_len hk l
   have hp2 : 0 < l.length := List.length_pos_iff.2 hne
   have eold : ∀ cp, elemsOf k h (.slice (some (b, 0)) l.length cp) = some (l.flatMap f) := fun cp => by
    unfold elemsOf
    dsimp only
    rw [if_neg (by omega)]
    simp only [readCells, h5]
    unfold cut
    rw [if_pos (by omega), List.drop_zero, List.take_of_length_le (by omega)]
   refine ⟨_, (h.set b .dead).push (.cells (l.flatMap f ++ f a) false), ?_, .inr ⟨h.n, hM, by simp, rfl, by rw [eN]; rw [show h.n = (h.set b .dead).n from rfl]; exact Hp.get_push_self _ _, by simp⟩, by simp, fun b' hb' => ?_, fun b' hb' hne' => ?_, fun N _ hl => by simp; omega, by simp⟩
   · have e3 : (l.length + 1) * k = l.length * k + k := by rw [Nat.add_mul, Nat.one_mul]
     simp only [appendCore, eold, Option.bind_some, h5, Nat.zero_add, if_true]
     rw [if_neg (by omega), if_neg (by omega), if_pos ⟨by omega, h1 a⟩, if_pos ⟨by omega, by omega⟩]
     simp [Hp.n_set]
   · rw [Hp.get_push_ne _ _ _ (by simp; omega), Hp.get_set_ne _ _ _ _ (by omega)]
   · have hbb : b' ≠ b := fun e => hne' _ _ (by rw [e])
     rw [Hp.get_push_ne _ _ _ (by simp; omega), Hp.get_set_ne _ _ _ _ hbb]
theorem RowW.lenV {M : Nat} {h : AH} {v : AV} {l : List α} (r : RowW f k M h v l) : ∃ a c, v = .slice a l.length c := by
 rcases r with ⟨rfl, rfl⟩ | ⟨b, _, _, rfl, _⟩
 · exact ⟨_, _, rfl⟩
 · exact ⟨_, _, rfl⟩
section
variable {call : Rec} {Q : AEx → List AV → AH → Prop} {st : List Fr} {tm tm' : List AV} {h h' : AH} {v : AV} {dst : Option Nat} {op : CO} {ds : List CD} {pr : List (Nat × Nat × CO × AV)} {sp : List (Nat × Nat × Nat × List AV × AV)} {hs hs' : List AH} {lo hi : Nat}
theorem A_dnot {j : Nat} {w : Bool} (k : DrawS call Q st ds pr sp hs' tm' h) (hg : tm.getD j AV.undef = .bool (!w) := by (simp only [CA.ev, fsEv, Nat.reduceBEq, Nat.reduceLT, Bool.not_true, Bool.not_false, fct]; (first | done | with_reducible rfl))) (hh : (if op.quiet then hs else hs ++ [h]) = hs' := by (simp only [CO.quiet, List.nil_append, List.cons_append, if_true, if_false, reduceIte, Bool.false_eq_true]; (first | done | with_reducible rfl))) (ht : put tm dst AV.undef = tm' := by (simp only [put, fsPut]; (first | done | with_reducible rfl))) :
    DrawS call Q st (⟨⟨dst, op, some (j, w)⟩, lo, hi, false⟩ :: ds) pr sp hs tm h := D_not hg hh ht k
theorem GODN {A B : Prop} (k : B) (e : B → A := by (intro hB; (repeat' with_reducible first | refine Red.to ?_ | refine A_any ?_ | refine A_skip ?_ | refine A_cond ?_ | refine A_dcons ?_ | refine A_dstill ?_ | refine A_dwanted ?_ | refine A_dnot ?_ | refine A_dnil ?_ | refine A_exne ?_); exact hB)) : A := e k
end
end Go.Fs
end

