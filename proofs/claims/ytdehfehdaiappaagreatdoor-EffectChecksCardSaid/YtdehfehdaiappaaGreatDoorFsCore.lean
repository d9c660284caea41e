/- The abstract machine: values, blocks, operations, code. It runs the elaborated code of a function over an abstract heap, without the tape. -/
import Derived.Test.YtdehfehdaiappaaGreatDoorFsHeap
namespace Go.Fs

/-- What is known of a slice's capacity: the very number, or that the row goes on to its block's unknown end (elements of 'esz' cells). -/
inductive Cap where
  | exact (n : Nat)
  | opn (esz : Nat)

inductive AV where
  | bool (b : Bool)
  | int (k : IntKind) (n : Int)
  | str (s : List UInt8)
  | ptr (a : Option (Nat × Nat))
  | slice (a : Option (Nat × Nat)) (len : Nat) (cap : Cap)
  | map (r : Option Nat)
  | func (fn : Fn) (first captured : List AV)
  | nilFunc
  | iface (t : TypeId) (v : AV)
  | nilIface
  | agg (cs : List AV)
  | tuple (vs : List AV)
  /-- One cell of which nothing is known, but that it is no bool; 'cell': that it may lie in memory. -/
  | junk (cell : Bool)
  deriving Inhabited

def AV.undef : AV := .tuple []

def AV.cells : AV → List AV
  | .agg cs => cs
  | v => [v]

/-- A value of one cell. -/
def AV.one : AV → Bool
  | .agg _ | .tuple _ => false
  | .junk c => c
  | _ => true

def Cap.same : Cap → Cap → Bool
  | .exact a, .exact b => a == b
  | .opn a, .opn b => a == b
  | _, _ => false

mutual
/-- The same value, told by a Bool. -/
def AV.same : AV → AV → Bool
  | .bool a, .bool b => a == b
  | .int k a, .int k' b => decide (k = k') && a == b
  | .str a, .str b => decide (a = b)
  | .ptr a, .ptr b => decide (a = b)
  | .slice a n c, .slice b m d => decide (a = b) && n == m && c.same d
  | .map a, .map b => decide (a = b)
  | .func f a c, .func g b d => decide (f = g) && AV.sames a b && AV.sames c d
  | .nilFunc, .nilFunc => true
  | .iface t v, .iface u w => t == u && AV.same v w
  | .nilIface, .nilIface => true
  | .junk a, .junk b => a == b
  | .agg a, .agg b => AV.sames a b
  | .tuple a, .tuple b => AV.sames a b
  | _, _ => false
def AV.sames : List AV → List AV → Bool
  | [], [] => true
  | a :: as, b :: bs => AV.same a b && AV.sames as bs
  | _, _ => false
end

theorem Cap.same_refl (c : Cap) : c.same c = true := by cases c <;> simp [Cap.same]
theorem Cap.same_eq {c d : Cap} (h : c.same d = true) : c = d := by cases c <;> cases d <;> simp_all [Cap.same]

mutual
theorem AV.same_refl : ∀ v : AV, v.same v = true
  | .bool _ | .int _ _ | .str _ | .ptr _ | .map _ | .nilFunc | .nilIface | .junk _ => by simp [AV.same]
  | .slice _ _ c => by simp [AV.same, Cap.same_refl]
  | .func _ a c => by simp [AV.same, AV.sames_refl a, AV.sames_refl c]
  | .iface _ v => by simp [AV.same, AV.same_refl v]
  | .agg a => by simp [AV.same, AV.sames_refl a]
  | .tuple a => by simp [AV.same, AV.sames_refl a]
theorem AV.sames_refl : ∀ v : List AV, AV.sames v v = true
  | [] => by simp [AV.sames]
  | a :: as => by simp [AV.sames, AV.same_refl a, AV.sames_refl as]
end

mutual
theorem AV.same_eq : ∀ {v w : AV}, v.same w = true → v = w
  | .bool _, w, h => by cases w <;> simp_all [AV.same]
  | .int _ _, w, h => by cases w <;> simp_all [AV.same]
  | .str _, w, h => by cases w <;> simp_all [AV.same]
  | .ptr _, w, h => by cases w <;> simp_all [AV.same]
  | .map _, w, h => by cases w <;> simp_all [AV.same]
  | .nilFunc, w, h => by cases w <;> simp_all [AV.same]
  | .nilIface, w, h => by cases w <;> simp_all [AV.same]
  | .junk _, w, h => by cases w <;> simp_all [AV.same]
  | .slice _ _ c, w, h => by
    cases w <;> simp_all [AV.same]
    exact Cap.same_eq h.2
  | .func _ a c, w, h => by
    cases w <;> simp [AV.same] at h
    obtain ⟨⟨h1, h2⟩, h3⟩ := h
    rw [h1, AV.sames_eq h2, AV.sames_eq h3]
  | .iface _ v, w, h => by
    cases w <;> simp [AV.same] at h
    rw [h.1, AV.same_eq h.2]
  | .agg a, w, h => by
    cases w <;> simp [AV.same] at h
    rw [AV.sames_eq h]
  | .tuple a, w, h => by
    cases w <;> simp [AV.same] at h
    rw [AV.sames_eq h]
theorem AV.sames_eq : ∀ {v w : List AV}, AV.sames v w = true → v = w
  | [], w, h => by cases w <;> simp_all [AV.sames]
  | a :: as, w, h => by
    cases w with
    | nil => simp [AV.sames] at h
    | cons b bs =>
      simp [AV.sames] at h
      rw [AV.same_eq h.1, AV.sames_eq h.2]
end

mutual
/-- Do all places that a value names lie below n? -/
def AV.under (n : Nat) : AV → Bool
  | .bool _ | .int _ _ | .str _ | .ptr none | .slice none _ _ | .map none | .nilFunc | .nilIface | .junk _ => true
  | .ptr (some (b, _)) => decide (b < n)
  | .slice (some (b, _)) _ _ => decide (b < n)
  | .map (some b) => decide (b < n)
  | .func _ a c => AV.unders n a && AV.unders n c
  | .iface _ v => AV.under n v
  | .agg a | .tuple a => AV.unders n a
def AV.unders (n : Nat) : List AV → Bool
  | [] => true
  | v :: vs => AV.under n v && AV.unders n vs
end

/-- A constant of the program as an abstract value. -/
def ofValue : Nat → Value → Option AV
  | 0, _ => none
  | n + 1, v => match v with
    | .bool b => some (.bool b)
    | .int k i => some (.int k i)
    | .string s => some (.str s.data.toList)
    | .pointer none => some (.ptr none)
    | .slice none n m => if n = 0 ∧ m = 0 then some (.slice none 0 (.exact 0)) else none
    | .map none => some (.map none)
    | .nilFunc => some .nilFunc
    | .nilIface => some .nilIface
    | .func fn a c => if a.size = 0 ∧ c.size = 0 then some (.func fn [] []) else none
    | .iface t v => (ofValue n v).map (.iface t)
    | .agg cs => (cs.toList.mapM (ofValue n)).map .agg
    | .tuple cs => (cs.toList.mapM (ofValue n)).map .tuple
    | _ => none

/-- A block of the abstract heap: cells (ro: never written), a map's entries in their order, one of which nothing is known any more, what is known of another one's type, or what ranges over a string. -/
inductive Blk where
  | cells (c : List AV) (ro : Bool)
  | map (es : List (AV × AV))
  | dead
  /-- Of a block of cells: that it is a row of variables of type t, from its first cell on. -/
  | typ (b t : Nat)
  /-- What ranges over a string: the string, and the place that is next. -/
  | iter (s : List UInt8) (pos : Nat)
  deriving Inhabited

abbrev AH := Hp Blk

/-! ### Operands -/

inductive CA where
  | t (i : Nat)
  | c (v : AV)
  | g (i : Nat)
  | f (i : Nat)
  deriving Inhabited

def CA.ev (tm : List AV) : CA → AV
  | .t i => tm.getD i AV.undef
  | .c v => v
  | .g i => .ptr (some (i, 0))
  | .f i => .func (.func i) [] []

/-! ### Equality -/

/-- The kinds of one-cell values that are held against each other. -/
inductive SK where
  | b
  | i
  | s
  deriving Inhabited

inductive EqT where
  | other
  | scal
  | agg (sz : Nat) (leaves : List (Nat × SK))
  | ptr (sized : Bool)
  | slice
  | map
  | func
  | iface (lit : Bool) (scal : Nat → Option SK)
  deriving Inhabited

def scalEq : SK → AV → AV → Option Bool
  | .b, .bool a, .bool b => some (a == b)
  | .i, .int k a, .int k' b => if k = k' then some (a == b) else none
  | .s, .str a, .str b => some (decide (a = b))
  | _, _, _ => none

def leavesEq (xs ys : List AV) : List (Nat × SK) → Option Bool
  | [] => some true
  | (i, q) :: is => match xs[i]?, ys[i]? with
    | some x, some y => match scalEq q x y with
      | some true => leavesEq xs ys is
      | some false => some false
      | none => none
    | _, _ => none

def aeq : EqT → AV → AV → Option Bool
  | .scal, .bool a, .bool b => some (a == b)
  | .agg sz ls, .agg xs, .agg ys => if xs.length = sz ∧ ys.length = sz then leavesEq xs ys ls else none
  | .ptr _, .ptr none, .ptr b => some b.isNone
  | .ptr _, .ptr (some _), .ptr none => some false
  | .ptr true, .ptr (some (b, o)), .ptr (some (b', o')) => if b = b' then some (o == o') else none
  | .slice, .slice none _ _, .slice b _ _ => some b.isNone
  | .slice, .slice (some _) _ _, .slice none _ _ => some false
  | .map, .map none, .map b => some b.isNone
  | .map, .map (some _), .map none => some false
  | .func, .nilFunc, .nilFunc => some true
  | .func, .nilFunc, .func _ _ _ => some false
  | .func, .func _ _ _, .nilFunc => some false
  | .iface lit _, .nilIface, .nilIface => if lit then some true else none
  | .iface _ _, .nilIface, .iface _ _ => some false
  | .iface _ _, .iface _ _, .nilIface => some false
  | .iface _ f, .iface t x, .iface u y => if t = u then (match f t with
    | some q => scalEq q x y
    | none => none) else some false
  | _, _, _ => none

/-! ### Arithmetic -/

def aint (op : BinOp) (k : IntKind) (a b : Int) : Option AV :=
  match op with
  | .add => some (.int k (k.wrap (a + b)))
  | .sub => some (.int k (k.wrap (a - b)))
  | .mul => some (.int k (k.wrap (a * b)))
  | .quo => if b = 0 then none else some (.int k (k.wrap (a.tdiv b)))
  | .rem => if b = 0 then none else some (.int k (a.tmod b))
  | .and => some (.int k (Go.bits .and k a b))
  | .or => some (.int k (Go.bits .or k a b))
  | .xor => some (.int k (Go.bits .xor k a b))
  | .andNot => some (.int k (Go.bits .andNot k a b))
  | .eql => some (.bool (a == b))
  | .neq => some (.bool (a != b))
  | .lss => some (.bool (a < b))
  | .leq => some (.bool (a ≤ b))
  | .gtr => some (.bool (b < a))
  | .geq => some (.bool (b ≤ a))
  | _ => none

def ashift (op : BinOp) (k : IntKind) (a b : Int) : Option AV :=
  if b < 0 then none else
  match op with
  | .shl => some (.int k (k.wrap (a * 2 ^ (min b.toNat k.bits))))
  | .shr => some (.int k (a.fdiv (2 ^ (min b.toNat k.bits))))
  | _ => none

def astr (op : BinOp) (a b : List UInt8) : Option AV :=
  match op with
  | .add => if a.length + b.length ≤ 9223372036854775807 then some (.str (a ++ b)) else none
  | .eql => some (.bool (decide (a = b)))
  | .neq => some (.bool (!decide (a = b)))
  | .lss => some (.bool (Op.bytesLess a b))
  | .leq => some (.bool (Op.bytesLess a b || decide (a = b)))
  | .gtr => some (.bool (!(Op.bytesLess a b || decide (a = b))))
  | .geq => some (.bool (!Op.bytesLess a b))
  | _ => none

def isShift : BinOp → Bool
  | .shl | .shr => true
  | _ => false

def abin (op : BinOp) (e : EqT) (x y : AV) : Option AV :=
  match x, y with
  | .int k a, .int k' b => if isShift op then ashift op k a b else if k = k' then aint op k a b else none
  | .str a, .str b => astr op a b
  | x, y => match op with
    | .eql => (aeq e x y).map .bool
    | .neq => (aeq e x y).map fun b => .bool (!b)
    | _ => none

def aun (op : UnOp) (x : AV) : Option AV :=
  match op, x with
  | .neg, .int k n => some (.int k (k.wrap (0 - n)))
  | .xor, .int k n => some (.int k (Go.bits .xor k (if k.signed then -1 else k.max) n))
  | .not, .bool b => some (.bool !b)
  | _, _ => none

/-! ### Operations -/

inductive CO where
  | mv (x : CA)
  | pick (c a b : CA)
  | nilchk (x : CA)
  | bin (op : BinOp) (e : EqT) (x y : CA)
  | un (op : UnOp) (x : CA)
  | toInt (k : IntKind) (x : CA)
  | strId (x : CA)
  | b2s (x : CA)
  | iface (t : TypeId) (x : CA)
  | clo (fn : Fn) (first captured : List CA)
  | slcS (x : CA) (lo hi : Option CA)
  | slcV (esz : Nat) (x : CA) (lo hi mx : Option CA)
  | slcA (n esz : Nat) (x : CA) (lo hi mx : Option CA)
  | faddr (off : Nat) (x : CA)
  | fld (off : Nat) (agg : Option Nat) (x : CA)
  | iaddrS (esz : Nat) (x i : CA)
  | iaddrA (n esz : Nat) (x i : CA)
  | idxS (x i : CA)
  | idxA (n esz : Nat) (agg : Option Nat) (x i : CA)
  | ext (i : Nat) (x : CA)
  | build (zero : List AV) (places : List (Nat × Nat × CA))
  | load (agg : Option Nat) (a : CA)
  | lenC (n : Nat) (x : CA)
  | lenS (x : CA)
  | lenV (x : CA)
  | lenM (x : CA)
  | cap (x : CA)
  | minI (x y : CA)
  | maxI (x y : CA)
  | lookup (q : SK) (zero : AV) (ok : Bool) (m k : CA)
  | sdata (x : CA)
  | toUns (x : CA)
  | fromUns (t n : Nat) (x : CA)
  -- these make or write memory, or call
  | box (x : CA)
  | alloc (zero : List AV)
  | store (n : Nat) (a x : CA)
  | mkS (bytes esz : Nat) (zero : List AV) (l c : CA)
  | litS (esz len : Nat) (zero : List AV) (places : List (Nat × Nat × CA))
  | mkM
  | mapset (q : SK) (m k v : CA)
  | append (esz bytes : Nat) (s x : CA)
  | appz (esz bytes : Nat) (zero : List AV) (s n : CA)
  | copy (esz : Nat) (d s : CA)
  | s2b (x : CA)
  | allocT (t : Nat) (zero : List AV)
  | mkST (t bytes esz : Nat) (zero : List AV) (l c : CA)
  | appendT (t esz bytes : Nat) (s x : CA)
  | ustr (t : Nat) (p n : CA)
  | iterS (x : CA)
  | nextS (x : CA)
  | call (f : CA) (args : List CA)
  | stop
  deriving Inhabited

def CO.quiet : CO → Bool
  | .box _ | .alloc _ | .store _ _ _ | .mkS _ _ _ _ _ | .litS _ _ _ _ | .mkM | .mapset _ _ _ _ | .append _ _ _ _ | .appz _ _ _ _ _ | .copy _ _ _ | .s2b _ | .allocT _ _ | .mkST _ _ _ _ _ _ | .appendT _ _ _ _ _ | .ustr _ _ _ | .iterS _ | .nextS _ | .call _ _ => false
  | _ => true

/-- Does the operation look into memory? -/
def CO.reads : CO → Bool
  | .load _ _ | .lookup _ _ _ _ _ | .b2s _ | .lenM _ | .toUns _ | .fromUns _ _ _ => true
  | _ => false

/-- The operands. -/
def CO.args : CO → List CA
  | .mv x | .nilchk x | .un _ x | .toInt _ x | .strId x | .b2s x | .iface _ x | .faddr _ x | .fld _ _ x | .ext _ x | .load _ x | .lenC _ x | .lenS x | .lenV x | .lenM x | .cap x | .box x | .s2b x | .sdata x | .toUns x | .fromUns _ _ x | .iterS x | .nextS x => [x]
  | .pick a b c | .mapset _ a b c => [a, b, c]
  | .bin _ _ x y | .iaddrS _ x y | .iaddrA _ _ x y | .idxS x y | .idxA _ _ _ x y | .minI x y | .maxI x y | .lookup _ _ _ x y | .store _ x y | .mkS _ _ _ x y | .append _ _ x y | .appz _ _ _ x y | .copy _ x y | .mkST _ _ _ _ x y | .appendT _ _ _ x y | .ustr _ x y => [x, y]
  | .clo _ a b => a ++ b
  | .slcS x lo hi => x :: (lo.toList ++ hi.toList)
  | .slcV _ x lo hi mx | .slcA _ _ x lo hi mx => x :: (lo.toList ++ hi.toList ++ mx.toList)
  | .build _ ps | .litS _ _ _ ps => ps.map fun p => p.2.2
  | .alloc _ | .allocT _ _ | .mkM | .stop => []
  | .call f as => f :: as

/-- 'n' cells of a list from 'o' on, if there are as many. -/
def cut (c : List AV) (o n : Nat) : Option (List AV) :=
  if o + n ≤ c.length then some ((c.drop o).take n) else none

def readCells (h : AH) (b o n : Nat) : Option (List AV) :=
  match h.get b with
  | some (.cells c _) => cut c o n
  | _ => none

def readCell (h : AH) (b o : Nat) : Option AV :=
  match h.get b with
  | some (.cells c _) => c[o]?
  | _ => none

/-- A variable of one cell, or of several. -/
def readVar (h : AH) (b o : Nat) : Option Nat → Option AV
  | none => readCell h b o
  | some n => (readCells h b o n).map .agg

/-- 'vs' written over a list from 'o' on. -/
def over (c : List AV) (o : Nat) (vs : List AV) : List AV := c.take o ++ vs ++ c.drop (o + vs.length)

def writeCells (h : AH) (b o : Nat) (vs : List AV) : Option AH :=
  match h.get b with
  | some (.cells c false) => if o + vs.length ≤ c.length && vs.all AV.one then some (h.set b (.cells (over c o vs) false)) else none
  | _ => none

def asInt : AV → Option Int
  | .int _ n => some n
  | _ => none

/-- A bound of a slice expression: from 0 to y. -/
def bound (y : Nat) : AV → Option Nat
  | .int _ n => if 0 ≤ n ∧ n ≤ y then some n.toNat else none
  | _ => none

def optBound (tm : List AV) (y d : Nat) : Option CA → Option Nat
  | some x => bound y (x.ev tm)
  | none => some d

def partOf (agg : Option Nat) (cs : List AV) (off : Nat) : Option AV :=
  match agg with
  | none => cs[off]?
  | some n => (cut cs off n).map .agg

def fillA (tm : List AV) : List AV → List (Nat × Nat × CA) → Option (List AV)
  | cs, [] => some cs
  | cs, (off, size, x) :: rest =>
    let vs := (x.ev tm).cells
    if vs.length = size ∧ off + size ≤ cs.length then fillA tm (over cs off vs) rest else none

/-- 'n' times a list. -/
def reps (z : List AV) : Nat → List AV
  | 0 => []
  | n + 1 => z ++ reps z n

def mapFind (q : SK) (k : AV) : List (AV × AV) → Option (Option AV)
  | [] => some none
  | (k', v) :: es => match scalEq q k k' with
    | some true => some (some v)
    | some false => mapFind q k es
    | none => none

def mapPut (q : SK) (k v : AV) : List (AV × AV) → Option (List (AV × AV))
  | [] => some [(k, v)]
  | (k', v') :: es => match scalEq q k k' with
    | some true => some ((k, v) :: es)
    | some false => (mapPut q k v es).map ((k', v') :: ·)
    | none => none

def scalar : SK → AV → Bool
  | .b, .bool _ | .i, .int _ _ | .s, .str _ => true
  | _, _ => false

def bytesOf : List AV → Option (List UInt8)
  | [] => some []
  | .int .u8 n :: cs => (bytesOf cs).map (UInt8.ofNat n.toNat :: ·)
  | _ :: _ => none

/-- Is it noted of the row whose first cell is here that it is made of variables of type t? -/
def typed (h : AH) (t : Nat) : AV → Bool
  | .slice none _ _ => true
  | .slice (some (b, 0)) _ _ | .ptr (some (b, 0)) => match h.get (b + 1) with
    | some (.typ b' t') => b' == b && t' == t
    | _ => false
  | _ => false

/-- Cells that are bytes. -/
def bytesIn : List AV → Option (List UInt8)
  | [] => some []
  | .int .u8 n :: cs => if 0 ≤ n ∧ n < 256 then (bytesIn cs).map (UInt8.ofNat n.toNat :: ·) else none
  | _ :: _ => none

def ofBytes (s : List UInt8) : List AV := s.map fun b => .int .u8 b.toNat

def highOf (tm : List AV) (m len : Nat) (hi mx : Option CA) : Option Nat :=
  match hi, mx with
  | some v, _ => bound m (v.ev tm)
  | none, none => some len
  | none, some _ => none

/-- A slice's bounds: low, high and what is left of the capacity. -/
def bounds3 (tm : List AV) (len cap : Nat) (lo hi mx : Option CA) : Option (Nat × Nat × Nat) :=
  (optBound tm cap cap mx).bind fun m => (highOf tm m len hi mx).bind fun h => (optBound tm h 0 lo).map fun l => (l, h, m)

def quietRun (o : CO) (tm : List AV) (h : AH) : Option AV :=
  match o with
  | .mv x => some (x.ev tm)
  | .pick c a b => match c.ev tm with
    | .bool true => some (a.ev tm)
    | .bool false => some (b.ev tm)
    | _ => none
  | .nilchk x => match x.ev tm with
    | .ptr (some p) => some (.ptr (some p))
    | .func (.func f) fi ca => some (.func (.func f) fi ca)
    | _ => none
  | .bin op e x y => abin op e (x.ev tm) (y.ev tm)
  | .un op x => aun op (x.ev tm)
  | .toInt k x => match x.ev tm with
    | .int _ n => some (.int k (k.wrap n))
    | _ => none
  | .strId x => match x.ev tm with
    | .str s => some (.str s)
    | _ => none
  | .b2s x => match x.ev tm with
    | .slice none _ _ => some (.str [])
    | .slice (some (b, o)) n _ => (readCells h b o n).bind fun cs => (bytesOf cs).map .str
    | _ => none
  | .iface t x => some (.iface t (x.ev tm))
  | .clo fn first captured => some (.func fn (first.map (CA.ev tm)) (captured.map (CA.ev tm)))
  | .slcS x lo hi => match x.ev tm with
    | .str s => (bounds3 tm s.length s.length lo hi none).map fun (l, hh, _) => .str ((s.drop l).take (hh - l))
    | _ => none
  | .slcV esz x lo hi mx => match x.ev tm with
    | .slice a len (.exact cap) => (bounds3 tm len cap lo hi mx).map fun (l, hh, m) =>
        .slice (if m = l then a else a.map fun (b, o) => (b, o + l * esz)) (hh - l) (.exact (m - l))
    | .slice (some (b, o)) len (.opn e) =>
      match mx with
      | none => if e = esz then (bounds3 tm len len lo hi none).map fun (l, hh, _) => .slice (some (b, o + l * esz)) (hh - l) (.opn esz) else none
      | some _ => (bounds3 tm len len lo hi mx).bind fun (l, hh, m) => if m = l then none else some (.slice (some (b, o + l * esz)) (hh - l) (.exact (m - l)))
    | _ => none
  | .slcA n esz x lo hi mx => match x.ev tm with
    | .ptr (some (b, o)) => (bounds3 tm n n lo hi mx).map fun (l, hh, m) => .slice (some (b, if m = l then o else o + l * esz)) (hh - l) (.exact (m - l))
    | _ => none
  | .faddr off x => match x.ev tm with
    | .ptr (some (b, o)) => some (.ptr (some (b, o + off)))
    | _ => none
  | .fld off agg x => match x.ev tm with
    | .agg cs => partOf agg cs off
    | _ => none
  | .iaddrS esz x i => match x.ev tm, i.ev tm with
    | .slice (some (b, o)) len _, .int _ n => if 0 ≤ n ∧ n < len then some (.ptr (some (b, o + n.toNat * esz))) else none
    | _, _ => none
  | .iaddrA n esz x i => match x.ev tm, i.ev tm with
    | .ptr (some (b, o)), .int _ j => if 0 ≤ j ∧ j < n then some (.ptr (some (b, o + j.toNat * esz))) else none
    | _, _ => none
  | .idxS x i => match x.ev tm, i.ev tm with
    | .str s, .int _ n => if 0 ≤ n then (s[n.toNat]?).map fun b => .int .u8 b.toNat else none
    | _, _ => none
  | .idxA n esz agg x i => match x.ev tm, i.ev tm with
    | .agg cs, .int _ j => if 0 ≤ j ∧ j < n then partOf agg cs (j.toNat * esz) else none
    | _, _ => none
  | .ext i x => match x.ev tm with
    | .tuple vs => vs[i]?
    | _ => none
  | .build zero places => (fillA tm zero places).map .agg
  | .load agg a => match a.ev tm with
    | .ptr (some (b, o)) => readVar h b o agg
    | _ => none
  | .lenC n _ => some (.int .i64 n)
  | .lenS x => match x.ev tm with
    | .str s => some (.int .i64 s.length)
    | _ => none
  | .lenV x => match x.ev tm with
    | .slice _ n _ => some (.int .i64 n)
    | _ => none
  | .lenM x => match x.ev tm with
    | .map none => some (.int .i64 0)
    | .map (some r) => match h.get r with
      | some (.map es) => some (.int .i64 es.length)
      | _ => none
    | _ => none
  | .cap x => match x.ev tm with
    | .slice _ _ (.exact n) => some (.int .i64 n)
    | _ => none
  | .minI x y => match x.ev tm, y.ev tm with
    | .int k a, .int _ b => some (.int k (if b < a then b else a))
    | _, _ => none
  | .maxI x y => match x.ev tm, y.ev tm with
    | .int k a, .int _ b => some (.int k (if a < b then b else a))
    | _, _ => none
  | .lookup q zero ok m k => match m.ev tm with
    | .map none => if scalar q (k.ev tm) then some (if ok then .tuple [zero, .bool false] else zero) else none
    | .map (some r) => match h.get r with
      | some (.map es) => if scalar q (k.ev tm) then (mapFind q (k.ev tm) es).map fun
          | some v => if ok then .tuple [v, .bool true] else v
          | none => if ok then .tuple [zero, .bool false] else zero
        else none
      | _ => none
    | _ => none
  | .sdata x => match x.ev tm with
    | .slice none _ _ => some (.ptr none)
    | .slice (some p) len (.opn _) => if 0 < len then some (.ptr (some p)) else none
    | .slice (some p) _ (.exact c) => if 0 < c then some (.ptr (some p)) else none
    | _ => none
  | .toUns x => match x.ev tm with
    | .ptr none => some (.ptr none)
    | .ptr (some (b, o)) => (readCell h b o).map fun _ => .ptr (some (b, o))
    | _ => none
  | .fromUns t n x => match x.ev tm with
    | .ptr none => some (.ptr none)
    | .ptr (some (b, o)) => if typed h t (.ptr (some (b, o))) then (readCells h b 0 n).map fun _ => .ptr (some (b, o)) else none
    | _ => none
  | _ => none

/-- The operands of an append: the elements that are there, and those that come. -/
def elemsOf (esz : Nat) (h : AH) : AV → Option (List AV)
  | .slice a n _ => if n = 0 then some [] else match a with
    | none => none
    | some (b, o) => readCells h b o (n * esz)
  | .str s => if esz = 1 then some (ofBytes s) else none
  | _ => none

def lenOf : AV → Option Nat
  | .slice _ n _ => some n
  | .str s => some s.length
  | _ => none

/-- 'n' elements, of the cells 'new', put behind a slice's. -/
def appendCore (esz bytes : Nat) (s : AV) (n : Nat) (new : List AV) (h : AH) : Option (AV × AH) :=
  match s with
  | .slice base sLen cap => (elemsOf esz h s).bind fun old =>
    let fresh (h : AH) : Option (AV × AH) :=
      if (sLen + n) * bytes ≤ 140737488355328 ∧ sLen + n ≤ 1152921504606846976 then some (.slice (some (h.n, 0)) (sLen + n) (.opn esz), h.push (.cells (old ++ new) false)) else none
    match cap, base with
    | .exact c, none => if sLen + n ≤ c then some (s, h) else fresh h
    | .exact c, some (b, o) =>
      if sLen + n ≤ c then
        if n = 0 then some (.slice base sLen cap, h)
        else (writeCells h b (o + sLen * esz) new).map fun h' => (.slice base (sLen + n) cap, h')
      else fresh h
    | .opn e, some (b, o) =>
      if n = 0 then some (s, h) else
      if e = esz then
        match h.get b with
        | some (.cells c false) =>
          if o + (sLen + n) * esz ≤ c.length then (writeCells h b (o + sLen * esz) new).map fun h' => (.slice (some (b, o)) (sLen + n) cap, h')
          else if o + sLen * esz = c.length ∧ new.all AV.one then fresh (h.set b .dead) else none
        | _ => none
      else none
    | .opn _, none => none
  | _ => none

def appendRun (esz bytes : Nat) (s x : AV) (h : AH) : Option (AV × AH) :=
  (lenOf x).bind fun n => (elemsOf esz h x).bind fun new => appendCore esz bytes s n new h

/-- An append of so many zero elements. -/
def appendZ (esz bytes : Nat) (zero : List AV) (s n : AV) (h : AH) : Option (AV × AH) :=
  match n with
  | .int _ l => if 0 ≤ l ∧ l * bytes ≤ 281474976710656 ∧ l ≤ 1152921504606846976 then appendCore esz bytes s l.toNat (reps zero l.toNat) h else none
  | _ => none

/-- A row's type, noted behind it: the row is the heap's last block but for this one. -/
def noteT (c : Bool) (t n : Nat) (h' : AH) : AH := if h'.n = n + 1 ∧ c = true then h'.push (.typ n t) else h'

/-- What a call of a function comes to. -/
abbrev Rec := Nat → List AV → AH → Option (AV × AH)

def effRun (call : Rec) (o : CO) (tm : List AV) (h : AH) : Option (AV × AH) :=
  match o with
  | .box x => if (x.ev tm).cells.all AV.one then some (.ptr (some (h.n, 0)), h.push (.cells (x.ev tm).cells false)) else none
  | .alloc zero => some (.ptr (some (h.n, 0)), h.push (.cells zero false))
  | .store n a x => match a.ev tm with
    | .ptr (some (b, o)) => if (x.ev tm).cells.length = n then (writeCells h b o (x.ev tm).cells).map fun h' => (AV.undef, h') else none
    | _ => none
  | .mkS bytes _ zero l c => match l.ev tm, c.ev tm with
    | .int _ l, .int _ c => if 0 ≤ l ∧ l ≤ c ∧ bytes * c ≤ 281474976710656 ∧ c ≤ 1152921504606846976 then
        some (.slice (some (h.n, 0)) l.toNat (.exact c.toNat), h.push (.cells (reps zero c.toNat) false)) else none
    | _, _ => none
  | .litS _ len zero places => match fillA tm (reps zero len) places with
    | some cs => if cs.all AV.one then some (.slice (some (h.n, 0)) len (.exact len), h.push (.cells cs false)) else none
    | none => none
  | .mkM => some (.map (some h.n), h.push (.map []))
  | .mapset q m k v => match m.ev tm with
    | .map (some r) => match h.get r with
      | some (.map es) => if scalar q (k.ev tm) then (mapPut q (k.ev tm) (v.ev tm) es).map fun es' => (AV.undef, h.set r (.map es')) else none
      | _ => none
    | _ => none
  | .append esz bytes s x => appendRun esz bytes (s.ev tm) (x.ev tm) h
  | .appz esz bytes zero s n => appendZ esz bytes zero (s.ev tm) (n.ev tm) h
  | .copy esz d s => match d.ev tm with
    | .slice base dLen _ => (lenOf (s.ev tm)).bind fun n => (elemsOf esz h (s.ev tm)).bind fun xs =>
      let k := min n dLen
      match base with
      | none => some (.int .i64 k, h)
      | some (b, o) => if k = 0 then some (.int .i64 k, h) else (writeCells h b o (xs.take (k * esz))).map fun h' => (.int .i64 k, h')
    | _ => none
  | .s2b x => match x.ev tm with
    | .str s => if s.length ≤ 1152921504606846976 then some (.slice (some (h.n, 0)) s.length (.opn 1), h.push (.cells (ofBytes s) false)) else none
    | _ => none
  | .allocT t zero => some (.ptr (some (h.n, 0)), (h.push (.cells zero false)).push (.typ h.n t))
  | .mkST t bytes _ zero l c => match l.ev tm, c.ev tm with
    | .int _ l, .int _ c => if 0 ≤ l ∧ l ≤ c ∧ bytes * c ≤ 281474976710656 ∧ c ≤ 1152921504606846976 then
        some (.slice (some (h.n, 0)) l.toNat (.exact c.toNat), (h.push (.cells (reps zero c.toNat) false)).push (.typ h.n t)) else none
    | _, _ => none
  | .appendT t esz bytes s x => (appendRun esz bytes (s.ev tm) (x.ev tm) h).map fun (v, h') => (v, noteT (typed h t (s.ev tm)) t h.n h')
  | .ustr t p n => match p.ev tm, n.ev tm with
    | .ptr none, .int .i64 l => if l = 0 then some (.str [], h) else none
    | .ptr (some (b, o)), .int .i64 l => if l = 0 then some (.str [], h) else
      if 0 < l ∧ l ≤ 1152921504606846976 ∧ typed h t (.ptr (some (b, o))) = true then
        match h.get b with
        | some (.cells c false) => (cut c 0 l.toNat).bind fun cs => (bytesIn cs).map fun s => (.str s, h.set b (.cells c true))
        | _ => none
      else none
    | _, _ => none
  | .iterS x => match x.ev tm with
    | .str s => some (.ptr (some (h.n, 0)), h.push (.iter s 0))
    | _ => none
  | .nextS x => match x.ev tm with
    | .ptr (some (b, 0)) => match h.get b with
      | some (.iter s pos) =>
        if pos < s.length then
          let d := Utf8.decode ⟨s.toArray⟩ pos
          some (.tuple [.bool true, .int .i64 pos, .int .i32 d.1], h.set b (.iter s (pos + d.2)))
        else some (.tuple [.bool false], h)
      | _ => none
    | _ => none
  | .call f args => match f.ev tm with
    | .func (.func g) first captured => call g (first ++ args.map (CA.ev tm) ++ captured) h
    | _ => none
  | _ => none

def runOp (call : Rec) (o : CO) (tm : List AV) (h : AH) : Option (AV × AH) :=
  if o.quiet then (quietRun o tm h).map fun v => (v, h) else effRun call o tm h

/-! ### Regions -/

structure CR where
  dst : Option Nat
  op : CO
  guard : Option (Nat × Bool)
  deriving Inhabited

def CR.wanted (o : CR) (tm : List AV) : Bool :=
  match o.guard with
  | none => true
  | some (j, want) => match tm.getD j AV.undef with
    | .bool b => b == want
    | _ => false

/-- The temporaries that an operation looks at. -/
def CR.looks (o : CR) : List Nat :=
  (o.op.args.filterMap fun | .t i => some i | _ => none) ++ (match o.guard with | some (j, _) => [j] | none => [])

def put (tm : List AV) (dst : Option Nat) (v : AV) : List AV :=
  match dst with
  | some d => tm.set d v
  | none => tm

def runOps (call : Rec) : List CR → List AV → AH → Option (List AV × AH)
  | [], tm, h => some (tm, h)
  | o :: rest, tm, h =>
    if o.wanted tm then (runOp call o.op tm h).bind fun (v, h') => runOps call rest (put tm o.dst v) h'
    else runOps call rest (put tm o.dst AV.undef) h


/-- An operation of a region whose order is open. 'lo', 'hi': how many of those that write may stand ahead of it, at least and at most. -/
structure CD extends CR where
  lo : Nat
  hi : Nat
  still : Bool
  deriving Inhabited

/-- A call that is to leave the heap as it is: it may stand wherever it likes among those that write. -/
def stillRun (call : Rec) (o : CO) (tm : List AV) (h : AH) : Option AV :=
  match o with
  | .call _ _ => match effRun call o tm (h.withLow h.n) with
    | some (v, h') => if h'.n = h.n ∧ h.n ≤ h'.low then some v else none
    | none => none
  | _ => none

/-- Does the operation write nothing? -/
def CD.calm (o : CD) : Bool := o.op.quiet || o.still
def CD.looksIn (o : CD) : Bool := o.still || o.op.reads

def calmRun (call : Rec) (o : CD) (tm : List AV) (h : AH) : Option AV :=
  if o.op.quiet then quietRun o.op tm h else stillRun call o.op tm h

def agrees (call : Rec) (o : CD) (tm : List AV) (v : AV) (h : AH) : Bool :=
  match calmRun call o tm h with
  | some u => u.same v
  | none => false

/-- The text's order: of each operation the temporaries that it finds, its value, whether it is wanted; the heaps, one more than there are operations that write; the temporaries behind all. -/
def runT (call : Rec) : List CD → List AV → AH → Option (List (List AV × AV × Bool) × List AH × List AV)
  | [], tm, h => some ([], [h], tm)
  | o :: rest, tm, h =>
    if o.wanted tm then
      if o.calm then
        (calmRun call o tm h).bind fun v => (runT call rest (put tm o.dst v) h).map fun (rs, hs, tm') => ((tm, v, true) :: rs, hs, tm')
      else
        (effRun call o.op tm h).bind fun (v, h') => (runT call rest (put tm o.dst v) h').map fun (rs, hs, tm') => ((tm, v, true) :: rs, h :: hs, tm')
    else (runT call rest (put tm o.dst AV.undef) h).map fun (rs, hs, tm') => ((tm, AV.undef, false) :: rs, if o.calm then hs else h :: hs, tm')

/-- Whatever is read reads the same wherever it may stand. -/
def steady (call : Rec) (hs : List AH) : List CD → List (List AV × AV × Bool) → Bool
  | o :: os, (tm, v, wt) :: rs => (!(wt && o.calm && o.looksIn) || ((hs.drop o.lo).take (o.hi + 1 - o.lo)).all (agrees call o tm v)) && steady call hs os rs
  | _, _ => true

def runD (call : Rec) (ops : List CD) (tm : List AV) (h : AH) : Option (List AV × AH) :=
  match runT call ops tm h with
  | some (rs, hs, tm') => if steady call hs ops rs then some (tm', hs.getLastD h) else none
  | none => none

inductive AEx where
  | normal
  | exit (id : Nat)
  | ret

/-- Code, compiled: the types are looked up, the order of each region is the text's. -/
inductive CC where
  | skip
  | region (ops : List CR)
  | regionD (ops : List CD)
  | seq (a b : CC)
  | cond (c : CA) (thn els : CC)
  | block (id : Nat) (body : CC)
  | loop (body : CC)
  | exit (id : Nat)
  | ret
  | stop
  deriving Inhabited

abbrev St := AEx × List AV × AH

def iter (body : List AV → AH → Option St) : Nat → List AV → AH → Option St
  | 0, _, _ => none
  | n + 1, tm, h => match body tm h with
    | some (.normal, tm', h') => iter body n tm' h'
    | r => r

def runC (call : Rec) (fuel : Nat) : CC → List AV → AH → Option St
  | .skip, tm, h => some (.normal, tm, h)
  | .region ops, tm, h => (runOps call ops tm h).map fun (tm', h') => (.normal, tm', h')
  | .regionD ops, tm, h => (runD call ops tm h).map fun (tm', h') => (.normal, tm', h')
  | .seq a b, tm, h => match runC call fuel a tm h with
    | some (.normal, tm', h') => runC call fuel b tm' h'
    | r => r
  | .cond c x y, tm, h => match c.ev tm with
    | .bool true => runC call fuel x tm h
    | .bool false => runC call fuel y tm h
    | _ => none
  | .block id c, tm, h => match runC call fuel c tm h with
    | some (.exit id', tm', h') => if id' = id then some (.normal, tm', h') else some (.exit id', tm', h')
    | r => r
  | .loop c, tm, h => iter (runC call fuel c) fuel tm h
  | .exit id, tm, h => some (.exit id, tm, h)
  | .ret, tm, h => some (.ret, tm, h)
  | .stop, _, _ => none

inductive CRes where
  | tmp (t : Nat)
  | cell (t : Nat) (agg : Option Nat)
  deriving Inhabited

structure CF where
  ntmps : Nat
  res : List CRes
  body : CC
  deriving Inhabited

def resOne (tm : List AV) (h : AH) : CRes → Option AV
  | .tmp t => some (tm.getD t AV.undef)
  | .cell t agg => match tm.getD t AV.undef with
    | .ptr (some (b, o)) => readVar h b o agg
    | _ => none

def resAll (tm : List AV) (h : AH) : List CRes → Option AV
  | [r] => resOne tm h r
  | rs => (rs.mapM (resOne tm h)).map .tuple

/-- Behind a call: where it wrote nothing that was there, and hands back no place of its own, all that it made is forgotten. -/
def settle (h h' : AH) (v : AV) : AV × AH :=
  if h.n ≤ h'.low ∧ v.under h.n = true then (v, h) else (v, h'.withLow (min h.low h'.low))

def runF (call : Rec) (fuel : Nat) (f : CF) (args : List AV) (h : AH) : Option (AV × AH) :=
  match runC call fuel f.body (args ++ List.replicate (f.ntmps - args.length) AV.undef) (h.withLow h.n) with
  | some (.normal, tm, h') | some (.ret, tm, h') => (resAll tm h' f.res).map (settle h h')
  | _ => none

/-- What is told of some functions from elsewhere: asked ahead of their text. -/
abbrev Orc := Nat → Option (List AV → AH → Option (AV × AH))

def noOrc : Orc := fun _ => none

/-- The machine: 'tbl' gives each function's compiled text. -/
def runO (orc : Orc) (tbl : Nat → Option CF) : Nat → Rec
  | 0, _, _, _ => none
  | n + 1, f, args, h => match orc f with
    | some s => s args h
    | none => match tbl f with
      | some cf => runF (runO orc tbl n) n cf args h
      | none => none

abbrev run (tbl : Nat → Option CF) : Nat → Rec := runO noOrc tbl

end Go.Fs
