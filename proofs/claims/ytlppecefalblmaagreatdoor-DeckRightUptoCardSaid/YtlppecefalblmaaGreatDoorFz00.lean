/- The abstract machine of the Fs texts, part 1: what it runs, and that each of its runs is one of the program. -/
import Derived.Laws.AppendOwn
import Derived.Orders
import Derived.Laws.Strings
import Derived.Laws.StructEq
section
/- A finite map from numbers to things, kept as a tree: what the abstract heap is made of. -/
namespace Go.Fs
inductive Tr (α : Type) where
 | leaf
 | node (v : Option α) (l r : Tr α)
def Tr.get {α : Type} : Tr α → Nat → Option α
 | .leaf, _ => none
 | .node v l r, k => if k = 0 then v else if k % 2 = 1 then l.get (k / 2) else r.get (k / 2 - 1)
def Tr.setF {α : Type} : Nat → Tr α → Nat → α → Tr α
 | 0, t, _, _ => t
 | f + 1, .leaf, k, x => if k = 0 then .node (some x) .leaf .leaf else if k % 2 = 1 then .node none (Tr.setF f .leaf (k / 2) x) .leaf else .node none .leaf (Tr.setF f .leaf (k / 2 - 1) x)
 | f + 1, .node v l r, k, x => if k = 0 then .node (some x) l r else if k % 2 = 1 then .node v (Tr.setF f l (k / 2) x) r else .node v l (Tr.setF f r (k / 2 - 1) x)
theorem Tr.get_setF {α : Type} (x : α) : ∀ (f : Nat) (t : Tr α) (k j : Nat), k < f → (Tr.setF f t k x).get j = if j = k then some x else t.get j
 | 0, _, _, _, h => by omega
 | f + 1, .leaf, k, j, h => by
   unfold Tr.setF
   by_cases h0 : k = 0
   · subst h0; simp only [if_true]
     unfold Tr.get
     by_cases hj : j = 0
     · simp [hj]
     · simp only [hj, if_false]; split <;> rfl
   · simp only [h0, if_false]
     by_cases h1 : k % 2 = 1
     · simp only [h1, if_true]
       rw [show (Tr.node none (Tr.setF f .leaf (k / 2) x) .leaf).get j = if j = 0 then none else if j % 2 = 1 then (Tr.setF f .leaf (k / 2) x).get (j / 2) else Tr.leaf.get (j / 2 - 1) from rfl]
       rw [Tr.get_setF x f .leaf (k / 2) (j / 2) (by omega)]
       by_cases hj : j = 0
       · subst hj; simp [Ne.symm h0, Tr.get]
       · by_cases hj1 : j % 2 = 1
         · simp only [hj, hj1, if_true, if_false]
           by_cases e : j = k
           · subst e; simp
           · simp only [e, if_false]; rw [if_neg (by omega)]; simp [Tr.get]
         · simp only [hj, hj1, if_false]; rw [if_neg (by omega)]; simp [Tr.get]
     · simp only [h1, if_false]
       rw [show (Tr.node none .leaf (Tr.setF f .leaf (k / 2 - 1) x)).get j = if j = 0 then none else if j % 2 = 1 then Tr.leaf.get (j / 2) else (Tr.setF f .leaf (k / 2 - 1) x).get (j / 2 - 1) from rfl]
       rw [Tr.get_setF x f .leaf (k / 2 - 1) (j / 2 - 1) (by omega)]
       by_cases hj : j = 0
       · subst hj; simp [Ne.symm h0, Tr.get]
       · by_cases hj1 : j % 2 = 1
         · simp only [hj, hj1, if_true, if_false]; rw [if_neg (by omega)]; simp [Tr.get]
         · simp only [hj, hj1, if_false]
           by_cases e : j = k
           · subst e; simp
           · simp only [e, if_false]; rw [if_neg (by omega)]; simp [Tr.get]
 | f + 1, .node v l r, k, j, h => by
   unfold Tr.setF
   by_cases h0 : k = 0
   · subst h0; simp only [if_true]
     by_cases hj : j = 0
     · simp [hj, Tr.get]
     · simp [Tr.get, hj]
   · simp only [h0, if_false]
     by_cases h1 : k % 2 = 1
     · simp only [h1, if_true]
       rw [show (Tr.node v (Tr.setF f l (k / 2) x) r).get j = if j = 0 then v else if j % 2 = 1 then (Tr.setF f l (k / 2) x).get (j / 2) else r.get (j / 2 - 1) from rfl]
       rw [Tr.get_setF x f l (k / 2) (j / 2) (by omega)]
       by_cases hj : j = 0
       · subst hj; simp [Ne.symm h0, Tr.get]
       · by_cases hj1 : j % 2 = 1
         · simp only [hj, hj1, if_true, if_false]
           by_cases e : j = k
           · subst e; simp
           · simp only [e, if_false]; rw [if_neg (by omega)]; simp [Tr.get, hj, hj1]
         · simp only [hj, hj1, if_false]; rw [if_neg (by omega)]; simp [Tr.get, hj, hj1]
     · simp only [h1, if_false]
       rw [show (Tr.node v l (Tr.setF f r (k / 2 - 1) x)).get j = if j = 0 then v else if j % 2 = 1 then l.get (j / 2) else (Tr.setF f r (k / 2 - 1) x).get (j / 2 - 1) from rfl]
       rw [Tr.get_setF x f r (k / 2 - 1) (j / 2 - 1) (by omega)]
       by_cases hj : j = 0
       · subst hj; simp [Ne.symm h0, Tr.get]
       · by_cases hj1 : j % 2 = 1
         · simp only [hj, hj1, if_true, if_false]; rw [if_neg (by omega)]; simp [Tr.get, hj, hj1]
         · simp only [hj, hj1, if_false]
           by_cases e : j = k
           · subst e; simp
           · simp only [e, if_false]; rw [if_neg (by omega)]; simp [Tr.get, hj, hj1]
structure Hp (α : Type) where
 n : Nat
 low : Nat
 t : Tr α
def Hp.get {α : Type} (h : Hp α) (k : Nat) : Option α := h.t.get k
def Hp.set {α : Type} (h : Hp α) (k : Nat) (x : α) : Hp α := ⟨h.n, min h.low k, Tr.setF (k + 1) h.t k x⟩
def Hp.push {α : Type} (h : Hp α) (x : α) : Hp α := ⟨h.n + 1, h.low, Tr.setF (h.n + 1) h.t h.n x⟩
def Hp.withLow {α : Type} (h : Hp α) (l : Nat) : Hp α := ⟨h.n, l, h.t⟩
section
variable {α : Type} (h : Hp α) (k j l : Nat) (x y : α)
@[simp] theorem Hp.n_set : (h.set k x).n = h.n := rfl
@[simp] theorem Hp.n_push : (h.push x).n = h.n + 1 := rfl
@[simp] theorem Hp.n_withLow : (h.withLow l).n = h.n := rfl
@[simp] theorem Hp.low_set : (h.set k x).low = min h.low k := rfl
@[simp] theorem Hp.low_push : (h.push x).low = h.low := rfl
@[simp] theorem Hp.low_withLow : (h.withLow l).low = l := rfl
@[simp] theorem Hp.get_withLow : (h.withLow l).get k = h.get k := rfl
@[simp] theorem Hp.withLow_withLow : (h.withLow l).withLow k = h.withLow k := rfl
@[simp] theorem Hp.withLow_low : h.withLow h.low = h := rfl
theorem Hp.get_set : (h.set k x).get j = if j = k then some x else h.get j := Tr.get_setF x (k + 1) h.t k j (by omega)
theorem Hp.get_push : (h.push x).get j = if j = h.n then some x else h.get j := Tr.get_setF x (h.n + 1) h.t h.n j (by omega)
@[simp] theorem Hp.get_set_self : (h.set k x).get k = some x := by rw [Hp.get_set]; simp
theorem Hp.get_set_ne (hn : j ≠ k) : (h.set k x).get j = h.get j := by rw [Hp.get_set]; simp [hn]
@[simp] theorem Hp.get_push_self : (h.push x).get h.n = some x := by rw [Hp.get_push]; simp
theorem Hp.get_push_ne (hn : j ≠ h.n) : (h.push x).get j = h.get j := by rw [Hp.get_push]; simp [hn]
end
end Go.Fs
end

section
/- The abstract machine: values, blocks, operations, code. It runs the elaborated code of a function over an abstract heap, without the tape. -/
namespace Go.Fs
inductive Cap where
 | exact (n : Nat)
 | opn (esz : Nat)
inductive AV where
 | bool (b : Bool)
 | int (k : IntKind) (n : Int)
 | str (s : List UInt8)
 | ptr (a : Option (Nat × Nat))
 | slice (a : Option (Nat × Nat)) (len : Nat) (cap : Cap)
 | map (r : Option Nat)
 | func (fn : Fn) (first captured : List AV)
 | nilFunc
 | iface (t : TypeId) (v : AV)
 | nilIface
 | agg (cs : List AV)
 | tuple (vs : List AV)
 | junk (cell : Bool)
 deriving Inhabited
def AV.undef : AV := .tuple []
def AV.cells : AV → List AV
 | .agg cs => cs
 | v => [v]
def AV.one : AV → Bool
 | .agg _ | .tuple _ => false
 | .junk c => c
 | _ => true
def Cap.same : Cap → Cap → Bool
 | .exact a, .exact b => a == b
 | .opn a, .opn b => a == b
 | _, _ => false
mutual
def AV.same : AV → AV → Bool
 | .bool a, .bool b => a == b
 | .int k a, .int k' b => decide (k = k') && a == b
 | .str a, .str b => decide (a = b)
 | .ptr a, .ptr b => decide (a = b)
 | .slice a n c, .slice b m d => decide (a = b) && n == m && c.same d
 | .map a, .map b => decide (a = b)
 | .func f a c, .func g b d => decide (f = g) && AV.sames a b && AV.sames c d
 | .nilFunc, .nilFunc => true
 | .iface t v, .iface u w => t == u && AV.same v w
 | .nilIface, .nilIface => true
 | .junk a, .junk b => a == b
 | .agg a, .agg b => AV.sames a b
 | .tuple a, .tuple b => AV.sames a b
 | _, _ => false
def AV.sames : List AV → List AV → Bool
 | [], [] => true
 | a :: as, b :: bs => AV.same a b && AV.sames as bs
 | _, _ => false
end
theorem Cap.same_refl (c : Cap) : c.same c = true := by cases c <;> simp [Cap.same]
theorem Cap.same_eq {c d : Cap} (h : c.same d = true) : c = d := by cases c <;> cases d <;> simp_all [Cap.same]
mutual
theorem AV.same_refl : ∀ v : AV, v.same v = true
 | .bool _ | .int _ _ | .str _ | .ptr _ | .map _ | .nilFunc | .nilIface | .junk _ => by simp [AV.same]
 | .slice _ _ c => by simp [AV.same, Cap.same_refl]
 | .func _ a c => by simp [AV.same, AV.sames_refl a, AV.sames_refl c]
 | .iface _ v => by simp [AV.same, AV.same_refl v]
 | .agg a => by simp [AV.same, AV.sames_refl a]
 | .tuple a => by simp [AV.same, AV.sames_refl a]
theorem AV.sames_refl : ∀ v : List AV, AV.sames v v = true
 | [] => by simp [AV.sames]
 | a :: as => by simp [AV.sames, AV.same_refl a, AV.sames_refl as]
end
mutual
theorem AV.same_eq : ∀ {v w : AV}, v.same w = true → v = w
 | .bool _, w, h => by cases w <;> simp_all [AV.same]
 | .int _ _, w, h => by cases w <;> simp_all [AV.same]
 | .str _, w, h => by cases w <;> simp_all [AV.same]
 | .ptr _, w, h => by cases w <;> simp_all [AV.same]
 | .map _, w, h => by cases w <;> simp_all [AV.same]
 | .nilFunc, w, h => by cases w <;> simp_all [AV.same]
 | .nilIface, w, h => by cases w <;> simp_all [AV.same]
 | .junk _, w, h => by cases w <;> simp_all [AV.same]
 | .slice _ _ c, w, h => by
   cases w <;> simp_all [AV.same]
   exact Cap.same_eq h.2
 | .func _ a c, w, h => by
   cases w <;> simp [AV.same] at h
   obtain ⟨⟨h1, h2⟩, h3⟩ := h
   rw [h1, AV.sames_eq h2, AV.sames_eq h3]
 | .iface _ v, w, h => by
   cases w <;> simp [AV.same] at h
   rw [h.1, AV.same_eq h.2]
 | .agg a, w, h => by
   cases w <;> simp [AV.same] at h
   rw [AV.sames_eq h]
 | .tuple a, w, h => by
   cases w <;> simp [AV.same] at h
   rw [AV.sames_eq h]
theorem AV.sames_eq : ∀ {v w : List AV}, AV.sames v w = true → v = w
 | [], w, h => by cases w <;> simp_all [AV.sames]
 | a :: as, w, h => by
   cases w with
   | nil => simp [AV.sames] at h
   | cons b bs =>
     simp [AV.sames] at h
     rw [AV.same_eq h.1, AV.sames_eq h.2]
end
mutual
def AV.under (n : Nat) : AV → Bool
 | .bool _ | .int _ _ | .str _ | .ptr none | .slice none _ _ | .map none | .nilFunc | .nilIface | .junk _ => true
 | .ptr (some (b, _)) => decide (b < n)
 | .slice (some (b, _)) _ _ => decide (b < n)
 | .map (some b) => decide (b < n)
 | .func _ a c => AV.unders n a && AV.unders n c
 | .iface _ v => AV.under n v
 | .agg a | .tuple a => AV.unders n a
def AV.unders (n : Nat) : List AV → Bool
 | [] => true
 | v :: vs => AV.under n v && AV.unders n vs
end
def ofValue : Nat → Value → Option AV
 | 0, _ => none
 | n + 1, v => match v with
   | .bool b => some (.bool b)
   | .int k i => some (.int k i)
   | .string s => some (.str s.data.toList)
   | .pointer none => some (.ptr none)
   | .slice none n m => if n = 0 ∧ m = 0 then some (.slice none 0 (.exact 0)) else none
   | .map none => some (.map none)
   | .nilFunc => some .nilFunc
   | .nilIface => some .nilIface
   | .func fn a c => if a.size = 0 ∧ c.size = 0 then some (.func fn [] []) else none
   | .iface t v => (ofValue n v).map (.iface t)
   | .agg cs => (cs.toList.mapM (ofValue n)).map .agg
   | .tuple cs => (cs.toList.mapM (ofValue n)).map .tuple
   | _ => none
inductive Blk where
 | cells (c : List AV) (ro : Bool)
 | map (es : List (AV × AV))
 | dead
 | typ (b t : Nat)
 | iter (s : List UInt8) (pos : Nat)
 deriving Inhabited
abbrev AH := Hp Blk
inductive CA where
 | t (i : Nat)
 | c (v : AV)
 | g (i : Nat)
 | f (i : Nat)
 deriving Inhabited
def CA.ev (tm : List AV) : CA → AV
 | .t i => tm.getD i AV.undef
 | .c v => v
 | .g i => .ptr (some (i, 0))
 | .f i => .func (.func i) [] []
inductive SK where
 | b
 | i
 | s
 deriving Inhabited
inductive EqT where
 | other
 | scal
 | agg (sz : Nat) (leaves : List (Nat × SK))
 | ptr (sized : Bool)
 | slice
 | map
 | func
 | iface (lit : Bool) (scal : Nat → Option SK)
 deriving Inhabited
def scalEq : SK → AV → AV → Option Bool
 | .b, .bool a, .bool b => some (a == b)
 | .i, .int k a, .int k' b => if k = k' then some (a == b) else none
 | .s, .str a, .str b => some (decide (a = b))
 | _, _, _ => none
def leavesEq (xs ys : List AV) : List (Nat × SK) → Option Bool
 | [] => some true
 | (i, q) :: is => match xs[i]?, ys[i]? with
   | some x, some y => match scalEq q x y with
     | some true => leavesEq xs ys is
     | some false => some false
     | none => none
   | _, _ => none
def aeq : EqT → AV → AV → Option Bool
 | .scal, .bool a, .bool b => some (a == b)
 | .agg sz ls, .agg xs, .agg ys => if xs.length = sz ∧ ys.length = sz then leavesEq xs ys ls else none
 | .ptr _, .ptr none, .ptr b => some b.isNone
 | .ptr _, .ptr (some _), .ptr none => some false
 | .ptr true, .ptr (some (b, o)), .ptr (some (b', o')) => if b = b' then some (o == o') else none
 | .slice, .slice none _ _, .slice b _ _ => some b.isNone
 | .slice, .slice (some _) _ _, .slice none _ _ => some false
 | .map, .map none, .map b => some b.isNone
 | .map, .map (some _), .map none => some false
 | .func, .nilFunc, .nilFunc => some true
 | .func, .nilFunc, .func _ _ _ => some false
 | .func, .func _ _ _, .nilFunc => some false
 | .iface lit _, .nilIface, .nilIface => if lit then some true else none
 | .iface _ _, .nilIface, .iface _ _ => some false
 | .iface _ _, .iface _ _, .nilIface => some false
 | .iface _ f, .iface t x, .iface u y => if t = u then (match f t with
   | some q => scalEq q x y
   | none => none) else some false
 | _, _, _ => none
def aint (op : BinOp) (k : IntKind) (a b : Int) : Option AV :=
 match op with
 | .add => some (.int k (k.wrap (a + b)))
 | .sub => some (.int k (k.wrap (a - b)))
 | .mul => some (.int k (k.wrap (a * b)))
 | .quo => if b = 0 then none else some (.int k (k.wrap (a.tdiv b)))
 | .rem => if b = 0 then none else some (.int k (a.tmod b))
 | .and => some (.int k (Go.bits .and k a b))
 | .or => some (.int k (Go.bits .or k a b))
 | .xor => some (.int k (Go.bits .xor k a b))
 | .andNot => some (.int k (Go.bits .andNot k a b))
 | .eql => some (.bool (a == b))
 | .neq => some (.bool (a != b))
 | .lss => some (.bool (a < b))
 | .leq => some (.bool (a ≤ b))
 | .gtr => some (.bool (b < a))
 | .geq => some (.bool (b ≤ a))
 | _ => none
def ashift (op : BinOp) (k : IntKind) (a b : Int) : Option AV :=
 if b < 0 then none else
 match op with
 | .shl => some (.int k (k.wrap (a * 2 ^ (min b.toNat k.bits))))
 | .shr => some (.int k (a.fdiv (2 ^ (min b.toNat k.bits))))
 | _ => none
def astr (op : BinOp) (a b : List UInt8) : Option AV :=
 match op with
 | .add => if a.length + b.length ≤ 9223372036854775807 then some (.str (a ++ b)) else none
 | .eql => some (.bool (decide (a = b)))
 | .neq => some (.bool (!decide (a = b)))
 | .lss => some (.bool (Op.bytesLess a b))
 | .leq => some (.bool (Op.bytesLess a b || decide (a = b)))
 | .gtr => some (.bool (!(Op.bytesLess a b || decide (a = b))))
 | .geq => some (.bool (!Op.bytesLess a b))
 | _ => none
def isShift : BinOp → Bool
 | .shl | .shr => true
 | _ => false
def abin (op : BinOp) (e : EqT) (x y : AV) : Option AV :=
 match x, y with
 | .int k a, .int k' b => if isShift op then ashift op k a b else if k = k' then aint op k a b else none
 | .str a, .str b => astr op a b
 | x, y => match op with
   | .eql => (aeq e x y).map .bool
   | .neq => (aeq e x y).map fun b => .bool (!b)
   | _ => none
def aun (op : UnOp) (x : AV) : Option AV :=
 match op, x with
 | .neg, .int k n => some (.int k (k.wrap (0 - n)))
 | .xor, .int k n => some (.int k (Go.bits .xor k (if k.signed then -1 else k.max) n))
 | .not, .bool b => some (.bool !b)
 | _, _ => none
inductive CO where
 | mv (x : CA)
 | pick (c a b : CA)
 | nilchk (x : CA)
 | bin (op : BinOp) (e : EqT) (x y : CA)
 | un (op : UnOp) (x : CA)
 | toInt (k : IntKind) (x : CA)
 | strId (x : CA)
 | b2s (x : CA)
 | iface (t : TypeId) (x : CA)
 | clo (fn : Fn) (first captured : List CA)
 | slcS (x : CA) (lo hi : Option CA)
 | slcV (esz : Nat) (x : CA) (lo hi mx : Option CA)
 | slcA (n esz : Nat) (x : CA) (lo hi mx : Option CA)
 | faddr (off : Nat) (x : CA)
 | fld (off : Nat) (agg : Option Nat) (x : CA)
 | iaddrS (esz : Nat) (x i : CA)
 | iaddrA (n esz : Nat) (x i : CA)
 | idxS (x i : CA)
 | idxA (n esz : Nat) (agg : Option Nat) (x i : CA)
 | ext (i : Nat) (x : CA)
 | build (zero : List AV) (places : List (Nat × Nat × CA))
 | load (agg : Option Nat) (a : CA)
 | lenC (n : Nat) (x : CA)
 | lenS (x : CA)
 | lenV (x : CA)
 | lenM (x : CA)
 | cap (x : CA)
 | minI (x y : CA)
 | maxI (x y : CA)
 | lookup (q : SK) (zero : AV) (ok : Bool) (m k : CA)
 | sdata (x : CA)
 | toUns (x : CA)
 | fromUns (t n : Nat) (x : CA)
 | box (x : CA)
 | alloc (zero : List AV)
 | store (n : Nat) (a x : CA)
 | mkS (bytes esz : Nat) (zero : List AV) (l c : CA)
 | litS (esz len : Nat) (zero : List AV) (places : List (Nat × Nat × CA))
 | mkM
 | mapset (q : SK) (m k v : CA)
 | append (esz bytes : Nat) (s x : CA)
 | appz (esz bytes : Nat) (zero : List AV) (s n : CA)
 | copy (esz : Nat) (d s : CA)
 | s2b (x : CA)
 | allocT (t : Nat) (zero : List AV)
 | mkST (t bytes esz : Nat) (zero : List AV) (l c : CA)
 | appendT (t esz bytes : Nat) (s x : CA)
 | ustr (t : Nat) (p n : CA)
 | iterS (x : CA)
 | nextS (x : CA)
 | call (f : CA) (args : List CA)
 | stop
 deriving Inhabited
def CO.quiet : CO → Bool
 | .box _ | .alloc _ | .store _ _ _ | .mkS _ _ _ _ _ | .litS _ _ _ _ | .mkM | .mapset _ _ _ _ | .append _ _ _ _ | .appz _ _ _ _ _ | .copy _ _ _ | .s2b _ | .allocT _ _ | .mkST _ _ _ _ _ _ | .appendT _ _ _ _ _ | .ustr _ _ _ | .iterS _ | .nextS _ | .call _ _ => false
 | _ => true
def CO.reads : CO → Bool
 | .load _ _ | .lookup _ _ _ _ _ | .b2s _ | .lenM _ | .toUns _ | .fromUns _ _ _ => true
 | _ => false
def CO.args : CO → List CA
 | .mv x | .nilchk x | .un _ x | .toInt _ x | .strId x | .b2s x | .iface _ x | .faddr _ x | .fld _ _ x | .ext _ x | .load _ x | .lenC _ x | .lenS x | .lenV x | .lenM x | .cap x | .box x | .s2b x | .sdata x | .toUns x | .fromUns _ _ x | .iterS x | .nextS x => [x]
 | .pick a b c | .mapset _ a b c => [a, b, c]
 | .bin _ _ x y | .iaddrS _ x y | .iaddrA _ _ x y | .idxS x y | .idxA _ _ _ x y | .minI x y | .maxI x y | .lookup _ _ _ x y | .store _ x y | .mkS _ _ _ x y | .append _ _ x y | .appz _ _ _ x y | .copy _ x y | .mkST _ _ _ _ x y | .appendT _ _ _ x y | .ustr _ x y => [x, y]
 | .clo _ a b => a ++ b
 | .slcS x lo hi => x :: (lo.toList ++ hi.toList)
 | .slcV _ x lo hi mx | .slcA _ _ x lo hi mx => x :: (lo.toList ++ hi.toList ++ mx.toList)
 | .build _ ps | .litS _ _ _ ps => ps.map fun p => p.2.2
 | .alloc _ | .allocT _ _ | .mkM | .stop => []
 | .call f as => f :: as
def cut (c : List AV) (o n : Nat) : Option (List AV) :=
 if o + n ≤ c.length then some ((c.drop o).take n) else none
def readCells (h : AH) (b o n : Nat) : Option (List AV) :=
 match h.get b with
 | some (.cells c _) => cut c o n
 | _ => none
def readCell (h : AH) (b o : Nat) : Option AV :=
 match h.get b with
 | some (.cells c _) => c[o]?
 | _ => none
def readVar (h : AH) (b o : Nat) : Option Nat → Option AV
 | none => readCell h b o
 | some n => (readCells h b o n).map .agg
def over (c : List AV) (o : Nat) (vs : List AV) : List AV := c.take o ++ vs ++ c.drop (o + vs.length)
def writeCells (h : AH) (b o : Nat) (vs : List AV) : Option AH :=
 match h.get b with
 | some (.cells c false) => if o + vs.length ≤ c.length && vs.all AV.one then some (h.set b (.cells (over c o vs) false)) else none
 | _ => none
def asInt : AV → Option Int
 | .int _ n => some n
 | _ => none
def bound (y : Nat) : AV → Option Nat
 | .int _ n => if 0 ≤ n ∧ n ≤ y then some n.toNat else none
 | _ => none
def optBound (tm : List AV) (y d : Nat) : Option CA → Option Nat
 | some x => bound y (x.ev tm)
 | none => some d
def partOf (agg : Option Nat) (cs : List AV) (off : Nat) : Option AV :=
 match agg with
 | none => cs[off]?
 | some n => (cut cs off n).map .agg
def fillA (tm : List AV) : List AV → List (Nat × Nat × CA) → Option (List AV)
 | cs, [] => some cs
 | cs, (off, size, x) :: rest =>
   let vs := (x.ev tm).cells
   if vs.length = size ∧ off + size ≤ cs.length then fillA tm (over cs off vs) rest else none
def reps (z : List AV) : Nat → List AV
 | 0 => []
 | n + 1 => z ++ reps z n
def mapFind (q : SK) (k : AV) : List (AV × AV) → Option (Option AV)
 | [] => some none
 | (k', v) :: es => match scalEq q k k' with
   | some true => some (some v)
   | some false => mapFind q k es
   | none => none
def mapPut (q : SK) (k v : AV) : List (AV × AV) → Option (List (AV × AV))
 | [] => some [(k, v)]
 | (k', v') :: es => match scalEq q k k' with
   | some true => some ((k, v) :: es)
   | some false => (mapPut q k v es).map ((k', v') :: ·)
   | none => none
def scalar : SK → AV → Bool
 | .b, .bool _ | .i, .int _ _ | .s, .str _ => true
 | _, _ => false
def bytesOf : List AV → Option (List UInt8)
 | [] => some []
 | .int .u8 n :: cs => (bytesOf cs).map (UInt8.ofNat n.toNat :: ·)
 | _ :: _ => none
def typed (h : AH) (t : Nat) : AV → Bool
 | .slice none _ _ => true
 | .slice (some (b, 0)) _ _ | .ptr (some (b, 0)) => match h.get (b + 1) with
   | some (.typ b' t') => b' == b && t' == t
   | _ => false
 | _ => false
def bytesIn : List AV → Option (List UInt8)
 | [] => some []
 | .int .u8 n :: cs => if 0 ≤ n ∧ n < 256 then (bytesIn cs).map (UInt8.ofNat n.toNat :: ·) else none
 | _ :: _ => none
def ofBytes (s : List UInt8) : List AV := s.map fun b => .int .u8 b.toNat
def highOf (tm : List AV) (m len : Nat) (hi mx : Option CA) : Option Nat :=
 match hi, mx with
 | some v, _ => bound m (v.ev tm)
 | none, none => some len
 | none, some _ => none
def bounds3 (tm : List AV) (len cap : Nat) (lo hi mx : Option CA) : Option (Nat × Nat × Nat) :=
 (optBound tm cap cap mx).bind fun m => (highOf tm m len hi mx).bind fun h => (optBound tm h 0 lo).map fun l => (l, h, m)
def quietRun (o : CO) (tm : List AV) (h : AH) : Option AV :=
 match o with
 | .mv x => some (x.ev tm)
 | .pick c a b => match c.ev tm with
   | .bool true => some (a.ev tm)
   | .bool false => some (b.ev tm)
   | _ => none
 | .nilchk x => match x.ev tm with
   | .ptr (some p) => some (.ptr (some p))
   | .func (.func f) fi ca => some (.func (.func f) fi ca)
   | _ => none
 | .bin op e x y => abin op e (x.ev tm) (y.ev tm)
 | .un op x => aun op (x.ev tm)
 | .toInt k x => match x.ev tm with
   | .int _ n => some (.int k (k.wrap n))
   | _ => none
 | .strId x => match x.ev tm with
   | .str s => some (.str s)
   | _ => none
 | .b2s x => match x.ev tm with
   | .slice none _ _ => some (.str [])
   | .slice (some (b, o)) n _ => (readCells h b o n).bind fun cs => (bytesOf cs).map .str
   | _ => none
 | .iface t x => some (.iface t (x.ev tm))
 | .clo fn first captured => some (.func fn (first.map (CA.ev tm)) (captured.map (CA.ev tm)))
 | .slcS x lo hi => match x.ev tm with
   | .str s => (bounds3 tm s.length s.length lo hi none).map fun (l, hh, _) => .str ((s.drop l).take (hh - l))
   | _ => none
 | .slcV esz x lo hi mx => match x.ev tm with
   | .slice a len (.exact cap) => (bounds3 tm len cap lo hi mx).map fun (l, hh, m) =>
       .slice (if m = l then a else a.map fun (b, o) => (b, o + l * esz)) (hh - l) (.exact (m - l))
   | .slice (some (b, o)) len (.opn e) =>
     match mx with
     | none => if e = esz then (bounds3 tm len len lo hi none).map fun (l, hh, _) => .slice (some (b, o + l * esz)) (hh - l) (.opn esz) else none
     | some _ => (bounds3 tm len len lo hi mx).bind fun (l, hh, m) => if m = l then none else some (.slice (some (b, o + l * esz)) (hh - l) (.exact (m - l)))
   | _ => none
 | .slcA n esz x lo hi mx => match x.ev tm with
   | .ptr (some (b, o)) => (bounds3 tm n n lo hi mx).map fun (l, hh, m) => .slice (some (b, if m = l then o else o + l * esz)) (hh - l) (.exact (m - l))
   | _ => none
 | .faddr off x => match x.ev tm with
   | .ptr (some (b, o)) => some (.ptr (some (b, o + off)))
   | _ => none
 | .fld off agg x => match x.ev tm with
   | .agg cs => partOf agg cs off
   | _ => none
 | .iaddrS esz x i => match x.ev tm, i.ev tm with
   | .slice (some (b, o)) len _, .int _ n => if 0 ≤ n ∧ n < len then some (.ptr (some (b, o + n.toNat * esz))) else none
   | _, _ => none
 | .iaddrA n esz x i => match x.ev tm, i.ev tm with
   | .ptr (some (b, o)), .int _ j => if 0 ≤ j ∧ j < n then some (.ptr (some (b, o + j.toNat * esz))) else none
   | _, _ => none
 | .idxS x i => match x.ev tm, i.ev tm with
   | .str s, .int _ n => if 0 ≤ n then (s[n.toNat]?).map fun b => .int .u8 b.toNat else none
   | _, _ => none
 | .idxA n esz agg x i => match x.ev tm, i.ev tm with
   | .agg cs, .int _ j => if 0 ≤ j ∧ j < n then partOf agg cs (j.toNat * esz) else none
   | _, _ => none
 | .ext i x => match x.ev tm with
   | .tuple vs => vs[i]?
   | _ => none
 | .build zero places => (fillA tm zero places).map .agg
 | .load agg a => match a.ev tm with
   | .ptr (some (b, o)) => readVar h b o agg
   | _ => none
 | .lenC n _ => some (.int .i64 n)
 | .lenS x => match x.ev tm with
   | .str s => some (.int .i64 s.length)
   | _ => none
 | .lenV x => match x.ev tm with
   | .slice _ n _ => some (.int .i64 n)
   | _ => none
 | .lenM x => match x.ev tm with
   | .map none => some (.int .i64 0)
   | .map (some r) => match h.get r with
     | some (.map es) => some (.int .i64 es.length)
     | _ => none
   | _ => none
 | .cap x => match x.ev tm with
   | .slice _ _ (.exact n) => some (.int .i64 n)
   | _ => none
 | .minI x y => match x.ev tm, y.ev tm with
   | .int k a, .int _ b => some (.int k (if b < a then b else a))
   | _, _ => none
 | .maxI x y => match x.ev tm, y.ev tm with
   | .int k a, .int _ b => some (.int k (if a < b then b else a))
   | _, _ => none
 | .lookup q zero ok m k => match m.ev tm with
   | .map none => if scalar q (k.ev tm) then some (if ok then .tuple [zero, .bool false] else zero) else none
   | .map (some r) => match h.get r with
     | some (.map es) => if scalar q (k.ev tm) then (mapFind q (k.ev tm) es).map fun
         | some v => if ok then .tuple [v, .bool true] else v
         | none => if ok then .tuple [zero, .bool false] else zero
       else none
     | _ => none
   | _ => none
 | .sdata x => match x.ev tm with
   | .slice none _ _ => some (.ptr none)
   | .slice (some p) len (.opn _) => if 0 < len then some (.ptr (some p)) else none
   | .slice (some p) _ (.exact c) => if 0 < c then some (.ptr (some p)) else none
   | _ => none
 | .toUns x => match x.ev tm with
   | .ptr none => some (.ptr none)
   | .ptr (some (b, o)) => (readCell h b o).map fun _ => .ptr (some (b, o))
   | _ => none
 | .fromUns t n x => match x.ev tm with
   | .ptr none => some (.ptr none)
   | .ptr (some (b, o)) => if typed h t (.ptr (some (b, o))) then (readCells h b 0 n).map fun _ => .ptr (some (b, o)) else none
   | _ => none
 | _ => none
def elemsOf (esz : Nat) (h : AH) : AV → Option (List AV)
 | .slice a n _ => if n = 0 then some [] else match a with
   | none => none
   | some (b, o) => readCells h b o (n * esz)
 | .str s => if esz = 1 then some (ofBytes s) else none
 | _ => none
def lenOf : AV → Option Nat
 | .slice _ n _ => some n
 | .str s => some s.length
 | _ => none
def appendCore (esz bytes : Nat) (s : AV) (n : Nat) (new : List AV) (h : AH) : Option (AV × AH) :=
 match s with
 | .slice base sLen cap => (elemsOf esz h s).bind fun old =>
   let fresh (h : AH) : Option (AV × AH) :=
    if (sLen + n) * bytes ≤ 140737488355328 ∧ sLen + n ≤ 1152921504606846976 then some (.slice (some (h.n, 0)) (sLen + n) (.opn esz), h.push (.cells (old ++ new) false)) else none
   match cap, base with
   | .exact c, none => if sLen + n ≤ c then some (s, h) else fresh h
   | .exact c, some (b, o) =>
     if sLen + n ≤ c then
      if n = 0 then some (.slice base sLen cap, h)
      else (writeCells h b (o + sLen * esz) new).map fun h' => (.slice base (sLen + n) cap, h')
     else fresh h
   | .opn e, some (b, o) =>
     if n = 0 then some (s, h) else
     if e = esz then
      match h.get b with
      | some (.cells c false) =>
        if o + (sLen + n) * esz ≤ c.length then (writeCells h b (o + sLen * esz) new).map fun h' => (.slice (some (b, o)) (sLen + n) cap, h')
        else if o + sLen * esz = c.length ∧ new.all AV.one then fresh (h.set b .dead) else none
      | _ => none
     else none
   | .opn _, none => none
 | _ => none
def appendRun (esz bytes : Nat) (s x : AV) (h : AH) : Option (AV × AH) :=
 (lenOf x).bind fun n => (elemsOf esz h x).bind fun new => appendCore esz bytes s n new h
def appendZ (esz bytes : Nat) (zero : List AV) (s n : AV) (h : AH) : Option (AV × AH) :=
 match n with
 | .int _ l => if 0 ≤ l ∧ l * bytes ≤ 281474976710656 ∧ l ≤ 1152921504606846976 then appendCore esz bytes s l.toNat (reps zero l.toNat) h else none
 | _ => none
def noteT (c : Bool) (t n : Nat) (h' : AH) : AH := if h'.n = n + 1 ∧ c = true then h'.push (.typ n t) else h'
abbrev Rec := Nat → List AV → AH → Option (AV × AH)
def effRun (call : Rec) (o : CO) (tm : List AV) (h : AH) : Option (AV × AH) :=
 match o with
 | .box x => if (x.ev tm).cells.all AV.one then some (.ptr (some (h.n, 0)), h.push (.cells (x.ev tm).cells false)) else none
 | .alloc zero => some (.ptr (some (h.n, 0)), h.push (.cells zero false))
 | .store n a x => match a.ev tm with
   | .ptr (some (b, o)) => if (x.ev tm).cells.length = n then (writeCells h b o (x.ev tm).cells).map fun h' => (AV.undef, h') else none
   | _ => none
 | .mkS bytes _ zero l c => match l.ev tm, c.ev tm with
   | .int _ l, .int _ c => if 0 ≤ l ∧ l ≤ c ∧ bytes * c ≤ 281474976710656 ∧ c ≤ 1152921504606846976 then
       some (.slice (some (h.n, 0)) l.toNat (.exact c.toNat), h.push (.cells (reps zero c.toNat) false)) else none
   | _, _ => none
 | .litS _ len zero places => match fillA tm (reps zero len) places with
   | some cs => if cs.all AV.one then some (.slice (some (h.n, 0)) len (.exact len), h.push (.cells cs false)) else none
   | none => none
 | .mkM => some (.map (some h.n), h.push (.map []))
 | .mapset q m k v => match m.ev tm with
   | .map (some r) => match h.get r with
     | some (.map es) => if scalar q (k.ev tm) then (mapPut q (k.ev tm) (v.ev tm) es).map fun es' => (AV.undef, h.set r (.map es')) else none
     | _ => none
   | _ => none
 | .append esz bytes s x => appendRun esz bytes (s.ev tm) (x.ev tm) h
 | .appz esz bytes zero s n => appendZ esz bytes zero (s.ev tm) (n.ev tm) h
 | .copy esz d s => match d.ev tm with
   | .slice base dLen _ => (lenOf (s.ev tm)).bind fun n => (elemsOf esz h (s.ev tm)).bind fun xs =>
     let k := min n dLen
     match base with
     | none => some (.int .i64 k, h)
     | some (b, o) => if k = 0 then some (.int .i64 k, h) else (writeCells h b o (xs.take (k * esz))).map fun h' => (.int .i64 k, h')
   | _ => none
 | .s2b x => match x.ev tm with
   | .str s => if s.length ≤ 1152921504606846976 then some (.slice (some (h.n, 0)) s.length (.opn 1), h.push (.cells (ofBytes s) false)) else none
   | _ => none
 | .allocT t zero => some (.ptr (some (h.n, 0)), (h.push (.cells zero false)).push (.typ h.n t))
 | .mkST t bytes _ zero l c => match l.ev tm, c.ev tm with
   | .int _ l, .int _ c => if 0 ≤ l ∧ l ≤ c ∧ bytes * c ≤ 281474976710656 ∧ c ≤ 1152921504606846976 then
       some (.slice (some (h.n, 0)) l.toNat (.exact c.toNat), (h.push (.cells (reps zero c.toNat) false)).push (.typ h.n t)) else none
   | _, _ => none
 | .appendT t esz bytes s x => (appendRun esz bytes (s.ev tm) (x.ev tm) h).map fun (v, h') => (v, noteT (typed h t (s.ev tm)) t h.n h')
 | .ustr t p n => match p.ev tm, n.ev tm with
   | .ptr none, .int .i64 l => if l = 0 then some (.str [], h) else none
   | .ptr (some (b, o)), .int .i64 l => if l = 0 then some (.str [], h) else
     if 0 < l ∧ l ≤ 1152921504606846976 ∧ typed h t (.ptr (some (b, o))) = true then
      match h.get b with
      | some (.cells c false) => (cut c 0 l.toNat).bind fun cs => (bytesIn cs).map fun s => (.str s, h.set b (.cells c true))
      | _ => none
     else none
   | _, _ => none
 | .iterS x => match x.ev tm with
   | .str s => some (.ptr (some (h.n, 0)), h.push (.iter s 0))
   | _ => none
 | .nextS x => match x.ev tm with
   | .ptr (some (b, 0)) => match h.get b with
     | some (.iter s pos) =>
       if pos < s.length then
        let d := Utf8.decode ⟨s.toArray⟩ pos
        some (.tuple [.bool true, .int .i64 pos, .int .i32 d.1], h.set b (.iter s (pos + d.2)))
       else some (.tuple [.bool false], h)
     | _ => none
   | _ => none
 | .call f args => match f.ev tm with
   | .func (.func g) first captured => call g (first ++ args.map (CA.ev tm) ++ captured) h
   | _ => none
 | _ => none
def runOp (call : Rec) (o : CO) (tm : List AV) (h : AH) : Option (AV × AH) :=
 if o.quiet then (quietRun o tm h).map fun v => (v, h) else effRun call o tm h
structure CR where
 dst : Option Nat
 op : CO
 guard : Option (Nat × Bool)
 deriving Inhabited
def CR.wanted (o : CR) (tm : List AV) : Bool :=
 match o.guard with
 | none => true
 | some (j, want) => match tm.getD j AV.undef with
   | .bool b => b == want
   | _ => false
def CR.looks (o : CR) : List Nat :=
 (o.op.args.filterMap fun | .t i => some i | _ => none) ++ (match o.guard with | some (j, _) => [j] | none => [])
def put (tm : List AV) (dst : Option Nat) (v : AV) : List AV :=
 match dst with
 | some d => tm.set d v
 | none => tm
def runOps (call : Rec) : List CR → List AV → AH → Option (List AV × AH)
 | [], tm, h => some (tm, h)
 | o :: rest, tm, h =>
   if o.wanted tm then (runOp call o.op tm h).bind fun (v, h') => runOps call rest (put tm o.dst v) h'
   else runOps call rest (put tm o.dst AV.undef) h
structure CD extends CR where
 lo : Nat
 hi : Nat
 still : Bool
 deriving Inhabited
def stillRun (call : Rec) (o : CO) (tm : List AV) (h : AH) : Option AV :=
 match o with
 | .call _ _ => match effRun call o tm (h.withLow h.n) with
   | some (v, h') => if h'.n = h.n ∧ h.n ≤ h'.low then some v else none
   | none => none
 | _ => none
def CD.calm (o : CD) : Bool := o.op.quiet || o.still
def CD.looksIn (o : CD) : Bool := o.still || o.op.reads
def calmRun (call : Rec) (o : CD) (tm : List AV) (h : AH) : Option AV :=
 if o.op.quiet then quietRun o.op tm h else stillRun call o.op tm h
def agrees (call : Rec) (o : CD) (tm : List AV) (v : AV) (h : AH) : Bool :=
 match calmRun call o tm h with
 | some u => u.same v
 | none => false
def runT (call : Rec) : List CD → List AV → AH → Option (List (List AV × AV × Bool) × List AH × List AV)
 | [], tm, h => some ([], [h], tm)
 | o :: rest, tm, h =>
   if o.wanted tm then
    if o.calm then
     (calmRun call o tm h).bind fun v => (runT call rest (put tm o.dst v) h).map fun (rs, hs, tm') => ((tm, v, true) :: rs, hs, tm')
    else
     (effRun call o.op tm h).bind fun (v, h') => (runT call rest (put tm o.dst v) h').map fun (rs, hs, tm') => ((tm, v, true) :: rs, h :: hs, tm')
   else (runT call rest (put tm o.dst AV.undef) h).map fun (rs, hs, tm') => ((tm, AV.undef, false) :: rs, if o.calm then hs else h :: hs, tm')
def steady (call : Rec) (hs : List AH) : List CD → List (List AV × AV × Bool) → Bool
 | o :: os, (tm, v, wt) :: rs => (!(wt && o.calm && o.looksIn) || ((hs.drop o.lo).take (o.hi + 1 - o.lo)).all (agrees call o tm v)) && steady call hs os rs
 | _, _ => true
def runD (call : Rec) (ops : List CD) (tm : List AV) (h : AH) : Option (List AV × AH) :=
 match runT call ops tm h with
 | some (rs, hs, tm') => if steady call hs ops rs then some (tm', hs.getLastD h) else none
 | none => none
inductive AEx where
 | normal
 | exit (id : Nat)
 | ret
inductive CC where
 | skip
 | region (ops : List CR)
 | regionD (ops : List CD)
 | seq (a b : CC)
 | cond (c : CA) (thn els : CC)
 | block (id : Nat) (body : CC)
 | loop (body : CC)
 | exit (id : Nat)
 | ret
 | stop
 deriving Inhabited
abbrev St := AEx × List AV × AH
def iter (body : List AV → AH → Option St) : Nat → List AV → AH → Option St
 | 0, _, _ => none
 | n + 1, tm, h => match body tm h with
   | some (.normal, tm', h') => iter body n tm' h'
   | r => r
def runC (call : Rec) (fuel : Nat) : CC → List AV → AH → Option St
 | .skip, tm, h => some (.normal, tm, h)
 | .region ops, tm, h => (runOps call ops tm h).map fun (tm', h') => (.normal, tm', h')
 | .regionD ops, tm, h => (runD call ops tm h).map fun (tm', h') => (.normal, tm', h')
 | .seq a b, tm, h => match runC call fuel a tm h with
   | some (.normal, tm', h') => runC call fuel b tm' h'
   | r => r
 | .cond c x y, tm, h => match c.ev tm with
   | .bool true => runC call fuel x tm h
   | .bool false => runC call fuel y tm h
   | _ => none
 | .block id c, tm, h => match runC call fuel c tm h with
   | some (.exit id', tm', h') => if id' = id then some (.normal, tm', h') else some (.exit id', tm', h')
   | r => r
 | .loop c, tm, h => iter (runC call fuel c) fuel tm h
 | .exit id, tm, h => some (.exit id, tm, h)
 | .ret, tm, h => some (.ret, tm, h)
 | .stop, _, _ => none
inductive CRes where
 | tmp (t : Nat)
 | cell (t : Nat) (agg : Option Nat)
 deriving Inhabited
structure CF where
 ntmps : Nat
 res : List CRes
 body : CC
 deriving Inhabited
def resOne (tm : List AV) (h : AH) : CRes → Option AV
 | .tmp t => some (tm.getD t AV.undef)
 | .cell t agg => match tm.getD t AV.undef with
   | .ptr (some (b, o)) => readVar h b o agg
   | _ => none
def resAll (tm : List AV) (h : AH) : List CRes → Option AV
 | [r] => resOne tm h r
 | rs => (rs.mapM (resOne tm h)).map .tuple
def settle (h h' : AH) (v : AV) : AV × AH :=
 if h.n ≤ h'.low ∧ v.under h.n = true then (v, h) else (v, h'.withLow (min h.low h'.low))
def runF (call : Rec) (fuel : Nat) (f : CF) (args : List AV) (h : AH) : Option (AV × AH) :=
 match runC call fuel f.body (args ++ List.replicate (f.ntmps - args.length) AV.undef) (h.withLow h.n) with
 | some (.normal, tm, h') | some (.ret, tm, h') => (resAll tm h' f.res).map (settle h h')
 | _ => none
abbrev Orc := Nat → Option (List AV → AH → Option (AV × AH))
def noOrc : Orc := fun _ => none
def runO (orc : Orc) (tbl : Nat → Option CF) : Nat → Rec
 | 0, _, _, _ => none
 | n + 1, f, args, h => match orc f with
   | some s => s args h
   | none => match tbl f with
     | some cf => runF (runO orc tbl n) n cf args h
     | none => none
abbrev run (tbl : Nat → Option CF) : Nat → Rec := runO noOrc tbl
end Go.Fs
end

section
/- How an abstract heap stands to a world: values, blocks, the heap; what a step keeps. -/
namespace Go.Fs
structure Emb where
 n : Nat
 blk : Nat → Nat
 sh : Nat → Nat
 size : Nat → Nat
 ty : Nat → Nat
mutual
def VRel (ι : Emb) : AV → Value → Prop
 | .bool b, v => v = .bool b
 | .int k n, v => v = .int k n
 | .str s, v => v = .string ⟨s.toArray⟩
 | .ptr none, v => v = .pointer none
 | .ptr (some (b, o)), v => b < ι.n ∧ v = .pointer (some ⟨ι.blk b, ι.sh b + o, none⟩)
 | .slice none len (.exact c), v => len = 0 ∧ c = 0 ∧ v = .slice none 0 0
 | .slice none _ (.opn _), _ => False
 | .slice (some (b, o)) len (.exact c), v => b < ι.n ∧ len ≤ c ∧ ∃ a, v = .slice (some a) len c ∧ (0 < c → a = ⟨ι.blk b, ι.sh b + o, none⟩)
 | .slice (some (b, o)) len (.opn e), v => b < ι.n ∧ 0 < e ∧ ∃ o' c', v = .slice (some ⟨ι.blk b, o', none⟩) len c' ∧ c' ≤ maxLen ∧
     ((o' = ι.sh b + o ∧ len ≤ c' ∧ o' + c' * e = ι.size b) ∨ (len = 0 ∧ c' = 0 ∧ ι.size b ≤ ι.sh b + o))
 | .map none, v => v = .map none
 | .map (some b), v => b < ι.n ∧ v = .map (some (ι.blk b))
 | .func fn a c, v => ∃ ra rc, v = .func fn ra rc ∧ VRels ι a ra.toList ∧ VRels ι c rc.toList
 | .nilFunc, v => v = .nilFunc
 | .iface t x, v => ∃ rx, v = .iface t rx ∧ VRel ι x rx
 | .nilIface, v => v = .nilIface
 | .junk c, v => v.cells = #[v] ∧ (∀ b, v ≠ .bool b) ∧ (c = true → v.oneCell' = true)
 | .agg cs, v => ∃ rs, v = .agg rs ∧ VRels ι cs rs.toList
 | .tuple cs, v => ∃ rs, v = .tuple rs ∧ VRels ι cs rs.toList
def VRels (ι : Emb) : List AV → List Value → Prop
 | [], rs => rs = []
 | c :: cs, rs => ∃ r rs', rs = r :: rs' ∧ VRel ι c r ∧ VRels ι cs rs'
end
structure Emb.le (ι ι' : Emb) : Prop where
 n : ι.n ≤ ι'.n
 blk : ∀ b, b < ι.n → ι'.blk b = ι.blk b
 sh : ∀ b, b < ι.n → ι'.sh b = ι.sh b
 size : ∀ b, b < ι.n → ι'.size b = ι.size b
 ty : ∀ b, b < ι.n → ι'.ty b = ι.ty b
theorem Emb.le_refl (ι : Emb) : ι.le ι := ⟨Nat.le_refl _, fun _ _ => rfl, fun _ _ => rfl, fun _ _ => rfl, fun _ _ => rfl⟩
theorem Emb.le.trans {a b c : Emb} (h : a.le b) (k : b.le c) : a.le c :=
 ⟨Nat.le_trans h.n k.n, fun i hi => (k.blk i (Nat.lt_of_lt_of_le hi h.n)).trans (h.blk i hi), fun i hi => (k.sh i (Nat.lt_of_lt_of_le hi h.n)).trans (h.sh i hi),
  fun i hi => (k.size i (Nat.lt_of_lt_of_le hi h.n)).trans (h.size i hi), fun i hi => (k.ty i (Nat.lt_of_lt_of_le hi h.n)).trans (h.ty i hi)⟩
mutual
theorem VRel.mono {ι ι' : Emb} (h : ι.le ι') : ∀ {a : AV} {v : Value}, VRel ι a v → VRel ι' a v
 | .bool _, _, r | .int _ _, _, r | .str _, _, r | .ptr none, _, r | .map none, _, r | .nilFunc, _, r | .nilIface, _, r => by simpa [VRel] using r
 | .junk _, _, r => by simp only [VRel] at r ⊢; exact r
 | .slice none _ (.exact _), _, r => by simpa [VRel] using r
 | .slice none _ (.opn _), _, r => by simp [VRel] at r
 | .ptr (some (b, o)), v, r => by
   simp only [VRel] at r ⊢
   obtain ⟨hb, rfl⟩ := r
   exact ⟨Nat.lt_of_lt_of_le hb h.n, by rw [h.blk b hb, h.sh b hb]⟩
 | .slice (some (b, o)) len (.exact c), v, r => by
   simp only [VRel] at r ⊢
   obtain ⟨hb, hl, a, rfl, ha⟩ := r
   exact ⟨Nat.lt_of_lt_of_le hb h.n, hl, a, rfl, by rw [h.blk b hb, h.sh b hb]; exact ha⟩
 | .slice (some (b, o)) len (.opn e), v, r => by
   simp only [VRel] at r ⊢
   obtain ⟨hb, he, o', c', rfl, hm, hr⟩ := r
   exact ⟨Nat.lt_of_lt_of_le hb h.n, he, o', c', by rw [h.blk b hb], hm, by rw [h.sh b hb, h.size b hb]; exact hr⟩
 | .map (some b), v, r => by
   simp only [VRel] at r ⊢
   obtain ⟨hb, rfl⟩ := r
   exact ⟨Nat.lt_of_lt_of_le hb h.n, by rw [h.blk b hb]⟩
 | .func fn a c, v, r => by
   simp only [VRel] at r ⊢
   obtain ⟨ra, rc, rfl, h1, h2⟩ := r
   exact ⟨ra, rc, rfl, VRels.mono h h1, VRels.mono h h2⟩
 | .iface t x, v, r => by
   simp only [VRel] at r ⊢
   obtain ⟨rx, rfl, h1⟩ := r
   exact ⟨rx, rfl, VRel.mono h h1⟩
 | .agg cs, v, r => by
   simp only [VRel] at r ⊢
   obtain ⟨rs, rfl, h1⟩ := r
   exact ⟨rs, rfl, VRels.mono h h1⟩
 | .tuple cs, v, r => by
   simp only [VRel] at r ⊢
   obtain ⟨rs, rfl, h1⟩ := r
   exact ⟨rs, rfl, VRels.mono h h1⟩
theorem VRels.mono {ι ι' : Emb} (h : ι.le ι') : ∀ {a : List AV} {v : List Value}, VRels ι a v → VRels ι' a v
 | [], _, r => by simpa [VRels] using r
 | c :: cs, v, r => by
   simp only [VRels] at r ⊢
   obtain ⟨x, xs, rfl, h1, h2⟩ := r
   exact ⟨x, xs, rfl, VRel.mono h h1, VRels.mono h h2⟩
end
mutual
theorem VRel.under {ι : Emb} : ∀ {a : AV} {v : Value}, VRel ι a v → a.under ι.n = true
 | .bool _, _, _ | .int _ _, _, _ | .str _, _, _ | .ptr none, _, _ | .map none, _, _ | .nilFunc, _, _ | .nilIface, _, _ | .junk _, _, _ => by simp [AV.under]
 | .slice none _ _, _, _ => by simp [AV.under]
 | .ptr (some (b, o)), v, r => by simp only [VRel] at r; simp [AV.under, r.1]
 | .slice (some (b, o)) len (.exact c), v, r => by simp only [VRel] at r; simp [AV.under, r.1]
 | .slice (some (b, o)) len (.opn e), v, r => by simp only [VRel] at r; simp [AV.under, r.1]
 | .map (some b), v, r => by simp only [VRel] at r; simp [AV.under, r.1]
 | .func fn a c, v, r => by
   simp only [VRel] at r
   obtain ⟨ra, rc, rfl, h1, h2⟩ := r
   simp [AV.under, VRels.unders h1, VRels.unders h2]
 | .iface t x, v, r => by
   simp only [VRel] at r
   obtain ⟨rx, rfl, h1⟩ := r
   simp [AV.under, VRel.under h1]
 | .agg cs, v, r => by
   simp only [VRel] at r
   obtain ⟨rs, rfl, h1⟩ := r
   simp [AV.under, VRels.unders h1]
 | .tuple cs, v, r => by
   simp only [VRel] at r
   obtain ⟨rs, rfl, h1⟩ := r
   simp [AV.under, VRels.unders h1]
theorem VRels.unders {ι : Emb} : ∀ {a : List AV} {v : List Value}, VRels ι a v → AV.unders ι.n a = true
 | [], _, _ => by simp [AV.unders]
 | c :: cs, v, r => by
   simp only [VRels] at r
   obtain ⟨x, xs, rfl, h1, h2⟩ := r
   simp [AV.unders, VRel.under h1, VRels.unders h2]
end
mutual
theorem VRel.back {ι ι' : Emb} (h : ι.le ι') : ∀ {a : AV} {v : Value}, VRel ι' a v → a.under ι.n = true → VRel ι a v
 | .bool _, _, r, _ | .int _ _, _, r, _ | .str _, _, r, _ | .ptr none, _, r, _ | .map none, _, r, _ | .nilFunc, _, r, _ | .nilIface, _, r, _ => by simpa [VRel] using r
 | .junk _, _, r, _ => by simp only [VRel] at r ⊢; exact r
 | .slice none _ (.exact _), _, r, _ => by simpa [VRel] using r
 | .slice none _ (.opn _), _, r, _ => by simp [VRel] at r
 | .ptr (some (b, o)), v, r, u => by
   simp only [VRel] at r ⊢
   simp only [AV.under, decide_eq_true_eq] at u
   obtain ⟨hb, rfl⟩ := r
   exact ⟨u, by rw [h.blk b u, h.sh b u]⟩
 | .slice (some (b, o)) len (.exact c), v, r, u => by
   simp only [VRel] at r ⊢
   simp only [AV.under, decide_eq_true_eq] at u
   obtain ⟨hb, hl, a, rfl, ha⟩ := r
   exact ⟨u, hl, a, rfl, by rw [h.blk b u, h.sh b u] at ha; exact ha⟩
 | .slice (some (b, o)) len (.opn e), v, r, u => by
   simp only [VRel] at r ⊢
   simp only [AV.under, decide_eq_true_eq] at u
   obtain ⟨hb, he, o', c', rfl, hm, hr⟩ := r
   exact ⟨u, he, o', c', by rw [h.blk b u], hm, by rw [h.sh b u, h.size b u] at hr; exact hr⟩
 | .map (some b), v, r, u => by
   simp only [VRel] at r ⊢
   simp only [AV.under, decide_eq_true_eq] at u
   obtain ⟨hb, rfl⟩ := r
   exact ⟨u, by rw [h.blk b u]⟩
 | .func fn a c, v, r, u => by
   simp only [VRel] at r ⊢
   simp only [AV.under, Bool.and_eq_true] at u
   obtain ⟨ra, rc, rfl, h1, h2⟩ := r
   exact ⟨ra, rc, rfl, VRels.back h h1 u.1, VRels.back h h2 u.2⟩
 | .iface t x, v, r, u => by
   simp only [VRel] at r ⊢
   simp only [AV.under] at u
   obtain ⟨rx, rfl, h1⟩ := r
   exact ⟨rx, rfl, VRel.back h h1 u⟩
 | .agg cs, v, r, u => by
   simp only [VRel] at r ⊢
   simp only [AV.under] at u
   obtain ⟨rs, rfl, h1⟩ := r
   exact ⟨rs, rfl, VRels.back h h1 u⟩
 | .tuple cs, v, r, u => by
   simp only [VRel] at r ⊢
   simp only [AV.under] at u
   obtain ⟨rs, rfl, h1⟩ := r
   exact ⟨rs, rfl, VRels.back h h1 u⟩
theorem VRels.back {ι ι' : Emb} (h : ι.le ι') : ∀ {a : List AV} {v : List Value}, VRels ι' a v → AV.unders ι.n a = true → VRels ι a v
 | [], _, r, _ => by simpa [VRels] using r
 | c :: cs, v, r, u => by
   simp only [VRels] at r ⊢
   simp only [AV.unders, Bool.and_eq_true] at u
   obtain ⟨x, xs, rfl, h1, h2⟩ := r
   exact ⟨x, xs, rfl, VRel.back h h1 u.1, VRels.back h h2 u.2⟩
end
theorem VRels.length {ι : Emb} : ∀ {a : List AV} {v : List Value}, VRels ι a v → v.length = a.length
 | [], _, r => by simp only [VRels] at r; simp [r]
 | c :: cs, v, r => by
   simp only [VRels] at r
   obtain ⟨x, xs, rfl, h1, h2⟩ := r
   simp [VRels.length h2]
theorem VRels.get {ι : Emb} : ∀ {a : List AV} {v : List Value}, VRels ι a v → ∀ (i : Nat) (c : AV), a[i]? = some c → ∃ r, v[i]? = some r ∧ VRel ι c r
 | [], _, _, i, c, hc => by simp at hc
 | c :: cs, v, r, i, d, hd => by
   simp only [VRels] at r
   obtain ⟨x, xs, rfl, h1, h2⟩ := r
   cases i with
   | zero => simp at hd; subst hd; exact ⟨x, by simp, h1⟩
   | succ i => simpa using VRels.get h2 i d (by simpa using hd)
theorem VRels.mk {ι : Emb} : ∀ {a : List AV} {v : List Value}, v.length = a.length → (∀ (i : Nat) (c : AV), a[i]? = some c → ∃ r, v[i]? = some r ∧ VRel ι c r) → VRels ι a v
 | [], v, hl, _ => by simp only [VRels]; exact List.eq_nil_of_length_eq_zero (by simpa using hl)
 | c :: cs, [], hl, _ => by simp at hl
 | c :: cs, r :: rs, hl, h => by
   simp only [VRels]
   refine ⟨r, rs, rfl, ?_, VRels.mk (by simpa using hl) fun i d hd => by simpa using h (i + 1) d (by simpa using hd)⟩
   obtain ⟨r', h1, h2⟩ := h 0 c (by simp)
   simp at h1; subst h1; exact h2
theorem VRels.append {ι : Emb} : ∀ {a b : List AV} {v u : List Value}, VRels ι a v → VRels ι b u → VRels ι (a ++ b) (v ++ u)
 | [], _, _, _, r, s => by simp only [VRels] at r; subst r; simpa using s
 | c :: cs, b, v, u, r, s => by
   simp only [VRels] at r
   obtain ⟨x, xs, rfl, h1, h2⟩ := r
   simp only [List.cons_append, VRels]
   exact ⟨x, xs ++ u, rfl, h1, VRels.append h2 s⟩
theorem VRels.drop {ι : Emb} {a : List AV} {v : List Value} (h : VRels ι a v) (n : Nat) : VRels ι (a.drop n) (v.drop n) :=
 VRels.mk (by simp [h.length]) fun i c hc => by
  rw [List.getElem?_drop] at hc ⊢
  exact h.get _ c hc
theorem VRels.take {ι : Emb} {a : List AV} {v : List Value} (h : VRels ι a v) (n : Nat) : VRels ι (a.take n) (v.take n) :=
 VRels.mk (by simp [h.length]) fun i c hc => by
  rw [List.getElem?_take] at hc ⊢
  split at hc
  · rename_i hlt; simp only [hlt, if_true]; exact h.get _ c hc
  · cases hc
theorem VRels.set {ι : Emb} {a : List AV} {v : List Value} (h : VRels ι a v) {x : AV} {r : Value} (hx : VRel ι x r) (n : Nat) : VRels ι (a.set n x) (v.set n r) :=
 VRels.mk (by simp [h.length]) fun i c hc => by
  rw [List.getElem?_set] at hc ⊢
  have hl := h.length
  split at hc
  · rename_i hn
    subst hn
    split at hc
    · rename_i hlt
      cases hc
      exact ⟨r, by simp [hl, hlt], hx⟩
    · cases hc
  · rename_i hn
    rw [if_neg hn]
    exact h.get _ c hc
theorem VRels.replicate {ι : Emb} {x : AV} {r : Value} (hx : VRel ι x r) : ∀ n, VRels ι (List.replicate n x) (List.replicate n r)
 | 0 => by simp [VRels]
 | n + 1 => by simp only [List.replicate_succ, VRels]; exact ⟨r, _, rfl, hx, VRels.replicate hx n⟩
theorem VRel.undef {ι : Emb} : VRel ι AV.undef Go.undef := by
 unfold AV.undef Go.undef
 simp [VRel, VRels]
theorem VRels.getD {ι : Emb} {a : List AV} {v : List Value} (h : VRels ι a v) (i : Nat) : VRel ι (a.getD i AV.undef) (v.getD i Go.undef) := by
 have hl := h.length
 simp only [List.getD_eq_getElem?_getD]
 cases ha : a[i]? with
 | none =>
   rw [List.getElem?_eq_none_iff] at ha
   rw [List.getElem?_eq_none (by omega)]
   simpa using VRel.undef
 | some c =>
   obtain ⟨r, h1, h2⟩ := h.get i c ha
   rw [h1]
   simpa using h2
theorem VRel.one {ι : Emb} {a : AV} {v : Value} (h : VRel ι a v) (hn : ∀ cs, a ≠ .agg cs) : v.cells = #[v] := by
 match a, h with
 | .bool _, h | .int _ _, h | .str _, h | .ptr none, h | .map none, h | .nilFunc, h | .nilIface, h => simp only [VRel] at h; subst h; rfl
 | .ptr (some (_, _)), h => simp only [VRel] at h; obtain ⟨_, rfl⟩ := h; rfl
 | .map (some _), h => simp only [VRel] at h; obtain ⟨_, rfl⟩ := h; rfl
 | .slice none _ (.exact _), h => simp only [VRel] at h; obtain ⟨_, _, rfl⟩ := h; rfl
 | .slice none _ (.opn _), h => simp only [VRel] at h
 | .slice (some (_, _)) _ (.exact _), h => simp only [VRel] at h; obtain ⟨_, _, _, rfl, _⟩ := h; rfl
 | .slice (some (_, _)) _ (.opn _), h => simp only [VRel] at h; obtain ⟨_, _, _, _, rfl, _⟩ := h; rfl
 | .func _ _ _, h => simp only [VRel] at h; obtain ⟨_, _, rfl, _⟩ := h; rfl
 | .iface _ _, h => simp only [VRel] at h; obtain ⟨_, rfl, _⟩ := h; rfl
 | .tuple _, h => simp only [VRel] at h; obtain ⟨_, rfl, _⟩ := h; rfl
 | .junk _, h => simp only [VRel] at h; exact h.1
 | .agg cs, _ => exact absurd rfl (hn cs)
theorem VRel.cells {ι : Emb} {a : AV} {v : Value} (h : VRel ι a v) : VRels ι a.cells v.cells.toList := by
 by_cases hn : ∀ cs, a ≠ .agg cs
 · rw [h.one hn]
   have : a.cells = [a] := by cases a <;> first | rfl | exact absurd rfl (hn _)
   rw [this]
   simp only [VRels]
   exact ⟨v, [], by simp, h, rfl⟩
 · obtain ⟨cs, hc⟩ := Classical.not_forall.1 hn
   have hc := Classical.not_not.1 hc
   subst hc
   simp only [VRel] at h
   obtain ⟨rs, rfl, h1⟩ := h
   simpa [AV.cells, Value.cells] using h1
def Blk.rw : Blk → Prop
 | .cells _ ro => ro = false
 | .map _ => True
 | .iter _ _ => True
 | .dead | .typ _ _ => False
def Blk.live : Blk → Prop
 | .dead | .typ _ _ => False
 | _ => True
def ERels (ι : Emb) : List (AV × AV) → List MapEntry → Prop
 | [], rs => rs = []
 | (k, x) :: es, rs => ∃ r rs', rs = r :: rs' ∧ VRel ι k r.key ∧ VRel ι x r.val ∧ ERels ι es rs'
def Spare (v : Value) : Prop := ∃ a : AV, ∀ ι' : Emb, VRel ι' a v
def BRel (ι : Emb) (w : World) (b : Nat) : Blk → Prop
 | .cells cs ro => ∃ arr e fr, w.heap[ι.blk b]? = some (.cells arr e fr) ∧ ι.size b = arr.size ∧
     (∀ (i : Nat) (c : AV), cs[i]? = some c → ∃ v, arr[ι.sh b + i]? = some v ∧ VRel ι c v) ∧
     (ro = false → (∀ j, fr.1 ≤ j → j < fr.2 → arr.size ≤ j) ∧ ∀ (j : Nat) (v : Value), ι.sh b + cs.length ≤ j → arr[j]? = some v → Spare v) ∧ ι.ty b = e
 | .map es => ∃ rs clock, w.heap[ι.blk b]? = some (.map rs clock) ∧ ERels ι es rs.toList
 | .iter s pos => w.heap[ι.blk b]? = some (.stringIter ⟨s.toArray⟩ pos) ∧ ι.sh b = 0
 | .typ b' t => b' < ι.n ∧ ι.ty b' = t ∧ ι.sh b' = 0
 | .dead => True
structure Rel (G : Nat) (ι : Emb) (h : AH) (w : World) : Prop where
 n : ι.n = h.n
 dom : ∀ b c, h.get b = some c → b < h.n
 gn : G ≤ h.n
 glob : ∀ g, g < G → ι.blk g = g ∧ ι.sh g = 0
 brel : ∀ b c, h.get b = some c → BRel ι w b c
 sep : ∀ b b' c c', h.get b = some c → h.get b' = some c' → b ≠ b' → c.rw → c'.live → ι.blk b ≠ ι.blk b'
structure Stp (ι ι' : Emb) (h h' : AH) (w w' : World) : Prop where
 le : ι.le ι'
 os : w'.os = w.os
 tape : w'.tape = w.tape
 output : w'.output = w.output
 size : w.heap.size ≤ w'.heap.size
 kept : ∀ k, k < w.heap.size → (∀ b c, h.get b = some c → c.rw → ι.blk b ≠ k) → w'.heap[k]? = w.heap[k]?
 grow : ∀ b c, h'.get b = some c → c.rw → w.heap.size ≤ ι'.blk b ∨ ∃ b₀ c₀, h.get b₀ = some c₀ ∧ c₀.rw ∧ ι.blk b₀ = ι'.blk b
 nle : h.n ≤ h'.n
 low : h'.low ≤ h.low
 old : ∀ b, b < h'.low → b < h.n → h'.get b = h.get b
theorem Stp.refl (ι : Emb) (h : AH) (w : World) : Stp ι ι h h w w :=
 ⟨ι.le_refl, rfl, rfl, rfl, Nat.le_refl _, fun _ _ _ => rfl, fun b c hb hc => .inr ⟨b, c, hb, hc, rfl⟩, Nat.le_refl _, Nat.le_refl _, fun _ _ _ => rfl⟩
theorem Stp.trans {a b c : Emb} {h k l : AH} {w x y : World} (p : Stp a b h k w x) (q : Stp b c k l x y) : Stp a c h l w y where
 le := p.le.trans q.le
 os := q.os.trans p.os
 tape := q.tape.trans p.tape
 output := q.output.trans p.output
 size := Nat.le_trans p.size q.size
 kept := fun i hi hn => by
  rw [q.kept i (Nat.lt_of_lt_of_le hi p.size) ?_, p.kept i hi hn]
  intro b' c' hb hc he
  rcases p.grow b' c' hb hc with h1 | ⟨b0, c0, h1, h2, h3⟩
  · omega
  · exact hn b0 c0 h1 h2 (h3.trans he)
 grow := fun b' c' hb hc => by
  rcases q.grow b' c' hb hc with h1 | ⟨b0, c0, h1, h2, h3⟩
  · exact .inl (Nat.le_trans p.size h1)
  · rcases p.grow b0 c0 h1 h2 with h4 | ⟨b1, c1, h4, h5, h6⟩
    · exact .inl (by rw [← h3]; exact h4)
    · exact .inr ⟨b1, c1, h4, h5, h6.trans h3⟩
 nle := Nat.le_trans p.nle q.nle
 low := Nat.le_trans q.low p.low
 old := fun b' h1 h2 => by
  rw [q.old b' h1 (Nat.lt_of_lt_of_le h2 p.nle), p.old b' (Nat.lt_of_lt_of_le h1 q.low) h2]
theorem Stp.drew (ι : Emb) (h : AH) (w : World) : Stp ι ι h h w w.drew :=
 ⟨ι.le_refl, rfl, rfl, rfl, Nat.le_refl _, fun _ _ _ => rfl, fun b c hb hc => .inr ⟨b, c, hb, hc, rfl⟩, Nat.le_refl _, Nat.le_refl _, fun _ _ _ => rfl⟩
theorem BRel.mono {ι ι' : Emb} {w w' : World} {b : Nat} {c : Blk} (hb : b < ι.n) (hle : ι.le ι') (hh : c.live → w'.heap[ι.blk b]? = w.heap[ι.blk b]?) (h : BRel ι w b c) : BRel ι' w' b c := by
 cases c with
 | cells cs ro =>
   obtain ⟨arr, e, fr, h1, h2, h3, h4, h4'⟩ := h
   refine ⟨arr, e, fr, by rw [hle.blk b hb, hh trivial, h1], by rw [hle.size b hb, h2], fun i x hx => ?_, fun hro => ⟨(h4 hro).1, by rw [hle.sh b hb]; exact (h4 hro).2⟩, by rw [hle.ty b hb, h4']⟩
   obtain ⟨v, h5, h6⟩ := h3 i x hx
   exact ⟨v, by rw [hle.sh b hb]; exact h5, h6.mono hle⟩
 | map es =>
   obtain ⟨rs, cl, h1, h2⟩ := h
   refine ⟨rs, cl, by rw [hle.blk b hb, hh trivial, h1], ?_⟩
   clear h1 hh
   revert h2
   generalize rs.toList = l
   induction es generalizing l with
   | nil => exact fun h => h
   | cons p es ih =>
     obtain ⟨k, x⟩ := p
     intro h2
     obtain ⟨r, rs', rfl, g1, g2, g3⟩ := h2
     exact ⟨r, rs', rfl, g1.mono hle, g2.mono hle, ih _ g3⟩
 | iter s pos => exact ⟨by rw [hle.blk b hb, hh trivial]; exact h.1, by rw [hle.sh b hb]; exact h.2⟩
 | typ b' t => exact ⟨Nat.lt_of_lt_of_le h.1 hle.n, by rw [hle.ty b' h.1]; exact h.2.1, by rw [hle.sh b' h.1]; exact h.2.2⟩
 | dead => trivial
theorem Rel.drew {G : Nat} {ι : Emb} {h : AH} {w : World} (r : Rel G ι h w) : Rel G ι h w.drew :=
 ⟨r.n, r.dom, r.gn, r.glob, fun b c hb => (r.brel b c hb).mono (by rw [r.n]; exact r.dom b c hb) ι.le_refl fun _ => rfl, r.sep⟩
def Emb.add (ι : Emb) (B s z t : Nat) : Emb :=
 ⟨ι.n + 1, fun b => if b = ι.n then B else ι.blk b, fun b => if b = ι.n then s else ι.sh b, fun b => if b = ι.n then z else ι.size b, fun b => if b = ι.n then t else ι.ty b⟩
theorem Emb.le_add (ι : Emb) (B s z t : Nat) : ι.le (ι.add B s z t) :=
 ⟨Nat.le_succ _, fun b hb => by simp [Emb.add, Nat.ne_of_lt hb], fun b hb => by simp [Emb.add, Nat.ne_of_lt hb], fun b hb => by simp [Emb.add, Nat.ne_of_lt hb], fun b hb => by simp [Emb.add, Nat.ne_of_lt hb]⟩
@[simp] theorem Emb.add_n (ι : Emb) (B s z t : Nat) : (ι.add B s z t).n = ι.n + 1 := rfl
@[simp] theorem Emb.add_blk (ι : Emb) (B s z t : Nat) : (ι.add B s z t).blk ι.n = B := by simp [Emb.add]
@[simp] theorem Emb.add_sh (ι : Emb) (B s z t : Nat) : (ι.add B s z t).sh ι.n = s := by simp [Emb.add]
@[simp] theorem Emb.add_size (ι : Emb) (B s z t : Nat) : (ι.add B s z t).size ι.n = z := by simp [Emb.add]
@[simp] theorem Emb.add_ty (ι : Emb) (B s z t : Nat) : (ι.add B s z t).ty ι.n = t := by simp [Emb.add]
theorem Rel.push {G : Nat} {ι : Emb} {h : AH} {w : World} (r : Rel G ι h w) (c : Blk) (o : Obj) (z t : Nat) (_hc : c.live)
    (hb : BRel (ι.add w.heap.size 0 z t) (w.alloc o) h.n c) :
    Rel G (ι.add w.heap.size 0 z t) (h.push c) (w.alloc o) ∧ Stp ι (ι.add w.heap.size 0 z t) h (h.push c) w (w.alloc o) := by
 have hn := r.n
 have hlt : ∀ b c, h.get b = some c → c.live → ι.blk b < w.heap.size := fun b c hb hl => by
  have := r.brel b c hb
  cases c with
  | cells cs ro => obtain ⟨arr, e, fr, h1, _⟩ := this; exact (Array.getElem?_eq_some_iff.1 h1).1
  | map es => obtain ⟨rs, cl, h1, _⟩ := this; exact (Array.getElem?_eq_some_iff.1 h1).1
  | iter s p => exact (Array.getElem?_eq_some_iff.1 this.1).1
  | typ _ _ => exact hl.elim
  | dead => exact hl.elim
 have hadd : ∀ b, b ≠ h.n → (ι.add w.heap.size 0 z t).blk b = ι.blk b := fun b hb => by simp [Emb.add, hn, hb]
 have hself : (ι.add w.heap.size 0 z t).blk h.n = w.heap.size := by rw [← hn]; simp
 refine ⟨⟨by simp [hn], fun b d hd => ?_, Nat.le_succ_of_le r.gn, fun g hg => ?_, fun b d hd => ?_, fun b b' d d' hd hd' hne hrw hlive => ?_⟩, ?_⟩
 · rw [Hp.get_push] at hd
   split at hd
   · rename_i he; simp [he]
   · have := r.dom b d hd; simp; omega
 · have := r.gn
   have h1 := r.glob g hg
   simp [Emb.add, show g ≠ ι.n by omega, h1]
 · rw [Hp.get_push] at hd
   split at hd
   · rename_i he; cases hd; rw [he]; exact hb
   · have hbn := r.dom b d hd
     refine (r.brel b d hd).mono (by omega) (ι.le_add _ _ _ _) fun hl => ?_
     exact heap_alloc_old w o _ (hlt b d hd hl)
 · rw [Hp.get_push] at hd hd'
   by_cases e1 : b = h.n
   · by_cases e2 : b' = h.n
     · omega
     · rw [if_neg e2] at hd'
       rw [hadd b' e2, e1, hself]
       have := hlt b' d' hd' hlive
       omega
   · rw [if_neg e1] at hd
     by_cases e2 : b' = h.n
     · have hl : d.live := by cases d <;> first | trivial | exact hrw.elim
       rw [hadd b e1, e2, hself]
       have := hlt b d hd hl
       omega
     · rw [if_neg e2] at hd'
       rw [hadd b e1, hadd b' e2]
       exact r.sep b b' d d' hd hd' hne hrw hlive
 · refine ⟨ι.le_add _ _ _ _, rfl, rfl, rfl, by simp, fun k hk _ => heap_alloc_old w o k hk, fun b d hd hrw => ?_, by simp, by simp, fun b _ hb => Hp.get_push_ne _ _ _ (by omega)⟩
   rw [Hp.get_push] at hd
   split at hd
   · rename_i he; left; rw [he, hself]; exact Nat.le_refl _
   · rename_i he; exact .inr ⟨b, d, hd, hrw, (hadd b he).symm⟩
end Go.Fs
end

section
/- From the elaborated operations and code to the abstract machine's: types are looked up once. -/
namespace Go.Fs
section
variable (P : Program)
def sizeT (t : TypeId) : Option Nat := (P.info? t).map (·.size)
def aggT (t : TypeId) : Option (Option Nat) :=
 match P.underlying t, P.info? t with
 | some (.struct _), some i | some (.array _ _), some i => some (some i.size)
 | some (.struct _), none | some (.array _ _), none => none
 | some _, _ => some none
 | none, _ => none
def zeroT (t : TypeId) : Option AV := (P.info? t).bind fun i => i.zero.bind (ofValue 200)
def isU8 (t : TypeId) : Bool :=
 match P.underlying t with
 | some (.int .u8) => true
 | _ => false
def leavesFs (rec : TypeId → Option (List (Nat × SK))) (sz : Nat) : List Field → Option (List (Nat × SK))
 | [] => some []
 | f :: fs => match leavesFs rec sz fs with
   | none => none
   | some l => if f.name = "_" then some l else match sizeT P f.type, rec f.type with
     | some s, some m => if f.offset + s ≤ sz ∧ 0 < s then some (m.map (fun p => (p.1 + f.offset, p.2)) ++ l) else none
     | _, _ => none
def leavesT : Nat → TypeId → Option (List (Nat × SK))
 | 0, _ => none
 | d + 1, t => match P.underlying t with
   | some .bool => some [(0, .b)]
   | some (.int _) => some [(0, .i)]
   | some .string => some [(0, .s)]
   | some (.struct fs) => match sizeT P t with
     | some sz => if P.stoodInHeld t then none else leavesFs P (leavesT d) sz fs.toList
     | none => none
   | some (.array n e) => match sizeT P t, sizeT P e, leavesT d e with
     | some sz, some s, some m => if n * s ≤ sz ∧ 0 < s then some ((List.range' 0 n).flatMap fun i => m.map fun p => (p.1 + i * s, p.2)) else none
     | _, _, _ => none
   | _ => none
def cA : Operand → Option CA
 | .tmp t => some (.t t)
 | .const v => (ofValue 200 v).map .c
 | .global g => if g < P.globals.size then some (.g g) else none
 | .func f => some (.f f)
def cAs (xs : Array Operand) : Option (List CA) := xs.toList.mapM (cA P)
def cO : Option Operand → Option (Option CA)
 | none => some none
 | some x => (cA P x).map some
def isConst : Operand → Bool
 | .const _ => true
 | _ => false
def keyT (t : TypeId) : Option SK :=
 match P.underlying t with
 | some (.int _) => some .i
 | some .string => some .s
 | some .bool => some .b
 | _ => none
def scalT (t : TypeId) : Option SK :=
 match P.info? t with
 | some i => if i.comparable then keyT P t else none
 | none => none
def eqT (op : BinOp) (t : TypeId) (x y : Operand) : EqT :=
 match op with
 | .eql | .neq => match P.underlying t with
   | some .bool => .scal
   | some (.struct _) | some (.array _ _) => if P.eqGuardType P.depth t then .other else match sizeT P t, leavesT P 40 t with
     | some s, some l => .agg s l
     | _, _ => .other
   | some (.pointer e) => .ptr ((sizeT P e).any fun n => n != 0)
   | some (.slice _) => .slice
   | some (.map _ _) => .map
   | some (.func _ _ _) => .func
   | some (.interface _) => .iface (isConst x || isConst y) (scalT P)
   | _ => .other
 | _ => .other
def placesF (fs : Array Field) : List (Nat × Operand) → Option (List (Nat × Nat × CA))
 | [] => some []
 | (i, x) :: ps => match fs[i]? with
   | some f => match sizeT P f.type, cA P x, placesF fs ps with
     | some s, some c, some l => some ((f.offset, s, c) :: l)
     | _, _, _ => none
   | none => none
def placesA (s : Nat) : List (Nat × Operand) → Option (List (Nat × Nat × CA))
 | [] => some []
 | (i, x) :: ps => match cA P x, placesA s ps with
   | some c, some l => some ((i * s, s, c) :: l)
   | _, _ => none
def zeroArg : Option TypeId → Bool
 | none => false
 | some u => match P.underlying u with
   | some (.int _) => true
   | _ => false
def ownRef (t : TypeId) : Bool :=
 match P.underlying t with
 | some (.struct fs) => match fs[0]? with
   | some f => match P.underlying f.type with
     | some (.pointer u) => u == t
     | _ => false
   | none => false
 | _ => false
def cBuiltin (b : Builtin) (ts : Array TypeId) (args : Array Operand) : Option CO :=
 match b, args.toList, ts[0]? with
 | .len, [x], some t => match P.underlying t with
   | some .string => (cA P x).map .lenS
   | some (.slice _) => (cA P x).map .lenV
   | some (.map _ _) => (cA P x).map .lenM
   | some (.array n _) => (cA P x).map (.lenC n)
   | some (.pointer a) => match P.underlying a with
     | some (.array n _) => (cA P x).map (.lenC n)
     | _ => none
   | _ => none
 | .cap, [x], some t => match P.underlying t with
   | some (.slice _) => (cA P x).map .cap
   | _ => none
 | .min, [x, y], _ => match cA P x, cA P y with
   | some a, some b => some (.minI a b)
   | _, _ => none
 | .max, [x, y], _ => match cA P x, cA P y with
   | some a, some b => some (.maxI a b)
   | _, _ => none
 | .append, [s, x], some t => match P.underlying t with
   | some (.slice e) => if zeroArg P ts[1]? then (match P.info? e, zeroT P e, cA P s, cA P x with
     | some i, some z, some a, some b => if z.cells.length = i.size ∧ 0 < i.size ∧ z.cells.all AV.one then some (.appz i.size i.bytes z.cells a b) else none
     | _, _, _, _ => none) else match P.info? e, (match ts[1]? with
       | none => true
       | some u => match P.underlying u with
         | some (.slice _) | some .string => true
         | _ => false), cA P s, cA P x with
     | some i, true, some a, some b => match i.zero with
       | some z => if z.cells.size = i.size ∧ 0 < i.size ∧ (zeroT P e).isSome = true then some (if isU8 P e then .appendT e i.size i.bytes a b else .append i.size i.bytes a b) else none
       | none => none
     | _, _, _, _ => none
   | _ => none
 | .copy, [d, s], some t => match P.underlying t with
   | some (.slice e) => match sizeT P e, cA P d, cA P s with
     | some n, some a, some b => some (.copy n a b)
     | _, _, _ => none
   | _ => none
 | .unsafeSliceData, [x], some _ => (cA P x).map .sdata
 | .unsafeString, [x, n], some t => match ts.toList, P.underlying t, cA P x, cA P n with
   | [_, _], some (.pointer e), some a, some b => if P.cellsOf e = 1 then some (.ustr e a b) else none
   | _, _, _, _ => none
 | _, _, _ => none
def cOp (o : Op) : Option CO :=
 match o with
 | .move x | .assign x => (cA P x).map .mv
 | .pick c a b => match cA P c, cA P a, cA P b with
   | some c, some a, some b => some (.pick c a b)
   | _, _, _ => none
 | .alloc t => match zeroT P t with
   | some z => if z.cells.all AV.one then some (if ownRef P t then .allocT t z.cells else .alloc z.cells) else none
   | none => none
 | .box _ x => (cA P x).map .box
 | .build t parts => match zeroT P t, P.underlying t with
   | some z, some (.struct fs) => if fs.toList.all (fun f => (sizeT P f.type).isSome) then (placesF P fs parts.toList).map (.build z.cells) else none
   | some z, some (.array _ e) => match sizeT P e with
     | some s => (placesA P s parts.toList).map (.build z.cells)
     | none => none
   | _, _ => none
 | .buildSlice t len parts => match P.underlying t with
   | some (.slice e) => match sizeT P e with
     | some s => if len * s > 2 ^ 24 then none else
       if len * s = 0 then (if len = 0 then (placesA P s parts.toList).map (.litS s len []) else none)
       else match zeroT P e with
        | some z => if z.cells.length = s then (placesA P s parts.toList).map (.litS s len z.cells) else none
        | none => none
     | none => none
   | _ => none
 | .load t a => match aggT P t, cA P a with
   | some g, some a => some (.load g a)
   | _, _ => none
 | .store t a x => match sizeT P t, cA P a, cA P x with
   | some n, some a, some x => some (.store n a x)
   | _, _, _ => none
 | .nilCheck x => (cA P x).map .nilchk
 | .binOp op t x y _ => match cA P x, cA P y with
   | some a, some b => some (.bin op (eqT P op t x y) a b)
   | _, _ => none
 | .unOp op _ x => (cA P x).map (.un op)
 | .convert src dst x => match P.underlying src, P.underlying dst, cA P x with
   | some (.int _), some (.int k), some a => some (.toInt k a)
   | some .string, some .string, some a => some (.strId a)
   | some (.slice e), some .string, some a => if isU8 P e then some (.b2s a) else none
   | some .string, some (.slice e), some a => if isU8 P e then some (.s2b a) else none
   | some (.pointer e), some .unsafePointer, some a => match sizeT P e with
     | some (_ + 1) => some (.toUns a)
     | _ => none
   | some .unsafePointer, some (.pointer u), some a => match sizeT P u with
     | some (k + 1) => some (.fromUns u (k + 1) a)
     | _ => none
   | _, _, _ => none
 | .makeInterface t x => match P.underlying t with
   | some (.interface _) => none
   | some _ => (cA P x).map (.iface t)
   | none => none
 | .makeFunc fn first captured => match cAs P first, cAs P captured with
   | some a, some b => some (.clo fn a b)
   | _, _ => none
 | .makeMap _ none => some .mkM
 | .makeSlice t l c => match P.underlying t with
   | some (.slice e) => match P.info? e, zeroT P e, cA P l, cA P c with
     | some i, some z, some l, some c => if z.cells.length = i.size ∧ 0 < i.size ∧ z.cells.all AV.one then some (if isU8 P e then .mkST e i.bytes i.size z.cells l c else .mkS i.bytes i.size z.cells l c) else none
     | _, _, _, _ => none
   | _ => none
 | .slice t x lo hi mx => match P.underlying t, cA P x, cO P lo, cO P hi, cO P mx with
   | some .string, some x, some lo, some hi, some none => some (.slcS x lo hi)
   | some (.slice e), some x, some lo, some hi, some mx => (sizeT P e).map fun s => .slcV s x lo hi mx
   | some (.array n e), some x, some lo, some hi, some mx => (sizeT P e).map fun s => .slcA n s x lo hi mx
   | some (.pointer a), some x, some lo, some hi, some mx => match P.underlying a with
     | some (.array n e) => (sizeT P e).map fun s => .slcA n s x lo hi mx
     | _ => none
   | _, _, _, _, _ => none
 | .fieldAddr s x f => match P.underlying s, cA P x with
   | some (.struct fs), some a => match fs[f]? with
     | some fd => match sizeT P fd.type with
       | some (_ + 1) => some (.faddr fd.offset a)
       | _ => none
     | none => none
   | _, _ => none
 | .field t x f => match P.underlying t, cA P x with
   | some (.struct fs), some a => match fs[f]? with
     | some fd => (aggT P fd.type).map fun g => .fld fd.offset g a
     | none => none
   | _, _ => none
 | .indexAddr t x i => match P.underlying t, cA P x, cA P i with
   | some (.slice e), some a, some b => (sizeT P e).map fun s => .iaddrS s a b
   | some (.array n e), some a, some b => (sizeT P e).map fun s => .iaddrA n s a b
   | _, _, _ => none
 | .index t x i => match P.underlying t, cA P x, cA P i with
   | some .string, some a, some b => some (.idxS a b)
   | some (.array n e), some a, some b => match sizeT P e, aggT P e with
     | some s, some g => some (.idxA n s g a b)
     | _, _ => none
   | _, _, _ => none
 | .lookup t m k ok => match P.underlying t, cA P m, cA P k with
   | some (.map key e), some a, some b => match keyT P key, zeroT P e with
     | some q, some z => some (.lookup q z ok a b)
     | _, _ => none
   | _, _, _ => none
 | .mapUpdate t m k x | .insert t m k x => match P.underlying t, cA P m, cA P k, cA P x with
   | some (.map key _), some a, some b, some c => (keyT P key).map fun q => .mapset q a b c
   | _, _, _, _ => none
 | .extract t i => (cA P t).map (.ext i)
 | .range t x => match P.underlying t with
   | some .string => (cA P x).map .iterS
   | _ => none
 | .next x true => (cA P x).map .nextS
 | .call c => match c.callee with
   | .builtin b => cBuiltin P b c.argTypes c.args
   | .value f => match cA P f, cAs P c.args with
     | some f, some as => some (.call f as)
     | _, _ => none
   | .invoke _ _ => none
 | _ => none
def cGuard (ops : Array Oper) : Option (Nat × Bool) → Option (Option (Nat × Bool))
 | none => some none
 | some (j, want) => match (ops[j]?).bind (·.dst) with
   | some t => some (some (t, want))
   | none => none
def cOper (ops : Array Oper) (o : Oper) : Option CR :=
 match cGuard ops o.guard with
 | some g => some ⟨o.dst, (cOp P o.op).getD .stop, g⟩
 | none => none
def ancs : List Oper → List (List Nat) → List (List Nat)
 | [], acc => acc
 | o :: os, acc =>
   let d := (o.after.toList.filter (Region.binds .any)).map (·.on)
   ancs os (acc ++ [(d ++ d.flatMap fun j => acc.getD j []).eraseDups])
def directOn (o : Oper) (i : Nat) : Bool := o.after.any fun e => Region.binds .any e && e.on == i
def CR.apart (x y : CR) : Bool :=
 (match x.dst with
  | some d => !y.looks.contains d && y.dst != some d
  | none => true) &&
 (match y.dst with
  | some d => !x.looks.contains d
  | none => true)
def orderOk (ops : Array Oper) (cs : List CR) : Bool :=
 (List.range cs.length).all fun i => match ops[i]?, cs[i]? with
   | some o, some c => (o.after.all fun e => !Region.binds .any e || decide (e.on < i)) &&
     (List.range i).all fun k => match cs[k]? with
       | none => false
       | some p => directOn o k || p.apart c
   | _, _ => false
def loudAt (st : List Nat) (cs : List CR) : List Nat := (List.range cs.length).filter fun i => match cs[i]? with
 | some c => !(c.op.quiet || st.contains i)
 | none => false
def CO.isCall' : CO → Bool
 | .call _ _ => true
 | _ => false
def stillsOf (an : List (List Nat)) (cs : List CR) : List Nat :=
 let loud := loudAt [] cs
 loud.filter fun i => match cs[i]? with
  | some c => c.op.isCall' && loud.any fun j => j != i && !(an.getD i []).contains j && !(an.getD j []).contains i
  | none => false
def chainOk (an : List (List Nat)) : List Nat → Bool
 | a :: b :: l => (an.getD b []).contains a && chainOk an (b :: l)
 | _ => true
def lowOf (an : List (List Nat)) (loud : List Nat) (i : Nat) : Nat := (List.range loud.length).foldl (fun a j => if (an.getD i []).contains (loud.getD j 0) then j + 1 else a) 0
def highOfs (an : List (List Nat)) (loud : List Nat) (i : Nat) : Nat := ((List.range loud.length).find? fun j => (an.getD (loud.getD j 0) []).contains i).getD loud.length
def windows (st : List Nat) (cs : List CR) (an : List (List Nat)) : List CD :=
 (List.range cs.length).map fun i => { toCR := cs.getD i default, lo := lowOf an (loudAt st cs) i, hi := highOfs an (loudAt st cs) i, still := st.contains i }
def cDraw (ops : Array Oper) (cs : List CR) : Option (List CD) :=
 let an := ancs ops.toList []
 let st := if chainOk an (loudAt [] cs) then [] else stillsOf an cs
 if orderOk ops cs && chainOk an (loudAt st cs) then some (windows st cs an) else none
def cC : Code → CC
 | .skip => .skip
 | .region _ ops draw => match ops.toList.mapM (cOper P ops) with
   | some cs => if draw then (match cDraw ops cs with | some cds => .regionD cds | none => .stop) else .region cs
   | none => .stop
 | .seq a b => .seq (cC a) (cC b)
 | .cond c a b => match cA P c with
   | some c => .cond c (cC a) (cC b)
   | none => .stop
 | .block id a => .block id (cC a)
 | .loop a => .loop (cC a)
 | .exit id => .exit id
 | .ret => .ret
 | .scope a => cC a
 | .label _ => .skip
 | _ => .stop
def cRes : ResultVar → Option CRes
 | .tmp t => some (.tmp t)
 | .cell a t => (aggT P t).map (.cell a)
def cF (fn : Func) : Option CF :=
 if fn.name == "runtime.NumGoroutine" then none else
 match fn.body with
 | none => none
 | some b => match fn.results.toList.mapM (cRes P) with
   | some rs => some ⟨fn.ntmps, rs, cC P b⟩
   | none => none
def tbl (f : Nat) : Option CF := (P.funcs[f]?).bind (cF P)
end
end Go.Fs
end

section
/- The operations that leave memory alone: what the abstract machine tells is what the model does. -/
namespace Go.Fs
section
variable {P : Program} {ι : Emb} {h : AH} {w : World}
theorem mapM_rel {ι : Emb} {α : Type} (f : α → Option AV) (g : α → Value) (hf : ∀ x v, f x = some v → VRel ι v (g x)) : ∀ (l : List α) (vs : List AV), l.mapM f = some vs → VRels ι vs (l.map g)
 | [], vs, hm => by simp at hm; subst hm; simp [VRels]
 | x :: l, vs, hm => by
   rw [List.mapM_cons] at hm
   cases hx : f x with
   | none => simp [hx] at hm
   | some v =>
     cases hl : l.mapM f with
     | none => simp [hx, hl] at hm
     | some us =>
       simp [hx, hl] at hm
       subst hm
       simp only [List.map_cons, VRels]
       exact ⟨g x, _, rfl, hf x v hx, mapM_rel f g hf l us hl⟩
theorem ofValue_rel (ι : Emb) : ∀ (n : Nat) (v : Value) (a : AV), ofValue n v = some a → VRel ι a v
 | 0, v, a, h => by simp [ofValue] at h
 | n + 1, v, a, h => by
   have hl : ∀ (cs : Array Value) (us : List AV), cs.toList.mapM (ofValue n) = some us → VRels ι us cs.toList := fun cs us hv => by
    have := mapM_rel (ι := ι) (ofValue n) id (fun x v hx => ofValue_rel ι n x v hx) cs.toList us hv
    simpa using this
   cases v with
   | bool b => simp only [ofValue, Option.some.injEq] at h; subst h; simp [VRel]
   | int k i => simp only [ofValue, Option.some.injEq] at h; subst h; simp [VRel]
   | string s => simp only [ofValue, Option.some.injEq] at h; subst h; simp [VRel]
   | nilFunc => simp only [ofValue, Option.some.injEq] at h; subst h; simp [VRel]
   | nilIface => simp only [ofValue, Option.some.injEq] at h; subst h; simp [VRel]
   | float _ _ => simp [ofValue] at h
   | complex _ _ _ => simp [ofValue] at h
   | chan _ => simp [ofValue] at h
   | pointer p =>
     cases p with
     | none => simp only [ofValue, Option.some.injEq] at h; subst h; simp [VRel]
     | some _ => simp [ofValue] at h
   | map p =>
     cases p with
     | none => simp only [ofValue, Option.some.injEq] at h; subst h; simp [VRel]
     | some _ => simp [ofValue] at h
   | slice p i j =>
     cases p with
     | none =>
       simp only [ofValue] at h
       split at h
       · rename_i hij; cases h; simp [VRel, hij]
       · cases h
     | some _ => simp [ofValue] at h
   | func fn x y =>
     simp only [ofValue] at h
     split at h
     · rename_i hxy
       cases h
       simp only [VRel, VRels]
       refine ⟨x, y, rfl, ?_, ?_⟩
       · simpa using Array.eq_empty_of_size_eq_zero hxy.1
       · simpa using Array.eq_empty_of_size_eq_zero hxy.2
     · cases h
   | iface t v =>
     simp only [ofValue, Option.map_eq_some_iff] at h
     obtain ⟨u, hu, rfl⟩ := h
     simp only [VRel]
     exact ⟨v, rfl, ofValue_rel ι n v u hu⟩
   | agg cs =>
     simp only [ofValue, Option.map_eq_some_iff] at h
     obtain ⟨u, hu, rfl⟩ := h
     simp only [VRel]
     exact ⟨cs, rfl, hl cs u hu⟩
   | tuple cs =>
     simp only [ofValue, Option.map_eq_some_iff] at h
     obtain ⟨u, hu, rfl⟩ := h
     simp only [VRel]
     exact ⟨cs, rfl, hl cs u hu⟩
def ARel (ι : Emb) (tm : List AV) (a : Act) : Prop := VRels ι tm a.tmps.toList
theorem ev_rel {tm : List AV} {a : Act} (r : Rel P.globals.size ι h w) (ha : ARel ι tm a) {x : Operand} {c : CA} (hc : cA P x = some c) : VRel ι (c.ev tm) (a.eval x) := by
 cases x with
 | tmp t =>
   simp only [cA, Option.some.injEq] at hc
   subst hc
   have := VRels.getD ha t
   simpa [CA.ev, Act.eval] using this
 | const v =>
   simp only [cA, Option.map_eq_some_iff] at hc
   obtain ⟨u, hu, rfl⟩ := hc
   exact ofValue_rel ι 200 v u hu
 | global g =>
   simp only [cA] at hc
   split at hc
   · rename_i hg
     cases hc
     have hgl := r.glob g hg
     simp only [CA.ev, Act.eval, VRel]
     refine ⟨by have := r.n; have := r.gn; omega, by rw [hgl.1, hgl.2]⟩
   · cases hc
 | func f =>
   simp only [cA, Option.some.injEq] at hc
   subst hc
   simp [CA.ev, Act.eval, VRel, VRels]
theorem evs_rel {tm : List AV} {a : Act} (r : Rel P.globals.size ι h w) (ha : ARel ι tm a) {xs : Array Operand} {cs : List CA} (hc : cAs P xs = some cs) :
    VRels ι (cs.map (CA.ev tm)) (xs.map a.eval).toList := by
 unfold cAs at hc
 rw [Array.toList_map]
 revert hc
 generalize xs.toList = l
 induction l generalizing cs with
 | nil => intro hc; simp at hc; subst hc; simp [VRels]
 | cons x l ih =>
   intro hc
   rw [List.mapM_cons] at hc
   cases hx : cA P x with
   | none => simp [hx] at hc
   | some c =>
     cases hl : l.mapM (cA P) with
     | none => simp [hx, hl] at hc
     | some us =>
       simp [hx, hl] at hc
       subst hc
       simp only [List.map_cons, VRels]
       exact ⟨_, _, rfl, ev_rel r ha hx, ih hl⟩
theorem cell_of {G : Nat} (r : Rel G ι h w) {b o : Nat} {c : AV} (hc : readCell h b o = some c) :
    ∃ v, w.cell? ⟨ι.blk b, ι.sh b + o, none⟩ = some v ∧ VRel ι c v := by
 unfold readCell at hc
 split at hc
 · rename_i cs ro hb
   obtain ⟨arr, e, fr, h1, h2, h3, h4⟩ := r.brel b _ hb
   obtain ⟨v, h5, h6⟩ := h3 o c hc
   exact ⟨v, by simp [World.cell?, h1, h5], h6⟩
 · cases hc
theorem cells_of {G : Nat} (r : Rel G ι h w) {b o n : Nat} {cs : List AV} (hc : readCells h b o n = some cs) :
    ∃ vs : List Value, vs.length = n ∧ cs.length = n ∧ VRels ι cs vs ∧ ∀ (j : Nat) (v : Value), vs[j]? = some v → w.cell? ((⟨ι.blk b, ι.sh b + o, none⟩ : Addr).add j) = some v := by
 unfold readCells at hc
 split at hc
 · rename_i ds ro hb
   unfold cut at hc
   split at hc
   · rename_i hle
     cases hc
     obtain ⟨arr, e, fr, h1, h2, h3, h4⟩ := r.brel b _ hb
     have hsz : ∀ j, j < n → ι.sh b + o + j < arr.size := fun j hj => by
      obtain ⟨v, h5, _⟩ := h3 (o + j) (ds[o + j]'(by omega)) (by simp)
      have := (Array.getElem?_eq_some_iff.1 h5).1
      omega
     have hlen : ((arr.toList.drop (ι.sh b + o)).take n).length = n := by
      rw [List.length_take, List.length_drop]
      rcases Nat.eq_zero_or_pos n with h0 | h0
      · omega
      · have := hsz (n - 1) (by omega)
        simp; omega
     have hlen2 : ((ds.drop o).take n).length = n := by rw [List.length_take, List.length_drop]; omega
     refine ⟨(arr.toList.drop (ι.sh b + o)).take n, hlen, hlen2, VRels.mk (by rw [hlen, hlen2]) fun i c hc => ?_, fun j v hv => ?_⟩
     · rw [List.getElem?_take] at hc ⊢
       split at hc
       · rename_i hlt
         simp only [hlt, if_true]
         rw [List.getElem?_drop] at hc ⊢
         obtain ⟨v, h5, h6⟩ := h3 (o + i) c hc
         exact ⟨v, by rw [Array.getElem?_toList, Nat.add_assoc]; exact h5, h6⟩
       · cases hc
     · rw [List.getElem?_take] at hv
       split at hv
       · rw [List.getElem?_drop, Array.getElem?_toList] at hv
         rw [Addr.add_lit]
         simp [World.cell?, h1, hv]
       · cases hv
   · cases hc
 · cases hc
theorem run_isAgg {t : TypeId} {g : Option Nat} (hg : aggT P t = some g) : (isAgg t).run P w = .ok g.isSome w ∧ ∀ n, g = some n → (sizeOf t).run P w = .ok n w := by
 unfold aggT at hg
 cases hd : P.underlying t with
 | none => simp [hd] at hg
 | some d =>
   have hu := run_underlying hd w
   cases d <;> simp only [hd] at hg
   case struct fs =>
    cases hi : P.info? t with
    | none => simp [hi] at hg
    | some i =>
      simp only [hi, Option.some.injEq] at hg
      subst hg
      simp [isAgg, hu, sizeOf, typeInfo, hi]
   case array n e =>
    cases hi : P.info? t with
    | none => simp [hi] at hg
    | some i =>
      simp only [hi, Option.some.injEq] at hg
      subst hg
      simp [isAgg, hu, sizeOf, typeInfo, hi]
   all_goals
    simp only [Option.some.injEq] at hg
    subst hg
    exact ⟨by simp [isAgg, hu], fun n hn => by cases hn⟩
theorem load_ok (r : Rel P.globals.size ι h w) {t : TypeId} {g : Option Nat} (hg : aggT P t = some g) {b o : Nat} {v : AV}
    (hv : readVar h b o g = some v) :
    ∃ rv, (loadVar t ⟨ι.blk b, ι.sh b + o, none⟩).run P w = .ok rv w ∧ VRel ι v rv := by
 obtain ⟨h1, h2⟩ := run_isAgg (w := w) hg
 cases g with
 | none =>
   obtain ⟨u, hu, hr⟩ := cell_of r hv
   refine ⟨u, ?_, hr⟩
   simp [loadVar, h1, load, Sem.run, hu]
 | some n =>
   simp only [readVar, Option.map_eq_some_iff] at hv
   obtain ⟨cs, hcs, rfl⟩ := hv
   obtain ⟨vs, h3, h4, h5, h6⟩ := cells_of r hcs
   refine ⟨.agg vs.toArray, ?_, by simp only [VRel]; exact ⟨_, rfl, by simpa using h5⟩⟩
   have := run_loadCells_list (P := P) w ⟨ι.blk b, ι.sh b + o, none⟩ vs h6
   rw [h3] at this
   simp [loadVar, h1, h2 n rfl, this]
end
end Go.Fs
end

section
/- The quiet operations: arithmetic, strings, equality. -/
namespace Go.Fs
section
variable {P : Program} {ι : Emb} {h : AH} {w : World}
theorem toList_mk (s : List UInt8) : (ByteArray.mk s.toArray).toList = s := by rw [ByteArray.toList_eq]
theorem int_of {k : IntKind} {n : Int} {v : Value} (hv : VRel ι (.int k n) v) : v = .int k n := by simpa [VRel] using hv
theorem bool_of {b : Bool} {v : Value} (hv : VRel ι (.bool b) v) : v = .bool b := by simpa [VRel] using hv
theorem str_of {s : List UInt8} {v : Value} (hv : VRel ι (.str s) v) : v = .string ⟨s.toArray⟩ := by simpa [VRel] using hv
theorem aint_ok {op : BinOp} {k : IntKind} {a b : Int} {v : AV} (hs : isShift op = false) (hv : aint op k a b = some v) (t : TypeId) :
    ∃ rv, (binOp op t (.int k a) (.int k b)).run P w = .ok rv w ∧ VRel ι v rv := by
 cases op <;> simp only [aint, isShift, Bool.true_eq_false] at hv hs
 case add => cases hv; exact ⟨.int k (k.wrap (a + b)), by simp [binOp, Op.intArith], by simp [VRel]⟩
 case sub => cases hv; exact ⟨.int k (k.wrap (a - b)), by simp [binOp, Op.intArith], by simp [VRel]⟩
 case mul => cases hv; exact ⟨.int k (k.wrap (a * b)), by simp [binOp, Op.intArith], by simp [VRel]⟩
 case quo =>
  split at hv
  · cases hv
  · rename_i hb; cases hv; exact ⟨.int k (k.wrap (a.tdiv b)), by simp [binOp, Op.intDiv, hb], by simp [VRel]⟩
 case rem =>
  split at hv
  · cases hv
  · rename_i hb; cases hv; exact ⟨.int k (a.tmod b), by simp [binOp, Op.intDiv, hb], by simp [VRel]⟩
 case and => cases hv; exact ⟨.int k (bits .and k a b), by simp [binOp, Op.intBits, bits], by simp [VRel]⟩
 case or => cases hv; exact ⟨.int k (bits .or k a b), by simp [binOp, Op.intBits, bits], by simp [VRel]⟩
 case xor => cases hv; exact ⟨.int k (bits .xor k a b), by simp [binOp, Op.intBits, bits], by simp [VRel]⟩
 case andNot => cases hv; exact ⟨.int k (bits .andNot k a b), by simp [binOp, Op.intBits, bits], by simp [VRel]⟩
 case eql => cases hv; exact ⟨.bool (a == b), by simp [binOp, Op.intCmp], by simp [VRel]⟩
 case neq => cases hv; exact ⟨.bool (a != b), by simp [binOp, Op.intCmp], by simp [VRel]⟩
 case lss => cases hv; exact ⟨.bool (a < b), by simp [binOp, Op.intCmp], by simp [VRel]⟩
 case leq => cases hv; exact ⟨.bool (a ≤ b), by simp [binOp, Op.intCmp], by simp [VRel]⟩
 case gtr => cases hv; exact ⟨.bool (b < a), by simp [binOp, Op.intCmp], by simp [VRel]⟩
 case geq => cases hv; exact ⟨.bool (b ≤ a), by simp [binOp, Op.intCmp], by simp [VRel]⟩
theorem ashift_ok {op : BinOp} {k k' : IntKind} {a b : Int} {v : AV} (hv : ashift op k a b = some v) (hs : isShift op = true) (t : TypeId) :
    ∃ rv, (binOp op t (.int k a) (.int k' b)).run P w = .ok rv w ∧ VRel ι v rv := by
 unfold ashift at hv
 split at hv
 · cases hv
 · rename_i hb
   cases op <;> simp [isShift] at hs
   case shl => cases hv; exact ⟨.int k (k.wrap (a * 2 ^ (min b.toNat k.bits))), by simp [binOp, Op.shift, hb], by simp [VRel]⟩
   case shr => cases hv; exact ⟨.int k (a.fdiv (2 ^ (min b.toNat k.bits))), by simp [binOp, Op.shift, hb], by simp [VRel]⟩
theorem astr_ok {op : BinOp} {a b : List UInt8} {v : AV} (hv : astr op a b = some v) (t : TypeId) :
    ∃ rv, (binOp op t (.string ⟨a.toArray⟩) (.string ⟨b.toArray⟩)).run P w = .ok rv w ∧ VRel ι v rv := by
 have e : binOp op t (.string ⟨a.toArray⟩) (.string ⟨b.toArray⟩) = Op.stringOp op ⟨a.toArray⟩ ⟨b.toArray⟩ := by cases op <;> rfl
 rw [e]
 have hd : (a == b) = decide (a = b) := by by_cases h : a = b <;> simp [h]
 cases op <;> simp only [astr] at hv
 case add =>
  split at hv
  · rename_i hle
    cases hv
    refine ⟨.string ⟨(a ++ b).toArray⟩, ?_, by simp [VRel]⟩
    have h1 : ¬ (((⟨a.toArray⟩ : ByteArray).size + (⟨b.toArray⟩ : ByteArray).size : Nat) : Int) > IntKind.i64.max := by
     simp only [ByteArray.size, List.size_toArray, IntKind.max_i64]; omega
    have h2 : (⟨a.toArray⟩ : ByteArray) ++ ⟨b.toArray⟩ = ⟨(a ++ b).toArray⟩ := by
     apply ByteArray.ext
     simp
    simp only [Op.stringOp, if_neg h1, h2, Sem.run_pure]
  · cases hv
 all_goals first
  | (cases hv; done)
  | (cases hv; exact ⟨_, by simp only [Op.stringOp, toList_mk, hd, Sem.run_pure]; rfl, by simp [VRel]⟩)
def SK.fits (P : Program) (t : TypeId) : SK → Prop
 | .b => P.underlying t = some .bool
 | .i => ∃ k, P.underlying t = some (.int k)
 | .s => P.underlying t = some .string
theorem scalEq_ok {q : SK} {x y : AV} {rx ry : Value} {b : Bool} {t : TypeId} {d : Nat} (hx : VRel ι x rx) (hy : VRel ι y ry) (he : scalEq q x y = some b)
    (ht : q.fits P t) : (Op.equalIn (d + 1) t rx ry).run P w = .ok b w := by
 cases q
 case b =>
  cases x <;> cases y <;> simp only [scalEq] at he <;> first | (cases he; done) | skip
  cases he
  rw [bool_of hx, bool_of hy]
  simp only [SK.fits] at ht
  simp [Op.equalIn, run_underlying ht]
 case i =>
  cases x <;> cases y <;> simp only [scalEq] at he <;> first | (cases he; done) | skip
  split at he
  · rename_i hk
    subst hk
    cases he
    rw [int_of hx, int_of hy]
    obtain ⟨k, ht⟩ := ht
    simp [Op.equalIn, run_underlying ht]
  · cases he
 case s =>
  cases x <;> cases y <;> simp only [scalEq] at he <;> first | (cases he; done) | skip
  cases he
  rename_i a b
  rw [str_of hx, str_of hy]
  simp only [SK.fits] at ht
  have hb : ((⟨a.toArray⟩ : ByteArray) == ⟨b.toArray⟩) = decide (a = b) := by
   show ((a.toArray : Array UInt8) == b.toArray) = decide (a = b)
   rw [Bool.eq_iff_iff, beq_iff_eq]
   simp
  simp [Op.equalIn, run_underlying ht, hb]
theorem leavesEq_append (xs ys : List AV) : ∀ (l m : List (Nat × SK)), leavesEq xs ys (l ++ m) = match leavesEq xs ys l with | some true => leavesEq xs ys m | r => r
 | [], m => by simp [leavesEq]
 | (i, q) :: l, m => by
   simp only [List.cons_append, leavesEq]
   cases xs[i]? with
   | none => rfl
   | some x =>
     cases ys[i]? with
     | none => rfl
     | some y =>
       simp only []
       cases scalEq q x y with
       | none => rfl
       | some b => cases b <;> simp [leavesEq_append xs ys l m]
def Sub (P : Program) (t : TypeId) (off : Nat) (rx : Array Value) (X : Value) : Prop :=
 (∃ sz, aggT P t = some (some sz) ∧ X = .agg (rx.extract off (off + sz))) ∨ (aggT P t = some none ∧ rx[off]? = some X)
theorem part_sub {t : TypeId} {off sz fo s : Nat} {rx : Array Value} {g : Option Nat} (hg : aggT P t = some g) (hs : sizeT P t = some s) (hle : fo + s ≤ sz) (hpos : 0 < s)
    (hx : g = none → ∃ X, rx[off + fo]? = some X) : ∃ X, (part t (rx.extract off (off + sz)) fo).run P w = .ok X w ∧ Sub P t (off + fo) rx X := by
 obtain ⟨h1, h2⟩ := run_isAgg (w := w) hg
 cases g with
 | none =>
   obtain ⟨X, hX⟩ := hx rfl
   refine ⟨X, ?_, .inr ⟨hg, hX⟩⟩
   have : (rx.extract off (off + sz))[fo]? = some X := by
    rw [Array.getElem?_extract]
    have := (Array.getElem?_eq_some_iff.1 hX).1
    rw [if_pos (by omega)]
    exact hX
   simp [part, h1, this]
 | some n =>
   have hn : n = s := by
    unfold sizeT at hs
    unfold aggT at hg
    split at hg <;> simp_all
   subst hn
   refine ⟨.agg (rx.extract (off + fo) (off + fo + n)), ?_, .inl ⟨n, hg, rfl⟩⟩
   have : (rx.extract off (off + sz)).extract fo (fo + n) = rx.extract (off + fo) (off + fo + n) := by
    rw [Array.extract_extract]
    congr 1
    omega
   simp [part, h1, h2 n rfl]
   rw [show min (fo + n) sz = fo + n by omega, Nat.add_assoc]
def shift (off : Nat) (ls : List (Nat × SK)) : List (Nat × SK) := ls.map fun p => (p.1 + off, p.2)
theorem shift_shift (a b : Nat) (ls : List (Nat × SK)) : shift a (shift b ls) = shift (a + b) ls := by
 unfold shift
 rw [List.map_map]
 congr 1
 funext p
 simp
 omega
theorem aggT_some {t : TypeId} {d : TypeDesc} (hu : P.underlying t = some d) : ∃ i, P.info? t = some i := by
 unfold Program.underlying at hu
 cases hi : P.info? t with
 | none => simp [hi] at hu
 | some i => exact ⟨i, rfl⟩
end
end Go.Fs
end

section
/- Structs and arrays held against each other. -/
namespace Go.Fs
section
variable {P : Program} {ι : Emb} {h : AH} {w : World}
def eqElems (P : Program) (d : Nat) (e : TypeId) (xs ys : Array Value) (n : Nat) : List Nat → Sem Bool
 | [] => pure true
 | i :: is => do
   let a ← part e xs (i * n)
   let b ← part e ys (i * n)
   let r ← Op.equalIn d e a b
   if (!r) = true then pure false else eqElems P d e xs ys n is
theorem run_equalIn_array (w : World) (d : Nat) (t e : TypeId) (len s : Nat) (xs ys : Array Value) (ht : P.underlying t = some (.array len e)) (hs : sizeT P e = some s) :
    (Op.equalIn (d + 1) t (.agg xs) (.agg ys)).run P w = (eqElems P d e xs ys s (List.range' 0 len)).run P w := by
 have hsz : ∀ w, (sizeOf e).run P w = .ok s w := fun w => by
  unfold sizeT at hs
  cases hi : P.info? e with
  | none => simp [hi] at hs
  | some i => simp [hi] at hs; simp [sizeOf, typeInfo, hi, hs]
 simp only [Op.equalIn, Sem.run_bind, run_underlying ht, Result.andThen_ok, hsz]
 simp only [Std.Legacy.Range.forIn_eq_forIn_range', Std.Legacy.Range.size, Nat.sub_zero, Nat.add_one_sub_one, Nat.div_one]
 generalize List.range' 0 len = is
 clear ht
 induction is generalizing w with
 | nil => simp [eqElems]
 | cons i is ih =>
   simp only [List.forIn_cons, eqElems, Sem.run_bind, Sem.run_ite]
   generalize (part e xs (i * s)).run P w = r1
   cases r1 with
   | ok a w1 =>
     simp only [Result.andThen_ok]
     generalize (part e ys (i * s)).run P w1 = r2
     cases r2 with
     | ok b w2 =>
       simp only [Result.andThen_ok]
       generalize (Op.equalIn d e a b).run P w2 = r3
       cases r3 with
       | ok r w3 =>
         cases r
         · simp only [Result.andThen_ok, Bool.not_false, if_true, Sem.run_pure]
         · simp only [Result.andThen_ok, Bool.not_true, Bool.false_eq_true, if_false, Sem.run_pure]
           exact ih w3
       | halt x w3 => simp [Result.andThen]
     | halt x w2 => simp [Result.andThen]
   | halt x w1 => simp [Result.andThen]
theorem leavesEq_head {xs ys : List AV} {i : Nat} {q : SK} {r : Option Bool} (h : leavesEq xs ys [(i, q)] = r) (hr : r ≠ none) :
    ∃ x y b, xs[i]? = some x ∧ ys[i]? = some y ∧ scalEq q x y = some b ∧ r = some b := by
 simp only [leavesEq] at h
 cases hx : xs[i]? with
 | none => simp [hx] at h; exact absurd h.symm hr
 | some x =>
   cases hy : ys[i]? with
   | none => simp [hx, hy] at h; exact absurd h.symm hr
   | some y =>
     simp only [hx, hy] at h
     cases hq : scalEq q x y with
     | none => simp [hq] at h; exact absurd h.symm hr
     | some b => cases b <;> simp [hq] at h <;> exact ⟨x, y, _, rfl, rfl, hq, h.symm⟩
def EqOk (P : Program) (t : TypeId) (ls : List (Nat × SK)) (d : Nat) : Prop :=
 ∀ (ι : Emb) (w : World) (D : Nat), d ≤ D → ∀ (as bs : List AV) (rx ry : Array Value) (off : Nat) (X Y : Value) (b : Bool),
  VRels ι as rx.toList → VRels ι bs ry.toList → Sub P t off rx X → Sub P t off ry Y → leavesEq as bs (shift off ls) = some b → (Op.equalIn D t X Y).run P w = .ok b w
theorem sub_ready {t : TypeId} {m : List (Nat × SK)} {d : Nat} (hm : leavesT P d t = some m) {g : Option Nat} (hg : aggT P t = some g) (hn : g = none) : ∃ q, m = [(0, q)] := by
 cases d with
 | zero => simp [leavesT] at hm
 | succ d =>
   unfold leavesT at hm
   unfold aggT at hg
   subst hn
   cases hu : P.underlying t with
   | none => simp [hu] at hm
   | some de =>
     cases de <;> simp only [hu] at hm hg <;> first | (cases hm; exact ⟨_, rfl⟩) | (cases hm; done) | skip
     all_goals
      cases hi : P.info? t with
      | none => simp [hi] at hg
      | some i => simp [hi] at hg
theorem aggT_ex {t : TypeId} {d : Nat} {m : List (Nat × SK)} (hm : leavesT P d t = some m) {s : Nat} (hs : sizeT P t = some s) : ∃ g, aggT P t = some g := by
 cases d with
 | zero => simp [leavesT] at hm
 | succ d =>
   unfold leavesT at hm
   unfold aggT
   unfold sizeT at hs
   cases hi : P.info? t with
   | none => simp [hi] at hs
   | some i =>
     cases hu : P.underlying t with
     | none => simp [hu] at hm
     | some de => cases de <;> exact ⟨_, rfl⟩
theorem part_eq {t : TypeId} {m : List (Nat × SK)} {d D : Nat} (ih : EqOk P t m d) (hm : leavesT P d t = some m) (hD : d ≤ D) {s sz fo off : Nat} (hs : sizeT P t = some s) (hle : fo + s ≤ sz) (hpos : 0 < s)
    {as bs : List AV} {rx ry : Array Value} {b : Bool} (ha : VRels ι as rx.toList) (hb : VRels ι bs ry.toList) (he : leavesEq as bs (shift (off + fo) m) = some b) :
    ∃ X Y, (part t (rx.extract off (off + sz)) fo).run P w = .ok X w ∧ (part t (ry.extract off (off + sz)) fo).run P w = .ok Y w ∧ (Op.equalIn D t X Y).run P w = .ok b w := by
 obtain ⟨g, hg⟩ := aggT_ex hm hs
 have hx : g = none → ∃ x y, as[off + fo]? = some x ∧ bs[off + fo]? = some y := fun hn => by
  obtain ⟨q, rfl⟩ := sub_ready hm hg hn
  simp only [shift, List.map_cons, List.map_nil, Nat.zero_add] at he
  obtain ⟨x, y, _, h1, h2, _⟩ := leavesEq_head he (by simp)
  exact ⟨x, y, h1, h2⟩
 obtain ⟨X, h1, h2⟩ := part_sub (w := w) (rx := rx) (off := off) hg hs hle hpos fun hn => by
  obtain ⟨x, _, h1, _⟩ := hx hn
  obtain ⟨r, h2, _⟩ := ha.get _ _ h1
  exact ⟨r, by rw [← Array.getElem?_toList]; exact h2⟩
 obtain ⟨Y, h3, h4⟩ := part_sub (w := w) (rx := ry) (off := off) hg hs hle hpos fun hn => by
  obtain ⟨_, y, _, h1⟩ := hx hn
  obtain ⟨r, h2, _⟩ := hb.get _ _ h1
  exact ⟨r, by rw [← Array.getElem?_toList]; exact h2⟩
 exact ⟨X, Y, h1, h3, ih ι w D hD as bs rx ry (off + fo) X Y b ha hb h2 h4 he⟩
theorem fields_ok {d D : Nat} {sz off : Nat} (ih : ∀ t m, leavesT P d t = some m → EqOk P t m d) (hD : d ≤ D) {as bs : List AV} {rx ry : Array Value} (ha : VRels ι as rx.toList) (hb : VRels ι bs ry.toList) :
    ∀ (fs : List Field) (ls : List (Nat × SK)) (b : Bool), leavesFs P (leavesT P d) sz fs = some ls → leavesEq as bs (shift off ls) = some b →
     (Op.eqFields D (rx.extract off (off + sz)) (ry.extract off (off + sz)) fs).run P w = .ok b w
 | [], ls, b, hl, he => by
   simp only [leavesFs, Option.some.injEq] at hl
   subst hl
   simp [shift, leavesEq] at he
   simp [Op.eqFields, he]
 | f :: fs, ls, b, hl, he => by
   simp only [leavesFs] at hl
   cases hr : leavesFs P (leavesT P d) sz fs with
   | none => simp [hr] at hl
   | some l =>
     simp only [hr] at hl
     by_cases hu : f.name = "_"
     · simp only [hu, if_true, Option.some.injEq] at hl
       subst hl
       simp only [Op.eqFields, hu, ne_eq, not_true_eq_false, if_false]
       exact fields_ok ih hD ha hb fs l b hr he
     · simp only [hu, if_false] at hl
       cases hs : sizeT P f.type with
       | none => simp [hs] at hl
       | some s =>
         cases hm : leavesT P d f.type with
         | none => simp [hs, hm] at hl
         | some m =>
           simp only [hs, hm] at hl
           split at hl
           · rename_i hle
             cases hl
             have hsh : shift off (m.map (fun p => (p.1 + f.offset, p.2)) ++ l) = shift (off + f.offset) m ++ shift off l := by
              rw [show (m.map fun p => (p.1 + f.offset, p.2)) = shift f.offset m from rfl, ← shift_shift]
              simp [shift]
             rw [hsh, leavesEq_append] at he
             cases hb1 : leavesEq as bs (shift (off + f.offset) m) with
             | none => simp [hb1] at he
             | some b1 =>
               obtain ⟨X, Y, p1, p2, p3⟩ := part_eq (w := w) (ih _ _ hm) hm hD hs hle.1 hle.2 ha hb hb1
               simp only [Op.eqFields, ne_eq, hu, not_false_eq_true, if_true, Sem.run_bind, p1, p2, p3, Result.andThen_ok]
               cases b1 with
               | false =>
                 simp only [hb1, Option.some.injEq] at he
                 simp [he]
               | true =>
                 simp only [hb1] at he
                 simp only [Bool.not_true, Bool.false_eq_true, if_false]
                 exact fields_ok ih hD ha hb fs l b hr he
           · cases hl
theorem elems_ok {d D : Nat} {sz off s n : Nat} {e : TypeId} {m : List (Nat × SK)} (hm : leavesT P d e = some m) (ih : EqOk P e m d) (hD : d ≤ D) (hs : sizeT P e = some s) (hpos : 0 < s) (hle : n * s ≤ sz)
    {as bs : List AV} {rx ry : Array Value} (ha : VRels ι as rx.toList) (hb : VRels ι bs ry.toList) :
    ∀ (is : List Nat) (b : Bool), (∀ i ∈ is, i < n) → leavesEq as bs (shift off (is.flatMap fun i => m.map fun p => (p.1 + i * s, p.2))) = some b →
     (eqElems P D e (rx.extract off (off + sz)) (ry.extract off (off + sz)) s is).run P w = .ok b w
 | [], b, _, he => by
   simp [shift, leavesEq] at he
   simp [eqElems, he]
 | i :: is, b, hi, he => by
   have hin := hi i (by simp)
   have hsh : shift off ((i :: is).flatMap fun i => m.map fun p => (p.1 + i * s, p.2)) = shift (off + i * s) m ++ shift off (is.flatMap fun i => m.map fun p => (p.1 + i * s, p.2)) := by
    rw [List.flatMap_cons, ← shift_shift]
    simp [shift]
   rw [hsh, leavesEq_append] at he
   have h1 : i * s + s ≤ sz := by
    have : (i + 1) * s ≤ n * s := Nat.mul_le_mul_right s hin
    rw [Nat.add_mul] at this
    omega
   cases hb1 : leavesEq as bs (shift (off + i * s) m) with
   | none => simp [hb1] at he
   | some b1 =>
     obtain ⟨X, Y, p1, p2, p3⟩ := part_eq (w := w) ih hm hD hs h1 hpos ha hb hb1
     simp only [eqElems, Sem.run_bind, p1, p2, p3, Result.andThen_ok]
     cases b1 with
     | false =>
       simp only [hb1, Option.some.injEq] at he
       simp [he]
     | true =>
       simp only [hb1] at he
       simp only [Bool.not_true, Bool.false_eq_true, if_false]
       exact elems_ok hm ih hD hs hpos hle ha hb is b (fun j hj => hi j (by simp [hj])) he
theorem leaves_ok : ∀ (d : Nat) (t : TypeId) (ls : List (Nat × SK)), leavesT P d t = some ls → EqOk P t ls d
 | 0, t, ls, hl => by simp [leavesT] at hl
 | d + 1, t, ls, hl => by
   intro ι w D hD as bs rx ry off X Y b ha hb hX hY he
   obtain ⟨D, rfl⟩ : ∃ k, D = k + 1 := ⟨D - 1, by omega⟩
   have hD : d ≤ D := by omega
   have ih := leaves_ok d
   have scal : ∀ q, ls = [(0, q)] → q.fits P t → (Op.equalIn (D + 1) t X Y).run P w = .ok b w := fun q hq hf => by
    subst hq
    simp only [shift, List.map_cons, List.map_nil, Nat.zero_add] at he
    obtain ⟨x, y, b', h1, h2, h3, h4⟩ := leavesEq_head he (by simp)
    cases h4
    have hag : aggT P t = some none := by
     obtain ⟨i, hi⟩ : ∃ i, P.info? t = some i := by
      cases q
      · exact aggT_some hf
      · obtain ⟨k, hk⟩ := hf; exact aggT_some hk
      · exact aggT_some hf
     unfold aggT
     cases q
     · simp only [SK.fits] at hf; simp [hf]
     · obtain ⟨k, hk⟩ := hf; simp [hk]
     · simp only [SK.fits] at hf; simp [hf]
    have hX' : rx[off]? = some X := by rcases hX with ⟨sz, h5, _⟩ | ⟨_, h5⟩; (rw [hag] at h5; cases h5); exact h5
    have hY' : ry[off]? = some Y := by rcases hY with ⟨sz, h5, _⟩ | ⟨_, h5⟩; (rw [hag] at h5; cases h5); exact h5
    obtain ⟨r1, g1, g2⟩ := ha.get _ _ h1
    obtain ⟨r2, g3, g4⟩ := hb.get _ _ h2
    rw [Array.getElem?_toList, hX'] at g1
    rw [Array.getElem?_toList, hY'] at g3
    cases g1; cases g3
    exact scalEq_ok g2 g4 h3 hf
   unfold leavesT at hl
   cases hu : P.underlying t with
   | none => simp [hu] at hl
   | some de =>
     cases de <;> simp only [hu] at hl <;> first | (cases hl; done) | skip
     case bool => cases hl; exact scal .b rfl hu
     case int k => cases hl; exact scal .i rfl ⟨k, hu⟩
     case string => cases hl; exact scal .s rfl hu
     case array n e =>
      cases h1 : sizeT P t with
      | none => simp [h1] at hl
      | some sz =>
        cases h2 : sizeT P e with
        | none => simp [h1, h2] at hl
        | some s =>
          cases h3 : leavesT P d e with
          | none => simp [h1, h2, h3] at hl
          | some m =>
            simp only [h1, h2, h3] at hl
            split at hl
            · rename_i hle
              cases hl
              obtain ⟨i, hi⟩ := aggT_some hu
              have hag : aggT P t = some (some sz) := by
               unfold sizeT at h1
               simp [hi] at h1
               unfold aggT
               simp [hu, hi, h1]
              have hX' : X = .agg (rx.extract off (off + sz)) := by rcases hX with ⟨sz', h5, h6⟩ | ⟨h5, _⟩ <;> rw [hag] at h5 <;> cases h5; exact h6
              have hY' : Y = .agg (ry.extract off (off + sz)) := by rcases hY with ⟨sz', h5, h6⟩ | ⟨h5, _⟩ <;> rw [hag] at h5 <;> cases h5; exact h6
              rw [hX', hY', run_equalIn_array w D t e n s _ _ hu h2]
              exact elems_ok h3 (ih e m h3) hD h2 hle.2 hle.1 ha hb _ b (fun i hi => by simpa using hi) he
            · cases hl
     case struct fs =>
      cases h1 : sizeT P t with
      | none => simp [h1] at hl
      | some sz =>
        simp only [h1] at hl
        cases h2 : P.stoodInHeld t with
        | true => simp [h2] at hl
        | false =>
          simp only [h2, Bool.false_eq_true, if_false] at hl
          obtain ⟨i, hi⟩ := aggT_some hu
          have hag : aggT P t = some (some sz) := by
           unfold sizeT at h1
           simp [hi] at h1
           unfold aggT
           simp [hu, hi, h1]
          have hX' : X = .agg (rx.extract off (off + sz)) := by rcases hX with ⟨sz', h5, h6⟩ | ⟨h5, _⟩ <;> rw [hag] at h5 <;> cases h5; exact h6
          have hY' : Y = .agg (ry.extract off (off + sz)) := by rcases hY with ⟨sz', h5, h6⟩ | ⟨h5, _⟩ <;> rw [hag] at h5 <;> cases h5; exact h6
          have hf : P.fieldsOf t = fs := by simp [Program.fieldsOf, hu]
          rw [hX', hY', run_equalIn_struct w D t _ _ (by rw [hf]; exact hu) h2, hf]
          exact fields_ok ih hD ha hb fs.toList ls b hl he
end
end Go.Fs
end

