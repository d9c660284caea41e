/- From the elaborated operations and code to the abstract machine's: types are looked up once. -/
import Derived.Test.YtdehfehdaiappaaGreatDoorFsRel
import Derived.Orders
namespace Go.Fs

section
variable (P : Program)

def sizeT (t : TypeId) : Option Nat := (P.info? t).map (·.size)

/-- A struct's or an array's cells; none within: one cell. -/
def aggT (t : TypeId) : Option (Option Nat) :=
  match P.underlying t, P.info? t with
  | some (.struct _), some i | some (.array _ _), some i => some (some i.size)
  | some (.struct _), none | some (.array _ _), none => none
  | some _, _ => some none
  | none, _ => none

def zeroT (t : TypeId) : Option AV := (P.info? t).bind fun i => i.zero.bind (ofValue 200)

def isU8 (t : TypeId) : Bool :=
  match P.underlying t with
  | some (.int .u8) => true
  | _ => false

def leavesFs (rec : TypeId → Option (List (Nat × SK))) (sz : Nat) : List Field → Option (List (Nat × SK))
  | [] => some []
  | f :: fs => match leavesFs rec sz fs with
    | none => none
    | some l => if f.name = "_" then some l else match sizeT P f.type, rec f.type with
      | some s, some m => if f.offset + s ≤ sz ∧ 0 < s then some (m.map (fun p => (p.1 + f.offset, p.2)) ++ l) else none
      | _, _ => none

/-- The one-cell parts of a type that may be held against each other, in the order in which they are. -/
def leavesT : Nat → TypeId → Option (List (Nat × SK))
  | 0, _ => none
  | d + 1, t => match P.underlying t with
    | some .bool => some [(0, .b)]
    | some (.int _) => some [(0, .i)]
    | some .string => some [(0, .s)]
    | some (.struct fs) => match sizeT P t with
      | some sz => if P.stoodInHeld t then none else leavesFs P (leavesT d) sz fs.toList
      | none => none
    | some (.array n e) => match sizeT P t, sizeT P e, leavesT d e with
      | some sz, some s, some m => if n * s ≤ sz ∧ 0 < s then some ((List.range' 0 n).flatMap fun i => m.map fun p => (p.1 + i * s, p.2)) else none
      | _, _, _ => none
    | _ => none

def cA : Operand → Option CA
  | .tmp t => some (.t t)
  | .const v => (ofValue 200 v).map .c
  | .global g => if g < P.globals.size then some (.g g) else none
  | .func f => some (.f f)

def cAs (xs : Array Operand) : Option (List CA) := xs.toList.mapM (cA P)

def cO : Option Operand → Option (Option CA)
  | none => some none
  | some x => (cA P x).map some

def isConst : Operand → Bool
  | .const _ => true
  | _ => false

def keyT (t : TypeId) : Option SK :=
  match P.underlying t with
  | some (.int _) => some .i
  | some .string => some .s
  | some .bool => some .b
  | _ => none

/-- The types that an interface's value may have to be held against another: of one cell. -/
def scalT (t : TypeId) : Option SK :=
  match P.info? t with
  | some i => if i.comparable then keyT P t else none
  | none => none

def eqT (op : BinOp) (t : TypeId) (x y : Operand) : EqT :=
  match op with
  | .eql | .neq => match P.underlying t with
    | some .bool => .scal
    | some (.struct _) | some (.array _ _) => if P.eqGuardType P.depth t then .other else match sizeT P t, leavesT P 40 t with
      | some s, some l => .agg s l
      | _, _ => .other
    | some (.pointer e) => .ptr ((sizeT P e).any fun n => n != 0)
    | some (.slice _) => .slice
    | some (.map _ _) => .map
    | some (.func _ _ _) => .func
    | some (.interface _) => .iface (isConst x || isConst y) (scalT P)
    | _ => .other
  | _ => .other

def placesF (fs : Array Field) : List (Nat × Operand) → Option (List (Nat × Nat × CA))
  | [] => some []
  | (i, x) :: ps => match fs[i]? with
    | some f => match sizeT P f.type, cA P x, placesF fs ps with
      | some s, some c, some l => some ((f.offset, s, c) :: l)
      | _, _, _ => none
    | none => none

def placesA (s : Nat) : List (Nat × Operand) → Option (List (Nat × Nat × CA))
  | [] => some []
  | (i, x) :: ps => match cA P x, placesA s ps with
    | some c, some l => some ((i * s, s, c) :: l)
    | _, _ => none

/-- An append of a number of zero elements: the second operand is that number. -/
def zeroArg : Option TypeId → Bool
  | none => false
  | some u => match P.underlying u with
    | some (.int _) => true
    | _ => false

/-- A struct whose first variable points to such a struct (as a strings.Builder's does): it notes its own type. -/
def ownRef (t : TypeId) : Bool :=
  match P.underlying t with
  | some (.struct fs) => match fs[0]? with
    | some f => match P.underlying f.type with
      | some (.pointer u) => u == t
      | _ => false
    | none => false
  | _ => false

def cBuiltin (b : Builtin) (ts : Array TypeId) (args : Array Operand) : Option CO :=
  match b, args.toList, ts[0]? with
  | .len, [x], some t => match P.underlying t with
    | some .string => (cA P x).map .lenS
    | some (.slice _) => (cA P x).map .lenV
    | some (.map _ _) => (cA P x).map .lenM
    | some (.array n _) => (cA P x).map (.lenC n)
    | some (.pointer a) => match P.underlying a with
      | some (.array n _) => (cA P x).map (.lenC n)
      | _ => none
    | _ => none
  | .cap, [x], some t => match P.underlying t with
    | some (.slice _) => (cA P x).map .cap
    | _ => none
  | .min, [x, y], _ => match cA P x, cA P y with
    | some a, some b => some (.minI a b)
    | _, _ => none
  | .max, [x, y], _ => match cA P x, cA P y with
    | some a, some b => some (.maxI a b)
    | _, _ => none
  | .append, [s, x], some t => match P.underlying t with
    | some (.slice e) => if zeroArg P ts[1]? then (match P.info? e, zeroT P e, cA P s, cA P x with
      | some i, some z, some a, some b => if z.cells.length = i.size ∧ 0 < i.size ∧ z.cells.all AV.one then some (.appz i.size i.bytes z.cells a b) else none
      | _, _, _, _ => none) else match P.info? e, (match ts[1]? with
        | none => true
        | some u => match P.underlying u with
          | some (.slice _) | some .string => true
          | _ => false), cA P s, cA P x with
      | some i, true, some a, some b => match i.zero with
        | some z => if z.cells.size = i.size ∧ 0 < i.size ∧ (zeroT P e).isSome = true then some (if isU8 P e then .appendT e i.size i.bytes a b else .append i.size i.bytes a b) else none
        | none => none
      | _, _, _, _ => none
    | _ => none
  | .copy, [d, s], some t => match P.underlying t with
    | some (.slice e) => match sizeT P e, cA P d, cA P s with
      | some n, some a, some b => some (.copy n a b)
      | _, _, _ => none
    | _ => none
  | .unsafeSliceData, [x], some _ => (cA P x).map .sdata
  | .unsafeString, [x, n], some t => match ts.toList, P.underlying t, cA P x, cA P n with
    | [_, _], some (.pointer e), some a, some b => if P.cellsOf e = 1 then some (.ustr e a b) else none
    | _, _, _, _ => none
  | _, _, _ => none

def cOp (o : Op) : Option CO :=
  match o with
  | .move x | .assign x => (cA P x).map .mv
  | .pick c a b => match cA P c, cA P a, cA P b with
    | some c, some a, some b => some (.pick c a b)
    | _, _, _ => none
  | .alloc t => match zeroT P t with
    | some z => if z.cells.all AV.one then some (if ownRef P t then .allocT t z.cells else .alloc z.cells) else none
    | none => none
  | .box _ x => (cA P x).map .box
  | .build t parts => match zeroT P t, P.underlying t with
    | some z, some (.struct fs) => if fs.toList.all (fun f => (sizeT P f.type).isSome) then (placesF P fs parts.toList).map (.build z.cells) else none
    | some z, some (.array _ e) => match sizeT P e with
      | some s => (placesA P s parts.toList).map (.build z.cells)
      | none => none
    | _, _ => none
  | .buildSlice t len parts => match P.underlying t with
    | some (.slice e) => match sizeT P e with
      | some s => if len * s > 2 ^ 24 then none else
        if len * s = 0 then (if len = 0 then (placesA P s parts.toList).map (.litS s len []) else none)
        else match zeroT P e with
          | some z => if z.cells.length = s then (placesA P s parts.toList).map (.litS s len z.cells) else none
          | none => none
      | none => none
    | _ => none
  | .load t a => match aggT P t, cA P a with
    | some g, some a => some (.load g a)
    | _, _ => none
  | .store t a x => match sizeT P t, cA P a, cA P x with
    | some n, some a, some x => some (.store n a x)
    | _, _, _ => none
  | .nilCheck x => (cA P x).map .nilchk
  | .binOp op t x y _ => match cA P x, cA P y with
    | some a, some b => some (.bin op (eqT P op t x y) a b)
    | _, _ => none
  | .unOp op _ x => (cA P x).map (.un op)
  | .convert src dst x => match P.underlying src, P.underlying dst, cA P x with
    | some (.int _), some (.int k), some a => some (.toInt k a)
    | some .string, some .string, some a => some (.strId a)
    | some (.slice e), some .string, some a => if isU8 P e then some (.b2s a) else none
    | some .string, some (.slice e), some a => if isU8 P e then some (.s2b a) else none
    | some (.pointer e), some .unsafePointer, some a => match sizeT P e with
      | some (_ + 1) => some (.toUns a)
      | _ => none
    | some .unsafePointer, some (.pointer u), some a => match sizeT P u with
      | some (k + 1) => some (.fromUns u (k + 1) a)
      | _ => none
    | _, _, _ => none
  | .makeInterface t x => match P.underlying t with
    | some (.interface _) => none
    | some _ => (cA P x).map (.iface t)
    | none => none
  | .makeFunc fn first captured => match cAs P first, cAs P captured with
    | some a, some b => some (.clo fn a b)
    | _, _ => none
  | .makeMap _ none => some .mkM
  | .makeSlice t l c => match P.underlying t with
    | some (.slice e) => match P.info? e, zeroT P e, cA P l, cA P c with
      | some i, some z, some l, some c => if z.cells.length = i.size ∧ 0 < i.size ∧ z.cells.all AV.one then some (if isU8 P e then .mkST e i.bytes i.size z.cells l c else .mkS i.bytes i.size z.cells l c) else none
      | _, _, _, _ => none
    | _ => none
  | .slice t x lo hi mx => match P.underlying t, cA P x, cO P lo, cO P hi, cO P mx with
    | some .string, some x, some lo, some hi, some none => some (.slcS x lo hi)
    | some (.slice e), some x, some lo, some hi, some mx => (sizeT P e).map fun s => .slcV s x lo hi mx
    | some (.array n e), some x, some lo, some hi, some mx => (sizeT P e).map fun s => .slcA n s x lo hi mx
    | some (.pointer a), some x, some lo, some hi, some mx => match P.underlying a with
      | some (.array n e) => (sizeT P e).map fun s => .slcA n s x lo hi mx
      | _ => none
    | _, _, _, _, _ => none
  | .fieldAddr s x f => match P.underlying s, cA P x with
    | some (.struct fs), some a => match fs[f]? with
      | some fd => match sizeT P fd.type with
        | some (_ + 1) => some (.faddr fd.offset a)
        | _ => none
      | none => none
    | _, _ => none
  | .field t x f => match P.underlying t, cA P x with
    | some (.struct fs), some a => match fs[f]? with
      | some fd => (aggT P fd.type).map fun g => .fld fd.offset g a
      | none => none
    | _, _ => none
  | .indexAddr t x i => match P.underlying t, cA P x, cA P i with
    | some (.slice e), some a, some b => (sizeT P e).map fun s => .iaddrS s a b
    | some (.array n e), some a, some b => (sizeT P e).map fun s => .iaddrA n s a b
    | _, _, _ => none
  | .index t x i => match P.underlying t, cA P x, cA P i with
    | some .string, some a, some b => some (.idxS a b)
    | some (.array n e), some a, some b => match sizeT P e, aggT P e with
      | some s, some g => some (.idxA n s g a b)
      | _, _ => none
    | _, _, _ => none
  | .lookup t m k ok => match P.underlying t, cA P m, cA P k with
    | some (.map key e), some a, some b => match keyT P key, zeroT P e with
      | some q, some z => some (.lookup q z ok a b)
      | _, _ => none
    | _, _, _ => none
  | .mapUpdate t m k x | .insert t m k x => match P.underlying t, cA P m, cA P k, cA P x with
    | some (.map key _), some a, some b, some c => (keyT P key).map fun q => .mapset q a b c
    | _, _, _, _ => none
  | .extract t i => (cA P t).map (.ext i)
  | .range t x => match P.underlying t with
    | some .string => (cA P x).map .iterS
    | _ => none
  | .next x true => (cA P x).map .nextS
  | .call c => match c.callee with
    | .builtin b => cBuiltin P b c.argTypes c.args
    | .value f => match cA P f, cAs P c.args with
      | some f, some as => some (.call f as)
      | _, _ => none
    | .invoke _ _ => none
  | _ => none

/-! ### Regions and code -/

def cGuard (ops : Array Oper) : Option (Nat × Bool) → Option (Option (Nat × Bool))
  | none => some none
  | some (j, want) => match (ops[j]?).bind (·.dst) with
    | some t => some (some (t, want))
    | none => none

def cOper (ops : Array Oper) (o : Oper) : Option CR :=
  match cGuard ops o.guard with
  | some g => some ⟨o.dst, (cOp P o.op).getD .stop, g⟩
  | none => none

/-- What each operation waits for, and what that waits for: rising, in the text's order. -/
def ancs : List Oper → List (List Nat) → List (List Nat)
  | [], acc => acc
  | o :: os, acc =>
    let d := (o.after.toList.filter (Region.binds .any)).map (·.on)
    ancs os (acc ++ [(d ++ d.flatMap fun j => acc.getD j []).eraseDups])

def directOn (o : Oper) (i : Nat) : Bool := o.after.any fun e => Region.binds .any e && e.on == i

/-- Two operations that have nothing to do with each other's temporaries. -/
def CR.apart (x y : CR) : Bool :=
  (match x.dst with
   | some d => !y.looks.contains d && y.dst != some d
   | none => true) &&
  (match y.dst with
   | some d => !x.looks.contains d
   | none => true)

/-- Each operation waits for what stands ahead, and any two that don't wait directly have nothing to do with each other's temporaries. -/
def orderOk (ops : Array Oper) (cs : List CR) : Bool :=
  (List.range cs.length).all fun i => match ops[i]?, cs[i]? with
    | some o, some c => (o.after.all fun e => !Region.binds .any e || decide (e.on < i)) &&
      (List.range i).all fun k => match cs[k]? with
        | none => false
        | some p => directOn o k || p.apart c
    | _, _ => false

/-- The places of those that write; 'st': the calls that are to write nothing. -/
def loudAt (st : List Nat) (cs : List CR) : List Nat := (List.range cs.length).filter fun i => match cs[i]? with
  | some c => !(c.op.quiet || st.contains i)
  | none => false

def CO.isCall' : CO → Bool
  | .call _ _ => true
  | _ => false

/-- The calls that some making of memory doesn't wait for, nor they for it: where all that write are no chain. -/
def stillsOf (an : List (List Nat)) (cs : List CR) : List Nat :=
  let loud := loudAt [] cs
  loud.filter fun i => match cs[i]? with
    | some c => c.op.isCall' && loud.any fun j => j != i && !(an.getD i []).contains j && !(an.getD j []).contains i
    | none => false

def chainOk (an : List (List Nat)) : List Nat → Bool
  | a :: b :: l => (an.getD b []).contains a && chainOk an (b :: l)
  | _ => true

/-- How many of those that write stand ahead at least: the last one that it waits for. -/
def lowOf (an : List (List Nat)) (loud : List Nat) (i : Nat) : Nat := (List.range loud.length).foldl (fun a j => if (an.getD i []).contains (loud.getD j 0) then j + 1 else a) 0
/-- At most: ahead of the first one that waits for it. -/
def highOfs (an : List (List Nat)) (loud : List Nat) (i : Nat) : Nat := ((List.range loud.length).find? fun j => (an.getD (loud.getD j 0) []).contains i).getD loud.length

def windows (st : List Nat) (cs : List CR) (an : List (List Nat)) : List CD :=
  (List.range cs.length).map fun i => { toCR := cs.getD i default, lo := lowOf an (loudAt st cs) i, hi := highOfs an (loudAt st cs) i, still := st.contains i }

def cDraw (ops : Array Oper) (cs : List CR) : Option (List CD) :=
  let an := ancs ops.toList []
  let st := if chainOk an (loudAt [] cs) then [] else stillsOf an cs
  if orderOk ops cs && chainOk an (loudAt st cs) then some (windows st cs an) else none

/-- What isn't taken is compiled to a stop: a run that comes there tells nothing. -/
def cC : Code → CC
  | .skip => .skip
  | .region _ ops draw => match ops.toList.mapM (cOper P ops) with
    | some cs => if draw then (match cDraw ops cs with | some cds => .regionD cds | none => .stop) else .region cs
    | none => .stop
  | .seq a b => .seq (cC a) (cC b)
  | .cond c a b => match cA P c with
    | some c => .cond c (cC a) (cC b)
    | none => .stop
  | .block id a => .block id (cC a)
  | .loop a => .loop (cC a)
  | .exit id => .exit id
  | .ret => .ret
  | .scope a => cC a
  | .label _ => .skip
  | _ => .stop

def cRes : ResultVar → Option CRes
  | .tmp t => some (.tmp t)
  | .cell a t => (aggT P t).map (.cell a)

def cF (fn : Func) : Option CF :=
  if fn.name == "runtime.NumGoroutine" then none else
  match fn.body with
  | none => none
  | some b => match fn.results.toList.mapM (cRes P) with
    | some rs => some ⟨fn.ntmps, rs, cC P b⟩
    | none => none

/-- The program's table. -/
def tbl (f : Nat) : Option CF := (P.funcs[f]?).bind (cF P)
end
end Go.Fs
