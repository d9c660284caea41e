/- A quiet operation: the model yields the value that the abstract machine tells, and leaves the world as it is. -/
import Derived.Test.YtdehfehdaiappaaGreatDoorFsQuiet4
import Derived.Lib.UnsafeStr
namespace Go.Fs
section
variable {P : Program} {ι : Emb} {h : AH} {w : World}

/-- What is claimed of one operation. -/
def Tells (P : Program) (ι : Emb) (w : World) (a : Act) (o : Oper) (v : AV) : Prop := ∃ rv, (execOp a.eval o).run P w = .ok (.value rv) w ∧ VRel ι v rv

theorem tells_of {a : Act} {o : Oper} {v : AV} {s : Sem Value} (he : execOp a.eval o = (do pure (.value (← s)) : Sem Next)) (hs : ∃ rv, s.run P w = .ok rv w ∧ VRel ι v rv) : Tells P ι w a o v := by
  obtain ⟨rv, h1, h2⟩ := hs
  refine ⟨rv, ?_, h2⟩
  rw [he]
  simp [h1]

theorem map_some_cA {α : Type} {x : Operand} {f : CA → α} {c : α} (h : (cA P x).map f = some c) : ∃ d, cA P x = some d ∧ c = f d := by
  simp only [Option.map_eq_some_iff] at h
  obtain ⟨d, h1, h2⟩ := h
  exact ⟨d, h1, h2.symm⟩

theorem ptr_of {b o : Nat} {v : Value} (hv : VRel ι (.ptr (some (b, o))) v) : b < ι.n ∧ v = .pointer (some ⟨ι.blk b, ι.sh b + o, none⟩) := by simpa [VRel] using hv

theorem nil_or_at {xa : Option (Nat × Nat)} {n : Nat} {cp : Cap} {v : Value} (hv : VRel ι (.slice xa n cp) v) : ∃ q c, v = .slice q n c := by
  cases xa with
  | none => cases cp <;> simp only [VRel] at hv; obtain ⟨rfl, _, rfl⟩ := hv; exact ⟨none, 0, rfl⟩
  | some p =>
    obtain ⟨b, o⟩ := p
    cases cp <;> simp only [VRel] at hv
    · obtain ⟨_, _, _, rfl, _⟩ := hv; exact ⟨_, _, rfl⟩
    · obtain ⟨_, _, o2, c2, rfl, _⟩ := hv; exact ⟨_, _, rfl⟩

/-- A slice with elements: where they are. -/
theorem slice_at {b o n : Nat} {cp : Cap} {v : Value} (hv : VRel ι (.slice (some (b, o)) n cp) v) (hn : 0 < n) : b < ι.n ∧ ∃ c, v = .slice (some ⟨ι.blk b, ι.sh b + o, none⟩) n c := by
  cases cp <;> simp only [VRel] at hv
  · obtain ⟨h1, h2, a, rfl, h3⟩ := hv
    exact ⟨h1, _, by rw [h3 (by omega)]⟩
  · obtain ⟨h1, _, o2, c2, rfl, _, h2⟩ := hv
    rcases h2 with ⟨rfl, _⟩ | ⟨h0, _⟩
    · exact ⟨h1, _, rfl⟩
    · omega

theorem fld_ok {fd : Field} {g : Option Nat} (hg : aggT P fd.type = some g) {cs : List AV} {rs : Array Value} (hr : VRels ι cs rs.toList) {off : Nat} {v : AV} (hv : partOf g cs off = some v) :
    ∃ rv, (part fd.type rs off).run P w = .ok rv w ∧ VRel ι v rv := by
  obtain ⟨h1, h2⟩ := run_isAgg (w := w) hg
  cases g with
  | none =>
    simp only [partOf] at hv
    obtain ⟨rv, h3, h4⟩ := hr.get _ _ hv
    refine ⟨rv, ?_, h4⟩
    rw [Array.getElem?_toList] at h3
    simp [part, h1, h3]
  | some n =>
    simp only [partOf, Option.map_eq_some_iff] at hv
    obtain ⟨ds, hd, rfl⟩ := hv
    unfold cut at hd
    split at hd
    · cases hd
      refine ⟨.agg (rs.extract off (off + n)), by simp [part, h1, h2 n rfl], ?_⟩
      simp only [VRel]
      refine ⟨_, rfl, ?_⟩
      have := (hr.drop off).take n
      rw [Array.toList_extract]
      simpa [List.extract_eq_take_drop] using this
    · cases hd

theorem run_builtin (a : Act) (w : World) (b : Builtin) (args : Array Operand) (ats : Array TypeId) (dst : Option Tmp) (type : TypeId) (pos : String) (after : Array Edge) (guard : Option (Nat × Bool)) :
    ∃ cs, (execOp a.eval ⟨dst, .call ⟨.builtin b, args, ats⟩, type, pos, after, guard⟩).run P w = (builtin b ats type cs (args.map a.eval)).run P w := by
  refine ⟨args.map fun | .const _ => true | _ => false, ?_⟩
  simp only [execOp, resolve, invoke, Sem.run_bind, Sem.run_pure, Result.andThen_ok]
  rfl

theorem one_arg {args : Array Operand} {x : Operand} (h : args.toList = [x]) : args = #[x] := by
  apply Array.ext'; simpa using h
theorem two_args {args : Array Operand} {x y : Operand} (h : args.toList = [x, y]) : args = #[x, y] := by
  apply Array.ext'; simpa using h

def hasRoom (n : Nat) : Cap → Prop
  | .exact c => 0 < c
  | .opn _ => 0 < n

/-- A slice with room: where its first element is. -/
theorem slice_room {p : Nat × Nat} {n : Nat} {cp : Cap} {v : Value} (hv : VRel ι (.slice (some p) n cp) v) (hc : hasRoom n cp) :
    p.1 < ι.n ∧ ∃ c, 0 < c ∧ v = .slice (some ⟨ι.blk p.1, ι.sh p.1 + p.2, none⟩) n c := by
  obtain ⟨b, o⟩ := p
  cases cp <;> simp only [VRel] at hv <;> simp only [hasRoom] at hc
  · obtain ⟨h1, h2, a, rfl, h3⟩ := hv
    exact ⟨h1, _, hc, by rw [h3 hc]⟩
  · obtain ⟨h1, _, o2, c2, rfl, _, h2⟩ := hv
    rcases h2 with ⟨rfl, _⟩ | ⟨h0, _⟩
    · exact ⟨h1, _, by omega, rfl⟩
    · omega

theorem shape_of {G : Nat} (r : Rel G ι h w) {b : Nat} {cs : List AV} {ro : Bool} (hb : h.get b = some (.cells cs ro)) : ∃ z, w.shape? (ι.blk b) = some (ι.ty b, z) ∧ (∀ i, i < cs.length → ι.sh b + i < z) := by
  obtain ⟨arr, e, fr, h1, h2, h3, h4, h5⟩ := r.brel b _ hb
  refine ⟨arr.size, by unfold World.shape?; rw [h1, h5], fun i hi => ?_⟩
  obtain ⟨v, h6, _⟩ := h3 i _ (List.getElem?_eq_getElem hi)
  exact (Array.getElem?_eq_some_iff.1 h6).1

/-- At the head of a row of its own type there lies a variable. -/
theorem liesAt_head {u n count : Nat} (hn : P.cellsOf u = n + 1) (hc : 1 ≤ count) : liesAt P P.depth u count 0 u 1 = true := by
  have hd : P.depth = (2 * (P.types.size + Made.depth) + 1) + 1 := rfl
  rw [hd]
  simp only [liesAt, Bool.or_eq_true]
  left
  rw [hd]
  simp [rowAt, hn, hc, sameLayout]

theorem typed_ptr {G : Nat} (r : Rel G ι h w) {t b o : Nat} (ht : typed h t (.ptr (some (b, o))) = true) : o = 0 ∧ ι.ty b = t ∧ ι.sh b = 0 := by
  cases o with
  | succ o => simp [typed] at ht
  | zero =>
    simp only [typed] at ht
    split at ht
    · rename_i b2 t2 hb2
      simp only [Bool.and_eq_true, beq_iff_eq] at ht
      obtain ⟨g1, g2, g3⟩ := r.brel _ _ hb2
      rw [ht.1] at g2 g3
      exact ⟨rfl, by rw [g2, ht.2], g3⟩
    · cases ht

theorem toUns_ok (r : Rel P.globals.size ι h w) {src dst t k : Nat} {tm : List AV} {d : CA} {v : AV} {rx : Value} (hs : P.underlying src = some (.pointer t)) (hd : P.underlying dst = some .unsafePointer) (hk : sizeT P t = some (k + 1))
    (e1 : VRel ι (d.ev tm) rx) (hv : quietRun (.toUns d) tm h = some v) : ∃ rv, (convert src dst rx).run P w = .ok rv w ∧ VRel ι v rv := by
  simp only [quietRun] at hv
  split at hv
  · rename_i hp
    cases hv
    rw [hp] at e1
    simp only [VRel] at e1
    subst e1
    exact ⟨.pointer none, by simp [convert, run_underlying hs, run_underlying hd, Conv.unsafePointer], by simp [VRel]⟩
  · rename_i b o hp
    simp only [Option.map_eq_some_iff] at hv
    obtain ⟨c, hc, rfl⟩ := hv
    rw [hp] at e1
    obtain ⟨hb, rfl⟩ := ptr_of e1
    unfold readCell at hc
    split at hc
    · rename_i cs ro hbb
      obtain ⟨z, g1, g2⟩ := shape_of r hbb
      have g3 := g2 o (List.getElem?_eq_some_iff.1 hc).1
      refine ⟨.pointer (some ⟨ι.blk b, ι.sh b + o, none⟩), ?_, e1⟩
      have g4 : ¬ (z ≤ ι.sh b + o) := by omega
      simp [convert, run_underlying hs, run_underlying hd, Conv.unsafePointer, Conv.seenAt, viewAt, g1, cellsIn, sizeT_run hk, g4]
    · cases hc
  · cases hv

theorem fromUns_ok (r : Rel P.globals.size ι h w) {src dst u k : Nat} {tm : List AV} {d : CA} {v : AV} {rx : Value} (hs : P.underlying src = some .unsafePointer) (hd : P.underlying dst = some (.pointer u)) (hk : sizeT P u = some (k + 1))
    (e1 : VRel ι (d.ev tm) rx) (hv : quietRun (.fromUns u (k + 1) d) tm h = some v) : ∃ rv, (convert src dst rx).run P w = .ok rv w ∧ VRel ι v rv := by
  simp only [quietRun] at hv
  split at hv
  · rename_i hp
    cases hv
    rw [hp] at e1
    simp only [VRel] at e1
    subst e1
    exact ⟨.pointer none, by simp [convert, run_underlying hs, run_underlying hd, Conv.unsafePointer], by simp [VRel]⟩
  · rename_i b o hp
    split at hv
    · rename_i ht
      simp only [Option.map_eq_some_iff] at hv
      obtain ⟨c, hc, rfl⟩ := hv
      rw [hp] at e1
      obtain ⟨hb, rfl⟩ := ptr_of e1
      obtain ⟨rfl, h1, h2⟩ := typed_ptr r ht
      unfold readCells at hc
      split at hc
      · rename_i cs ro hbb
        unfold cut at hc
        split at hc
        · rename_i hle
          obtain ⟨z, g1, g2⟩ := shape_of r hbb
          have g3 := g2 k (by omega)
          have hcu : P.cellsOf u = k + 1 := by
            unfold sizeT at hk
            unfold Program.cellsOf
            rw [hk]; rfl
          have g4 : 1 ≤ z / (k + 1) := by
            rw [Nat.le_div_iff_mul_le (by omega)]; omega
          have g5 := liesAt_head (P := P) hcu g4
          refine ⟨.pointer (some ⟨ι.blk b, ι.sh b + 0, none⟩), ?_, e1⟩
          simp [convert, run_underlying hs, run_underlying hd, Conv.unsafePointer, Conv.seenAt, viewAt, g1, sizeT_run hk, variablesAt, h1, h2, hcu, g5]
        · cases hc
      · cases hc
    · cases hv
  · cases hv

set_option maxHeartbeats 1000000 in
theorem builtin_quiet {b : Builtin} {args : Array Operand} {ats : Array TypeId} {dst : Option Tmp} {type : TypeId} {pos : String} {after : Array Edge} {guard : Option (Nat × Bool)} {c : CO} {tm : List AV} {a : Act} {v : AV}
    (hc : cBuiltin P b ats args = some c) (hq : c.quiet = true) (hv : quietRun c tm h = some v) (r : Rel P.globals.size ι h w) (ha : ARel ι tm a) :
    Tells P ι w a ⟨dst, .call ⟨.builtin b, args, ats⟩, type, pos, after, guard⟩ v := by
  unfold Tells
  obtain ⟨cs, hrun⟩ := run_builtin (P := P) a w b args ats dst type pos after guard
  rw [hrun]
  clear hrun
  have fin : ∀ (s : Sem Value), (∃ rv, s.run P w = .ok rv w ∧ VRel ι v rv) → ∃ rv, ((do pure (.value (← s)) : Sem Next)).run P w = .ok (.value rv) w ∧ VRel ι v rv := fun s ⟨rv, h1, h2⟩ => ⟨rv, by simp [h1], h2⟩
  unfold cBuiltin at hc
  split at hc
  · rename_i x t hargs ht
    rw [one_arg hargs]
    refine fin (Builtin.len_ ats type (#[x].map a.eval)) ?_
    split at hc
    · rename_i hu
      obtain ⟨d, hd, rfl⟩ := map_some_cA hc
      have e1 := ev_rel r ha hd
      simp only [quietRun] at hv
      split at hv
      · rename_i s hp
        cases hv
        rw [hp] at e1
        have e2 := str_of e1
        refine ⟨goInt s.length, ?_, by simp [VRel, goInt]⟩
        have hsz : (⟨s.toArray⟩ : ByteArray).size = s.length := by simp [ByteArray.size]
        simp [Builtin.len_, ht, run_underlying hu, e2, hsz]
      · cases hv
    · rename_i e hu
      obtain ⟨d, hd, rfl⟩ := map_some_cA hc
      have e1 := ev_rel r ha hd
      simp only [quietRun] at hv
      split at hv
      · rename_i q n cp hp
        cases hv
        rw [hp] at e1
        obtain ⟨q', c', e2⟩ := nil_or_at e1
        exact ⟨goInt n, by simp [Builtin.len_, ht, run_underlying hu, e2], by simp [VRel, goInt]⟩
      · cases hv
    · rename_i k e hu
      obtain ⟨d, hd, rfl⟩ := map_some_cA hc
      have e1 := ev_rel r ha hd
      simp only [quietRun] at hv
      split at hv
      · rename_i hp
        cases hv
        rw [hp] at e1
        simp only [VRel] at e1
        exact ⟨goInt 0, by simp [Builtin.len_, ht, run_underlying hu, e1], by simp [VRel, goInt]⟩
      · rename_i rr hp
        split at hv
        · rename_i es hes
          cases hv
          rw [hp] at e1
          simp only [VRel] at e1
          obtain ⟨hbn, e2⟩ := e1
          obtain ⟨rs, clock, g1, g2⟩ := r.brel rr _ hes
          have hlen : ∀ {es : List (AV × AV)} {rs : List MapEntry}, ERels ι es rs → rs.length = es.length := fun {es rs} => by
            induction es generalizing rs with
            | nil => intro h; simp only [ERels] at h; subst h; rfl
            | cons p es ih => obtain ⟨k, x⟩ := p; intro h; simp only [ERels] at h; obtain ⟨_, rs', rfl, _, _, h3⟩ := h; simp [ih h3]
          have hl := hlen g2
          refine ⟨goInt es.length, ?_, by simp [VRel, goInt]⟩
          simp only [Array.length_toList] at hl
          simp [Builtin.len_, ht, run_underlying hu, e2, getObj, Sem.run, g1, hl]
        · cases hv
      · cases hv
    · rename_i n e hu
      obtain ⟨d, hd, rfl⟩ := map_some_cA hc
      simp only [quietRun, Option.some.injEq] at hv
      subst hv
      exact ⟨goInt n, by simp [Builtin.len_, ht, run_underlying hu], by simp [VRel, goInt]⟩
    · rename_i ar hu
      split at hc
      · rename_i n e hu2
        obtain ⟨d, hd, rfl⟩ := map_some_cA hc
        simp only [quietRun, Option.some.injEq] at hv
        subst hv
        exact ⟨goInt n, by simp [Builtin.len_, ht, run_underlying hu, run_underlying hu2], by simp [VRel, goInt]⟩
      · cases hc
    · cases hc
  · rename_i x t hargs ht
    rw [one_arg hargs]
    refine fin (Builtin.cap_ ats type (#[x].map a.eval)) ?_
    split at hc
    · rename_i e hu
      obtain ⟨d, hd, rfl⟩ := map_some_cA hc
      have e1 := ev_rel r ha hd
      simp only [quietRun] at hv
      split at hv
      · rename_i q n cp hp
        cases hv
        rw [hp] at e1
        have e2 : ∃ q', a.eval x = .slice q' n cp := by
          cases q with
          | none => simp only [VRel] at e1; obtain ⟨rfl, rfl, e2⟩ := e1; exact ⟨none, e2⟩
          | some p => obtain ⟨b', o'⟩ := p; simp only [VRel] at e1; obtain ⟨_, _, A, e3, _⟩ := e1; exact ⟨_, e3⟩
        obtain ⟨q', e2⟩ := e2
        exact ⟨goInt cp, by simp [Builtin.cap_, ht, run_underlying hu, e2], by simp [VRel, goInt]⟩
      · cases hv
    · cases hc
  · rename_i x y hargs
    rw [two_args hargs]
    refine fin (Builtin.min_ ats type (#[x, y].map a.eval)) ?_
    split at hc
    · rename_i c1 c2 h1 h2
      cases hc
      have e1 := ev_rel r ha h1
      have e2 := ev_rel r ha h2
      simp only [quietRun] at hv
      split at hv
      · rename_i k i k' j hp hp'
        cases hv
        rw [hp] at e1
        rw [hp'] at e2
        exact ⟨.int k (if j < i then j else i), by simp [Builtin.min_, Builtin.min2, int_of e1, int_of e2], by simp [VRel]⟩
      · cases hv
    · cases hc
  · rename_i x y hargs
    rw [two_args hargs]
    refine fin (Builtin.max_ ats type (#[x, y].map a.eval)) ?_
    split at hc
    · rename_i c1 c2 h1 h2
      cases hc
      have e1 := ev_rel r ha h1
      have e2 := ev_rel r ha h2
      simp only [quietRun] at hv
      split at hv
      · rename_i k i k' j hp hp'
        cases hv
        rw [hp] at e1
        rw [hp'] at e2
        exact ⟨.int k (if i < j then j else i), by simp [Builtin.max_, Builtin.max2, int_of e1, int_of e2], by simp [VRel]⟩
      · cases hv
    · cases hc
  · exfalso
    split at hc
    · split at hc
      · split at hc
        · split at hc
          · cases hc; simp [CO.quiet] at hq
          · cases hc
        · cases hc
      · split at hc
        · split at hc
          · split at hc
            · cases hc; split at hq <;> simp [CO.quiet] at hq
            · cases hc
          · cases hc
        · cases hc
    · cases hc
  · exfalso
    split at hc
    · split at hc
      · cases hc; simp [CO.quiet] at hq
      · cases hc
    · cases hc
  · rename_i x t hargs ht
    rw [one_arg hargs]
    refine fin (Builtin.unsafeSliceData_ ats type (#[x].map a.eval)) ?_
    obtain ⟨d, hd, rfl⟩ := map_some_cA hc
    have e1 := ev_rel r ha hd
    simp only [quietRun] at hv
    have main : ∀ (p : Nat × Nat) (n : Nat) (cp : Cap), d.ev tm = .slice (some p) n cp → hasRoom n cp → v = .ptr (some p) →
        ∃ rv, (Builtin.unsafeSliceData_ ats type (#[x].map a.eval)).run P w = .ok rv w ∧ VRel ι v rv := fun p n cp hp hcp hvp => by
      rw [hp] at e1
      obtain ⟨hb, c, hc0, e2⟩ := slice_room e1 hcp
      refine ⟨.pointer (some ⟨ι.blk p.1, ι.sh p.1 + p.2, none⟩), ?_, by subst hvp; obtain ⟨b, o⟩ := p; simp only [VRel]; exact ⟨hb, trivial⟩⟩
      rw [show #[x].map a.eval = #[a.eval x] by simp, e2]
      exact Lib.run_unsafeSliceData_row w ats type _ n c (by omega)
    split at hv
    · rename_i n cp hp
      cases hv
      rw [hp] at e1
      obtain ⟨q, c, e2⟩ := nil_or_at e1
      have e3 : q = none := by cases cp <;> simp only [VRel] at e1; rw [e1.2.2] at e2; cases e2; rfl
      subst e3
      refine ⟨.pointer none, ?_, by simp [VRel]⟩
      rw [show #[x].map a.eval = #[a.eval x] by simp, e2]
      rfl
    · rename_i p n e' hp
      split at hv
      · rename_i hn
        exact main p n _ hp hn (by cases hv; rfl)
      · cases hv
    · rename_i p n c' hp
      split at hv
      · rename_i hn
        exact main p n _ hp hn (by cases hv; rfl)
      · cases hv
    · cases hv
  · exfalso
    split at hc
    · split at hc
      · cases hc; simp [CO.quiet] at hq
      · cases hc
    · cases hc
  · cases hc

set_option maxHeartbeats 1000000 in
theorem quiet_sound {o : Oper} {c : CO} {tm : List AV} {a : Act} {v : AV} (hc : cOp P o.op = some c) (hq : c.quiet = true) (hv : quietRun c tm h = some v) (r : Rel P.globals.size ι h w) (ha : ARel ι tm a) : Tells P ι w a o v := by
  obtain ⟨dst, op, type, pos, after, guard⟩ := o
  cases op <;> simp only [cOp] at hc <;> first | (cases hc; done) | skip
  case move x =>
    obtain ⟨d, hd, rfl⟩ := map_some_cA hc
    simp only [quietRun, Option.some.injEq] at hv
    subst hv
    exact ⟨_, by simp [execOp], ev_rel r ha hd⟩
  case assign x =>
    obtain ⟨d, hd, rfl⟩ := map_some_cA hc
    simp only [quietRun, Option.some.injEq] at hv
    subst hv
    exact ⟨_, by simp [execOp], ev_rel r ha hd⟩
  case pick x y z =>
    split at hc
    · rename_i cx cy cz h1 h2 h3
      cases hc
      simp only [quietRun] at hv
      have e1 := ev_rel r ha h1
      split at hv
      · rename_i hb
        cases hv
        rw [hb] at e1
        exact ⟨_, by simp [execOp, asBool, bool_of e1], ev_rel r ha h2⟩
      · rename_i hb
        cases hv
        rw [hb] at e1
        exact ⟨_, by simp [execOp, asBool, bool_of e1], ev_rel r ha h3⟩
      · cases hv
    · cases hc
  case box t x => obtain ⟨d, hd, rfl⟩ := map_some_cA hc; simp [CO.quiet] at hq
  case range t x =>
    exfalso
    split at hc
    · obtain ⟨d, hd, rfl⟩ := map_some_cA hc; simp [CO.quiet] at hq
    · cases hc
  case next x b =>
    exfalso
    cases b <;> simp only at hc <;> first | (cases hc; done) | skip
    obtain ⟨d, hd, rfl⟩ := map_some_cA hc; simp [CO.quiet] at hq
  case alloc t =>
    split at hc
    · split at hc
      · cases hc; split at hq <;> simp [CO.quiet] at hq
      · cases hc
    · cases hc
  case build t parts =>
    split at hc
    · rename_i z fs hz hu
      split at hc
      · rename_i hall
        simp only [Option.map_eq_some_iff] at hc
        obtain ⟨places, hp, rfl⟩ := hc
        simp only [quietRun, Option.map_eq_some_iff] at hv
        obtain ⟨cs', hf, rfl⟩ := hv
        obtain ⟨rz, hz1, hz2, i, hi1, hi2⟩ := zeroT_run (ι := ι) hz
        obtain ⟨arr, h1, h2⟩ := run_mapM_places (P := P) fs (fun f hf => by
          have := List.all_eq_true.1 hall f hf
          exact Option.isSome_iff_exists.1 this) w
        obtain ⟨p1, p2⟩ := placesF_ok fs parts.toList places hp
        obtain ⟨arr', h3, h4⟩ := fill_ok r ha (arr[·]?) parts.toList places z.cells cs' rz.cells p1 (fun j i x off size c hj hj' => by
          obtain ⟨⟨f, g1, g2, g3⟩, g4⟩ := p2 j i x off size c hj hj'
          exact ⟨by rw [h2 i f size g1 g3, g2], g4⟩) hf hz2.cells
        refine tells_of (s := Instr.build t (parts.map fun (i, x) => (i, a.eval x))) rfl ⟨.agg arr', ?_, by simp only [VRel]; exact ⟨_, rfl, h4⟩⟩
        simp only [Instr.build, Sem.run_bind, hz1, Result.andThen_ok, run_underlying hu, h1]
        rw [Array.toList_map, h3]
        rfl
      · cases hc
    · rename_i z n e hz hu
      split at hc
      · rename_i s hs
        simp only [Option.map_eq_some_iff] at hc
        obtain ⟨places, hp, rfl⟩ := hc
        simp only [quietRun, Option.map_eq_some_iff] at hv
        obtain ⟨cs', hf, rfl⟩ := hv
        obtain ⟨rz, hz1, hz2, i, hi1, hi2⟩ := zeroT_run (ι := ι) hz
        obtain ⟨p1, p2⟩ := placesA_ok s parts.toList places hp
        obtain ⟨arr', h3, h4⟩ := fill_ok r ha (fun i => some (i * s, s)) parts.toList places z.cells cs' rz.cells p1 (fun j i x off size c hj hj' => by
          obtain ⟨⟨g1, g2⟩, g4⟩ := p2 j i x off size c hj hj'
          exact ⟨by rw [g1, g2], g4⟩) hf hz2.cells
        refine tells_of (s := Instr.build t (parts.map fun (i, x) => (i, a.eval x))) rfl ⟨.agg arr', ?_, by simp only [VRel]; exact ⟨_, rfl, h4⟩⟩
        simp only [Instr.build, Sem.run_bind, hz1, Result.andThen_ok, run_underlying hu, sizeT_run hs]
        rw [Array.toList_map, h3]
        rfl
      · cases hc
    · cases hc
  case buildSlice t len parts =>
    exfalso
    split at hc
    · split at hc
      · split at hc
        · cases hc
        · split at hc
          · split at hc
            · simp only [Option.map_eq_some_iff] at hc; obtain ⟨_, _, rfl⟩ := hc; simp [CO.quiet] at hq
            · cases hc
          · split at hc
            · split at hc
              · simp only [Option.map_eq_some_iff] at hc; obtain ⟨_, _, rfl⟩ := hc; simp [CO.quiet] at hq
              · cases hc
            · cases hc
      · cases hc
    · cases hc
  case insert t m k x =>
    exfalso
    split at hc
    · simp only [Option.map_eq_some_iff] at hc; obtain ⟨_, _, rfl⟩ := hc; simp [CO.quiet] at hq
    · cases hc
  case load t x =>
    split at hc
    · rename_i g d hg hd
      cases hc
      simp only [quietRun] at hv
      split at hv
      · rename_i b o hb
        have e1 := ev_rel r ha hd
        rw [hb] at e1
        obtain ⟨_, e2⟩ := ptr_of e1
        obtain ⟨rv, h1, h2⟩ := load_ok r hg hv
        exact tells_of (s := Instr.loadAt t (a.eval x)) rfl ⟨rv, by simp [Instr.loadAt, Instr.sureAddr, e2, h1], h2⟩
      · cases hv
    · cases hc
  case store t x y =>
    exfalso
    split at hc
    · cases hc; simp [CO.quiet] at hq
    · cases hc
  case nilCheck x =>
    obtain ⟨d, hd, rfl⟩ := map_some_cA hc
    have e1 := ev_rel r ha hd
    simp only [quietRun] at hv
    split at hv
    · rename_i p hp
      cases hv
      rw [hp] at e1
      obtain ⟨b, o⟩ := p
      obtain ⟨h1, e2⟩ := ptr_of e1
      exact ⟨a.eval x, by simp [execOp, e2], e1⟩
    · rename_i f fi ca hp
      cases hv
      rw [hp] at e1
      have e1' := e1
      simp only [VRel] at e1
      obtain ⟨ra, rc, e2, _⟩ := e1
      exact ⟨a.eval x, by simp [execOp, e2], e1'⟩
    · cases hv
  case binOp op t x y yt =>
    split at hc
    · rename_i cx cy h1 h2
      cases hc
      simp only [quietRun] at hv
      exact tells_of (s := do eqGuard op t x y (a.eval x) (a.eval y); binOp op t (a.eval x) (a.eval y)) rfl (bin_ok (ev_rel r ha h1) (ev_rel r ha h2) hv)
    · cases hc
  case unOp op t x =>
    obtain ⟨d, hd, rfl⟩ := map_some_cA hc
    have e1 := ev_rel r ha hd
    simp only [quietRun] at hv
    unfold aun at hv
    split at hv
    · rename_i k n hp
      cases hv
      rw [hp] at e1
      exact ⟨.int k (k.wrap (0 - n)), by simp [execOp, Op.unary, Op.intArith, int_of e1], by simp [VRel]⟩
    · rename_i k n hp
      cases hv
      rw [hp] at e1
      exact ⟨.int k (bits .xor k (if k.signed then -1 else k.max) n), by simp [execOp, Op.unary, Op.intBits, bits, int_of e1], by simp [VRel]⟩
    · rename_i b hp
      cases hv
      rw [hp] at e1
      exact ⟨.bool (!b), by simp [execOp, Op.unary, bool_of e1], by simp [VRel]⟩
    · cases hv
  case convert src dst x =>
    split at hc
    · rename_i k0 k d hs hd hx
      cases hc
      have e1 := ev_rel r ha hx
      simp only [quietRun] at hv
      split at hv
      · rename_i k1 n hp
        cases hv
        rw [hp] at e1
        exact tells_of (s := convert src dst (a.eval x)) rfl ⟨.int k (k.wrap n), by simp [convert, run_underlying hs, run_underlying hd, Conv.intToInt, int_of e1], by simp [VRel]⟩
      · cases hv
    · rename_i d hs hd hx
      cases hc
      have e1 := ev_rel r ha hx
      simp only [quietRun] at hv
      split at hv
      · rename_i s hp
        cases hv
        rw [hp] at e1
        exact tells_of (s := convert src dst (a.eval x)) rfl ⟨_, by simp [convert, run_underlying hs, run_underlying hd, str_of e1]; rfl, by simp [VRel]⟩
      · cases hv
    · rename_i e d hs hd hx
      split at hc
      · rename_i hu8
        cases hc
        have he : P.underlying e = some (.int .u8) := by
          unfold isU8 at hu8
          split at hu8
          · rename_i h1; exact h1
          · cases hu8
        have e1 := ev_rel r ha hx
        simp only [quietRun] at hv
        have hconv : ∀ q l cp, a.eval x = .slice q l cp → (convert src dst (a.eval x)).run P w = (Conv.bytesToString (.slice q l cp)).run P w := fun q l cp hq => by
          rw [hq]
          simp [convert, run_underlying hs, run_underlying hd, run_underlying he]
        split at hv
        · rename_i l cp hp
          cases hv
          rw [hp] at e1
          cases cp <;> simp only [VRel] at e1
          obtain ⟨rfl, _, e2⟩ := e1
          exact tells_of (s := convert src dst (a.eval x)) rfl ⟨.string ⟨[].toArray⟩, by rw [hconv _ _ _ e2]; simp [Conv.bytesToString]; rfl, by simp [VRel]⟩
        · rename_i b o' n cp hp
          rw [hp] at e1
          simp only [Option.bind_eq_some_iff, Option.map_eq_some_iff] at hv
          obtain ⟨cs, hcs, s, hs2, rfl⟩ := hv
          obtain ⟨vs, g1, g2, g3, g4⟩ := cells_of r hcs
          rcases Nat.eq_zero_or_pos n with h0 | h0
          · subst h0
            have : cs = [] := List.eq_nil_of_length_eq_zero g2
            subst this
            simp only [bytesOf, Option.some.injEq] at hs2
            subst hs2
            obtain ⟨q, cp', e2⟩ := nil_or_at e1
            refine tells_of (s := convert src dst (a.eval x)) rfl ⟨.string ⟨[].toArray⟩, ?_, by simp [VRel]⟩
            rw [hconv _ _ _ e2]
            cases q <;> simp [Conv.bytesToString, loadCells, loadCellsFrom] <;> rfl
          · obtain ⟨_, c, e2⟩ := slice_at e1 h0
            refine tells_of (s := convert src dst (a.eval x)) rfl ⟨.string ⟨s.toArray⟩, ?_, by simp [VRel]⟩
            rw [hconv _ _ _ e2]
            have h5 := run_loadCells_list (P := P) w ⟨ι.blk b, ι.sh b + o', none⟩ vs g4
            rw [g1] at h5
            have h6 := bytes_ok (P := P) (w := w) hs2 g3 ByteArray.empty
            simp only [Conv.bytesToString, Sem.run_bind, h5, Result.andThen_ok]
            rw [← Array.forIn_toList]
            have h7 := congrArg (fun z : Result ByteArray => z.andThen fun s w' => Sem.run P (pure (Value.string s)) w') h6
            exact h7.trans (by simp)
        · cases hv
      · cases hc
    · rename_i e d hs hd hx
      split at hc
      · cases hc; simp [CO.quiet] at hq
      · cases hc
    · rename_i e d hs hd hx
      split at hc
      · rename_i k hk
        cases hc
        exact tells_of (s := convert src dst (a.eval x)) rfl (toUns_ok r hs hd hk (ev_rel r ha hx) hv)
      · cases hc
    · rename_i e d hs hd hx
      split at hc
      · rename_i k hk
        cases hc
        exact tells_of (s := convert src dst (a.eval x)) rfl (fromUns_ok r hs hd hk (ev_rel r ha hx) hv)
      · cases hc
    · cases hc
  case makeInterface t x =>
    split at hc
    · cases hc
    · rename_i d hni hu
      obtain ⟨c', hd, rfl⟩ := map_some_cA hc
      simp only [quietRun, Option.some.injEq] at hv
      subst hv
      refine tells_of (s := Instr.makeInterface t (a.eval x)) rfl ⟨.iface t (a.eval x), ?_, by simp only [VRel]; exact ⟨_, rfl, ev_rel r ha hd⟩⟩
      simp only [Instr.makeInterface, Sem.run_bind, run_underlying hu, Result.andThen_ok]
      cases d <;> first | rfl | exact absurd rfl (hni _)
    · cases hc
  case makeFunc fn first captured =>
    split at hc
    · rename_i f1 c1 h1 h2
      cases hc
      simp only [quietRun, Option.some.injEq] at hv
      subst hv
      refine tells_of (s := Instr.makeFunc fn (first.map a.eval) (captured.map a.eval)) rfl ⟨_, by simp [Instr.makeFunc]; rfl, ?_⟩
      simp only [VRel]
      exact ⟨_, _, rfl, evs_rel r ha h1, evs_rel r ha h2⟩
    · cases hc
  case makeMap t rs =>
    exfalso
    cases rs <;> simp only at hc
    · cases hc; simp [CO.quiet] at hq
    · cases hc
  case makeSlice t l c' =>
    exfalso
    split at hc
    · split at hc
      · split at hc
        · cases hc; split at hq <;> simp [CO.quiet] at hq
        · cases hc
      · cases hc
    · cases hc
  case slice t x lo hi mx =>
    split at hc
    · rename_i cx clo chi ht hx h1 h2 h3
      cases hc
      have hmx : mx = none := by cases mx <;> simp [cO] at h3 ⊢
      subst hmx
      simp only [quietRun] at hv
      split at hv
      · rename_i s hp
        simp only [Option.map_eq_some_iff] at hv
        obtain ⟨⟨l, hh, m⟩, hb, rfl⟩ := hv
        have e1 := ev_rel r ha hx
        rw [hp] at e1
        have e2 := str_of e1
        obtain ⟨h4, h5⟩ := bounds_ok r ha h1 h2 h3 hb (Nat.le_refl _) false
        refine tells_of (s := Instr.sliceAt t (a.eval x) (lo.map a.eval) (hi.map a.eval) none) rfl ⟨.string ⟨((s.drop l).take (hh - l)).toArray⟩, ?_, by simp [VRel]⟩
        simp only [Option.isNone_none, if_true, Option.map_none] at h4
        have hsz : (⟨s.toArray⟩ : ByteArray).size = s.length := by simp [ByteArray.size]
        simp only [Instr.sliceAt, Instr.slice, Sem.run_bind, run_underlying ht, Result.andThen_ok, e2, Option.isSome_none, Bool.false_eq_true, if_false, hsz]
        rw [h4]
        simp only [Result.andThen_ok, Sem.run_pure]
        congr 2
        apply ByteArray.ext
        simp [List.extract_eq_take_drop]
      · cases hv
    · rename_i e cx clo chi cmx ht hx h1 h2 h3
      simp only [Option.map_eq_some_iff] at hc
      obtain ⟨s, hs, rfl⟩ := hc
      exact tells_of (s := Instr.sliceAt t (a.eval x) (lo.map a.eval) (hi.map a.eval) (mx.map a.eval)) rfl (slcV_ok r ha ht hs hx h1 h2 h3 hv)
    · rename_i n e cx clo chi cmx ht hx h1 h2 h3
      simp only [Option.map_eq_some_iff] at hc
      obtain ⟨s, hs, rfl⟩ := hc
      simp only [quietRun] at hv
      split at hv
      · rename_i b o' hp
        simp only [Option.map_eq_some_iff] at hv
        obtain ⟨⟨l, hh, m⟩, hb, rfl⟩ := hv
        have e1 := ev_rel r ha hx
        rw [hp] at e1
        obtain ⟨hbn, e2⟩ := ptr_of e1
        obtain ⟨h4, h5⟩ := bounds_ok r ha h1 h2 h3 hb (Nat.le_refl n) false
        have hle := le_of_bounds3 hb (Nat.le_refl n)
        have e0 : (if cmx.isNone then n else m) = m := by split; (rename_i hn; exact (h5 hn).symm); rfl
        rw [e0] at h4
        refine tells_of (s := Instr.sliceAt t (a.eval x) (lo.map a.eval) (hi.map a.eval) (mx.map a.eval)) rfl
          ⟨.slice (some (if m = l then ⟨ι.blk b, ι.sh b + o', none⟩ else (⟨ι.blk b, ι.sh b + o', none⟩ : Addr).add (l * s))) (hh - l) (m - l), ?_, ?_⟩
        · simp [Instr.sliceAt, run_underlying ht, e2, Instr.sureAddr, h4, sizeT_run hs]
        · simp only [VRel]
          refine ⟨hbn, by omega, ?_⟩
          by_cases hml : m = l
          · simp [hml]
          · simp [hml, Addr.add_lit, Nat.add_assoc]
      · cases hv
    · rename_i ar cx clo chi cmx ht hx h1 h2 h3
      split at hc
      · rename_i n e hu
        simp only [Option.map_eq_some_iff] at hc
        obtain ⟨s, hs, rfl⟩ := hc
        simp only [quietRun] at hv
        split at hv
        · rename_i b o' hp
          simp only [Option.map_eq_some_iff] at hv
          obtain ⟨⟨l, hh, m⟩, hb, rfl⟩ := hv
          have e1 := ev_rel r ha hx
          rw [hp] at e1
          obtain ⟨hbn, e2⟩ := ptr_of e1
          obtain ⟨h4, h5⟩ := bounds_ok r ha h1 h2 h3 hb (Nat.le_refl n) false
          have hle := le_of_bounds3 hb (Nat.le_refl n)
          have e0 : (if cmx.isNone then n else m) = m := by split; (rename_i hn; exact (h5 hn).symm); rfl
          rw [e0] at h4
          refine tells_of (s := Instr.sliceAt t (a.eval x) (lo.map a.eval) (hi.map a.eval) (mx.map a.eval)) rfl
            ⟨.slice (some (if m = l then ⟨ι.blk b, ι.sh b + o', none⟩ else (⟨ι.blk b, ι.sh b + o', none⟩ : Addr).add (l * s))) (hh - l) (m - l), ?_, ?_⟩
          · simp [Instr.sliceAt, Instr.slice, run_underlying ht, run_underlying hu, e2, asAddr, h4, sizeT_run hs]
          · simp only [VRel]
            refine ⟨hbn, by omega, ?_⟩
            by_cases hml : m = l
            · simp [hml]
            · simp [hml, Addr.add_lit, Nat.add_assoc]
        · cases hv
      · cases hc
    · cases hc
  case fieldAddr s x f =>
    split at hc
    · rename_i fs d hu hd
      split at hc
      · rename_i fd hf
        split at hc
        · rename_i k hs
          cases hc
          simp only [quietRun] at hv
          split at hv
          · rename_i b o' hp
            cases hv
            have e1 := ev_rel r ha hd
            rw [hp] at e1
            obtain ⟨hbn, e2⟩ := ptr_of e1
            refine tells_of (s := Instr.fieldAt s (a.eval x) f) rfl ⟨.pointer (some ⟨ι.blk b, ι.sh b + (o' + fd.offset), none⟩), ?_, by simp only [VRel]; exact ⟨hbn, trivial⟩⟩
            simp [Instr.fieldAt, run_underlying hu, hf, e2, Instr.sureAddr, fieldPlace, sizeT_run hs, Addr.add_lit, Nat.add_assoc]
          · cases hv
        · cases hc
      · cases hc
    · cases hc
  case field t x f =>
    split at hc
    · rename_i fs d hu hd
      split at hc
      · rename_i fd hf
        simp only [Option.map_eq_some_iff] at hc
        obtain ⟨g, hg, rfl⟩ := hc
        simp only [quietRun] at hv
        split at hv
        · rename_i cs hp
          have e1 := ev_rel r ha hd
          rw [hp] at e1
          simp only [VRel] at e1
          obtain ⟨rs, e2, e3⟩ := e1
          obtain ⟨rv, h1, h2⟩ := fld_ok (w := w) hg e3 hv
          exact tells_of (s := Instr.field t (a.eval x) f) rfl ⟨rv, by simp [Instr.field, run_underlying hu, hf, e2, asAgg, h1], h2⟩
        · cases hv
      · cases hc
    · cases hc
  case indexAddr t x i =>
    split at hc
    · rename_i e cx ci hu hx hi
      simp only [Option.map_eq_some_iff] at hc
      obtain ⟨s, hs, rfl⟩ := hc
      simp only [quietRun] at hv
      split at hv
      · rename_i b o' len cp k n hp hq'
        split at hv
        · rename_i hn
          cases hv
          have e1 := ev_rel r ha hx
          have e2 := ev_rel r ha hi
          rw [hp] at e1
          rw [hq'] at e2
          obtain ⟨hbn, c, e3⟩ := slice_at e1 (by omega)
          refine tells_of (s := Instr.indexAt t (a.eval x) (a.eval i)) rfl ⟨.pointer (some ⟨ι.blk b, ι.sh b + (o' + n.toNat * s), none⟩), ?_, by simp only [VRel]; exact ⟨hbn, trivial⟩⟩
          simp [Instr.indexAt, run_underlying hu, e3, int_of e2, asIntOf, hn, sizeT_run hs, Addr.add_lit, Nat.add_assoc]
        · cases hv
      · cases hv
    · rename_i n' e cx ci hu hx hi
      simp only [Option.map_eq_some_iff] at hc
      obtain ⟨s, hs, rfl⟩ := hc
      simp only [quietRun] at hv
      split at hv
      · rename_i b o' k j hp hq'
        split at hv
        · rename_i hn
          cases hv
          have e1 := ev_rel r ha hx
          have e2 := ev_rel r ha hi
          rw [hp] at e1
          rw [hq'] at e2
          obtain ⟨hbn, e3⟩ := ptr_of e1
          refine tells_of (s := Instr.indexAt t (a.eval x) (a.eval i)) rfl ⟨.pointer (some ⟨ι.blk b, ι.sh b + (o' + j.toNat * s), none⟩), ?_, by simp only [VRel]; exact ⟨hbn, trivial⟩⟩
          simp [Instr.indexAt, run_underlying hu, e3, int_of e2, asIntOf, Instr.sureAddr, hn, sizeT_run hs, Addr.add_lit, Nat.add_assoc]
        · cases hv
      · cases hv
    · cases hc
  case index t x i =>
    split at hc
    · rename_i cx ci hu hx hi
      cases hc
      simp only [quietRun] at hv
      split at hv
      · rename_i s k n hp hq'
        split at hv
        · rename_i hn
          simp only [Option.map_eq_some_iff] at hv
          obtain ⟨b, hb, rfl⟩ := hv
          have e1 := ev_rel r ha hx
          have e2 := ev_rel r ha hi
          rw [hp] at e1
          rw [hq'] at e2
          have e3 := str_of e1
          refine tells_of (s := Instr.index t (a.eval x) (a.eval i)) rfl ⟨.int .u8 b.toNat, ?_, by simp [VRel]⟩
          have h6 : (⟨s.toArray⟩ : ByteArray)[n.toNat]? = some b := by
            obtain ⟨hlt, hb'⟩ := List.getElem?_eq_some_iff.1 hb
            have hlt' : n.toNat < (⟨s.toArray⟩ : ByteArray).size := by simpa [ByteArray.size] using hlt
            rw [getElem?_pos (⟨s.toArray⟩ : ByteArray) n.toNat hlt']
            rw [← hb']
            rfl
          simp [Instr.index, run_underlying hu, e3, int_of e2, asIntOf, hn, h6]
        · cases hv
      · cases hv
    · rename_i n' e cx ci hu hx hi
      split at hc
      · rename_i s g hs hg
        cases hc
        simp only [quietRun] at hv
        split at hv
        · rename_i cs k j hp hq'
          split at hv
          · rename_i hn
            have e1 := ev_rel r ha hx
            have e2 := ev_rel r ha hi
            rw [hp] at e1
            rw [hq'] at e2
            simp only [VRel] at e1
            obtain ⟨rs, e3, e4⟩ := e1
            obtain ⟨rv, h1, h2⟩ := fld_ok (w := w) (fd := { name := "", type := e, offset := 0, embedded := false, tag := "", pkgPath := "", byteOffset := 0 }) hg e4 hv
            exact tells_of (s := Instr.index t (a.eval x) (a.eval i)) rfl ⟨rv, by simp [Instr.index, run_underlying hu, e3, int_of e2, asIntOf, hn, sizeT_run hs, h1], h2⟩
          · cases hv
        · cases hv
      · cases hc
    · cases hc
  case lookup t m k ok =>
    split at hc
    · rename_i key e cm ck hu hm hk
      split at hc
      · rename_i q z hkt hz
        cases hc
        have hf := keyT_fits hkt
        obtain ⟨rz, hz1, hz2, _⟩ := zeroT_run (ι := ι) hz
        have e1 := ev_rel r ha hm
        have e2 := ev_rel r ha hk
        simp only [quietRun] at hv
        have hres : ∀ (rv : Value) (b : Bool) (av : AV), VRel ι av rv → VRel ι (if ok then .tuple [av, .bool b] else av) (if ok then .tuple #[rv, .bool b] else rv) := fun rv b av hr => by
          cases ok
          · simpa using hr
          · simp only [if_true, VRel, VRels]
            exact ⟨_, rfl, rv, [.bool b], by simp, hr, .bool b, [], rfl, rfl, rfl⟩
        split at hv
        · rename_i hp
          split at hv
          · rename_i hsc
            cases hv
            rw [hp] at e1
            simp only [VRel] at e1
            refine tells_of (s := Instr.lookup t (a.eval m) (a.eval k) ok) rfl ⟨_, ?_, hres rz false z hz2⟩
            obtain ⟨d, hd⟩ : ∃ d, P.underlying key = some d := by
              cases q
              · exact ⟨_, hf⟩
              · obtain ⟨k', hk'⟩ := hf; exact ⟨_, hk'⟩
              · exact ⟨_, hf⟩
            simp [Instr.lookup, run_underlying hu, e1, checkKey_ok hf e2 hsc, Instr.findKey, run_underlying hd, Instr.findNow, hz1]
          · cases hv
        · rename_i rr hp
          split at hv
          · rename_i es hes
            split at hv
            · rename_i hsc
              simp only [Option.map_eq_some_iff] at hv
              obtain ⟨res, hres', rfl⟩ := hv
              rw [hp] at e1
              simp only [VRel] at e1
              obtain ⟨hbn, e3⟩ := e1
              obtain ⟨rs, clock, g1, g2⟩ := r.brel rr _ hes
              obtain ⟨d, hd, hfind⟩ := mapFind_ok e2 hf hsc 0 hres' g2
              cases res with
              | none =>
                refine tells_of (s := Instr.lookup t (a.eval m) (a.eval k) ok) rfl ⟨_, ?_, hres rz false z hz2⟩
                simp only at hfind
                simp [Instr.lookup, run_underlying hu, e3, getObj, Sem.run, g1, checkKey_ok hf e2 hsc, Instr.findKey, run_underlying hd, hfind, hz1]
              | some av =>
                obtain ⟨j, rv, hfind, hrv⟩ := hfind
                refine tells_of (s := Instr.lookup t (a.eval m) (a.eval k) ok) rfl ⟨_, ?_, hres rv true av hrv⟩
                simp [Instr.lookup, run_underlying hu, e3, getObj, Sem.run, g1, checkKey_ok hf e2 hsc, Instr.findKey, run_underlying hd, hfind]
            · cases hv
          · cases hv
        · cases hv
      · cases hc
    · cases hc
  case mapUpdate t m k x =>
    exfalso
    split at hc
    · simp only [Option.map_eq_some_iff] at hc; obtain ⟨_, _, rfl⟩ := hc; simp [CO.quiet] at hq
    · cases hc
  case extract t i =>
    obtain ⟨d, hd, rfl⟩ := map_some_cA hc
    simp only [quietRun] at hv
    split at hv
    · rename_i vs hp
      have e1 := ev_rel r ha hd
      rw [hp] at e1
      simp only [VRel] at e1
      obtain ⟨rs, e2, e3⟩ := e1
      obtain ⟨rv, h1, h2⟩ := e3.get _ _ hv
      rw [Array.getElem?_toList] at h1
      exact tells_of (s := Instr.extract (a.eval t) i) rfl ⟨rv, by simp [Instr.extract, e2, h1], h2⟩
    · cases hv
  case call cl =>
    obtain ⟨callee, args, ats⟩ := cl
    cases callee
    case value f =>
      exfalso
      simp only at hc
      split at hc
      · cases hc; simp [CO.quiet] at hq
      · cases hc
    case invoke _ _ => simp at hc
    case builtin b =>
      exact builtin_quiet hc hq hv r ha
end
end Go.Fs
