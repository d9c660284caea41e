/- The operations that make or write memory: all but the call. -/
import Derived.Test.YtdehfehdaiappaaGreatDoorFsEff4
import Derived.Lib.UnsafeStr
namespace Go.Fs
section
variable {P : Program} {ι : Emb} {h : AH} {w : World}

theorem mapset_ok {call : Rec} {tm : List AV} {a : Act} {v : AV} {h' : AH} (r : Rel P.globals.size ι h w) (ha : ARel ι tm a) {t kt e : TypeId} {q : SK} {m k x : Operand} {cm ck cx : CA}
    (hu : P.underlying t = some (.map kt e)) (hm : cA P m = some cm) (hk : cA P k = some ck) (hx : cA P x = some cx) (hkt : keyT P kt = some q) (hv : effRun call (.mapset q cm ck cx) tm h = some (v, h')) :
    v = AV.undef ∧ ∃ ι' w', (Instr.mapUpdate t (a.eval m) (a.eval k) (a.eval x)).run P w = .ok () w' ∧ Rel P.globals.size ι' h' w' ∧ Stp ι ι' h h' w w' := by
  simp only [effRun] at hv
  have e1 := ev_rel r ha hm
  have e2 := ev_rel r ha hk
  have e3 := ev_rel r ha hx
  have hf := keyT_fits hkt
  split at hv
  · rename_i r0 hp
    split at hv
    · rename_i es hes
      split at hv
      · rename_i hsc
        simp only [Option.map_eq_some_iff, Prod.mk.injEq] at hv
        obtain ⟨es', hput, rfl, rfl⟩ := hv
        rw [hp] at e1
        simp only [VRel] at e1
        obtain ⟨hbn, e4⟩ := e1
        obtain ⟨rs, clock, g1, g2⟩ := r.brel r0 _ hes
        obtain ⟨d, hd, hcase⟩ := mapPut_ok e2 e3 hf hsc 0 hput g2
        have hget : ∀ (o : Obj), (setObj (ι.blk r0) o).run P w = .ok () { w with heap := w.heap.setIfInBounds (ι.blk r0) o } := fun o => by simp [setObj, Sem.run, g1]
        refine ⟨rfl, ?_⟩
        rcases hcase with ⟨h1, h2⟩ | ⟨j, e', rv, h1, h2, h3, h4⟩
        · obtain ⟨k1, k2⟩ := setMap_rel r hes (rs := rs.push ⟨a.eval k, a.eval x, clock⟩) (clock := clock + 1) (by simpa using h2 clock)
          refine ⟨ι, _, ?_, k1, k2⟩
          simp [Instr.mapUpdate, run_underlying hu, e4, getObj, Sem.run, g1, checkKey_ok hf e2 hsc, Instr.findKey, run_underlying hd, h1, hget]
        · have hj : rs[j]? = some e' := by simpa using h2
          obtain ⟨k1, k2⟩ := setMap_rel r hes (rs := rs.modify j fun e => { e with key := a.eval k, val := a.eval x }) (clock := clock) (by
            have : (rs.modify j fun e => { e with key := a.eval k, val := a.eval x }).toList = rs.toList.set j { e' with key := a.eval k, val := a.eval x } := by
              apply List.ext_getElem?
              intro i
              rw [Array.getElem?_toList, Array.getElem?_modify, List.getElem?_set]
              by_cases hij : j = i
              · subst hij
                obtain ⟨hlt, hje⟩ := Array.getElem?_eq_some_iff.1 hj
                simp [hlt, hje]
              · simp [hij]
            rw [this]; exact h4)
          refine ⟨ι, _, ?_, k1, k2⟩
          simp only [Nat.zero_add] at h1
          simp [Instr.mapUpdate, run_underlying hu, e4, getObj, Sem.run, g1, checkKey_ok hf e2 hsc, Instr.findKey, run_underlying hd, h1, hget, Instr.keyThatStays, hj, h3]
      · cases hv
    · cases hv
  · cases hv

theorem freeze_new (w : World) (arr : Array Value) (e : TypeId) : (w.alloc (.cells arr e)).freeze ⟨w.heap.size, arr.size, none⟩ 1 = w.alloc (.cells arr e (arr.size, arr.size + 1)) := by
  unfold World.freeze World.alloc
  simp only [Nat.one_ne_zero, if_false]
  congr 1
  apply Array.ext_getElem?
  intro i
  rw [Array.getElem?_modify, Array.getElem?_push, Array.getElem?_push]
  by_cases h : i = w.heap.size
  · subst h; simp
  · simp [h, Ne.symm h]

theorem s2b_ok {call : Rec} {tm : List AV} {a : Act} {v : AV} {h' : AH} (r : Rel P.globals.size ι h w) (ha : ARel ι tm a) {src dst e : TypeId} {x : Operand} {d : CA}
    (hs : P.underlying src = some .string) (hd : P.underlying dst = some (.slice e)) (he : P.underlying e = some (.int .u8)) (hx : cA P x = some d) (hv : effRun call (.s2b d) tm h = some (v, h')) :
    ∃ ι' rv w', (convert src dst (a.eval x)).run P w = .ok rv w' ∧ VRel ι' v rv ∧ Rel P.globals.size ι' h' w' ∧ Stp ι ι' h h' w w' := by
  simp only [effRun] at hv
  have e1 := ev_rel r ha hx
  split at hv
  · rename_i s hp
    split at hv
    · rename_i hb
      cases hv
      rw [hp] at e1
      have e2 := str_of e1
      have hsz : (⟨s.toArray⟩ : ByteArray).size = s.length := by simp [ByteArray.size]
      obtain ⟨C, hC⟩ : ∃ C, C = grownCap w s.length 0 e := ⟨_, rfl⟩
      have hge : s.length ≤ C := by rw [hC]; exact grownCap_ge w _ _ _
      obtain ⟨arr, harr⟩ : ∃ arr : Array Value, arr = ((⟨s.toArray⟩ : ByteArray).data.map fun b => Value.int .u8 b.toNat) ++ Array.replicate (C - s.length) (.int .u8 0) := ⟨_, rfl⟩
      have has : arr.size = C := by rw [harr]; simp; omega
      have hrun : (convert src dst (a.eval x)).run P w = .ok (.slice (some ⟨w.heap.size, 0, none⟩) s.length C) (w.drew.alloc (.cells arr e (arr.size, arr.size + 1))) := by
        have hq : (Question.appendCap s.length 0 e).forced = false := rfl
        have hc : (choose (.appendCap s.length 0 e)).run P w = .ok C w.drew := by
          simp only [choose, Sem.run, hq, Bool.false_eq_true, if_false]
          rw [hC]; rfl
        rw [e2]
        simp only [convert, Sem.run_bind, run_underlying hs, run_underlying hd, Result.andThen_ok, run_underlying he, Conv.stringToBytes, hsz, hc]
        rw [← harr]
        have hnew : (newRow e arr).run P w.drew = .ok ⟨w.heap.size, 0, none⟩ (w.drew.alloc (.cells arr e)) := rfl
        simp only [hnew, Result.andThen_ok]
        have hmark : (markStringish ⟨w.heap.size, 0, none⟩).run P (w.drew.alloc (.cells arr e)) = .ok () (w.drew.alloc (.cells arr e (arr.size, arr.size + 1))) := by
          have hsh : (w.drew.alloc (.cells arr e)).shape? w.heap.size = some (e, arr.size) := by
            have := heap_alloc_new w.drew (.cells arr e)
            have hdz : w.drew.heap.size = w.heap.size := rfl
            rw [hdz] at this
            unfold World.shape?
            rw [this]
          have hfz := freeze_new w.drew arr e
          simp only [markStringish, shape, freeze, Sem.run_bind, Sem.run, hsh, Result.andThen_ok]
          exact congrArg (Result.ok ()) hfz
        simp only [hmark, Result.andThen_ok, Sem.run_pure]
      have hn : ι.n = h.n := r.n
      have hdz : w.drew.heap.size = w.heap.size := rfl
      obtain ⟨k1, k2⟩ := (r.drew).push (.cells (ofBytes s) false) (.cells arr e (arr.size, arr.size + 1)) arr.size e trivial (by
        refine ⟨arr, e, (arr.size, arr.size + 1), ?_, ?_, fun i c hc => ?_, fun _ => ⟨fun j h1 h2 => h1, fun j v hj hv => ?_⟩, by rw [← hn]; simp⟩
        · rw [← hn]; simp only [Emb.add_blk]; exact heap_alloc_new w.drew _
        · rw [← hn]; simp
        · rw [← hn]
          simp only [Emb.add_sh, Nat.zero_add]
          unfold ofBytes at hc
          simp only [List.getElem?_map, Option.map_eq_some_iff] at hc
          obtain ⟨u, hu, rfl⟩ := hc
          have hlt := (List.getElem?_eq_some_iff.1 hu).1
          refine ⟨.int .u8 u.toNat, ?_, by simp [VRel]⟩
          rw [harr, Array.getElem?_append_left (by simpa using hlt)]
          simp [hu]
        · rw [← hn] at hj
          simp only [Emb.add_sh, Nat.zero_add, ofBytes, List.length_map] at hj
          rw [harr, Array.getElem?_append_right (by simpa using hj), Array.getElem?_replicate] at hv
          split at hv
          · cases hv; exact ⟨.int .u8 0, fun _ => by simp [VRel]⟩
          · cases hv)
      refine ⟨_, _, _, hrun, ?_, k1, (Stp.drew ι h w).trans k2⟩
      simp only [VRel, ← hn]
      exact ⟨by simp, by omega, 0, C, by simp [hdz], (by rw [hC]; exact grownCap_le_maxLen w _ _ _ (by have : maxLen = 9223372036854775807 := rfl; omega)), .inl ⟨by simp, hge, by simp [has]⟩⟩
    · cases hv
  · cases hv

theorem byte_ok : ∀ {cs : List AV} {s : List UInt8}, bytesIn cs = some s → cs = ofBytes s
  | [], s, hb => by simp only [bytesIn, Option.some.injEq] at hb; subst hb; rfl
  | c :: cs, s, hb => by
    unfold bytesIn at hb
    split at hb
    · rename_i h0; cases h0
    · rename_i n cs' h0
      cases h0
      split at hb
      · rename_i hn
        simp only [Option.map_eq_some_iff] at hb
        obtain ⟨s', h1, rfl⟩ := hb
        rw [byte_ok h1]
        simp only [ofBytes, List.map_cons, List.cons.injEq, and_true, AV.int.injEq, true_and]
        have : (UInt8.ofNat n.toNat).toNat = n.toNat := by simp; omega
        rw [this]; omega
      · cases hb
    · cases hb

theorem ustr_ok {call : Rec} {tm : List AV} {v : AV} {h' : AH} (r : Rel P.globals.size ι h w) {pt it e : TypeId} (ty : TypeId) {rp rn : Value} {dp dn : CA} (hp : P.underlying pt = some (.pointer e)) (hce : P.cellsOf e = 1)
    (e1 : VRel ι (dp.ev tm) rp) (e2 : VRel ι (dn.ev tm) rn) (hv : effRun call (.ustr e dp dn) tm h = some (v, h')) :
    ∃ ι' rv w', (Builtin.unsafeString_ #[pt, it] ty #[rp, rn]).run P w = .ok rv w' ∧ VRel ι' v rv ∧ Rel P.globals.size ι' h' w' ∧ Stp ι ι' h h' w w' := by
  simp only [effRun] at hv
  have hnone : ∀ q, (Builtin.unsafeString_ #[pt, it] ty #[.pointer q, .int .i64 0]).run P w = .ok (.string .empty) w := fun q => Lib.run_unsafeString_none w pt it ty q
  split at hv
  · rename_i l hp1 hp2
    split at hv
    · rename_i h0
      cases hv
      rw [hp1] at e1; rw [hp2] at e2
      simp only [VRel] at e1
      subst h0
      rw [e1, int_of e2]
      exact ⟨ι, _, w, hnone _, by simp only [VRel]; rfl, r, Stp.refl _ _ _⟩
    · cases hv
  · rename_i b o l hp1 hp2
    rw [hp1] at e1; rw [hp2] at e2
    obtain ⟨hb, e3⟩ := ptr_of e1
    split at hv
    · rename_i h0
      cases hv
      subst h0
      rw [e3, int_of e2]
      exact ⟨ι, _, w, hnone _, by simp only [VRel]; rfl, r, Stp.refl _ _ _⟩
    · rename_i h0
      split at hv
      · rename_i hl
        obtain ⟨hl0, hl60, ht⟩ := hl
        obtain ⟨rfl, t1, t2⟩ := typed_ptr r ht
        split at hv
        · rename_i cs hbb
          simp only [Option.bind_eq_some_iff, Option.map_eq_some_iff, Prod.mk.injEq] at hv
          obtain ⟨ds, hcut, s, hs, rfl, rfl⟩ := hv
          have hds := byte_ok hs
          have hread : readCells h b 0 l.toNat = some ds := by unfold readCells; rw [hbb]; exact hcut
          obtain ⟨vs, g1, g2, g3, g4⟩ := cells_of r hread
          obtain ⟨z, k1, k2⟩ := shape_of r hbb
          rw [t2] at g4 k2 e3
          have hsl : s.length = l.toNat := by rw [← g2, hds]; simp [ofBytes]
          have hle : l.toNat ≤ cs.length := by
            unfold cut at hcut
            split at hcut
            · omega
            · cases hcut
          obtain ⟨arr, e', fr, b1, b2, b3, b4, b5⟩ := r.brel b _ hbb
          have hz : z = arr.size := by
            have := k1
            unfold World.shape? at this
            rw [b1] at this
            cases this; rfl
          have hrun := Lib.run_unsafeString_row (P := P) w pt it ty e hp hce (ι.blk b) z (by rw [k1, t1]) s (by intro hh; rw [hh] at hsl; simp at hsl; omega)
            (by have := k2 (l.toNat - 1) (by omega); omega) (by omega) (fun j x hx => by
              have hj : ds[j]? = some (.int .u8 x.toNat) := by rw [hds]; simp [ofBytes, hx]
              obtain ⟨rv, g5, g6⟩ := g3.get _ _ hj
              rw [int_of g6] at g5
              exact g4 j _ g5)
          rw [hsl, show ((l.toNat : Nat) : Int) = l by omega] at hrun
          have hfr : ∃ fr', w.freeze ⟨ι.blk b, 0, none⟩ l.toNat = { w with heap := w.heap.setIfInBounds (ι.blk b) (.cells arr e' fr') } := by
            obtain ⟨lo, hi⟩ := fr
            refine ⟨if lo == hi then (0, 0 + l.toNat) else (min lo 0, max hi (0 + l.toNat)), ?_⟩
            unfold World.freeze
            rw [if_neg (by omega)]
            congr 1
            apply Array.ext_getElem?
            intro i
            rw [Array.getElem?_modify, Array.getElem?_setIfInBounds]
            obtain ⟨hlt, hge⟩ := Array.getElem?_eq_some_iff.1 b1
            by_cases hi' : ι.blk b = i
            · subst hi'; simp [hge, hlt]
            · simp [hi']
          obtain ⟨fr', hfr⟩ := hfr
          rw [hfr] at hrun
          have hlt := (Array.getElem?_eq_some_iff.1 b1).1
          obtain ⟨m1, m2⟩ := put_rel r hbb (c' := .cells cs true) rfl trivial hlt (.cells arr e' fr')
            ⟨arr, e', fr', by simp [hlt], b2, b3, (fun hh => by cases hh), b5⟩
          rw [e3, int_of e2]
          exact ⟨ι, _, _, hrun, by simp only [VRel], m1, m2⟩
        · cases hv
      · cases hv
  · cases hv

theorem iterS_ok {call : Rec} {tm : List AV} {v : AV} {h' : AH} (r : Rel P.globals.size ι h w) {t : TypeId} {rx : Value} {d : CA} (hu : P.underlying t = some .string) (e1 : VRel ι (d.ev tm) rx)
    (hv : effRun call (.iterS d) tm h = some (v, h')) : ∃ ι' rv w', (Instr.range t rx).run P w = .ok rv w' ∧ VRel ι' v rv ∧ Rel P.globals.size ι' h' w' ∧ Stp ι ι' h h' w w' := by
  simp only [effRun] at hv
  split at hv
  · rename_i s hp
    cases hv
    rw [hp] at e1
    have hn := r.n
    obtain ⟨k1, k2⟩ := r.push (.iter s 0) (.stringIter ⟨s.toArray⟩ 0) 0 0 trivial ⟨by rw [← hn]; simp only [Emb.add_blk]; exact heap_alloc_new w _, by rw [← hn]; simp⟩
    refine ⟨_, .pointer (some ⟨w.heap.size, 0, none⟩), _, ?_, new_ptr r 0 0, k1, k2⟩
    rw [str_of e1]
    simp [Instr.range, run_underlying hu]
  · cases hv

theorem nextS_ok {call : Rec} {tm : List AV} {v : AV} {h' : AH} (r : Rel P.globals.size ι h w) (t : TypeId) {rx : Value} {d : CA} (e1 : VRel ι (d.ev tm) rx)
    (hv : effRun call (.nextS d) tm h = some (v, h')) : ∃ ι' rv w', (Instr.next rx true t).run P w = .ok rv w' ∧ VRel ι' v rv ∧ Rel P.globals.size ι' h' w' ∧ Stp ι ι' h h' w w' := by
  simp only [effRun] at hv
  split at hv
  · rename_i b hp
    split at hv
    · rename_i s pos hb
      rw [hp] at e1
      obtain ⟨hbn, e2⟩ := ptr_of e1
      obtain ⟨g1, g2⟩ := r.brel b _ hb
      rw [g2] at e2
      have hlt := (Array.getElem?_eq_some_iff.1 g1).1
      have hsz : (⟨s.toArray⟩ : ByteArray).size = s.length := by simp [ByteArray.size]
      split at hv
      · rename_i hpos
        cases hv
        obtain ⟨m1, m2⟩ := put_rel r hb (c' := .iter s (pos + (Utf8.decode ⟨s.toArray⟩ pos).2)) trivial trivial hlt (.stringIter ⟨s.toArray⟩ (pos + (Utf8.decode ⟨s.toArray⟩ pos).2)) ⟨by simp [hlt], g2⟩
        refine ⟨ι, .tuple #[.bool true, goInt pos, .int .i32 (Utf8.decode ⟨s.toArray⟩ pos).1], _, ?_, ?_, m1, m2⟩
        · rw [e2]
          simp [Instr.next, getObj, setObj, Sem.run, g1, hsz, hpos]
        · simp only [VRel]
          exact ⟨_, rfl, by simp [VRels, VRel, goInt]⟩
      · rename_i hpos
        cases hv
        refine ⟨ι, .tuple #[.bool false], w, ?_, ?_, r, Stp.refl _ _ _⟩
        · rw [e2]
          simp [Instr.next, getObj, Sem.run, g1, hsz, hpos]
        · simp only [VRel]
          exact ⟨_, rfl, by simp [VRels, VRel]⟩
    · cases hv
  · cases hv

theorem builtin_eff {call : Rec} {b : Builtin} {args : Array Operand} {ats : Array TypeId} {dst : Option Tmp} {type : TypeId} {pos : String} {after : Array Edge} {guard : Option (Nat × Bool)} {c : CO} {tm : List AV} {a : Act} {v : AV} {h' : AH}
    (hc : cBuiltin P b ats args = some c) (hq : c.quiet = false) (hv : effRun call c tm h = some (v, h')) (r : Rel P.globals.size ι h w) (ha : ARel ι tm a) :
    Does P ι h w a ⟨dst, .call ⟨.builtin b, args, ats⟩, type, pos, after, guard⟩ v h' := by
  obtain ⟨cs, hrun⟩ := run_builtin (P := P) a w b args ats dst type pos after guard
  have fin : ∀ (s : Sem Value), builtin b ats type cs (args.map a.eval) = (do pure (.value (← s)) : Sem Next) → (∃ ι' rv w', s.run P w = .ok rv w' ∧ VRel ι' v rv ∧ Rel P.globals.size ι' h' w' ∧ Stp ι ι' h h' w w') →
      Does P ι h w a ⟨dst, .call ⟨.builtin b, args, ats⟩, type, pos, after, guard⟩ v h' := fun s hs ⟨ι', rv, w', h1, h2⟩ => by
    refine ⟨ι', rv, w', .inl ?_, h2⟩
    rw [hrun, hs]
    simp [h1]
  unfold cBuiltin at hc
  split at hc
  · exfalso
    revert hq
    (repeat' split at hc) <;> first
      | (simp only [Option.map_eq_some_iff] at hc; obtain ⟨_, _, rfl⟩ := hc; simp [CO.quiet]; done)
      | (cases hc; done)
  · exfalso
    revert hq
    (repeat' split at hc) <;> first
      | (simp only [Option.map_eq_some_iff] at hc; obtain ⟨_, _, rfl⟩ := hc; simp [CO.quiet]; done)
      | (cases hc; done)
  · exfalso
    revert hq
    (repeat' split at hc) <;> first
      | (cases hc; simp [CO.quiet]; done)
      | (cases hc; done)
  · exfalso
    revert hq
    (repeat' split at hc) <;> first
      | (cases hc; simp [CO.quiet]; done)
      | (cases hc; done)
  · rename_i s x t hargs ht
    have hargs' := two_args hargs
    subst hargs'
    refine fin (Builtin.append_ ats type (#[s, x].map a.eval)) rfl ?_
    split at hc
    · rename_i e hu
      split at hc
      · rename_i hza
        split at hc
        · rename_i i z c1 c2 hi hz h1 h2
          split at hc
          · rename_i hcond
            cases hc
            simp only [effRun] at hv
            rw [show Array.map a.eval #[s, x] = #[a.eval s, a.eval x] by simp]
            cases hx0 : ats[1]? with
            | none => rw [hx0] at hza; simp [zeroArg] at hza
            | some u =>
              rw [hx0] at hza
              simp only [zeroArg] at hza
              split at hza
              · rename_i k hxu
                exact appz_sound type ht hu hx0 hxu hi hz hcond.1 hcond.2.1 r (ev_rel r ha h1) (ev_rel r ha h2) hv
              · cases hza
          · cases hc
        · cases hc
      rename_i hza
      split at hc
      · rename_i i c1 c2 hi hx1 h1 h2
        split at hc
        · rename_i z hz
          split at hc
          · rename_i hcond
            cases hc
            have T : AppT P ats e i z := by
              refine ⟨⟨t, ht, hu⟩, ?_, hi, hz, hcond.1, zeroT_spare (Option.get_mem hcond.2.2) hi hz, hcond.2.1⟩
              cases hx0 : ats[1]? with
              | none => exact .inl rfl
              | some u =>
                simp only [hx0] at hx1
                cases hud : P.underlying u with
                | none => simp [hud] at hx1
                | some d =>
                  cases d <;> simp [hud] at hx1
                  · exact .inr ⟨u, _, rfl, hud, .inl rfl⟩
                  · exact .inr ⟨u, _, rfl, hud, .inr ⟨_, rfl⟩⟩
            rw [show Array.map a.eval #[s, x] = #[a.eval s, a.eval x] by simp]
            split at hv
            · simp only [effRun, Option.map_eq_some_iff, Prod.mk.injEq] at hv
              obtain ⟨⟨v1, h1'⟩, ha1, rfl, rfl⟩ := hv
              obtain ⟨ι', rv, w', g1, g2, g3, g4, g5⟩ := append_soundT T type r (ev_rel r ha h1) (ev_rel r ha h2) ha1
              unfold noteT
              split
              · rename_i hnt
                have g6 := g5 hnt.1 hnt.2
                obtain ⟨k1, k2⟩ := pushTyp g3 (b := h.n) (t := e) (by have h9 : h1'.n = h.n + 1 := hnt.1; rw [g3.n]; rw [h9]; exact Nat.lt_succ_self _) g6.1 g6.2
                exact ⟨_, rv, w', g1, g2.mono (Emb.le_add _ _ _ _ _), k1, g4.trans k2⟩
              · exact ⟨ι', rv, w', g1, g2, g3, g4⟩
            · simp only [effRun] at hv
              exact append_sound T type r (ev_rel r ha h1) (ev_rel r ha h2) hv
          · cases hc
        · cases hc
      · cases hc
    · cases hc
  · rename_i d s t hargs ht
    have hargs' := two_args hargs
    subst hargs'
    refine fin (Builtin.copy_ ats type (#[d, s].map a.eval)) rfl ?_
    split at hc
    · rename_i e hu
      split at hc
      · rename_i n c1 c2 hs h1 h2
        cases hc
        have e1 := ev_rel r ha h1
        have e2 := ev_rel r ha h2
        simp only [effRun] at hv
        split at hv
        · rename_i base dLen cp hp
          simp only [Option.bind_eq_some_iff] at hv
          obtain ⟨m, hm, xs, hxs, hv⟩ := hv
          obtain ⟨arr, g1, g2, g3⟩ := elems_ok' (P := P) r e2 hm hxs (min m dLen) (Nat.min_le_left _ _)
          have hlen := lenOf_ok (P := P) e2 hm w
          rw [hp] at e1
          have run : ∀ (q : Option Addr) (C : Nat) (w' : World), a.eval d = .slice q dLen C → (match q with | some A => (storeCells A arr.toList).run P w = .ok () w' | none => w' = w) →
              (Builtin.copy_ ats type (#[d, s].map a.eval)).run P w = .ok (goInt ((min m dLen : Nat) : Int)) w' := fun q C w' hq hst => by
            have g1' := g1 w fun _ => rfl
            have hmin : Nat.min m dLen = min m dLen := rfl
            cases q with
            | none => simp only at hst; subst hst; simp [Builtin.copy_, ht, run_underlying hu, hq, hlen, sizeT_run hs, hmin, g1']
            | some A => simp only at hst; simp [Builtin.copy_, ht, run_underlying hu, hq, hlen, sizeT_run hs, hmin, g1', hst]
          split at hv
          · cases hv
            have e1' := e1
            cases cp <;> simp only [VRel] at e1'
            exact ⟨ι, _, w, run none 0 w (by rw [e1'.2.2, e1'.1]) rfl, by simp [VRel, goInt], r, Stp.refl _ _ _⟩
          · rename_i b o
            split at hv
            · rename_i hk0
              cases hv
              obtain ⟨q, C, hq⟩ := nil_or_at e1
              have harr : arr.toList = [] := by
                have := g2.length
                rw [hk0] at this
                simp at this
                simp [this]
              refine ⟨ι, _, w, run q C w hq ?_, by simp [VRel, goInt], r, Stp.refl _ _ _⟩
              cases q with
              | none => rfl
              | some A => simp [harr, storeCells]
            · rename_i hk0
              simp only [Option.map_eq_some_iff, Prod.mk.injEq] at hv
              obtain ⟨h2', hw, rfl, rfl⟩ := hv
              obtain ⟨hb, C, hq⟩ := slice_at e1 (by omega)
              obtain ⟨w', hst, k1, k2⟩ := store_ok (P := P) r hw g2
              exact ⟨ι, _, w', run _ C w' hq hst, by simp [VRel, goInt], k1, k2⟩
        · cases hv
      · cases hc
    · cases hc
  · exfalso
    obtain ⟨d, hd, rfl⟩ := map_some_cA hc
    simp [CO.quiet] at hq
  · rename_i x n t hargs ht
    have hargs' := two_args hargs
    subst hargs'
    refine fin (Builtin.unsafeString_ ats type (#[x, n].map a.eval)) rfl ?_
    split at hc
    · rename_i t1 t2 e ca cb hts hu h1 h2
      split at hc
      · rename_i hce
        cases hc
        have hats : ats = #[t1, t2] := by apply Array.ext'; simpa using hts
        subst hats
        rw [show #[x, n].map a.eval = #[a.eval x, a.eval n] by simp]
        cases ht
        exact ustr_ok r type hu hce (ev_rel r ha h1) (ev_rel r ha h2) hv
      · cases hc
    · cases hc
  · cases hc

set_option maxHeartbeats 1000000 in
theorem eff_sound {call : Rec} {o : Oper} {c : CO} {tm : List AV} {a : Act} {v : AV} {h' : AH} (hc : cOp P o.op = some c) (hq : c.quiet = false) (hnc : c.isCall = false) (hv : effRun call c tm h = some (v, h'))
    (r : Rel P.globals.size ι h w) (ha : ARel ι tm a) : Does P ι h w a o v h' := by
  obtain ⟨dst, op, type, pos, after, guard⟩ := o
  have slc : ∀ {s len : Nat} {e : TypeId} {zero : List AV} {rz : List Value} {parts : Array (Nat × Operand)} {places : List (Nat × Nat × CA)} {arr0 : Array Value}, VRels ι zero rz → placesA P s parts.toList = some places →
      arr0.toList = (List.replicate len rz).flatten → effRun call (.litS s len zero places) tm h = some (v, h') →
      ∃ ι' arr', Instr.fill (fun i => some (i * s, s)) arr0 (parts.map fun (i, x) => (i, a.eval x)).toList = some arr' ∧ VRel ι' v (.slice (some ⟨w.heap.size, 0, none⟩) len len) ∧
        Rel P.globals.size ι' h' (w.alloc (.cells arr' e)) ∧ Stp ι ι' h h' w (w.alloc (.cells arr' e)) := fun {s len e zero rz parts places arr0} hz hp harr hv => by
    simp only [effRun] at hv
    split at hv
    · rename_i cs hf
      split at hv
      · cases hv
        obtain ⟨p1, p2⟩ := placesA_ok s parts.toList places hp
        obtain ⟨arr', h3, h4⟩ := fill_ok r ha (fun i => some (i * s, s)) parts.toList places (reps zero len) cs arr0 p1 (fun j i x off size c hj hj' => by
          obtain ⟨⟨g1, g2⟩, g4⟩ := p2 j i x off size c hj hj'
          exact ⟨by rw [g1, g2], g4⟩) hf (by rw [harr]; exact reps_rel hz len)
        obtain ⟨k1, k2⟩ := new_rel r e h4
        refine ⟨_, arr', by rw [Array.toList_map]; exact h3, ?_, k1, k2⟩
        simp only [VRel, ← r.n]
        exact ⟨by simp, by omega, by simp⟩
      · cases hv
    · cases hv
  cases op <;> simp only [cOp] at hc <;> first | (cases hc; done) | skip
  case box t x =>
    obtain ⟨d, hd, rfl⟩ := map_some_cA hc
    have e1 := ev_rel r ha hd
    simp only [effRun] at hv
    split at hv
    · cases hv
      obtain ⟨k1, k2⟩ := new_rel r t e1.cells
      exact does_of (s := Instr.box t (a.eval x)) rfl ⟨_, _, _, by simp [Instr.box, newVar, newRow], new_ptr r _ _, k1, k2⟩
    · cases hv
  case alloc t =>
    split at hc
    · rename_i z hz
      split at hc
      · cases hc
        obtain ⟨rz, hz1, hz2, _⟩ := zeroT_run (ι := ι) hz
        split at hv
        · simp only [effRun, Option.some.injEq, Prod.mk.injEq] at hv
          obtain ⟨rfl, rfl⟩ := hv
          obtain ⟨ι', k0, k1, k2⟩ := typ_new r t hz2.cells
          exact does_of (s := Instr.alloc t true (.tuple #[])) rfl ⟨ι', _, _, by simp [Instr.alloc, hz1, newVar, newRow], (new_ptr r _ _).mono k0, k1, k2⟩
        · simp only [effRun, Option.some.injEq, Prod.mk.injEq] at hv
          obtain ⟨rfl, rfl⟩ := hv
          obtain ⟨k1, k2⟩ := new_rel r t hz2.cells
          exact does_of (s := Instr.alloc t true (.tuple #[])) rfl ⟨_, _, _, by simp [Instr.alloc, hz1, newVar, newRow], new_ptr r _ _, k1, k2⟩
      · cases hc
    · cases hc
  case store t x y =>
    split at hc
    · rename_i n cx cy hs hx hy
      cases hc
      simp only [effRun] at hv
      split at hv
      · rename_i b o hp
        split at hv
        · rename_i hlen
          simp only [Option.map_eq_some_iff, Prod.mk.injEq] at hv
          obtain ⟨h2, hw, rfl, rfl⟩ := hv
          have e1 := ev_rel r ha hx
          have e2 := (ev_rel r ha hy).cells
          rw [hp] at e1
          obtain ⟨hb, e3⟩ := ptr_of e1
          obtain ⟨w', hst, k1, k2⟩ := store_ok (P := P) r hw e2
          have hsz : (a.eval y).cells.size = n := by have := e2.length; simp at this; omega
          exact does_unit (s := Instr.storeAt t (a.eval x) (a.eval y)) rfl ⟨ι, w', by simp [Instr.storeAt, storeVar, e3, Instr.sureAddr, sizeT_run hs, hsz, hst], k1, k2⟩
        · cases hv
      · cases hv
    · cases hc
  case buildSlice t len parts =>
    split at hc
    · rename_i e hu
      split at hc
      · rename_i s hs
        split at hc
        · cases hc
        · rename_i hbig
          split at hc
          · rename_i hz0
            split at hc
            · rename_i hl0
              simp only [Option.map_eq_some_iff] at hc
              obtain ⟨places, hp, rfl⟩ := hc
              subst hl0
              obtain ⟨ι', arr', h1, h2, h3, h4⟩ := slc (e := e) (rz := []) (arr0 := #[]) (by simp [VRels]) hp (by simp) hv
              refine does_of (s := Instr.buildSlice t 0 (parts.map fun (i, x) => (i, a.eval x))) rfl ⟨ι', _, _, ?_, h2, h3, h4⟩
              simp only [Instr.buildSlice, Sem.run_bind, run_underlying hu, Result.andThen_ok, sizeT_run hs]
              simp only [Nat.zero_mul, if_neg (show ¬ (0 > 2 ^ 24) by omega), if_true, Array.range_zero', Array.map_empty]
              rw [h1]
              simp [newRow]
            · cases hc
          · rename_i hz0
            split at hc
            · rename_i z hz
              split at hc
              · rename_i hzl
                simp only [Option.map_eq_some_iff] at hc
                obtain ⟨places, hp, rfl⟩ := hc
                obtain ⟨rz, hz1, hz2, _⟩ := zeroT_run (ι := ι) hz
                have hzs : rz.cells.size = s := by have := hz2.cells.length; simp at this; omega
                have hpos : 0 < rz.cells.size := by
                  rw [hzs]; rcases Nat.eq_zero_or_pos s with h0 | h0
                  · exact absurd (by rw [h0, Nat.mul_zero]) hz0
                  · exact h0
                have hr := range_map rz.cells hpos len
                rw [hzs] at hr
                obtain ⟨ι', arr', h1, h2, h3, h4⟩ := slc (e := e) (arr0 := (Array.range (len * s)).map (rz.cells[· % s]!)) hz2.cells hp hr hv
                refine does_of (s := Instr.buildSlice t len (parts.map fun (i, x) => (i, a.eval x))) rfl ⟨ι', _, _, ?_, h2, h3, h4⟩
                simp only [Instr.buildSlice, Sem.run_bind, run_underlying hu, Result.andThen_ok, sizeT_run hs, if_neg hbig, if_neg hz0, hz1, Sem.run_pure, hzs]
                rw [h1]
                simp [newRow]
              · cases hc
            · cases hc
      · cases hc
    · cases hc
  case makeMap t rs =>
    cases rs <;> simp only at hc
    · cases hc
      simp only [effRun, Option.some.injEq, Prod.mk.injEq] at hv
      obtain ⟨rfl, rfl⟩ := hv
      obtain ⟨k1, k2⟩ := r.push (.map []) (.map #[] 0) 0 0 trivial ⟨#[], 0, by rw [← r.n]; simp only [Emb.add_blk]; exact heap_alloc_new w _, rfl⟩
      refine does_of (s := Instr.makeMap t none) rfl ⟨_, .map (some w.heap.size), w.alloc (.map #[] 0), by simp [Instr.makeMap], ?_, k1, k2⟩
      simp only [VRel, ← r.n]
      exact ⟨by simp, by simp⟩
    · cases hc
  case makeSlice t l cc =>
    split at hc
    · rename_i e hu
      split at hc
      · rename_i i z cl cC hi hz hl hcC
        split at hc
        · rename_i hcond
          cases hc
          obtain ⟨hzl, hpos, hall⟩ := hcond
          have hv : ∃ (k1 k2 : IntKind) (L C : Int), cl.ev tm = .int k1 L ∧ cC.ev tm = .int k2 C ∧ (0 ≤ L ∧ L ≤ C ∧ i.bytes * C ≤ 281474976710656 ∧ C ≤ 1152921504606846976) ∧
              v = .slice (some (h.n, 0)) L.toNat (.exact C.toNat) ∧ (h' = h.push (.cells (reps z.cells C.toNat) false) ∨ h' = (h.push (.cells (reps z.cells C.toNat) false)).push (.typ h.n e)) := by
            split at hv
            · simp only [effRun] at hv
              split at hv
              · rename_i k1 L k2 C hp1 hp2
                split at hv
                · rename_i hb
                  cases hv
                  exact ⟨k1, k2, L, C, hp1, hp2, hb, rfl, .inr rfl⟩
                · cases hv
              · cases hv
            · simp only [effRun] at hv
              split at hv
              · rename_i k1 L k2 C hp1 hp2
                split at hv
                · rename_i hb
                  cases hv
                  exact ⟨k1, k2, L, C, hp1, hp2, hb, rfl, .inl rfl⟩
                · cases hv
              · cases hv
          obtain ⟨k1, k2, L, C, hp1, hp2, hb, rfl, hh'⟩ := hv
          · have hv := hh'
            · obtain ⟨hb1, hb2, hb3, hb4⟩ := hb
              have e1 := ev_rel r ha hl
              have e2 := ev_rel r ha hcC
              rw [hp1] at e1
              rw [hp2] at e2
              obtain ⟨rz, hz1, hz2, i', hi', hzv⟩ := zeroT_run (ι := ι) hz
              rw [hi] at hi'; cases hi'
              have hzs : rz.cells.size = i.size := by have := hz2.cells.length; simp at this; omega
              have hr := range_map rz.cells (by omega) C.toNat
              rw [hzs] at hr
              have hR := reps_rel hz2.cells C.toNat
              rw [← hr] at hR
              have hnew : ∃ ι', (ι.add w.heap.size 0 ((Array.range (C.toNat * i.size)).map fun i => rz.cells[i % rz.cells.size]!).size e).le ι' ∧ Rel P.globals.size ι' h' (w.alloc (.cells ((Array.range (C.toNat * i.size)).map fun i => rz.cells[i % rz.cells.size]!) e)) ∧
                  Stp ι ι' h h' w (w.alloc (.cells ((Array.range (C.toNat * i.size)).map fun i => rz.cells[i % rz.cells.size]!) e)) := by
                rw [hzs]
                rcases hv with rfl | rfl
                · obtain ⟨k1', k2'⟩ := new_rel r e hR
                  exact ⟨_, Emb.le_refl _, k1', k2'⟩
                · exact typ_new r e hR
              obtain ⟨ι', k0', k1', k2'⟩ := hnew
              rw [hzs] at k0' k1' k2'
              have w1 : IntKind.i64.wrap L = L := by unfold IntKind.wrap; simp [IntKind.bits, IntKind.signed]; omega
              have w2 : IntKind.i64.wrap C = C := by unfold IntKind.wrap; simp [IntKind.bits, IntKind.signed]; omega
              refine does_of (s := Instr.makeSlice t (a.eval l) (a.eval cc)) rfl ⟨ι', .slice (some ⟨w.heap.size, 0, none⟩) L.toNat C.toNat, _, ?_, VRel.mono k0' ?_, k1', k2'⟩
              · have c1 : ¬ (C < 0 ∨ 281474976710656 < (i.bytes : Int) * C) := by omega
                have c2 : ¬ (L < 0) := by omega
                have c3 : ¬ (C < L) := by omega
                by_cases hC0 : C.toNat = 0
                · have h0 : C.toNat * i.size = 0 := by rw [hC0, Nat.zero_mul]
                  simp [Instr.makeSlice, run_underlying hu, int_of e1, int_of e2, Go.asInt, asIntOf, typeInfo, hi, w1, w2, c1, c2, c3, askRoom, sizeOf, newRow, hC0]
                  have hz0 : ∀ f : Nat → Value, Array.map f (Array.range 0) = #[] := fun f => by simp [Array.range_zero']
                  rw [hz0, hz0]
                · have h0 : ¬ (C.toNat * i.size = 0) := by
                    intro hh
                    rcases Nat.mul_eq_zero.1 hh with h | h <;> omega
                  simp [Instr.makeSlice, run_underlying hu, int_of e1, int_of e2, Go.asInt, asIntOf, typeInfo, hi, w1, w2, c1, c2, c3, askRoom, sizeOf, newRow, h0, hz1, hzs]
              · simp only [VRel, ← r.n]
                exact ⟨by simp, by omega, by simp⟩
        · cases hc
      · cases hc
    · cases hc
  case insert t m k x =>
    split at hc
    · rename_i kt e cm ck cx hu hm hk hx
      simp only [Option.map_eq_some_iff] at hc
      obtain ⟨q, hkt, rfl⟩ := hc
      obtain ⟨rfl, hms⟩ := mapset_ok r ha hu hm hk hx hkt hv
      exact does_unit (s := Instr.mapUpdate t (a.eval m) (a.eval k) (a.eval x)) rfl hms
    · cases hc
  case mapUpdate t m k x =>
    split at hc
    · rename_i kt e cm ck cx hu hm hk hx
      simp only [Option.map_eq_some_iff] at hc
      obtain ⟨q, hkt, rfl⟩ := hc
      obtain ⟨rfl, hms⟩ := mapset_ok r ha hu hm hk hx hkt hv
      exact does_unit (s := Instr.mapUpdate t (a.eval m) (a.eval k) (a.eval x)) rfl hms
    · cases hc
  case convert src dst x =>
    split at hc
    · cases hc; simp [CO.quiet] at hq
    · cases hc; simp [CO.quiet] at hq
    · split at hc
      · cases hc; simp [CO.quiet] at hq
      · cases hc
    · rename_i e d hs hd hx
      split at hc
      · rename_i hu8
        cases hc
        have he : P.underlying e = some (.int .u8) := by
          unfold isU8 at hu8
          split at hu8
          · rename_i h1; exact h1
          · cases hu8
        exact does_of (s := convert src dst (a.eval x)) rfl (s2b_ok r ha hs hd he hx hv)
      · cases hc
    · split at hc
      · cases hc; simp [CO.quiet] at hq
      · cases hc
    · split at hc
      · cases hc; simp [CO.quiet] at hq
      · cases hc
    · cases hc
  case range t x =>
    split at hc
    · rename_i hu
      obtain ⟨d, hd, rfl⟩ := map_some_cA hc
      exact does_of (s := Instr.range t (a.eval x)) rfl (iterS_ok r hu (ev_rel r ha hd) hv)
    · cases hc
  case next x b =>
    cases b <;> simp only at hc <;> first | (cases hc; done) | skip
    obtain ⟨d, hd, rfl⟩ := map_some_cA hc
    exact does_of (s := Instr.next (a.eval x) true type) rfl (nextS_ok r type (ev_rel r ha hd) hv)
  case call cl =>
    obtain ⟨callee, args, ats⟩ := cl
    cases callee
    case value f =>
      simp only at hc
      split at hc
      · cases hc; simp [CO.isCall] at hnc
      · cases hc
    case invoke _ _ => simp at hc
    case builtin b => exact builtin_eff hc hq hv r ha
  all_goals
    exfalso
    revert hq
    (repeat' split at hc) <;> first
      | (cases hc; simp [CO.quiet]; done)
      | (simp only [Option.map_eq_some_iff] at hc; obtain ⟨_, _, rfl⟩ := hc; simp [CO.quiet]; done)
      | (cases hc; done)
end
end Go.Fs
