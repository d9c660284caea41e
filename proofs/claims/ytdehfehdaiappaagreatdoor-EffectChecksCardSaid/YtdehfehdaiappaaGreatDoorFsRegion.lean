/- Regions in the text's order; code; calls. -/
import Derived.Test.YtdehfehdaiappaaGreatDoorFsEff5
namespace Go.Fs
section
variable {P : Program}

/-- What a call of function f comes to, wherever the abstract heap lies. -/
def Good (P : Program) (f : Nat) (args : List AV) (h : AH) (v : AV) (h' : AH) : Prop :=
  ∀ (ι : Emb) (w : World) (rargs : List Value), Rel P.globals.size ι h w → VRels ι args rargs →
    Calls P f rargs.toArray w fun e w' => ∃ ι' rv, e = .returned rv ∧ VRel ι' v rv ∧ Rel P.globals.size ι' h' w' ∧ Stp ι ι' h h' w w'

/-- The same of a function that has no text. -/
def GoodExt (P : Program) (f : Nat) (args : List AV) (h : AH) (v : AV) (h' : AH) : Prop :=
  (∃ fn, P.funcs[f]? = some fn ∧ fn.body = none) ∧ ∀ (ι : Emb) (w : World) (rargs : List Value), Rel P.globals.size ι h w → VRels ι args rargs →
    ∃ ι' rv w', (callFunc f rargs.toArray).run P w = .ok (.value rv) w' ∧ VRel ι' v rv ∧ Rel P.globals.size ι' h' w' ∧ Stp ι ι' h h' w w'

def GoodAt (P : Program) (f : Nat) (args : List AV) (h : AH) (v : AV) (h' : AH) : Prop :=
  ((∃ fn b, P.funcs[f]? = some fn ∧ fn.body = some b ∧ (fn.name == "runtime.NumGoroutine") = false) ∧ Good P f args h v h') ∨ GoodExt P f args h v h'

def GoodRec (P : Program) (call : Rec) : Prop := ∀ f args h v h', call f args h = some (v, h') → GoodAt P f args h v h'

theorem GoodAt.body {P : Program} {f : Nat} {args : List AV} {h : AH} {v : AV} {h' : AH} (g : GoodAt P f args h v h') (hb : ((P.funcs[f]?).bind (·.body)).isSome = true) :
    (∃ fn b, P.funcs[f]? = some fn ∧ fn.body = some b ∧ (fn.name == "runtime.NumGoroutine") = false) ∧ Good P f args h v h' := by
  rcases g with g | ⟨⟨fn, h1, h2⟩, _⟩
  · exact g
  · rw [h1] at hb; simp [h2] at hb

theorem VRels.toArray {ι : Emb} {vs : List AV} {rs : List Value} (h : VRels ι vs rs) : VRels ι vs rs.toArray.toList := by simpa using h

theorem ARel.put {ι : Emb} {tm : List AV} {a : Act} (h : ARel ι tm a) {v : AV} {rv : Value} (hv : VRel ι v rv) (dst : Option Nat) : ARel ι (put tm dst v) (a.put dst rv) := by
  unfold ARel at *
  cases dst with
  | none => exact h
  | some d =>
    simp only [Fs.put, Act.put, Array.toList_setIfInBounds]
    exact h.set hv d

theorem ARel.mono {ι ι' : Emb} {tm : List AV} {a : Act} (hle : ι.le ι') (h : ARel ι tm a) : ARel ι' tm a := VRels.mono hle h

theorem call_shape {op : Op} {f : CA} {args : List CA} (hc : cOp P op = some (.call f args)) : ∃ cf cargs ats, op = .call ⟨.value cf, cargs, ats⟩ ∧ cA P cf = some f ∧ cAs P cargs = some args := by
  cases op
  case call cl =>
    obtain ⟨callee, cargs, ats⟩ := cl
    cases callee
    case invoke _ _ => simp [cOp] at hc
    case builtin b =>
      exfalso
      simp only [cOp, cBuiltin] at hc
      (repeat' split at hc) <;> first | (cases hc; done) | (simp only [Option.map_eq_some_iff] at hc; obtain ⟨_, _, h0⟩ := hc; cases h0; done)
    case value cf =>
      simp only [cOp] at hc
      split at hc
      · rename_i f0 as0 h1 h2
        cases hc
        exact ⟨cf, cargs, ats, rfl, h1, h2⟩
      · cases hc
  case makeMap t r =>
    exfalso
    cases r <;> simp [cOp] at hc
  case next x b =>
    exfalso
    cases b <;> simp [cOp] at hc
  all_goals
    exfalso
    simp only [cOp] at hc
    (repeat' split at hc) <;> first | (cases hc; done) | (simp only [Option.map_eq_some_iff] at hc; obtain ⟨_, _, h0⟩ := hc; cases h0; done)

/-- One operation of a region, in the model's own terms. -/
theorem op_wp {call : Rec} (hrec : GoodRec P call) {ι : Emb} {h : AH} {w : World} {o : Oper} {c : CO} {tm : List AV} {a : Act} {v : AV} {h' : AH} (hc0 : c = (cOp P o.op).getD .stop) (hv : runOp call c tm h = some (v, h'))
    (r : Rel P.globals.size ι h w) (ha : ARel ι tm a) {next : Act → World → Prop} {Q : Exit → Act → World → Prop}
    (hk : ∀ ι' rv w', VRel ι' v rv → Rel P.globals.size ι' h' w' → Stp ι ι' h h' w w' → next (a.put o.dst rv) w') : o.wp P a w next Q := by
  have hc : cOp P o.op = some c := by
    cases hco : cOp P o.op with
    | none => rw [hco] at hc0; simp only [Option.getD_none] at hc0; subst hc0; simp [runOp, CO.quiet, quietRun] at hv
    | some d => rw [hco] at hc0; simp only [Option.getD_some] at hc0; rw [hc0]
  unfold runOp at hv
  split at hv
  · rename_i hq
    simp only [Option.map_eq_some_iff, Prod.mk.injEq] at hv
    obtain ⟨u, hu, rfl, rfl⟩ := hv
    obtain ⟨rv, h1, h2⟩ := quiet_sound hc hq hu r ha
    unfold Oper.wp
    rw [h1]
    exact hk ι rv w h2 r (Stp.refl _ _ _)
  · rename_i hq
    by_cases hcall : c.isCall = true
    · cases c <;> simp [CO.isCall] at hcall
      rename_i f args
      simp only [effRun] at hv
      obtain ⟨dst, op, type, pos, after, guard⟩ := o
      obtain ⟨cf, cargs, ats, rfl, h1, h2⟩ := call_shape hc
      have e1 := ev_rel r ha h1
      have e2 := evs_rel r ha h2
      split at hv
      · rename_i g first captured hp
        rw [hp] at e1
        simp only [VRel] at e1
        obtain ⟨ra, rc, e3, e4, e5⟩ := e1
        have hargsR := (e4.append e2).append e5
        have harr : (ra.toList ++ (cargs.map a.eval).toList ++ rc.toList).toArray = ra ++ cargs.map a.eval ++ rc := by
          apply Array.ext'; simp
        rcases hrec _ _ _ _ _ hv with ⟨⟨fn, b, g1, g2, g3⟩, hgood⟩ | ⟨_, hext⟩
        case inr =>
          obtain ⟨ι', rv, w', k0, k1, k2, k3⟩ := hext ι w _ r hargsR
          rw [harr] at k0
          unfold Oper.wp
          have hrun : (execOp a.eval ⟨dst, .call ⟨.value cf, cargs, ats⟩, type, pos, after, guard⟩).run P w = .ok (.value rv) w' := by
            rw [← k0]
            simp only [execOp, resolve, Sem.run_bind, e3, Deferred.ofValue, Sem.run_pure, Result.andThen_ok, invoke]
          rw [hrun]
          exact hk ι' rv w' k1 k2 k3
        have hcalls := hgood ι w (ra.toList ++ (cargs.map a.eval).toList ++ rc.toList) r ((e4.append e2).append e5)
        unfold Oper.wp
        have hrun : (execOp a.eval ⟨dst, .call ⟨.value cf, cargs, ats⟩, type, pos, after, guard⟩).run P w = .ok (.enter g (ra ++ cargs.map a.eval ++ rc)) w := by
          have g3' : ¬ ((fn.name == "runtime.NumGoroutine") = true) := by simp [g3]
          simp only [execOp, resolve, Sem.run_bind, e3, Deferred.ofValue, Sem.run_pure, Result.andThen_ok, invoke, callFunc, run_program, g1, if_neg g3', g2, Option.isNone_some, Bool.false_eq_true, if_false]
        rw [hrun]
        simp only [Oper.upon]
        rw [harr] at hcalls
        refine hcalls.mono fun e w' ⟨ι', rv, he, k1, k2, k3⟩ => ?_
        subst he
        exact hk ι' rv w' k1 k2 k3
      · cases hv
    · obtain ⟨ι', rv, w', h1, h2, h3, h4⟩ := eff_sound hc (by simpa using hq) (by simpa using hcall) hv r ha
      unfold Oper.wp
      rcases h1 with h1 | ⟨h1, h5⟩
      · rw [h1]; exact hk ι' rv w' h2 h3 h4
      · rw [h1]; subst h5; exact hk ι' _ w' h2 h3 h4

theorem wanted_eq {ops : Array Oper} {o : Oper} {g : Option (Nat × Bool)} (hg : cGuard ops o.guard = some g) {ι : Emb} {tm : List AV} {a : Act} (ha : ARel ι tm a) (dst : Option Nat) (c : CO) :
    Region.wanted o (yielded ops a.tmps) = (CR.mk dst c g).wanted tm := by
  unfold Region.wanted CR.wanted
  cases hgo : o.guard with
  | none => simp only [hgo, cGuard, Option.some.injEq] at hg; subst hg; rfl
  | some jw =>
    obtain ⟨j, want⟩ := jw
    simp only [hgo, cGuard] at hg
    split at hg
    · rename_i t ht
      cases hg
      simp only
      have hT := VRels.getD ha t
      have hy : yielded ops a.tmps j = match tm.getD t AV.undef with | .bool b => some b | _ => none := by
        unfold yielded
        rw [ht]
        simp only [Option.bind_some]
        by_cases hlt : t < a.tmps.toList.length
        · have h1 : a.tmps[t]? = some (a.tmps.toList.getD t Go.undef) := by
            simp at hlt
            simp [hlt]
          rw [h1]
          generalize a.tmps.toList.getD t Go.undef = rv at hT
          generalize tm.getD t AV.undef = av at hT
          match av, hT with
          | .bool b, hT => rw [bool_of hT]
          | .int _ _, hT | .str _, hT | .ptr none, hT | .map none, hT | .nilFunc, hT | .nilIface, hT => simp only [VRel] at hT; subst hT; rfl
          | .ptr (some (_, _)), hT => simp only [VRel] at hT; obtain ⟨_, rfl⟩ := hT; rfl
          | .map (some _), hT => simp only [VRel] at hT; obtain ⟨_, rfl⟩ := hT; rfl
          | .slice none _ (.exact _), hT => simp only [VRel] at hT; obtain ⟨_, _, rfl⟩ := hT; rfl
          | .slice none _ (.opn _), hT => simp only [VRel] at hT
          | .slice (some (_, _)) _ (.exact _), hT => simp only [VRel] at hT; obtain ⟨_, _, _, rfl, _⟩ := hT; rfl
          | .slice (some (_, _)) _ (.opn _), hT => simp only [VRel] at hT; obtain ⟨_, _, _, _, rfl, _⟩ := hT; rfl
          | .func _ _ _, hT => simp only [VRel] at hT; obtain ⟨_, _, rfl, _⟩ := hT; rfl
          | .iface _ _, hT => simp only [VRel] at hT; obtain ⟨_, rfl, _⟩ := hT; rfl
          | .tuple _, hT => simp only [VRel] at hT; obtain ⟨_, rfl, _⟩ := hT; rfl
          | .agg _, hT => simp only [VRel] at hT; obtain ⟨_, rfl, _⟩ := hT; rfl
          | .junk _, hT =>
            simp only [VRel] at hT
            cases rv <;> first | rfl | exact absurd rfl (hT.2.1 _)
        · have h1 : a.tmps[t]? = none := by simp at hlt; simp [hlt]
          have hl : a.tmps.toList.length = tm.length := VRels.length ha
          have h2 : tm.getD t AV.undef = AV.undef := by
            have hge : tm.length ≤ t := by rw [← hl]; exact Nat.le_of_not_lt hlt
            rw [List.getD_eq_getElem?_getD, List.getElem?_eq_none hge]; rfl
          rw [h1, h2]
          rfl
      rw [hy]
      cases tm.getD t AV.undef <;> rfl
    · cases hg

/-- A region in the text's order. -/
theorem ops_wp {call : Rec} (hrec : GoodRec P call) {ops : Array Oper} {Q : Exit → Act → World → Prop} : ∀ (l : List Oper) (cs : List CR) (tm tm' : List AV) (h h' : AH) (ι : Emb) (w : World) (a : Act),
    l.mapM (cOper P ops) = some cs → runOps call cs tm h = some (tm', h') → Rel P.globals.size ι h w → ARel ι tm a →
    (∀ ι' w' a', a'.defers = a.defers → ARel ι' tm' a' → Rel P.globals.size ι' h' w' → Stp ι ι' h h' w w' → Q .normal a' w') → wpList P ops Q l a w
  | [], cs, tm, tm', h, h', ι, w, a, hm, hr, r, ha, hk => by
    simp at hm
    subst hm
    simp only [runOps, Option.some.injEq, Prod.mk.injEq] at hr
    obtain ⟨rfl, rfl⟩ := hr
    exact hk ι w a rfl ha r (Stp.refl _ _ _)
  | o :: l, cs, tm, tm', h, h', ι, w, a, hm, hr, r, ha, hk => by
    rw [List.mapM_cons] at hm
    cases ho : cOper P ops o with
    | none => simp [ho] at hm
    | some cr =>
      cases hl : l.mapM (cOper P ops) with
      | none => simp [ho, hl] at hm
      | some crs =>
        simp [ho, hl] at hm
        subst hm
        unfold cOper at ho
        split at ho
        · rename_i g hg
          cases ho
          have hw := wanted_eq hg ha o.dst ((cOp P o.op).getD .stop)
          refine wpList_step fun K hK => ?_
          rw [hw]
          simp only [runOps] at hr
          split at hr
          · rename_i hwant
            rw [if_pos hwant]
            simp only [Option.bind_eq_some_iff] at hr
            obtain ⟨⟨v, h1⟩, hrun, hrest⟩ := hr
            refine op_wp hrec rfl hrun r ha fun ι' rv w' k1 k2 k3 => hK _ _ ?_
            exact ops_wp hrec l crs _ tm' h1 h' ι' w' _ hl hrest k2 ((ha.mono k3.le).put k1 _) fun ι2 w2 a2 d1 d2 d3 d4 =>
              hk ι2 w2 a2 (by rw [d1]; cases o.dst <;> rfl) d2 d3 (k3.trans d4)
          · rename_i hwant
            rw [if_neg hwant]
            refine hK _ _ ?_
            exact ops_wp hrec l crs _ tm' h h' ι w _ hl hr r (ha.put VRel.undef _) fun ι2 w2 a2 d1 d2 d3 d4 => hk ι2 w2 a2 (by rw [d1]; cases o.dst <;> rfl) d2 d3 d4
        · cases ho
end
end Go.Fs
