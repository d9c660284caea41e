/- Code and calls: an abstract run that comes to an end tells what the model does. -/
import Derived.Test.YtdehfehdaiappaaGreatDoorFsDraw4
import Derived.LoopN
import Derived.Scope
namespace Go.Fs
section
variable {P : Program}

theorem drawn_wp {call : Rec} (hrec : GoodRec P call) (hm : P.follows .mixedOrders = true) {id : Nat} {ops : Array Oper} {cs : List CR} {cds : List CD} (hcs : ops.toList.mapM (cOper P ops) = some cs) (hcd : cDraw ops cs = some cds)
    {tm tm' : List AV} {h h' : AH} (hr : runD call cds tm h = some (tm', h')) {ι : Emb} {w : World} {a : Act} (r : Rel P.globals.size ι h w) (ha : ARel ι tm a) {Q : Exit → Act → World → Prop}
    (hQ : ∀ ι' w' a', a'.defers = a.defers → ARel ι' tm' a' → Rel P.globals.size ι' h' w' → Stp ι ι' h h' w w' → Q .normal a' w') : (Code.region id ops true).wp P Q a w := by
  unfold cDraw at hcd
  simp only at hcd
  generalize (if chainOk (ancs ops.toList []) (loudAt [] cs) = true then [] else stillsOf (ancs ops.toList []) cs) = st at hcd
  split at hcd
  · rename_i hok
    cases hcd
    simp only [Bool.and_eq_true] at hok
    obtain ⟨hlen0, hat⟩ := mapM_at _ _ _ hcs
    have hlen : cs.length = ops.size := by simpa using hlen0
    unfold runD at hr
    split at hr
    · rename_i rs hs tm1 hrun
      split at hr
      · rename_i hst
        cases hr
        obtain ⟨g1, g2, g3, g4, g5⟩ := runT_trace call _ tm h rs hs tm' hrun
        have hwl : (windows st cs (ancs ops.toList [])).length = ops.size := by simp [windows, hlen]
        have F : Fix P call st ops cs (windows st cs (ancs ops.toList [])) (ancs ops.toList []) rs hs tm h := by
          refine ⟨hrec, fun i o c ho hc => hat i o c (by simpa using ho) hc, hlen, hwl, fun i o ho => ?_, orderOk_spec hlen hok.1, fun i j hj => ?_, hok.2, g5, g2, g3, hst⟩
          · unfold windows at ho
            rw [List.getElem?_map] at ho
            simp only [Option.map_eq_some_iff] at ho
            obtain ⟨q, hq, rfl⟩ := ho
            have hqi : q = i ∧ i < cs.length := by
              have := List.getElem?_eq_some_iff.1 hq
              obtain ⟨h1, h2⟩ := this
              simp at h1 h2
              exact ⟨h2.symm, h1⟩
            obtain ⟨rfl, hlt⟩ := hqi
            refine ⟨?_, rfl, rfl, rfl⟩
            rw [List.getElem?_eq_getElem hlt, List.getD_eq_getElem?_getD, List.getElem?_eq_getElem hlt]
            rfl
          · have := ancs_spec ops.toList [] [] rfl (fun i j hj => by simp at hj) i j hj
            obtain ⟨o, ho, e, he, hb, hor⟩ := this
            exact ⟨e.on, ⟨o, by simpa using ho, e, he, hb, rfl⟩, hor⟩
        refine wp_region_any hm ?_
        refine any_wp F (ι0 := ι) (w0 := w) (df := a.defers) (fun ι' w' a' hl h1 h2 h3 h4 h5 => ?_) ops.size _ 0 a _ ?_ ?_
        · have hgl : hs.getLastD h = hl := by rw [List.getLastD_eq_getLast?, h1]; rfl
          rw [hgl] at hQ
          exact hQ ι' w' a' h5 (by rw [g4]; exact h2) h3 h4
        · exact Nat.le_trans (List.length_filter_le _ _) (by simp)
        · have hnone : ∀ k, Sof (Array.replicate ops.size false) k = false := fun k => by
            unfold Sof
            simp only [Array.getD_eq_getD_getElem?, Array.getElem?_replicate]
            split <;> rfl
          refine ⟨by simp, fun i j hi => (by rw [hnone] at hi; cases hi), fun j _ => (by rw [hnone]; simp), Nat.zero_le _, ⟨ι, h, g3, r.drew, Stp.drew ι h w, ?_⟩, rfl⟩
          have : foldS tm (dstAt (windows st cs (ancs ops.toList []))) (valAt rs) (Sof (Array.replicate ops.size false)) (windows st cs (ancs ops.toList [])).length = tm :=
            list_ext_getD (length_foldS _ _ _ _ _) fun t => foldS_upto tm _ _ (i := 0) _ (Nat.zero_le _) fun k _ _ _ => hnone k
          rw [this]; exact ha
      · cases hr
    · cases hr
  · cases hcd

def AEx.real : AEx → Exit
  | .normal => .normal
  | .exit id => .exit id
  | .ret => .ret

theorem code_wp {call : Rec} (hrec : GoodRec P call) (hm : P.follows .mixedOrders = true) (fuel : Nat) : ∀ (c : Code) (cc : CC), cC P c = cc → ∀ (tm : List AV) (h : AH) (ex : AEx) (tm' : List AV) (h' : AH), runC call fuel cc tm h = some (ex, tm', h') →
    ∀ (ι : Emb) (w : World) (a : Act) (Q : Exit → Act → World → Prop), Rel P.globals.size ι h w → ARel ι tm a →
      (∀ ι' w' a', a'.defers = a.defers → ARel ι' tm' a' → Rel P.globals.size ι' h' w' → Stp ι ι' h h' w w' → Q ex.real a' w') → c.wp P Q a w
  | .skip, cc, hc, tm, h, ex, tm', h', hr, ι, w, a, Q, r, ha, hQ => by
    simp only [cC] at hc
    subst hc
    simp only [runC, Option.some.injEq, Prod.mk.injEq] at hr
    obtain ⟨rfl, rfl, rfl⟩ := hr
    exact wp_skip (hQ ι w a rfl ha r (Stp.refl _ _ _))
  | .exit id, cc, hc, tm, h, ex, tm', h', hr, ι, w, a, Q, r, ha, hQ => by
    simp only [cC] at hc
    subst hc
    simp only [runC, Option.some.injEq, Prod.mk.injEq] at hr
    obtain ⟨rfl, rfl, rfl⟩ := hr
    exact wp_exit (hQ ι w a rfl ha r (Stp.refl _ _ _))
  | .ret, cc, hc, tm, h, ex, tm', h', hr, ι, w, a, Q, r, ha, hQ => by
    simp only [cC] at hc
    subst hc
    simp only [runC, Option.some.injEq, Prod.mk.injEq] at hr
    obtain ⟨rfl, rfl, rfl⟩ := hr
    exact wp_ret (hQ ι w a rfl ha r (Stp.refl _ _ _))
  | .region id ops draw, cc, hc, tm, h, ex, tm', h', hr, ι, w, a, Q, r, ha, hQ => by
    simp only [cC] at hc
    cases hcs : ops.toList.mapM (cOper P ops) with
    | none => rw [hcs] at hc; subst hc; simp [runC] at hr
    | some cs =>
    rw [hcs] at hc
    simp only at hc
    cases draw with
    | false =>
      simp only [Bool.false_eq_true, if_false] at hc
      subst hc
      simp only [runC, Option.map_eq_some_iff, Prod.mk.injEq] at hr
      obtain ⟨⟨tm1, h1⟩, hrun, rfl, rfl, rfl⟩ := hr
      exact wp_region_list (ops_wp hrec ops.toList cs tm _ h _ ι w a hcs hrun r ha hQ)
    | true =>
      simp only [if_true] at hc
      cases hcd : cDraw ops cs with
      | none => rw [hcd] at hc; subst hc; simp [runC] at hr
      | some cds =>
      rw [hcd] at hc
      simp only at hc
      subst hc
      simp only [runC, Option.map_eq_some_iff, Prod.mk.injEq] at hr
      obtain ⟨⟨tm1, h1⟩, hrun, rfl, rfl, rfl⟩ := hr
      exact drawn_wp hrec hm hcs hcd hrun r ha hQ
  | .seq x y, cc, hc, tm, h, ex, tm', h', hr, ι, w, a, Q, r, ha, hQ => by
    simp only [cC] at hc
    · obtain ⟨cx, hx⟩ : ∃ cx, cC P x = cx := ⟨_, rfl⟩
      obtain ⟨cy, hy⟩ : ∃ cy, cC P y = cy := ⟨_, rfl⟩
      rw [hx, hy] at hc
      subst hc
      simp only [runC] at hr
      split at hr
      · rename_i tm1 h1 h2
        refine wp_seq (code_wp hrec hm fuel x cx hx tm h .normal tm1 h1 h2 ι w a _ r ha fun ι1 w1 a1 d1 d2 d3 d4 => ?_)
        refine code_wp hrec hm fuel y cy hy tm1 h1 ex tm' h' hr ι1 w1 a1 Q d3 d2 fun ι2 w2 a2 e1 e2 e3 e4 => hQ ι2 w2 a2 (e1.trans d1) e2 e3 (d4.trans e4)
      · rename_i hne
        refine wp_seq (code_wp hrec hm fuel x cx hx tm h ex tm' h' hr ι w a _ r ha fun ι1 w1 a1 d1 d2 d3 d4 => ?_)
        have := hQ ι1 w1 a1 d1 d2 d3 d4
        cases ex with
        | normal => exact absurd hr (hne _ _)
        | exit id => exact this
        | ret => exact this
  | .cond c x y, cc, hc, tm, h, ex, tm', h', hr, ι, w, a, Q, r, ha, hQ => by
    simp only [cC] at hc
    split at hc
    · rename_i c0 h0
      obtain ⟨cx, hx⟩ : ∃ cx, cC P x = cx := ⟨_, rfl⟩
      obtain ⟨cy, hy⟩ : ∃ cy, cC P y = cy := ⟨_, rfl⟩
      rw [hx, hy] at hc
      subst hc
      simp only [runC] at hr
      have e1 := ev_rel r ha h0
      split at hr
      · rename_i hb
        rw [hb] at e1
        exact wp_cond_true (bool_of e1) (code_wp hrec hm fuel x cx hx tm h ex tm' h' hr ι w a Q r ha hQ)
      · rename_i hb
        rw [hb] at e1
        exact wp_cond_false (bool_of e1) (code_wp hrec hm fuel y cy hy tm h ex tm' h' hr ι w a Q r ha hQ)
      · cases hr
    · subst hc; simp [runC] at hr
  | .scope x, cc, hc, tm, h, ex, tm', h', hr, ι, w, a, Q, r, ha, hQ => by
    simp only [cC] at hc
    refine wp_scope_straight (code_wp hrec hm fuel x cc hc tm h ex tm' h' hr ι w a _ r ha fun ι1 w1 a1 d1 d2 d3 d4 => ?_)
    have := hQ ι1 w1 a1 d1 d2 d3 d4
    cases ex <;> exact this
  | .label l, cc, hc, tm, h, ex, tm', h', hr, ι, w, a, Q, r, ha, hQ => by
    simp only [cC] at hc
    subst hc
    simp only [runC, Option.some.injEq, Prod.mk.injEq] at hr
    obtain ⟨rfl, rfl, rfl⟩ := hr
    exact wp_label (hQ ι w a rfl ha r (Stp.refl _ _ _))
  | .block id x, cc, hc, tm, h, ex, tm', h', hr, ι, w, a, Q, r, ha, hQ => by
    simp only [cC] at hc
    obtain ⟨cx, hx⟩ : ∃ cx, cC P x = cx := ⟨_, rfl⟩
    rw [hx] at hc
    subst hc
    simp only [runC] at hr
    refine wp_block ?_
    split at hr
    · rename_i id' tm1 h1 h2
      split at hr
      · rename_i hid
        cases hr
        refine code_wp hrec hm fuel x cx hx tm h (.exit id') _ _ h2 ι w a _ r ha fun ι1 w1 a1 d1 d2 d3 d4 => ?_
        simp only [AEx.real, Exit.inBlock, hid, if_true]
        exact hQ ι1 w1 a1 d1 d2 d3 d4
      · rename_i hid
        cases hr
        refine code_wp hrec hm fuel x cx hx tm h (.exit id') _ _ h2 ι w a _ r ha fun ι1 w1 a1 d1 d2 d3 d4 => ?_
        simp only [AEx.real, Exit.inBlock, if_neg hid]
        exact hQ ι1 w1 a1 d1 d2 d3 d4
    · rename_i hne
      refine code_wp hrec hm fuel x cx hx tm h ex tm' h' hr ι w a _ r ha fun ι1 w1 a1 d1 d2 d3 d4 => ?_
      have := hQ ι1 w1 a1 d1 d2 d3 d4
      cases ex with
      | normal => exact this
      | exit id => exact absurd hr (hne _ _ _)
      | ret => exact this
  | .loop x, cc, hc, tm, h, ex, tm', h', hr, ι, w, a, Q, r, ha, hQ => by
    simp only [cC] at hc
    obtain ⟨cx, hx⟩ : ∃ cx, cC P x = cx := ⟨_, rfl⟩
    rw [hx] at hc
    subst hc
    simp only [runC] at hr
    have key : ∀ (n : Nat) (tm : List AV) (h : AH), iter (runC call fuel cx) n tm h = some (ex, tm', h') → ∀ (ι : Emb) (w : World) (a : Act), Rel P.globals.size ι h w → ARel ι tm a →
        (∀ ι' w' a', a'.defers = a.defers → ARel ι' tm' a' → Rel P.globals.size ι' h' w' → Stp ι ι' h h' w w' → Q ex.real a' w') → Code.rounds P x Q n a w := by
      intro n
      induction n with
      | zero => intro tm h hr; simp [iter] at hr
      | succ n ih =>
        intro tm h hr ι w a r ha hQ
        rw [rounds_succ]
        simp only [iter] at hr
        split at hr
        · rename_i tm1 h1 h2
          refine code_wp hrec hm fuel x cx hx tm h .normal tm1 h1 h2 ι w a _ r ha fun ι1 w1 a1 d1 d2 d3 d4 => ?_
          exact ih tm1 h1 hr ι1 w1 a1 d3 d2 fun ι2 w2 a2 e1 e2 e3 e4 => hQ ι2 w2 a2 (e1.trans d1) e2 e3 (d4.trans e4)
        · rename_i hne
          refine code_wp hrec hm fuel x cx hx tm h ex tm' h' hr ι w a _ r ha fun ι1 w1 a1 d1 d2 d3 d4 => ?_
          have := hQ ι1 w1 a1 d1 d2 d3 d4
          cases ex with
          | normal => exact absurd hr (hne _ _)
          | exit id => exact this
          | ret => exact this
    exact wp_loop_rounds fuel (key fuel tm h hr ι w a r ha hQ)
  | .rangeFunc _ _ _ _, cc, hc, _, _, _, _, _, hr, _, _, _, _, _, _, _ => by simp only [cC] at hc; subst hc; simp [runC] at hr
  | .goto _, cc, hc, _, _, _, _, _, hr, _, _, _, _, _, _, _ => by simp only [cC] at hc; subst hc; simp [runC] at hr
  | .refuse _, cc, hc, _, _, _, _, _, hr, _, _, _, _, _, _, _ => by simp only [cC] at hc; subst hc; simp [runC] at hr
/-! ### Calls -/

def resSem (tmps : Array Value) : ResultVar → Sem Value
  | .tmp t => pure (tmps.getD t undef)
  | .cell q t => do loadVar t (← asAddr (tmps.getD q undef))

theorem results_eq (fn : Func) (tmps : Array Value) : results fn tmps = (do let vs ← fn.results.mapM (resSem tmps); pure (if h : vs.size = 1 then vs[0] else .tuple vs)) := by
  unfold results
  congr 1

theorem res_ok {tm : List AV} {a : Act} {h : AH} {ι : Emb} {w : World} (r : Rel P.globals.size ι h w) (ha : ARel ι tm a) {rv : ResultVar} {c : CRes} (hc : cRes P rv = some c) {v : AV} (hv : resOne tm h c = some v) :
    ∃ x, (resSem a.tmps rv).run P w = .ok x w ∧ VRel ι v x := by
  cases rv with
  | tmp t =>
    simp only [cRes, Option.some.injEq] at hc
    subst hc
    simp only [resOne, Option.some.injEq] at hv
    subst hv
    have := VRels.getD ha t
    exact ⟨a.tmps.getD t undef, by simp [resSem], by simpa using this⟩
  | cell q t =>
    simp only [cRes, Option.map_eq_some_iff] at hc
    obtain ⟨g, hg, rfl⟩ := hc
    simp only [resOne] at hv
    have hT := VRels.getD ha q
    split at hv
    · rename_i b o hp
      rw [hp] at hT
      obtain ⟨hb, e⟩ := ptr_of hT
      obtain ⟨x, h1, h2⟩ := load_ok r hg hv
      refine ⟨x, ?_, h2⟩
      have e' : a.tmps.getD q undef = .pointer (some ⟨ι.blk b, ι.sh b + o, none⟩) := by rw [← e]; simp
      simp only [resSem, e', asAddr, Sem.run_bind, Sem.run_pure, Result.andThen_ok, h1]
    · cases hv

theorem resAll_ok {fn : Func} {tm : List AV} {a : Act} {h : AH} {ι : Emb} {w : World} (r : Rel P.globals.size ι h w) (ha : ARel ι tm a) {rs : List CRes} (hc : fn.results.toList.mapM (cRes P) = some rs) {v : AV} (hv : resAll tm h rs = some v) :
    ∃ x, (results fn a.tmps).run P w = .ok x w ∧ VRel ι v x := by
  have all : ∀ (l : List ResultVar) (cs : List CRes) (vs : List AV), l.mapM (cRes P) = some cs → cs.mapM (resOne tm h) = some vs →
      ∃ xs : List Value, (l.mapM (m := Sem) (resSem a.tmps)).run P w = .ok xs w ∧ VRels ι vs xs := by
    intro l
    induction l with
    | nil => intro cs vs h1 h2; simp at h1; subst h1; simp at h2; subst h2; exact ⟨[], by simp, by simp [VRels]⟩
    | cons x l ih =>
      intro cs vs h1 h2
      rw [List.mapM_cons] at h1
      cases hx : cRes P x with
      | none => simp [hx] at h1
      | some c =>
        cases hl : l.mapM (cRes P) with
        | none => simp [hx, hl] at h1
        | some cs' =>
          simp [hx, hl] at h1
          subst h1
          rw [List.mapM_cons] at h2
          cases hv1 : resOne tm h c with
          | none => simp [hv1] at h2
          | some v1 =>
            cases hv2 : cs'.mapM (resOne tm h) with
            | none => simp [hv1, hv2] at h2
            | some vs' =>
              simp [hv1, hv2] at h2
              subst h2
              obtain ⟨y, k1, k2⟩ := res_ok r ha hx hv1
              obtain ⟨ys, k3, k4⟩ := ih cs' vs' hl hv2
              refine ⟨y :: ys, ?_, by simp only [VRels]; exact ⟨_, _, rfl, k2, k4⟩⟩
              rw [List.mapM_cons]
              simp only [Sem.run_bind, k1, Result.andThen_ok, k3, Sem.run_pure]
  rw [results_eq, Array.mapM_eq_mapM_toList]
  obtain ⟨hlen, _⟩ := mapM_at _ _ _ hc
  by_cases h1 : ∃ c, rs = [c]
  · obtain ⟨c, rfl⟩ := h1
    simp only [resAll] at hv
    obtain ⟨xs, k1, k2⟩ := all _ _ [v] hc (by simp [hv])
    simp only [VRels] at k2
    obtain ⟨x, _, rfl, k3, rfl⟩ := k2
    refine ⟨x, ?_, k3⟩
    simp only [map_eq_pure_bind, Sem.run_bind, k1, Result.andThen_ok, Sem.run_pure]
    rfl
  · have hv' : (rs.mapM (resOne tm h)).map .tuple = some v := by
      unfold resAll at hv
      split at hv
      · exact absurd ⟨_, rfl⟩ h1
      · exact hv
    simp only [Option.map_eq_some_iff] at hv'
    obtain ⟨vs, hvs, rfl⟩ := hv'
    obtain ⟨xs, k1, k2⟩ := all _ _ vs hc hvs
    have hl2 := k2.length
    obtain ⟨hl3, _⟩ := mapM_at _ _ _ hvs
    refine ⟨.tuple xs.toArray, ?_, by simp only [VRel]; exact ⟨_, rfl, by simpa using k2⟩⟩
    have hne : ¬ xs.toArray.size = 1 := by
      intro he
      simp at he
      have : rs.length = 1 := by omega
      obtain ⟨c, hc'⟩ := List.length_eq_one_iff.1 this
      exact h1 ⟨c, hc'⟩
    simp only [map_eq_pure_bind, Sem.run_bind, k1, Result.andThen_ok, Sem.run_pure, dif_neg hne]

theorem Rel.withLow {G : Nat} {ι : Emb} {h : AH} {w : World} (r : Rel G ι h w) (n : Nat) : Rel G ι (h.withLow n) w := ⟨r.n, r.dom, r.gn, r.glob, r.brel, r.sep⟩

theorem settle_ok {G : Nat} {ι ι' : Emb} {h h' : AH} {w w' : World} {v : AV} {rv : Value} (r : Rel G ι h w) (hv : VRel ι' v rv) (r' : Rel G ι' h' w') (s : Stp ι ι' (h.withLow h.n) h' w w') :
    ∃ ι2, VRel ι2 (settle h h' v).1 rv ∧ Rel G ι2 (settle h h' v).2 w' ∧ Stp ι ι2 h (settle h h' v).2 w w' := by
  unfold settle
  split
  · rename_i hc
    have hold : ∀ b c, h.get b = some c → h'.get b = some c := fun b c hb => by
      have hbn := r.dom b c hb
      rw [s.old b (by omega) (by simpa using hbn)]
      exact hb
    refine ⟨ι, hv.back s.le (by rw [r.n]; exact hc.2), ⟨r.n, r.dom, r.gn, r.glob, fun b c hb => ?_, r.sep⟩, ⟨ι.le_refl, s.os, s.tape, s.output, s.size, fun k hk hn => s.kept k hk hn, fun b c hb hc => .inr ⟨b, c, hb, hc, rfl⟩, Nat.le_refl _, Nat.le_refl _, fun _ _ _ => rfl⟩⟩
    have hbn := r.dom b c hb
    have h1 := r.brel b c hb
    have h2 := r'.brel b c (hold b c hb)
    have hbi : b < ι.n := by rw [r.n]; exact hbn
    have e1 := s.le.blk b hbi
    have e2 := s.le.sh b hbi
    have e3 := s.le.size b hbi
    have e4 := s.le.ty b hbi
    cases c with
    | cells cs ro =>
      obtain ⟨arr, e, fr, g1, g2, g3, g4⟩ := h2
      obtain ⟨arr0, e0, fr0, k1, k2, k3, k4⟩ := h1
      refine ⟨arr, e, fr, by rw [← e1]; exact g1, by rw [← e3]; exact g2, fun i c hc => ?_, fun hro => ⟨(g4.1 hro).1, by rw [← e2]; exact (g4.1 hro).2⟩, by rw [← e4]; exact g4.2⟩
      obtain ⟨x, g5, g6⟩ := g3 i c hc
      obtain ⟨x0, k5, k6⟩ := k3 i c hc
      exact ⟨x, by rw [← e2]; exact g5, g6.back s.le k6.under⟩
    | map es =>
      obtain ⟨rs, cl, g1, g2⟩ := h2
      obtain ⟨rs0, cl0, k1, k2⟩ := h1
      refine ⟨rs, cl, by rw [← e1]; exact g1, ?_⟩
      clear g1 k1 hb hold
      revert g2 k2
      generalize rs.toList = L
      generalize rs0.toList = L0
      induction es generalizing L L0 with
      | nil => intro g2 _; exact g2
      | cons p es ih =>
        obtain ⟨k, x⟩ := p
        intro g2 k2
        obtain ⟨r1, rs1, rfl, m1, m2, m3⟩ := g2
        obtain ⟨r2, rs2, rfl, n1, n2, n3⟩ := k2
        exact ⟨r1, rs1, rfl, m1.back s.le n1.under, m2.back s.le n2.under, ih _ _ m3 n3⟩
    | iter s p => exact ⟨by rw [← e1]; exact h2.1, by rw [← e2]; exact h2.2⟩
    | typ b' t => exact h1
    | dead => trivial
  · refine ⟨ι', hv, r'.withLow _, ⟨s.le, s.os, s.tape, s.output, s.size, s.kept, s.grow, s.nle, Nat.min_le_left _ _, fun b h1 h2 => ?_⟩⟩
    have h3 : b < h'.low := by simp at h1; omega
    exact s.old b h3 h2

/-- What is told from elsewhere holds. -/
def GoodOrc (P : Program) (orc : Orc) : Prop := ∀ f s, orc f = some s → ∀ args h v h', s args h = some (v, h') → GoodAt P f args h v h'

theorem good_noOrc (P : Program) : GoodOrc P noOrc := fun _ _ h => by cases h

theorem run_good (hm : P.follows .mixedOrders = true) {orc : Orc} (ho : GoodOrc P orc) : ∀ n, GoodRec P (runO orc (tbl P) n)
  | 0 => fun f args h v h' hr => by simp [runO] at hr
  | n + 1 => fun f args h v h' hr => by
    have ih := run_good hm ho n
    simp only [runO] at hr
    split at hr
    · rename_i s hs
      exact ho f s hs args h v h' hr
    split at hr
    · rename_i cf hcf
      unfold tbl at hcf
      simp only [Option.bind_eq_some_iff] at hcf
      obtain ⟨fn, hfn, hcf⟩ := hcf
      unfold cF at hcf
      split at hcf
      · cases hcf
      · rename_i hname
        split at hcf
        · cases hcf
        · rename_i b hb
          split at hcf
          · rename_i rs hrs
            obtain ⟨cb, hcb⟩ : ∃ cb, cC P b = cb := ⟨_, rfl⟩
            rw [hcb] at hcf
            cases hcf
            refine .inl ⟨⟨fn, b, hfn, hb, by simpa using hname⟩, fun ι w rargs r hargs => ?_⟩
            simp only [runF] at hr
            have hlen := hargs.length
            have main : ∀ (ex : AEx) (tm' : List AV) (h1 : AH), (ex = .normal ∨ ex = .ret) → runC (runO orc (tbl P) n) n cb (args ++ List.replicate (fn.ntmps - args.length) AV.undef) (h.withLow h.n) = some (ex, tm', h1) → (resAll tm' h1 rs).map (settle h h1) = some (v, h') →
                Calls P f rargs.toArray w fun e w' => ∃ ι' rv, e = .returned rv ∧ VRel ι' v rv ∧ Rel P.globals.size ι' h' w' ∧ Stp ι ι' h h' w w' := fun ex tm' h1 hex hrun hres => by
              simp only [Option.map_eq_some_iff] at hres
              obtain ⟨u, hu, hset⟩ := hres
              refine calls_of_wp hfn hb ?_
              refine code_wp ih hm n b cb hcb _ _ ex tm' h1 hrun ι w _ _ (r.withLow _) ?_ fun ι1 w1 a1 d1 d2 d3 d4 => ?_
              · unfold ARel
                simp only [Array.toList_append, Array.toList_replicate]
                have h2 : rargs.toArray.size = args.length := by simpa using hlen
                rw [h2]
                exact hargs.toArray.append (VRels.replicate VRel.undef _)
              · obtain ⟨x, k1, k2⟩ := resAll_ok d3 d2 hrs hu
                obtain ⟨ι2, k3, k4, k5⟩ := settle_ok r k2 d3 d4
                rw [hset] at k3 k4 k5
                have hfin : a1.defers = [] ∧ ∃ y, (results fn a1.tmps).run P w1 = .ok y w1 ∧ ∃ ι' rv, Ending.returned y = .returned rv ∧ VRel ι' v rv ∧ Rel P.globals.size ι' h' w1 ∧ Stp ι ι' h h' w w1 :=
                  ⟨d1, x, k1, ι2, x, rfl, k3, k4, k5⟩
                rcases hex with rfl | rfl
                · exact hfin
                · exact hfin
            split at hr
            · rename_i tm' h1 hrun
              exact main .normal tm' h1 (.inl rfl) hrun hr
            · rename_i tm' h1 hrun
              exact main .ret tm' h1 (.inr rfl) hrun hr
            · cases hr
          · cases hcf
    · cases hr

/-- **THE THEOREM**: an abstract run that comes to an end tells what the model's call does. -/
theorem run_sound (hm : P.follows .mixedOrders = true) {orc : Orc} (ho : GoodOrc P orc) {n f : Nat} (hb : ((P.funcs[f]?).bind (·.body)).isSome = true) {args : List AV} {h : AH} {v : AV} {h' : AH} (hr : runO orc (tbl P) n f args h = some (v, h')) {ι : Emb} {w : World} {rargs : List Value}
    (r : Rel P.globals.size ι h w) (ha : VRels ι args rargs) : Calls P f rargs.toArray w fun e w' => ∃ ι' rv, e = .returned rv ∧ VRel ι' v rv ∧ Rel P.globals.size ι' h' w' ∧ Stp ι ι' h h' w w' :=
  ((run_good hm ho n f args h v h' hr).body hb).2 ι w rargs r ha
end
end Go.Fs
