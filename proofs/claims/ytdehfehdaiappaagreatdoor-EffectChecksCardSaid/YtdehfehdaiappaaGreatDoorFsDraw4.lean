/- A region whose order is open: whatever order is picked. -/
import Derived.Test.YtdehfehdaiappaaGreatDoorFsDraw3
namespace Go.Fs

def loudB (l : List CD) (i : Nat) : Bool := match l[i]? with | some o => !o.calm | none => false

theorem cnt_range (l : List CD) : ∀ i, i ≤ l.length → cnt l i = ((List.range i).filter (loudB l)).length
  | 0, _ => rfl
  | i + 1, h => by
    have ih := cnt_range l i (by omega)
    have hlt : i < l.length := by omega
    unfold cnt at ih ⊢
    rw [List.take_succ_eq_append_getElem hlt, List.filter_append, List.length_append, ih, List.range_succ, List.filter_append, List.length_append]
    congr 1
    simp only [List.filter_cons, List.filter_nil, loudB, List.getElem?_eq_getElem hlt]
    split <;> rfl

theorem filter_range_at (p : Nat → Bool) {n i : Nat} (hi : i < n) (hp : p i = true) : ((List.range n).filter p)[((List.range i).filter p).length]? = some i := by
  have e : List.range n = List.range i ++ (i :: List.range' (i + 1) (n - i - 1)) := by
    rw [List.range_eq_range', List.range_eq_range', ← List.range'_succ, show n - i - 1 + 1 = n - i by omega]
    have := List.range'_append_1 (s := 0) (m := i) (n := n - i)
    simp only [Nat.zero_add] at this
    rw [this]
    congr 1
    omega
  rw [e, List.filter_append, List.getElem?_append_right (Nat.le_refl _), Nat.sub_self, List.filter_cons, if_pos hp]
  rfl

theorem cnt_mono (l : List CD) {i j : Nat} (h : i ≤ j) : cnt l i ≤ cnt l j := by
  unfold cnt
  obtain ⟨d, rfl⟩ := Nat.le.dest h
  rw [List.take_add, List.filter_append, List.length_append]
  omega

section
variable {P : Program}

theorem Rel.lower {G : Nat} {ι : Emb} {h : AH} {w : World} (r : Rel G ι h w) (l : Nat) : Rel G ι (h.withLow l) w :=
  ⟨r.n, r.dom, r.gn, r.glob, r.brel, r.sep⟩

/-- A heap that is as it was. -/
theorem still_back {G : Nat} {ι ι' : Emb} {h h1 : AH} {w w' : World} (r : Rel G ι h w) (r' : Rel G ι' h1 w') (s : Stp ι ι' (h.withLow h.n) h1 w w') (hn : h1.n = h.n) (hl : h.n ≤ h1.low) :
    Rel G ι' h w' ∧ Stp ι ι' h h w w' := by
  have hget : ∀ b, h1.get b = h.get b := fun b => by
    by_cases hb : b < h.n
    · exact s.old b (by omega) hb
    · have e1 : h1.get b = none := by
        cases he : h1.get b with
        | none => rfl
        | some c => have := r'.dom b c he; omega
      have e2 : h.get b = none := by
        cases he : h.get b with
        | none => rfl
        | some c => have := r.dom b c he; omega
      rw [e1, e2]
  refine ⟨⟨by rw [r'.n, hn], r.dom, r.gn, r'.glob, fun b c hb => r'.brel b c (by rw [hget]; exact hb), fun b b' c c' hb hb' => r'.sep b b' c c' (by rw [hget]; exact hb) (by rw [hget]; exact hb')⟩, ?_⟩
  exact ⟨s.le, s.os, s.tape, s.output, s.size, fun k hk hno => s.kept k hk hno, fun b c hb hc => s.grow b c (by rw [hget]; exact hb) hc, Nat.le_refl _, Nat.le_refl _, fun _ _ _ => rfl⟩

/-- All that is fixed about a drawn region and its run in the text's order. -/
structure Fix (P : Program) (call : Rec) (st : List Nat) (ops : Array Oper) (cs : List CR) (l : List CD) (an : List (List Nat)) (rs : List (List AV × AV × Bool)) (hs : List AH) (tm : List AV) (h : AH) : Prop where
  rec_ : GoodRec P call
  at_ : ∀ (i : Nat) o c, ops[i]? = some o → cs[i]? = some c → cOper P ops o = some c
  len : cs.length = ops.size
  llen : l.length = ops.size
  cr : ∀ (i : Nat) o, l[i]? = some o → cs[i]? = some o.toCR ∧ o.lo = lowOf an (loudAt st cs) i ∧ o.hi = highOfs an (loudAt st cs) i ∧ o.still = st.contains i
  ord : OrderOk ops cs
  anc : ∀ i j, j ∈ an.getD i [] → ∃ d, Dep ops i d ∧ (d = j ∨ j ∈ an.getD d [])
  chain : chainOk an (loudAt st cs) = true
  tr : ∀ i o, l[i]? = some o → TrAt call l rs hs tm i o
  hlen : hs.length = cnt l l.length + 1
  h0 : hs[0]? = some h
  std : steady call hs l rs = true

def Sof (listed : Array Bool) (k : Nat) : Bool := listed.getD k false

/-- What holds when just the listed operations have been carried out. -/
structure Inv (P : Program) (st : List Nat) (ops : Array Oper) (cs : List CR) (l : List CD) (rs : List (List AV × AV × Bool)) (hs : List AH) (tm : List AV) (ι0 : Emb) (h0 : AH) (w0 : World) (df : List Deferred) (listed : Array Bool) (k : Nat) (a : Act) (w : World) : Prop where
  size : listed.size = ops.size
  closed : ∀ i j, Sof listed i = true → Dep ops i j → Sof listed j = true
  loud : ∀ j, j < (loudAt st cs).length → (Sof listed ((loudAt st cs).getD j 0) = true ↔ j < k)
  kle : k ≤ (loudAt st cs).length
  rel : ∃ ι hk, hs[k]? = some hk ∧ Rel P.globals.size ι hk w ∧ Stp ι0 ι h0 hk w0 w ∧ ARel ι (foldS tm (dstAt l) (valAt rs) (Sof listed) l.length) a
  df : a.defers = df

theorem list_ext_getD {x y : List AV} (hl : x.length = y.length) (h : ∀ t, x.getD t AV.undef = y.getD t AV.undef) : x = y := by
  apply List.ext_getElem? 
  intro i
  have := h i
  simp only [List.getD_eq_getElem?_getD] at this
  by_cases hi : i < x.length
  · rw [List.getElem?_eq_getElem hi, List.getElem?_eq_getElem (by omega)] at this ⊢
    simpa using this
  · rw [List.getElem?_eq_none (by omega), List.getElem?_eq_none (by omega)]

theorem any_wp {call : Rec} {st : List Nat} {ops : Array Oper} {cs : List CR} {l : List CD} {an : List (List Nat)} {rs : List (List AV × AV × Bool)} {hs : List AH} {tm : List AV} {h : AH} (F : Fix P call st ops cs l an rs hs tm h)
    {ι0 : Emb} {w0 : World} {df : List Deferred} {Q : Exit → Act → World → Prop}
    (hQ : ∀ ι w a hl, hs.getLast? = some hl → ARel ι (foldS tm (dstAt l) (valAt rs) (fun _ => true) l.length) a → Rel P.globals.size ι hl w → Stp ι0 ι h hl w0 w → a.defers = df → Q .normal a w) :
    ∀ (fuel : Nat) (listed : Array Bool) (k : Nat) (a : Act) (w : World), ((List.range ops.size).filter fun i => !Sof listed i).length ≤ fuel → Inv P st ops cs l rs hs tm ι0 h w0 df listed k a w → wpAny P .any ops Q fuel listed a w := by
  have done : ∀ (listed : Array Bool) (k : Nat) (a : Act) (w : World), Inv P st ops cs l rs hs tm ι0 h w0 df listed k a w → (∀ i, i < ops.size → Sof listed i = true) → Q .normal a w := fun listed k a w I hall => by
    obtain ⟨ι, hk, g1, g2, g3, g4⟩ := I.rel
    have hm : cnt l l.length = (loudAt st cs).length := by
      rw [cnt_range l _ (Nat.le_refl _)]
      unfold loudAt
      rw [F.len, F.llen]
      congr 1
      apply List.filter_congr
      intro i hi
      have hlt : i < l.length := by rw [F.llen]; exact List.mem_range.1 hi
      obtain ⟨e1, _, _, est⟩ := F.cr i l[i] (List.getElem?_eq_getElem hlt)
      simp only [loudB, List.getElem?_eq_getElem hlt, e1, CD.calm, est]
    have hkm : k = (loudAt st cs).length := by
      rcases Nat.lt_or_ge k (loudAt st cs).length with hlt | hge
      · have hmem : (loudAt st cs).getD k 0 ∈ loudAt st cs := by
          rw [List.getD_eq_getElem?_getD, List.getElem?_eq_getElem hlt]
          exact List.getElem_mem hlt
        have hb : (loudAt st cs).getD k 0 < ops.size := by
          have := (List.mem_filter.1 hmem).1
          rw [← F.len]; exact List.mem_range.1 this
        have := (I.loud k hlt).1 (hall _ hb)
        omega
      · have := I.kle; omega
    refine hQ ι w a hk ?_ ?_ g2 g3 I.df
    · rw [List.getLast?_eq_getElem?, F.hlen, hm]
      simp only [Nat.add_sub_cancel]
      rw [← hkm]; exact g1
    · have : foldS tm (dstAt l) (valAt rs) (Sof listed) l.length = foldS tm (dstAt l) (valAt rs) (fun _ => true) l.length :=
        list_ext_getD (by rw [length_foldS, length_foldS]) fun t => foldS_agree tm _ _ _ fun j hj _ => hall j (by rw [← F.llen]; exact hj)
      rw [← this]; exact g4
  have stuckDone : ∀ (listed : Array Bool) (k : Nat) (a : Act) (w : World), Inv P st ops cs l rs hs tm ι0 h w0 df listed k a w → Region.ready .any ops listed = [] → ∀ i, i < ops.size → Sof listed i = true := fun listed k a w I hr i => by
    induction i using Nat.strongRecOn with
    | _ i ih =>
      intro hi
      cases hS : Sof listed i with
      | true => rfl
      | false =>
        exfalso
        have ho := Array.getElem?_eq_getElem hi
        have : i ∈ Region.ready .any ops listed := mem_ready.2 ⟨?_, ops[i], ho, fun e he hb => ih e.on (F.ord.dep i e.on ⟨ops[i], ho, e, he, hb, rfl⟩) (by have := F.ord.dep i e.on ⟨ops[i], ho, e, he, hb, rfl⟩; omega)⟩
        · rw [hr] at this; cases this
        · unfold Sof at hS
          have hlt : i < listed.size := by rw [I.size]; exact hi
          simp [hlt] at hS ⊢
          exact hS
  intro fuel
  induction fuel with
  | zero =>
    intro listed k a w hf I
    have hall : ∀ i, i < ops.size → Sof listed i = true := fun i hi => by
      have h0 : (List.range ops.size).filter (fun i => !Sof listed i) = [] := List.eq_nil_of_length_eq_zero (by omega)
      rw [List.filter_eq_nil_iff] at h0
      simpa using h0 i (List.mem_range.2 hi)
    refine ⟨?_, done listed k a w I hall⟩
    apply List.eq_nil_iff_forall_not_mem.2
    intro i hi
    obtain ⟨h1, o, h2, _⟩ := mem_ready.1 hi
    have hlt := (Array.getElem?_eq_some_iff.1 h2).1
    have h3 := hall i hlt
    unfold Sof at h3
    have hlt' : i < listed.size := by rw [I.size]; exact hlt
    simp [hlt'] at h1 h3
    rw [h3] at h1; cases h1
  | succ fuel ih =>
    intro listed k a w hf I
    refine ⟨fun hr => done listed k a w I (stuckDone listed k a w I hr), fun i hi => ?_⟩
    obtain ⟨hun, o, ho, hdeps⟩ := mem_ready.1 hi
    have hin : i < ops.size := (Array.getElem?_eq_some_iff.1 ho).1
    have hSi : Sof listed i = false := by
      unfold Sof
      have hlt' : i < listed.size := by rw [I.size]; exact hin
      simp [hlt'] at hun ⊢
      exact hun
    have hdep : ∀ j, Dep ops i j → Sof listed j = true := fun j ⟨o', ho', e, he, hb, hon⟩ => by
      rw [ho] at ho'; cases ho'
      rw [← hon]; exact hdeps e he hb
    -- whom it waits for, directly or not, has been carried out
    have hancs : ∀ x, (∀ j, Dep ops x j → Sof listed j = true) → ∀ j, j ∈ an.getD x [] → Sof listed j = true := fun x => by
      induction x using Nat.strongRecOn with
      | _ x ihx =>
        intro hx j hj
        obtain ⟨d, hd, hor⟩ := F.anc x j hj
        rcases hor with rfl | hj'
        · exact hx _ hd
        · exact ihx d (F.ord.dep x d hd) (fun j' hj'' => I.closed d j' (hx d hd) hj'') j hj'
    have hil : i < l.length := by rw [F.llen]; exact hin
    obtain ⟨cd, hcd⟩ : ∃ cd, l[i]? = some cd := ⟨l[i], List.getElem?_eq_getElem hil⟩
    obtain ⟨hcr, hlo, hhi, hst⟩ := F.cr i cd hcd
    have hcop := F.at_ i o cd.toCR ho hcr
    obtain ⟨hrow, hk0, hhk0, tq, te, tn⟩ := F.tr i cd hcd
    obtain ⟨ι, hk, g1, g2, g3, g4⟩ := I.rel
    -- the temporaries that it looks at
    have hlook : ∀ t ∈ cd.toCR.looks, (foldS tm (dstAt l) (valAt rs) (Sof listed) l.length).getD t AV.undef = (foldS tm (dstAt l) (valAt rs) (fun _ => true) i).getD t AV.undef := fun t ht => by
      have hdl : ∀ q c, cs[q]? = some c → ∀ d, dstAt l q = some d → c.dst = some d := fun q c hc d hd => by
        unfold dstAt at hd
        cases hq : l[q]? with
        | none => simp [hq] at hd
        | some cq =>
          simp only [hq, Option.bind_some] at hd
          obtain ⟨e1, _, _, est⟩ := F.cr q cq hq
          rw [hc] at e1; cases e1; exact hd
      rw [foldS_upto tm (dstAt l) (valAt rs) (S := Sof listed) (t := t) (i := i) l.length (by omega) (fun q hq1 hq2 hdq => ?_)]
      · refine foldS_agree tm _ _ i fun q hq hdq => ?_
        have hql : q < cs.length := by rw [F.len]; omega
        rcases F.ord.two i q cd.toCR cs[q] (by rw [F.len]; exact hin) hq hcr (List.getElem?_eq_getElem hql) with hd | hap
        · exact hdep q hd
        · exact absurd ht ((apart_spec hap).1 t (hdl q _ (List.getElem?_eq_getElem hql) t hdq))
      · by_cases he : q = i
        · subst he; exact hSi
        · have hql : q < cs.length := by rw [F.len, ← F.llen]; exact hq2
          rcases F.ord.two q i cs[q] cd.toCR hql (by omega) (List.getElem?_eq_getElem hql) hcr with hd | hap
          · cases hSq : Sof listed q with
            | false => rfl
            | true => have := I.closed q i hSq hd; rw [hSi] at this; cases this
          · exact absurd ht ((apart_spec hap).2.2 t (hdl q _ (List.getElem?_eq_getElem hql) t hdq))
    obtain ⟨hargs, hwant⟩ := looks_ev hlook
    unfold cOper at hcop
    split at hcop
    · rename_i g hg
      obtain ⟨c, hc⟩ : ∃ c, c = (cOp P o.op).getD .stop := ⟨_, rfl⟩
      rw [← hc] at hcop
      have hcdc : cd.toCR = ⟨o.dst, c, g⟩ := by simpa using hcop.symm
      have hop : cd.op = c := by rw [show cd.op = cd.toCR.op from rfl, hcdc]
      have hdst : cd.dst = o.dst := by rw [show cd.dst = cd.toCR.dst from rfl, hcdc]
      have hw := wanted_eq hg g4 o.dst c
      rw [← hcdc, hwant] at hw
      have hSnew : ∀ q, q < ops.size → Sof (listed.setIfInBounds i true) q = (Sof listed q || q == i) := fun q hq => by
        unfold Sof
        by_cases hqi : q = i
        · subst hqi
          have : q < listed.size := by rw [I.size]; exact hq
          simp [this]
        · rw [getD_set_ne false (Ne.symm hqi)]; simp [hqi]
      have hfold : ∀ v, v = valAt rs i → foldS tm (dstAt l) (valAt rs) (Sof (listed.setIfInBounds i true)) l.length = put (foldS tm (dstAt l) (valAt rs) (Sof listed) l.length) o.dst v := fun v hv => by
        have hdi : dstAt l i = o.dst := by unfold dstAt; rw [hcd]; exact hdst
        refine list_ext_getD (by rw [length_foldS, length_put, length_foldS]) fun t => ?_
        rw [hv, ← hdi, ← foldS_add tm (dstAt l) (valAt rs) hil hSi (fun q hq1 hq2 hSq => ?_) t]
        · exact foldS_agree tm _ _ _ fun q hq _ => by rw [hSnew q (by rw [← F.llen]; exact hq)]
        · have hql : q < cs.length := by rw [F.len, ← F.llen]; exact hq2
          rcases F.ord.two q i cs[q] cd.toCR hql hq1 (List.getElem?_eq_getElem hql) hcr with hd | hap
          · have := I.closed q i hSq hd; rw [hSi] at this; cases this
          · cases hdd : dstAt l i with
            | none => exact .inr rfl
            | some d =>
              left
              intro he
              have h1 : cd.toCR.dst = some d := by unfold dstAt at hdd; rw [hcd] at hdd; exact hdd
              have h2 : cs[q].dst = some d := by
                have hq3 : q < l.length := hq2
                obtain ⟨e1, _, _, est⟩ := F.cr q l[q] (List.getElem?_eq_getElem hq3)
                rw [List.getElem?_eq_getElem hql] at e1
                have e1 := Option.some.inj e1
                rw [e1]
                unfold dstAt at he
                rw [List.getElem?_eq_getElem hq3] at he
                exact he
              exact (apart_spec hap).2.1 d h1 h2
      have hmem : loudB l i = true → ∃ j, j < (loudAt st cs).length ∧ (loudAt st cs).getD j 0 = i ∧ cnt l i = j := fun hlb => by
        have hfr := filter_range_at (loudB l) (n := l.length) hil hlb
        have heq : (List.range l.length).filter (loudB l) = loudAt st cs := by
          unfold loudAt
          rw [F.len, F.llen]
          apply List.filter_congr
          intro q hq
          have hlt : q < l.length := by rw [F.llen]; exact List.mem_range.1 hq
          obtain ⟨e1, _, _, est⟩ := F.cr q l[q] (List.getElem?_eq_getElem hlt)
          simp only [loudB, List.getElem?_eq_getElem hlt, e1, CD.calm, est]
        rw [heq, ← cnt_range l i (by omega)] at hfr
        exact ⟨cnt l i, (List.getElem?_eq_some_iff.1 hfr).1, by rw [List.getD_eq_getElem?_getD, hfr]; rfl, rfl⟩
      have hloudj : ∀ j j', j < (loudAt st cs).length → j' < (loudAt st cs).length → (loudAt st cs).getD j 0 = (loudAt st cs).getD j' 0 → j = j' := fun j j' hj hj' he => by
        have hnd : (loudAt st cs).Nodup := (List.nodup_range).filter _
        rw [List.getD_eq_getElem?_getD, List.getD_eq_getElem?_getD, List.getElem?_eq_getElem hj, List.getElem?_eq_getElem hj'] at he
        exact (List.getElem_inj hnd).1 he
      -- the invariant behind it
      have step : ∀ (k' : Nat) (ι' : Emb) (h' : AH) (rv : Value) (w' : World), hs[k']? = some h' → VRel ι' (valAt rs i) rv → Rel P.globals.size ι' h' w' → Stp ι ι' hk h' w w' →
          (cd.calm = true → k' = k) → (cd.calm = false → k' = k + 1 ∧ cnt l i = k) →
          wpAny P .any ops Q fuel (listed.setIfInBounds i true) (a.put o.dst rv) w' := fun k' ι' h' rv w' e1 e2 e3 e4 e5 e6 => by
        refine ih _ k' _ _ ?_ ⟨by simpa using I.size, fun x j hx hj => ?_, fun j hj => ?_, ?_, ⟨ι', h', e1, e3, g3.trans e4, ?_⟩, ?_⟩
        · have hlt : ((List.range ops.size).filter fun q => !Sof (listed.setIfInBounds i true) q).length < ((List.range ops.size).filter fun q => !Sof listed q).length := by
            have hsub : (List.range ops.size).filter (fun q => !Sof (listed.setIfInBounds i true) q) = ((List.range ops.size).filter fun q => !Sof listed q).filter (fun q => q != i) := by
              rw [List.filter_filter]
              apply List.filter_congr
              intro q hq
              rw [hSnew q (List.mem_range.1 hq)]
              cases Sof listed q <;> cases hqi : (q == i) <;> simp_all
            rw [hsub]
            have hmi : i ∈ (List.range ops.size).filter fun q => !Sof listed q := List.mem_filter.2 ⟨List.mem_range.2 hin, by simp [hSi]⟩
            exact List.length_filter_lt_length_iff_exists.2 ⟨i, hmi, by simp⟩
          omega
        · by_cases hxi : x = i
          · subst hxi
            have hj' := hdep j hj
            have hjn : j < ops.size := by have := F.ord.dep _ _ hj; omega
            rw [hSnew j hjn, hj']; rfl
          · have hxn : x < ops.size := by obtain ⟨o', ho', _⟩ := hj; exact (Array.getElem?_eq_some_iff.1 ho').1
            rw [hSnew x hxn] at hx
            simp [hxi] at hx
            have hjn : j < ops.size := by have := F.ord.dep _ _ hj; omega
            rw [hSnew j hjn, I.closed x j hx hj]; rfl
        · have hb : (loudAt st cs).getD j 0 < ops.size := by
            have hmem' : (loudAt st cs).getD j 0 ∈ loudAt st cs := by
              rw [List.getD_eq_getElem?_getD, List.getElem?_eq_getElem hj]
              exact List.getElem_mem hj
            have := (List.mem_filter.1 hmem').1
            rw [← F.len]; exact List.mem_range.1 this
          rw [hSnew _ hb]
          cases hqq : cd.calm with
          | true =>
            have hne : ((loudAt st cs).getD j 0 == i) = false := by
              have hmem' : (loudAt st cs).getD j 0 ∈ loudAt st cs := by
                rw [List.getD_eq_getElem?_getD, List.getElem?_eq_getElem hj]
                exact List.getElem_mem hj
              have h2 := (List.mem_filter.1 hmem').2
              rw [beq_eq_false_iff_ne]
              intro he
              have hcalm : (cd.op.quiet || st.contains i) = true := by rw [← hst]; exact hqq
              rw [he, hcr] at h2
              simp only [hcalm] at h2
              exact absurd h2 (by simp)
            rw [hne, Bool.or_false, e5 hqq]
            exact I.loud j hj
          | false =>
            obtain ⟨e7, e8⟩ := e6 hqq
            have hlb : loudB l i = true := by simp [loudB, hcd, hqq]
            obtain ⟨j0, h1, h2, h3⟩ := hmem hlb
            rw [Bool.or_eq_true, beq_iff_eq, I.loud j hj, e7]
            constructor
            · rintro (h4 | h4)
              · omega
              · have := hloudj j j0 hj h1 (by rw [h4, h2]); omega
            · intro h4
              rcases Nat.lt_or_ge j k with h5 | h5
              · exact .inl h5
              · right
                have : j = j0 := by omega
                rw [this, h2]
        · cases hqq : cd.calm with
          | true => rw [e5 hqq]; exact I.kle
          | false =>
            obtain ⟨e7, e8⟩ := e6 hqq
            have hlb : loudB l i = true := by simp [loudB, hcd, hqq]
            obtain ⟨j0, h1, h2, h3⟩ := hmem hlb
            omega
        · rw [hfold _ rfl]
          exact ARel.put (g4.mono e4.le) e2 o.dst
        · rw [← I.df]; cases o.dst <;> rfl
      have hloudk : cd.calm = false → cnt l i = k := fun hqq => by
        have hlb : loudB l i = true := by simp [loudB, hcd, hqq]
        obtain ⟨j0, h1, h2, h3⟩ := hmem hlb
        have hnot : ¬ j0 < k := fun hlt => by
          have := (I.loud j0 h1).2 hlt
          rw [h2, hSi] at this; cases this
        rcases Nat.eq_zero_or_pos j0 with h4 | h4
        · omega
        · have h5 := chain_spec (loudAt st cs) F.chain (j0 - 1) (by omega)
          rw [show j0 - 1 + 1 = j0 by omega, h2] at h5
          have h6 := hancs i hdep _ h5
          have h7 := (I.loud (j0 - 1) (by omega)).1 h6
          omega
      unfold wpOp
      rw [ho]
      simp only
      rw [hw]
      cases hwt : cd.wanted (foldS tm (dstAt l) (valAt rs) (fun _ => true) i) with
      | false =>
        obtain ⟨t1, t2⟩ := tn hwt
        simp only [Bool.false_eq_true, if_false]
        cases hqq : cd.calm with
        | true => exact step k ι hk Go.undef w g1 (by rw [t1]; exact VRel.undef) g2 (Stp.refl _ _ _) (fun _ => rfl) (fun h0 => by rw [hqq] at h0; cases h0)
        | false =>
          have hck := hloudk hqq
          have h1 := t2 hqq
          rw [hck] at h1 hhk0
          rw [g1] at hhk0; cases hhk0
          exact step (k + 1) ι _ Go.undef w h1 (by rw [t1]; exact VRel.undef) g2 (Stp.refl _ _ _) (fun h0 => by rw [hqq] at h0; cases h0) (fun _ => ⟨rfl, hck⟩)
      | true =>
        simp only [if_true]
        left
        cases hqq : cd.calm with
        | true =>
          have hrun : calmRun call cd (foldS tm (dstAt l) (valAt rs) (Sof listed) l.length) hk = some (valAt rs i) := by
            rw [calm_congr cd hargs]
            cases hrd : cd.looksIn with
            | false =>
              simp only [CD.looksIn, Bool.or_eq_false_iff] at hrd
              have hq : cd.op.quiet = true := by simpa [CD.calm, hrd.1] using hqq
              have e1 : ∀ hp, calmRun call cd (foldS tm (dstAt l) (valAt rs) (fun _ => true) i) hp = quietRun cd.op (foldS tm (dstAt l) (valAt rs) (fun _ => true) i) hp := fun hp => by unfold calmRun; rw [if_pos hq]
              rw [e1, reads_not cd.op hrd.2 hq hk hk0, ← e1]; exact tq hwt hqq
            | true =>
              refine steady_at l rs i cd _ _ _ F.std hcd hrow hwt hqq hrd k hk ?_ ?_ g1
              · rw [hlo]
                exact lowOf_le fun j hj hja => (I.loud j hj).1 (hancs i hdep _ hja)
              · rw [hhi]
                refine le_highOfs I.kle fun j hj hja => ?_
                rcases Nat.lt_or_ge j k with h1 | h1
                · have h2 := (I.loud j hj).2 h1
                  have h3 := hancs _ (fun j' hj' => I.closed _ j' h2 hj') i hja
                  rw [hSi] at h3; cases h3
                · exact h1
          by_cases hq : cd.op.quiet = true
          · unfold calmRun at hrun
            rw [if_pos hq] at hrun
            refine op_wp F.rec_ hc (v := valAt rs i) (h' := hk) ?_ g2 g4 fun ι' rv w' k1 k2 k3 => step k ι' hk rv w' g1 k1 k2 k3 (fun _ => rfl) (fun h0 => by rw [hqq] at h0; cases h0)
            unfold runOp
            rw [← hop, if_pos hq, hrun]
            rfl
          · unfold calmRun at hrun
            rw [if_neg hq] at hrun
            have hst2 : ∃ h1, effRun call cd.op (foldS tm (dstAt l) (valAt rs) (Sof listed) l.length) (hk.withLow hk.n) = some (valAt rs i, h1) ∧ h1.n = hk.n ∧ hk.n ≤ h1.low := by
              unfold stillRun at hrun
              split at hrun
              · split at hrun
                · rename_i v h1 he
                  split at hrun
                  · rename_i hc2
                    cases hrun
                    exact ⟨h1, he, hc2⟩
                  · cases hrun
                · cases hrun
              · cases hrun
            obtain ⟨h1, he1, he2, he3⟩ := hst2
            refine op_wp F.rec_ hc (v := valAt rs i) (h' := h1) ?_ (g2.lower hk.n) g4 fun ι' rv w' k1 k2 k3 => ?_
            · unfold runOp
              rw [← hop, if_neg hq]
              exact he1
            · obtain ⟨m1, m2⟩ := still_back g2 k2 k3 he2 he3
              exact step k ι' hk rv w' g1 k1 m1 m2 (fun _ => rfl) (fun h0 => by rw [hqq] at h0; cases h0)
        | false =>
          have hck := hloudk hqq
          obtain ⟨h', h1, h2⟩ := te hwt hqq
          rw [hck] at h1 hhk0
          rw [g1] at hhk0; cases hhk0
          refine op_wp F.rec_ hc (v := valAt rs i) (h' := h') ?_ g2 g4 fun ι' rv w' k1 k2 k3 => step (k + 1) ι' h' rv w' h1 k1 k2 k3 (fun h0 => by rw [hqq] at h0; cases h0) (fun _ => ⟨rfl, hck⟩)
          unfold runOp
          have hq : ¬ cd.op.quiet = true := by
            intro h0
            have : cd.calm = true := by simp [CD.calm, h0]
            rw [hqq] at this; cases this
          rw [← hop, if_neg hq, eff_congr cd.op hargs]
          exact h2
    · cases hcop
end
end Go.Fs
