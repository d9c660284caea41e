/- A region whose order is open: what the text's order tells holds of every order. -/
import Derived.Test.YtdehfehdaiappaaGreatDoorFsDraw
namespace Go.Fs

/-! ### The trace of the text's order -/

theorem foldS_shift (v : Nat → AV) (dst : Nat → Option Nat) : ∀ (n : Nat) (tm : List AV), foldS tm dst v (fun _ => true) (n + 1) = foldS (put tm (dst 0) (v 0)) (fun k => dst (k + 1)) (fun k => v (k + 1)) (fun _ => true) n
  | 0, tm => by simp [foldS]
  | n + 1, tm => by
    rw [foldS_succ, foldS_shift v dst n tm, foldS_succ]

def dstAt (l : List CD) (i : Nat) : Option Nat := (l[i]?).bind (·.dst)
def valAt (rs : List (List AV × AV × Bool)) (i : Nat) : AV := ((rs[i]?).map (·.2.1)).getD AV.undef
/-- How many of the first i write. -/
def cnt (l : List CD) (i : Nat) : Nat := ((l.take i).filter fun o => !o.calm).length

/-- What is known of the i-th operation. -/
structure TrAt (call : Rec) (l : List CD) (rs : List (List AV × AV × Bool)) (hs : List AH) (tm : List AV) (i : Nat) (o : CD) : Prop where
  row : rs[i]? = some (foldS tm (dstAt l) (valAt rs) (fun _ => true) i, valAt rs i, o.wanted (foldS tm (dstAt l) (valAt rs) (fun _ => true) i))
  here : ∃ h, hs[cnt l i]? = some h ∧
    (o.wanted (foldS tm (dstAt l) (valAt rs) (fun _ => true) i) = true → o.calm = true → calmRun call o (foldS tm (dstAt l) (valAt rs) (fun _ => true) i) h = some (valAt rs i)) ∧
    (o.wanted (foldS tm (dstAt l) (valAt rs) (fun _ => true) i) = true → o.calm = false → ∃ h', hs[cnt l i + 1]? = some h' ∧ effRun call o.op (foldS tm (dstAt l) (valAt rs) (fun _ => true) i) h = some (valAt rs i, h')) ∧
    (o.wanted (foldS tm (dstAt l) (valAt rs) (fun _ => true) i) = false → valAt rs i = AV.undef ∧ (o.calm = false → hs[cnt l i + 1]? = some h))

theorem runT_trace (call : Rec) : ∀ (l : List CD) (tm : List AV) (h : AH) (rs : List (List AV × AV × Bool)) (hs : List AH) (tm' : List AV), runT call l tm h = some (rs, hs, tm') →
    rs.length = l.length ∧ hs.length = cnt l l.length + 1 ∧ hs[0]? = some h ∧ tm' = foldS tm (dstAt l) (valAt rs) (fun _ => true) l.length ∧ ∀ i o, l[i]? = some o → TrAt call l rs hs tm i o
  | [], tm, h, rs, hs, tm', hr => by
    simp only [runT, Option.some.injEq, Prod.mk.injEq] at hr
    obtain ⟨rfl, rfl, rfl⟩ := hr
    exact ⟨rfl, by simp [cnt], rfl, rfl, fun i o ho => by simp at ho⟩
  | o :: l, tm, h, rs, hs, tm', hr => by
    have main : ∀ (v : AV) (wt : Bool) (h1 : AH) (rs1 : List (List AV × AV × Bool)) (hs1 : List AH), wt = o.wanted tm → runT call l (put tm o.dst v) h1 = some (rs1, hs1, tm') → rs = (tm, v, wt) :: rs1 → hs = (if o.calm then hs1 else h :: hs1) →
        (wt = true → o.calm = true → calmRun call o tm h = some v) → (wt = true → o.calm = false → effRun call o.op tm h = some (v, h1)) → (wt = false → v = AV.undef ∧ h1 = h) → (o.calm = true → h1 = h) →
        rs.length = (o :: l).length ∧ hs.length = cnt (o :: l) (o :: l).length + 1 ∧ hs[0]? = some h ∧ tm' = foldS tm (dstAt (o :: l)) (valAt rs) (fun _ => true) (o :: l).length ∧
          ∀ i o', (o :: l)[i]? = some o' → TrAt call (o :: l) rs hs tm i o' := fun v wt h1 rs1 hs1 hwt hrun hrs hhs hq he hn hqh => by
      obtain ⟨g1, g2, g3, g4, g5⟩ := runT_trace call l _ h1 rs1 hs1 tm' hrun
      subst hrs
      have hd0 : dstAt (o :: l) 0 = o.dst := rfl
      have hv0 : valAt ((tm, v, wt) :: rs1) 0 = v := rfl
      have hds : (fun k => dstAt (o :: l) (k + 1)) = dstAt l := by funext k; simp [dstAt]
      have hvs : (fun k => valAt ((tm, v, wt) :: rs1) (k + 1)) = valAt rs1 := by funext k; simp [valAt]
      have hf : ∀ i, foldS tm (dstAt (o :: l)) (valAt ((tm, v, wt) :: rs1)) (fun _ => true) (i + 1) = foldS (put tm o.dst v) (dstAt l) (valAt rs1) (fun _ => true) i := fun i => by
        rw [foldS_shift, hd0, hv0, hds, hvs]
      have hc : ∀ i, cnt (o :: l) (i + 1) = (if o.calm then 0 else 1) + cnt l i := fun i => by
        simp only [cnt, List.take_succ_cons, List.filter_cons]
        cases o.calm <;> simp <;> omega
      have hidx : ∀ j : Nat, hs[(if o.calm then 0 else 1) + j]? = hs1[j]? := fun j => by
        rw [hhs]
        cases o.calm
        · simp [Nat.add_comm]
        · simp
      refine ⟨by simp [g1], ?_, ?_, ?_, fun i o' ho' => ?_⟩
      · rw [List.length_cons, hc, hhs]
        cases o.calm <;> simp [g2] <;> omega
      · rw [hhs]
        cases hqq : o.calm
        · simp
        · simp [g3, hqh hqq]
      · rw [List.length_cons, hf]; exact g4
      · cases i with
        | zero =>
          simp only [List.getElem?_cons_zero, Option.some.injEq] at ho'
          subst ho'
          have hcz : cnt (o :: l) 0 = 0 := rfl
          have hh0 : hs[0]? = some h := by
            rw [hhs]
            cases hqq : o.calm
            · simp
            · simp [g3, hqh hqq]
          refine ⟨by (rw [hv0, List.getElem?_cons_zero]; show some _ = some (tm, v, o.wanted tm); rw [hwt]), h, by rw [hcz]; exact hh0, fun hw hqq => ?_, fun hw hqq => ?_, fun hw => ?_⟩
          · exact hq (hwt.trans hw) hqq
          · refine ⟨h1, ?_, he (hwt.trans hw) hqq⟩
            have := hidx 0
            rw [hqq] at this
            simp only [hcz]
            simpa [g3] using this
          · obtain ⟨e1, e2⟩ := hn (hwt.trans hw)
            refine ⟨e1, fun hqq => ?_⟩
            have := hidx 0
            rw [hqq] at this
            simp only [hcz]
            rw [← e2]
            simpa [g3] using this
        | succ i =>
          obtain ⟨t1, h2, t2, t3, t4, t5⟩ := g5 i o' (by simpa using ho')
          have hvi : valAt ((tm, v, wt) :: rs1) (i + 1) = valAt rs1 i := by simp [valAt]
          refine ⟨by rw [hf, hvi]; simpa using t1, h2, by rw [hc, hidx]; exact t2, ?_, ?_, ?_⟩
          · rw [hf, hvi]; exact t3
          · rw [hf, hvi]
            intro hw hqq
            obtain ⟨h', e1, e2⟩ := t4 hw hqq
            exact ⟨h', by rw [hc, Nat.add_assoc, hidx]; exact e1, e2⟩
          · rw [hf, hvi]
            intro hw
            obtain ⟨e1, e2⟩ := t5 hw
            exact ⟨e1, fun hqq => by rw [hc, Nat.add_assoc, hidx]; exact e2 hqq⟩
    simp only [runT] at hr
    split at hr
    · rename_i hw
      split at hr
      · rename_i hqq
        simp only [Option.bind_eq_some_iff, Option.map_eq_some_iff] at hr
        obtain ⟨v, hv, ⟨rs1, hs1, tm1⟩, hrun, he⟩ := hr
        cases he
        exact main v true h rs1 hs1 hw.symm hrun rfl (by simp [hqq]) (fun _ _ => hv) (fun _ h0 => by rw [hqq] at h0; cases h0) (fun h0 => by cases h0) (fun _ => rfl)
      · rename_i hqq
        simp only [Option.bind_eq_some_iff, Option.map_eq_some_iff] at hr
        obtain ⟨⟨v, h1⟩, hv, ⟨rs1, hs1, tm1⟩, hrun, he⟩ := hr
        cases he
        exact main v true h1 rs1 hs1 hw.symm hrun rfl (by simp [hqq]) (fun _ h0 => absurd h0 hqq) (fun _ _ => hv) (fun h0 => by cases h0) (fun h0 => absurd h0 hqq)
    · rename_i hw
      simp only [Option.map_eq_some_iff] at hr
      obtain ⟨⟨rs1, hs1, tm1⟩, hrun, he⟩ := hr
      cases he
      exact main AV.undef false h rs1 hs1 (by simpa using hw) hrun rfl rfl (fun h0 => by cases h0) (fun h0 => by cases h0) (fun _ => ⟨rfl, rfl⟩) (fun _ => rfl)

theorem steady_at {call : Rec} {hs : List AH} : ∀ (l : List CD) (rs : List (List AV × AV × Bool)) (i : Nat) (o : CD) (tm : List AV) (v : AV) (wt : Bool), steady call hs l rs = true → l[i]? = some o → rs[i]? = some (tm, v, wt) → wt = true → o.calm = true → o.looksIn = true →
    ∀ (k : Nat) (h : AH), o.lo ≤ k → k ≤ o.hi → hs[k]? = some h → calmRun call o tm h = some v
  | [], _, i, o, tm, v, wt, _, ho, _, _, _, _, k, h, _, _, _ => by simp at ho
  | _ :: _, [], i, o, tm, v, wt, _, _, hr, _, _, _, k, h, _, _, _ => by simp at hr
  | o0 :: l, (tm0, v0, wt0) :: rs, i, o, tm, v, wt, hst, ho, hr, hwt, hq, hrd, k, h, hlo, hhi, hk => by
    simp only [steady, Bool.and_eq_true] at hst
    cases i with
    | zero =>
      simp only [List.getElem?_cons_zero, Option.some.injEq, Prod.mk.injEq] at ho hr
      subst ho
      obtain ⟨rfl, rfl, rfl⟩ := hr
      have h1 := hst.1
      rw [hwt, hq, hrd] at h1
      simp only [Bool.and_self, Bool.not_true, Bool.false_or, List.all_eq_true] at h1
      have h2 := h1 h (List.mem_of_getElem? (i := k - o0.lo) (by
        rw [List.getElem?_take, if_pos (by omega), List.getElem?_drop]
        rw [show o0.lo + (k - o0.lo) = k by omega]; exact hk))
      unfold agrees at h2
      split at h2
      · rename_i u hu; rw [hu, AV.same_eq h2]
      · cases h2
    | succ i => exact steady_at l rs i o tm v wt hst.2 (by simpa using ho) (by simpa using hr) hwt hq hrd k h hlo hhi hk
end Go.Fs
