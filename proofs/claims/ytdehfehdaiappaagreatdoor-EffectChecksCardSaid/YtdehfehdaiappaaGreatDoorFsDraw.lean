/- A region whose order is open: the text's order tells what comes of each. -/
import Derived.Test.YtdehfehdaiappaaGreatDoorFsRegion
namespace Go.Fs

/-! ### An operation asks for its operands alone -/

theorem ev_congr {tm tm' : List AV} {x : CA} (h : ∀ i, x = .t i → tm.getD i AV.undef = tm'.getD i AV.undef) : x.ev tm = x.ev tm' := by
  cases x <;> first | rfl | exact h _ rfl

theorem bounds_congr {tm tm' : List AV} {lo hi mx : Option CA} (h : ∀ x ∈ lo.toList ++ hi.toList ++ mx.toList, x.ev tm = x.ev tm') (len cap : Nat) : bounds3 tm len cap lo hi mx = bounds3 tm' len cap lo hi mx := by
  have hl : ∀ y d, optBound tm y d lo = optBound tm' y d lo := fun y d => by
    cases lo with
    | none => rfl
    | some x => simp only [optBound]; rw [h x (by simp)]
  have hm : ∀ y d, optBound tm y d mx = optBound tm' y d mx := fun y d => by
    cases mx with
    | none => rfl
    | some x => simp only [optBound]; rw [h x (by simp)]
  have hh : ∀ m, highOf tm m len hi mx = highOf tm' m len hi mx := fun m => by
    cases hi with
    | none => cases mx <;> rfl
    | some x => simp only [highOf]; rw [h x (by simp)]
  unfold bounds3
  simp only [hl, hm, hh]

theorem fill_congr {tm tm' : List AV} : ∀ (ps : List (Nat × Nat × CA)) (cs : List AV), (∀ p ∈ ps, (p.2.2).ev tm = (p.2.2).ev tm') → fillA tm cs ps = fillA tm' cs ps
  | [], cs, _ => rfl
  | (off, size, x) :: ps, cs, h => by
    have hx : x.ev tm = x.ev tm' := h (off, size, x) (by simp)
    simp only [fillA, hx]
    split
    · exact fill_congr ps _ fun p hp => h p (by simp [hp])
    · rfl

theorem quiet_congr {tm tm' : List AV} {hp : AH} (o : CO) (h : ∀ x ∈ o.args, x.ev tm = x.ev tm') : quietRun o tm hp = quietRun o tm' hp := by
  cases o
  case clo fn a b =>
    simp only [CO.args] at h
    simp only [quietRun]
    rw [List.map_congr_left fun x hx => h x (by simp [hx]), List.map_congr_left (l := b) fun x hx => h x (by simp [hx])]
  case slcS x lo hi =>
    simp only [CO.args] at h
    have hb : ∀ n m, bounds3 tm n m lo hi none = bounds3 tm' n m lo hi none := fun n m => bounds_congr (fun y hy => h y (by simp at hy; simp; exact .inr hy)) n m
    simp only [quietRun, h x (by simp), hb]
  case slcV e x lo hi mx =>
    simp only [CO.args] at h
    have hb : ∀ n m, bounds3 tm n m lo hi mx = bounds3 tm' n m lo hi mx := fun n m => bounds_congr (fun y hy => h y (by rw [List.mem_cons]; exact .inr hy)) n m
    have hb0 : mx = none → ∀ n m, bounds3 tm n m lo hi none = bounds3 tm' n m lo hi none := fun h0 n m => by rw [← h0]; exact hb n m
    cases mx with
    | none => simp only [quietRun, h x (by simp), hb]
    | some y => simp only [quietRun, h x (by simp), hb]
  case slcA n e x lo hi mx =>
    simp only [CO.args] at h
    have hb : ∀ n m, bounds3 tm n m lo hi mx = bounds3 tm' n m lo hi mx := fun n m => bounds_congr (fun y hy => h y (by rw [List.mem_cons]; exact .inr hy)) n m
    simp only [quietRun, h x (by simp), hb]
  case build z ps =>
    simp only [CO.args, List.mem_map] at h
    simp only [quietRun]
    rw [fill_congr ps z fun p hp => h _ ⟨p, hp, rfl⟩]
  case pick a b c =>
    simp only [CO.args] at h
    simp only [quietRun, h a (by simp), h b (by simp), h c (by simp)]
  case lookup q z ok x y =>
    simp only [CO.args] at h
    simp only [quietRun, h x (by simp), h y (by simp)]
  case bin op e x y =>
    simp only [CO.args] at h
    simp only [quietRun, h x (by simp), h y (by simp)]
  case iaddrS e x y =>
    simp only [CO.args] at h
    simp only [quietRun, h x (by simp), h y (by simp)]
  case iaddrA n e x y =>
    simp only [CO.args] at h
    simp only [quietRun, h x (by simp), h y (by simp)]
  case idxS x y =>
    simp only [CO.args] at h
    simp only [quietRun, h x (by simp), h y (by simp)]
  case idxA n e g x y =>
    simp only [CO.args] at h
    simp only [quietRun, h x (by simp), h y (by simp)]
  case minI x y =>
    simp only [CO.args] at h
    simp only [quietRun, h x (by simp), h y (by simp)]
  case maxI x y =>
    simp only [CO.args] at h
    simp only [quietRun, h x (by simp), h y (by simp)]
  all_goals first
    | rfl
    | (simp only [CO.args] at h; simp only [quietRun]; rw [h _ (by simp)])

theorem eff_congr {call : Rec} {tm tm' : List AV} {hp : AH} (o : CO) (h : ∀ x ∈ o.args, x.ev tm = x.ev tm') : effRun call o tm hp = effRun call o tm' hp := by
  cases o
  case store n x y =>
    simp only [CO.args] at h
    simp only [effRun, h x (by simp), h y (by simp)]
  case mkS b e z x y =>
    simp only [CO.args] at h
    simp only [effRun, h x (by simp), h y (by simp)]
  case litS e n z ps =>
    simp only [CO.args, List.mem_map] at h
    simp only [effRun]
    rw [fill_congr ps _ fun p hp => h _ ⟨p, hp, rfl⟩]
  case mapset q m k v =>
    simp only [CO.args] at h
    simp only [effRun, h m (by simp), h k (by simp), h v (by simp)]
  case append e b x y =>
    simp only [CO.args] at h
    simp only [effRun, h x (by simp), h y (by simp)]
  case appz e b z x y =>
    simp only [CO.args] at h
    simp only [effRun, h x (by simp), h y (by simp)]
  case mkST t b e z x y =>
    simp only [CO.args] at h
    simp only [effRun, h x (by simp), h y (by simp)]
  case appendT t e b x y =>
    simp only [CO.args] at h
    simp only [effRun, h x (by simp), h y (by simp)]
  case ustr t x y =>
    simp only [CO.args] at h
    simp only [effRun, h x (by simp), h y (by simp)]
  case copy e x y =>
    simp only [CO.args] at h
    simp only [effRun, h x (by simp), h y (by simp)]
  case call f as =>
    simp only [CO.args] at h
    simp only [effRun, h f (by simp)]
    rw [List.map_congr_left fun x hx => h x (by simp [hx])]
  all_goals first
    | rfl
    | (simp only [CO.args] at h; simp only [effRun]; rw [h _ (by simp)])

theorem reads_not {tm : List AV} (o : CO) (hr : o.reads = false) (hq : o.quiet = true) (hp hp' : AH) : quietRun o tm hp = quietRun o tm hp' := by
  cases o <;> simp [CO.reads] at hr <;> simp [CO.quiet] at hq <;> rfl

theorem calm_congr {call : Rec} {tm tm' : List AV} {hp : AH} (o : CD) (h : ∀ x ∈ o.op.args, x.ev tm = x.ev tm') : calmRun call o tm hp = calmRun call o tm' hp := by
  unfold calmRun
  rw [quiet_congr o.op h]
  split
  · rfl
  · unfold stillRun
    split
    · rename_i f as ho
      rw [eff_congr o.op h]
    · rfl

theorem looks_ev {o : CR} {tm tm' : List AV} (h : ∀ t ∈ o.looks, tm.getD t AV.undef = tm'.getD t AV.undef) : (∀ x ∈ o.op.args, x.ev tm = x.ev tm') ∧ o.wanted tm = o.wanted tm' := by
  refine ⟨fun x hx => ev_congr fun i hi => h i ?_, ?_⟩
  · subst hi
    exact List.mem_append_left _ (List.mem_filterMap.2 ⟨.t i, hx, rfl⟩)
  · unfold CR.wanted
    cases hg : o.guard with
    | none => rfl
    | some jw =>
      obtain ⟨j, want⟩ := jw
      simp only
      rw [h j (by simp [CR.looks, hg])]

/-! ### The temporaries behind some of the operations -/

theorem length_put (tm : List AV) (d : Option Nat) (v : AV) : (put tm d v).length = tm.length := by cases d <;> simp [put]

theorem getD_put (tm : List AV) (d : Option Nat) (v : AV) (t : Nat) : (put tm d v).getD t AV.undef = if d = some t ∧ t < tm.length then v else tm.getD t AV.undef := by
  cases d with
  | none => simp [put]
  | some d =>
    simp only [put, List.getD_eq_getElem?_getD, List.getElem?_set, Option.some.injEq]
    by_cases h1 : d = t
    · subst h1
      by_cases h2 : d < tm.length
      · simp [h2]
      · simp [h2]
    · simp [h1]

/-- The temporaries when of the first n operations just those in S have been carried out. -/
def foldS (tm : List AV) (dst : Nat → Option Nat) (v : Nat → AV) (S : Nat → Bool) : Nat → List AV
  | 0 => tm
  | n + 1 => if S n then put (foldS tm dst v S n) (dst n) (v n) else foldS tm dst v S n

section
variable (tm : List AV) (dst : Nat → Option Nat) (v : Nat → AV)

theorem foldS_succ (S : Nat → Bool) (n : Nat) : foldS tm dst v S (n + 1) = if S n then put (foldS tm dst v S n) (dst n) (v n) else foldS tm dst v S n := rfl

theorem length_foldS (S : Nat → Bool) : ∀ n, (foldS tm dst v S n).length = tm.length
  | 0 => rfl
  | n + 1 => by rw [foldS_succ]; split <;> simp [length_put, length_foldS S n]

theorem foldS_agree {S S' : Nat → Bool} {t : Nat} : ∀ n, (∀ k, k < n → dst k = some t → S k = S' k) → (foldS tm dst v S n).getD t AV.undef = (foldS tm dst v S' n).getD t AV.undef
  | 0, _ => rfl
  | n + 1, h => by
    have ih := foldS_agree n fun k hk => h k (by omega)
    have e : ∀ (R : Nat → Bool), (foldS tm dst v R (n + 1)).getD t AV.undef = if R n = true ∧ dst n = some t ∧ t < tm.length then v n else (foldS tm dst v R n).getD t AV.undef := fun R => by
      rw [foldS_succ]
      by_cases h1 : R n = true
      · simp only [h1, if_true, getD_put, length_foldS, true_and]
      · simp [h1]
    rw [e S, e S', ih]
    by_cases hd : dst n = some t
    · rw [h n (by omega) hd]
    · simp [hd]

theorem foldS_upto {S : Nat → Bool} {t i : Nat} : ∀ n, i ≤ n → (∀ k, i ≤ k → k < n → dst k = some t → S k = false) → (foldS tm dst v S n).getD t AV.undef = (foldS tm dst v S i).getD t AV.undef
  | 0, hi, _ => by have : i = 0 := by omega
                   subst this; rfl
  | n + 1, hi, h => by
    by_cases he : i = n + 1
    · subst he; rfl
    · rw [← foldS_upto n (by omega) fun k hk hkn => h k hk (by omega)]
      rw [foldS_succ]
      split
      · rename_i hS
        rw [getD_put]
        by_cases hd : dst n = some t
        · rw [h n (by omega) (by omega) hd] at hS; cases hS
        · simp [hd]
      · rfl

theorem foldS_add {S : Nat → Bool} {i n : Nat} (hi : i < n) (_hS : S i = false) (hlast : ∀ k, i < k → k < n → S k = true → dst k ≠ dst i ∨ dst i = none) (t : Nat) :
    (foldS tm dst v (fun k => S k || k == i) n).getD t AV.undef = (put (foldS tm dst v S n) (dst i) (v i)).getD t AV.undef := by
  rw [getD_put, length_foldS]
  by_cases hd : dst i = some t
  · have h1 := foldS_upto tm dst v (S := fun k => S k || k == i) (t := t) (i := i + 1) n (by omega) fun k hk hkn hdk => by
      cases hSk : S k with
      | true => rcases hlast k (by omega) hkn hSk with h | h
                · exact absurd (hdk.trans hd.symm) h
                · rw [hd] at h; cases h
      | false => simp; omega
    rw [h1, foldS_succ]
    simp only [beq_self_eq_true, Bool.or_true, if_true, getD_put, length_foldS]
    by_cases hlt : t < tm.length
    · simp [hd, hlt]
    · simp only [hd, hlt, and_false, if_false]
      rw [List.getD_eq_getElem?_getD, List.getD_eq_getElem?_getD, List.getElem?_eq_none (by rw [length_foldS]; omega), List.getElem?_eq_none (by rw [length_foldS]; omega)]
  · simp only [hd, false_and, if_false]
    exact foldS_agree tm dst v n fun k hk hdk => by
      have : k ≠ i := fun e => hd (e ▸ hdk)
      simp [this]
end
end Go.Fs
