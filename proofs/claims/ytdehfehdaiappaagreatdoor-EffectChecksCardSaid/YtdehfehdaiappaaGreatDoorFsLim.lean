/- The abstract machine without fuel: what a call comes to with fuel enough. A run without fuel is a run with some fuel. -/
import Derived.Test.YtdehfehdaiappaaGreatDoorFsRow
namespace Go.Fs
open Go.RowKit

/-- What a rising row of answers comes to. -/
noncomputable def limO {α : Type} (f : Nat → Option α) : Option α :=
  open Classical in if h : ∃ n r, f n = some r then f (Classical.choose h) else none

def Rises {α : Type} (f : Nat → Option α) : Prop := ∀ n r, f n = some r → f (n + 1) = some r

theorem Rises.le {α : Type} {f : Nat → Option α} (h : Rises f) {n m : Nat} (hn : n ≤ m) {r : α} (hr : f n = some r) : f m = some r := by
  induction hn with
  | refl => exact hr
  | step _ ih => exact h _ _ ih

theorem limO_ex {α : Type} {f : Nat → Option α} {r : α} (h : limO f = some r) : ∃ n, f n = some r := by
  unfold limO at h
  split at h
  · exact ⟨_, h⟩
  · cases h

theorem limO_of {α : Type} {f : Nat → Option α} (hf : Rises f) {n : Nat} {r : α} (h : f n = some r) : limO f = some r := by
  have hx : ∃ n r, f n = some r := ⟨n, r, h⟩
  unfold limO
  rw [dif_pos hx]
  obtain ⟨r', hr'⟩ := Classical.choose_spec hx
  rcases Nat.le_total n (Classical.choose hx) with hle | hle
  · exact hf.le hle h
  · rw [← h, hf.le hle hr', hr']

theorem limO_none {α : Type} {f : Nat → Option α} (h : ∀ n, f n = none) : limO f = none := by
  unfold limO
  rw [dif_neg]
  rintro ⟨n, r, hr⟩
  rw [h] at hr
  cases hr

/-! ### Loops -/

theorem iter_rises (body : List AV → AH → Option St) : ∀ n tm h r, iter body n tm h = some r → iter body (n + 1) tm h = some r
  | 0, _, _, _, h => by cases h
  | n + 1, tm, hp, r, h => by
    rw [iter] at h ⊢
    split at h
    · exact iter_rises body n _ _ _ h
    · rw [h]

noncomputable def iterW (body : List AV → AH → Option St) (tm : List AV) (h : AH) : Option St := limO fun n => iter body n tm h

theorem iterW_eq (body : List AV → AH → Option St) (tm : List AV) (h : AH) :
    iterW body tm h = match body tm h with
      | some (.normal, tm', h') => iterW body tm' h'
      | r => r := by
  split
  · rename_i tm' h' hb
    unfold iterW
    cases hc : limO fun n => iter body n tm' h' with
    | some r =>
      obtain ⟨n, hn⟩ := limO_ex hc
      refine limO_of (n := n + 1) (fun n r => iter_rises body n tm h r) ?_
      simp only [iter, hb]
      exact hn
    | none =>
      refine limO_none fun n => ?_
      cases n with
      | zero => rfl
      | succ n =>
        simp only [iter, hb]
        cases hn : iter body n tm' h' with
        | none => rfl
        | some r =>
          rw [limO_of (n := n) (fun n r => iter_rises body n tm' h' r) hn] at hc
          cases hc
  · rename_i hb
    unfold iterW
    cases hr : body tm h with
    | none =>
      refine limO_none fun n => ?_
      cases n with
      | zero => rfl
      | succ n => simp only [iter, hr]
    | some r =>
      refine limO_of (n := 1) (fun n r => iter_rises body n tm h r) ?_
      simp only [iter, hr]
      obtain ⟨e, tm', h'⟩ := r
      cases e with
      | normal => exact absurd hr (hb _ _)
      | exit id => rfl
      | ret => rfl

/-! ### Calls that answer in fewer cases -/

def Rec.le (c d : Rec) : Prop := ∀ f args h r, c f args h = some r → d f args h = some r

theorem effRun_le {c d : Rec} (hcd : c.le d) {o : CO} {tm : List AV} {h : AH} {r : AV × AH} (hr : effRun c o tm h = some r) : effRun d o tm h = some r := by
  cases o with
  | call f args =>
    simp only [effRun] at hr ⊢
    split at hr
    · rename_i hf
      exact hcd _ _ _ _ hr
    · cases hr
  | _ => exact hr

theorem runOp_le {c d : Rec} (hcd : c.le d) {o : CO} {tm : List AV} {h : AH} {r : AV × AH} (hr : runOp c o tm h = some r) : runOp d o tm h = some r := by
  unfold runOp at hr ⊢
  split at hr
  · rename_i hq; rw [if_pos hq]; exact hr
  · rename_i hq; rw [if_neg hq]; exact effRun_le hcd hr

theorem runOps_le {c d : Rec} (hcd : c.le d) : ∀ {os : List CR} {tm : List AV} {h : AH} {r : List AV × AH}, runOps c os tm h = some r → runOps d os tm h = some r
  | [], _, _, _, hr => hr
  | o :: os, tm, h, r, hr => by
    simp only [runOps] at hr ⊢
    split at hr
    · rename_i hw
      rw [if_pos hw]
      obtain ⟨⟨v, h'⟩, h1, h2⟩ := Option.bind_eq_some_iff.1 hr
      rw [runOp_le hcd h1]
      exact runOps_le hcd h2
    · rename_i hw
      rw [if_neg hw]
      exact runOps_le hcd hr

theorem calmRun_le {c d : Rec} (hcd : c.le d) {o : CD} {tm : List AV} {h : AH} {v : AV} (hr : calmRun c o tm h = some v) : calmRun d o tm h = some v := by
  unfold calmRun at hr ⊢
  split at hr
  · rename_i hq; rw [if_pos hq]; exact hr
  · rename_i hq
    rw [if_neg hq]
    unfold stillRun at hr ⊢
    split at hr
    · split at hr
      · rename_i he
        rw [effRun_le hcd he]
        exact hr
      · cases hr
    · cases hr

theorem agrees_iff {c : Rec} {o : CD} {tm : List AV} {v : AV} {h : AH} : agrees c o tm v h = true ↔ ∃ u, calmRun c o tm h = some u ∧ u.same v = true := by
  unfold agrees
  cases calmRun c o tm h <;> simp

theorem steady_le {c d : Rec} (hcd : c.le d) {hs : List AH} : ∀ {os : List CD} {rs : List (List AV × AV × Bool)}, steady c hs os rs = true → steady d hs os rs = true
  | [], _, _ => rfl
  | _ :: _, [], _ => rfl
  | o :: os, (tm, v, wt) :: rs, h => by
    simp only [steady, Bool.and_eq_true, Bool.or_eq_true] at h ⊢
    refine ⟨h.1.imp id fun h1 => ?_, steady_le hcd h.2⟩
    rw [List.all_eq_true] at h1 ⊢
    intro x hx
    obtain ⟨u, h2, h3⟩ := agrees_iff.1 (h1 x hx)
    exact agrees_iff.2 ⟨u, calmRun_le hcd h2, h3⟩

theorem runT_le {c d : Rec} (hcd : c.le d) : ∀ {os : List CD} {tm : List AV} {h : AH} {r : List (List AV × AV × Bool) × List AH × List AV}, runT c os tm h = some r → runT d os tm h = some r
  | [], _, _, _, hr => hr
  | o :: os, tm, h, r, hr => by
    simp only [runT] at hr ⊢
    split at hr
    · rename_i hw
      rw [if_pos hw]
      split at hr
      · rename_i hq
        rw [if_pos hq]
        obtain ⟨v, h1, h2⟩ := Option.bind_eq_some_iff.1 hr
        obtain ⟨⟨rs, hs, tm'⟩, h3, h4⟩ := Option.map_eq_some_iff.1 h2
        rw [calmRun_le hcd h1]
        simp only [Option.bind_some]
        rw [runT_le hcd h3]
        exact congrArg some h4
      · rename_i hq
        rw [if_neg hq]
        obtain ⟨⟨v, h'⟩, h1, h2⟩ := Option.bind_eq_some_iff.1 hr
        obtain ⟨⟨rs, hs, tm'⟩, h3, h4⟩ := Option.map_eq_some_iff.1 h2
        rw [effRun_le hcd h1]
        simp only [Option.bind_some]
        rw [runT_le hcd h3]
        exact congrArg some h4
    · rename_i hw
      rw [if_neg hw]
      obtain ⟨⟨rs, hs, tm'⟩, h3, h4⟩ := Option.map_eq_some_iff.1 hr
      rw [runT_le hcd h3]
      exact congrArg some h4

theorem runD_le {c d : Rec} (hcd : c.le d) {os : List CD} {tm : List AV} {h : AH} {r : List AV × AH} (hr : runD c os tm h = some r) : runD d os tm h = some r := by
  unfold runD at hr ⊢
  split at hr
  · rename_i h1
    rw [runT_le hcd h1]
    simp only
    split at hr
    · rename_i h2
      rw [if_pos (steady_le hcd h2)]
      exact hr
    · cases hr
  · cases hr

theorem iter_le {b b' : List AV → AH → Option St} (hb : ∀ tm h r, b tm h = some r → b' tm h = some r) : ∀ {n m : Nat}, n ≤ m → ∀ {tm : List AV} {h : AH} {r : St}, iter b n tm h = some r → iter b' m tm h = some r
  | 0, _, _, _, _, _, h => by cases h
  | n + 1, 0, hn, _, _, _, _ => by omega
  | n + 1, m + 1, hn, tm, h, r, hr => by
    rw [iter] at hr ⊢
    split at hr
    · rename_i h1
      rw [hb _ _ _ h1]
      exact iter_le hb (by omega) hr
    · rename_i h1
      rw [hb _ _ _ hr]
      obtain ⟨e, tm', h'⟩ := r
      cases e with
      | normal => exact absurd hr (h1 _ _)
      | exit id => rfl
      | ret => rfl

theorem runC_le {c d : Rec} (hcd : c.le d) {n m : Nat} (hn : n ≤ m) : ∀ {x : CC} {tm : List AV} {h : AH} {r : St}, runC c n x tm h = some r → runC d m x tm h = some r
  | .skip, _, _, _, hr => hr
  | .region ops, tm, h, r, hr => by
    simp only [runC, Option.map_eq_some_iff] at hr ⊢
    obtain ⟨a, h1, h2⟩ := hr
    exact ⟨a, runOps_le hcd h1, h2⟩
  | .regionD ops, tm, h, r, hr => by
    simp only [runC, Option.map_eq_some_iff] at hr ⊢
    obtain ⟨a, h1, h2⟩ := hr
    exact ⟨a, runD_le hcd h1, h2⟩
  | .seq a b, tm, h, r, hr => by
    rw [runC] at hr ⊢
    split at hr
    · rename_i h1
      rw [runC_le hcd hn h1]
      exact runC_le hcd hn hr
    · rename_i h1
      rw [runC_le hcd hn hr]
      obtain ⟨e, tm', h'⟩ := r
      cases e with
      | normal => exact absurd hr (h1 _ _)
      | exit id => rfl
      | ret => rfl
  | .cond x a b, tm, h, r, hr => by
    rw [runC] at hr ⊢
    split at hr
    · exact runC_le hcd hn hr
    · exact runC_le hcd hn hr
    · cases hr
  | .block id a, tm, h, r, hr => by
    rw [runC] at hr ⊢
    split at hr
    · rename_i h1
      rw [runC_le hcd hn h1]
      exact hr
    · rename_i h1
      rw [runC_le hcd hn hr]
      obtain ⟨e, tm', h'⟩ := r
      cases e with
      | normal => rfl
      | exit id => exact absurd hr (h1 _ _ _)
      | ret => rfl
  | .loop a, tm, h, r, hr => by
    rw [runC] at hr ⊢
    exact iter_le (fun _ _ _ h1 => runC_le hcd hn h1) hn hr
  | .exit id, _, _, _, hr => hr
  | .ret, _, _, _, hr => hr
  | .stop, _, _, _, hr => by cases hr

theorem runF_le {c d : Rec} (hcd : c.le d) {n m : Nat} (hn : n ≤ m) {f : CF} {args : List AV} {h : AH} {r : AV × AH} (hr : runF c n f args h = some r) : runF d m f args h = some r := by
  unfold runF at hr ⊢
  split at hr
  · rename_i h1
    rw [runC_le hcd hn h1]
    exact hr
  · rename_i h1
    rw [runC_le hcd hn h1]
    exact hr
  · cases hr

theorem run_rises (orc : Orc) (tbl : Nat → Option CF) : ∀ n : Nat, Rec.le (runO orc tbl n) (runO orc tbl (n + 1))
  | 0, _, _, _, _, hr => by cases hr
  | n + 1, f, args, h, r, hr => by
    rw [runO] at hr ⊢
    split at hr
    · exact hr
    split at hr
    · exact runF_le (run_rises orc tbl n) (Nat.le_succ n) hr
    · cases hr

theorem run_le (orc : Orc) (tbl : Nat → Option CF) {n m : Nat} (h : n ≤ m) : Rec.le (runO orc tbl n) (runO orc tbl m) := by
  induction h with
  | refl => exact fun _ _ _ _ h => h
  | step _ ih => exact fun f a h r hr => run_rises orc tbl _ _ _ _ _ (ih _ _ _ _ hr)

/-! ### Without fuel -/

noncomputable def runW (call : Rec) : CC → List AV → AH → Option St
  | .skip, tm, h => some (.normal, tm, h)
  | .region ops, tm, h => (runOps call ops tm h).map fun (tm', h') => (.normal, tm', h')
  | .regionD ops, tm, h => (runD call ops tm h).map fun (tm', h') => (.normal, tm', h')
  | .seq a b, tm, h => match runW call a tm h with
    | some (.normal, tm', h') => runW call b tm' h'
    | r => r
  | .cond c x y, tm, h => match c.ev tm with
    | .bool true => runW call x tm h
    | .bool false => runW call y tm h
    | _ => none
  | .block id c, tm, h => match runW call c tm h with
    | some (.exit id', tm', h') => if id' = id then some (.normal, tm', h') else some (.exit id', tm', h')
    | r => r
  | .loop c, tm, h => iterW (runW call c) tm h
  | .exit id, tm, h => some (.exit id, tm, h)
  | .ret, tm, h => some (.ret, tm, h)
  | .stop, _, _ => none

noncomputable def runFW (call : Rec) (f : CF) (args : List AV) (h : AH) : Option (AV × AH) :=
  match runW call f.body (args ++ List.replicate (f.ntmps - args.length) AV.undef) (h.withLow h.n) with
  | some (.normal, tm, h') | some (.ret, tm, h') => (resAll tm h' f.res).map (settle h h')
  | _ => none

/-- What a call comes to, with fuel enough. -/
noncomputable def acall (orc : Orc) (tbl : Nat → Option CF) : Rec := fun f args h => limO fun n => runO orc tbl n f args h

theorem acall_ex {orc : Orc} {tbl : Nat → Option CF} {f : Nat} {args : List AV} {h : AH} {r : AV × AH} (hr : acall orc tbl f args h = some r) : ∃ n, runO orc tbl n f args h = some r := limO_ex hr
theorem acall_of {orc : Orc} {tbl : Nat → Option CF} {n f : Nat} {args : List AV} {h : AH} {r : AV × AH} (hr : runO orc tbl n f args h = some r) : acall orc tbl f args h = some r :=
  limO_of (fun n r => run_rises orc tbl n f args h r) hr

section
variable (orc : Orc) (tbl : Nat → Option CF)

/-- With some fuel, and all that is more. -/
def Ev {α : Type} (f : Rec → Nat → Option α) (r : α) : Prop := ∃ n, ∀ m, n ≤ m → f (runO orc tbl m) m = some r

theorem ev_effRun {o : CO} {tm : List AV} {h : AH} {r : AV × AH} (hr : effRun (acall orc tbl) o tm h = some r) : Ev orc tbl (fun c _ => effRun c o tm h) r := by
  cases o with
  | call f args =>
    simp only [effRun] at hr
    split at hr
    · rename_i hf
      obtain ⟨n, hn⟩ := acall_ex hr
      exact ⟨n, fun m hm => by simp only [effRun, hf]; exact run_le orc tbl hm _ _ _ _ hn⟩
    · cases hr
  | _ => exact ⟨0, fun _ _ => hr⟩

theorem ev_runOps : ∀ {os : List CR} {tm : List AV} {h : AH} {r : List AV × AH}, runOps (acall orc tbl) os tm h = some r → Ev orc tbl (fun c _ => runOps c os tm h) r
  | [], _, _, _, hr => ⟨0, fun _ _ => hr⟩
  | o :: os, tm, h, r, hr => by
    simp only [runOps] at hr
    split at hr
    · rename_i hw
      obtain ⟨⟨v, h'⟩, h1, h2⟩ := Option.bind_eq_some_iff.1 hr
      obtain ⟨n, hn⟩ := ev_runOps h2
      by_cases hq : o.op.quiet = true
      · refine ⟨n, fun m hm => ?_⟩
        simp only [runOps, if_pos hw]
        have : runOp (runO orc tbl m) o.op tm h = some (v, h') := by simp only [runOp, if_pos hq] at h1 ⊢; exact h1
        rw [this]
        exact hn m hm
      · have h3 : effRun (acall orc tbl) o.op tm h = some (v, h') := by simpa only [runOp, if_neg hq] using h1
        obtain ⟨k, hk⟩ := ev_effRun orc tbl h3
        refine ⟨max n k, fun m hm => ?_⟩
        simp only [runOps, if_pos hw]
        have : runOp (runO orc tbl m) o.op tm h = some (v, h') := by simp only [runOp, if_neg hq]; exact hk m (by omega)
        rw [this]
        exact hn m (by omega)
    · rename_i hw
      obtain ⟨n, hn⟩ := ev_runOps hr
      exact ⟨n, fun m hm => by simp only [runOps, if_neg hw]; exact hn m hm⟩

theorem ev_calm {o : CD} {tm : List AV} {h : AH} {v : AV} (hr : calmRun (acall orc tbl) o tm h = some v) : ∃ n, ∀ m, n ≤ m → calmRun (runO orc tbl m) o tm h = some v := by
  unfold calmRun at hr
  split at hr
  · rename_i hq
    exact ⟨0, fun m _ => by unfold calmRun; rw [if_pos hq]; exact hr⟩
  · rename_i hq
    unfold stillRun at hr
    split at hr
    · rename_i f as ho
      split at hr
      · rename_i v' h' he
        obtain ⟨n, hn⟩ := ev_effRun orc tbl he
        refine ⟨n, fun m hm => ?_⟩
        unfold calmRun stillRun
        rw [if_neg hq]
        simp only [ho]
        rw [← ho, show effRun (runO orc tbl m) o.op tm (h.withLow h.n) = some (v', h') from hn m hm]
        exact hr
      · cases hr
    · cases hr

theorem ev_agrees {o : CD} {tm : List AV} {v : AV} : ∀ {hs : List AH}, hs.all (agrees (acall orc tbl) o tm v) = true → ∃ n, ∀ m, n ≤ m → hs.all (agrees (runO orc tbl m) o tm v) = true
  | [], _ => ⟨0, fun _ _ => rfl⟩
  | h :: hs, hr => by
    rw [List.all_cons, Bool.and_eq_true] at hr
    obtain ⟨u, h1, h2⟩ := agrees_iff.1 hr.1
    obtain ⟨n, hn⟩ := ev_calm orc tbl h1
    obtain ⟨k, hk⟩ := ev_agrees hr.2
    exact ⟨max n k, fun m hm => by rw [List.all_cons, Bool.and_eq_true]; exact ⟨agrees_iff.2 ⟨u, hn m (by omega), h2⟩, hk m (by omega)⟩⟩

theorem ev_steady {hs : List AH} : ∀ {os : List CD} {rs : List (List AV × AV × Bool)}, steady (acall orc tbl) hs os rs = true → ∃ n, ∀ m, n ≤ m → steady (runO orc tbl m) hs os rs = true
  | [], _, _ => ⟨0, fun _ _ => rfl⟩
  | _ :: _, [], _ => ⟨0, fun _ _ => rfl⟩
  | o :: os, (tm, v, wt) :: rs, h => by
    simp only [steady, Bool.and_eq_true, Bool.or_eq_true] at h
    obtain ⟨n, hn⟩ := ev_steady h.2
    rcases h.1 with h1 | h1
    · exact ⟨n, fun m hm => by simp only [steady, Bool.and_eq_true, Bool.or_eq_true]; exact ⟨.inl h1, hn m hm⟩⟩
    · obtain ⟨k, hk⟩ := ev_agrees orc tbl h1
      exact ⟨max n k, fun m hm => by simp only [steady, Bool.and_eq_true, Bool.or_eq_true]; exact ⟨.inr (hk m (by omega)), hn m (by omega)⟩⟩

theorem ev_runT : ∀ {os : List CD} {tm : List AV} {h : AH} {r : List (List AV × AV × Bool) × List AH × List AV}, runT (acall orc tbl) os tm h = some r → Ev orc tbl (fun c _ => runT c os tm h) r
  | [], _, _, _, hr => ⟨0, fun _ _ => hr⟩
  | o :: os, tm, h, r, hr => by
    simp only [runT] at hr
    split at hr
    · rename_i hw
      split at hr
      · rename_i hq
        obtain ⟨v, h1, h2⟩ := Option.bind_eq_some_iff.1 hr
        obtain ⟨x, h3, h4⟩ := Option.map_eq_some_iff.1 h2
        obtain ⟨n, hn⟩ := ev_runT h3
        obtain ⟨k, hk⟩ := ev_calm orc tbl h1
        refine ⟨max n k, fun m hm => ?_⟩
        simp only [runT, if_pos hw, if_pos hq, hk m (by omega), Option.bind_some]
        rw [show runT (runO orc tbl m) os _ h = some x from hn m (by omega)]
        exact congrArg some h4
      · rename_i hq
        obtain ⟨⟨v, h'⟩, h1, h2⟩ := Option.bind_eq_some_iff.1 hr
        obtain ⟨x, h3, h4⟩ := Option.map_eq_some_iff.1 h2
        obtain ⟨n, hn⟩ := ev_runT h3
        obtain ⟨k, hk⟩ := ev_effRun orc tbl h1
        refine ⟨max n k, fun m hm => ?_⟩
        simp only [runT, if_pos hw, if_neg hq]
        rw [show effRun (runO orc tbl m) o.op tm h = some (v, h') from hk m (by omega)]
        simp only [Option.bind_some]
        rw [show runT (runO orc tbl m) os _ h' = some x from hn m (by omega)]
        exact congrArg some h4
    · rename_i hw
      obtain ⟨x, h3, h4⟩ := Option.map_eq_some_iff.1 hr
      obtain ⟨n, hn⟩ := ev_runT h3
      refine ⟨n, fun m hm => ?_⟩
      simp only [runT, if_neg hw]
      rw [show runT (runO orc tbl m) os _ h = some x from hn m hm]
      exact congrArg some h4

theorem ev_runC : ∀ {x : CC} {tm : List AV} {h : AH} {r : St}, runW (acall orc tbl) x tm h = some r → Ev orc tbl (fun c n => runC c n x tm h) r
  | .skip, _, _, _, hr => ⟨0, fun _ _ => hr⟩
  | .region ops, tm, h, r, hr => by
    simp only [runW, Option.map_eq_some_iff] at hr
    obtain ⟨a, h1, h2⟩ := hr
    obtain ⟨n, hn⟩ := ev_runOps orc tbl h1
    exact ⟨n, fun m hm => by simp only [runC, Option.map_eq_some_iff]; exact ⟨a, hn m hm, h2⟩⟩
  | .regionD ops, tm, h, r, hr => by
    simp only [runW, Option.map_eq_some_iff] at hr
    obtain ⟨a, h1, h2⟩ := hr
    unfold runD at h1
    split at h1
    · rename_i hT
      split at h1
      · rename_i hS
        obtain ⟨n, hn⟩ := ev_runT orc tbl hT
        obtain ⟨k, hk⟩ := ev_steady orc tbl hS
        refine ⟨max n k, fun m hm => ?_⟩
        simp only [runC, Option.map_eq_some_iff]
        refine ⟨a, ?_, h2⟩
        unfold runD
        simp only [hn m (by omega), hk m (by omega), if_true]
        exact h1
      · cases h1
    · cases h1
  | .seq a b, tm, h, r, hr => by
    rw [runW] at hr
    split at hr
    · rename_i h1
      obtain ⟨n, hn⟩ := ev_runC h1
      obtain ⟨k, hk⟩ := ev_runC hr
      exact ⟨max n k, fun m hm => by simp only [runC, hn m (by omega)]; exact hk m (by omega)⟩
    · rename_i h1
      obtain ⟨n, hn⟩ := ev_runC hr
      refine ⟨n, fun m hm => ?_⟩
      simp only [runC, hn m hm]
      obtain ⟨e, tm', h'⟩ := r
      cases e with
      | normal => exact absurd hr (h1 _ _)
      | exit id => rfl
      | ret => rfl
  | .cond x a b, tm, h, r, hr => by
    rw [runW] at hr
    split at hr
    · rename_i hx
      obtain ⟨n, hn⟩ := ev_runC hr
      exact ⟨n, fun m hm => by simp only [runC, hx]; exact hn m hm⟩
    · rename_i hx
      obtain ⟨n, hn⟩ := ev_runC hr
      exact ⟨n, fun m hm => by simp only [runC, hx]; exact hn m hm⟩
    · cases hr
  | .block id a, tm, h, r, hr => by
    rw [runW] at hr
    split at hr
    · rename_i h1
      obtain ⟨n, hn⟩ := ev_runC h1
      exact ⟨n, fun m hm => by simp only [runC, hn m hm]; exact hr⟩
    · rename_i h1
      obtain ⟨n, hn⟩ := ev_runC hr
      refine ⟨n, fun m hm => ?_⟩
      simp only [runC, hn m hm]
      obtain ⟨e, tm', h'⟩ := r
      cases e with
      | normal => rfl
      | exit id => exact absurd hr (h1 _ _ _)
      | ret => rfl
  | .loop a, tm, h, r, hr => by
    rw [runW] at hr
    obtain ⟨k, hk⟩ := limO_ex hr
    have go : ∀ (k : Nat) (tm : List AV) (h : AH) (r : St), iter (runW (acall orc tbl) a) k tm h = some r → ∃ n, ∀ m, n ≤ m → iter (runC (runO orc tbl m) m a) k tm h = some r := by
      intro k
      induction k with
      | zero => intro _ _ _ h; cases h
      | succ k ih =>
        intro tm h r hr
        rw [iter] at hr
        split at hr
        · rename_i h1
          obtain ⟨n, hn⟩ := ev_runC h1
          obtain ⟨j, hj⟩ := ih _ _ _ hr
          exact ⟨max n j, fun m hm => by simp only [iter, hn m (by omega)]; exact hj m (by omega)⟩
        · rename_i h1
          obtain ⟨n, hn⟩ := ev_runC hr
          refine ⟨n, fun m hm => ?_⟩
          simp only [iter, hn m hm]
          obtain ⟨e, tm', h'⟩ := r
          cases e with
          | normal => exact absurd hr (h1 _ _)
          | exit id => rfl
          | ret => rfl
    obtain ⟨n, hn⟩ := go k tm h r hk
    exact ⟨max n k, fun m hm => by simp only [runC]; exact iter_le (fun _ _ _ h => h) (show k ≤ m by omega) (hn m (by omega))⟩
  | .exit id, _, _, _, hr => ⟨0, fun _ _ => hr⟩
  | .ret, _, _, _, hr => ⟨0, fun _ _ => hr⟩
  | .stop, _, _, _, hr => by cases hr

/-- A call, by its function's text. -/
theorem acall_intro {orc : Orc} {tbl : Nat → Option CF} {f : Nat} {cf : CF} (hno : orc f = none) (hf : tbl f = some cf) {args : List AV} {h : AH} {r : AV × AH} (hr : runFW (acall orc tbl) cf args h = some r) : acall orc tbl f args h = some r := by
  have : ∃ n, runF (runO orc tbl n) n cf args h = some r := by
    unfold runFW at hr
    split at hr
    · rename_i h1
      obtain ⟨n, hn⟩ := ev_runC orc tbl h1
      have e := hn n (Nat.le_refl n)
      simp only at e
      exact ⟨n, by unfold runF; rw [e]; exact hr⟩
    · rename_i h1
      obtain ⟨n, hn⟩ := ev_runC orc tbl h1
      have e := hn n (Nat.le_refl n)
      simp only at e
      exact ⟨n, by unfold runF; rw [e]; exact hr⟩
    · cases hr
  obtain ⟨n, hn⟩ := this
  exact acall_of (n := n + 1) (by rw [runO, hno]; simp only [hf]; exact hn)
end

/-- A call whose abstract run, without fuel, hands back a bool. -/
theorem calls_acall {P : Program} (hm : P.follows .mixedOrders = true) {orc : Orc} (ho : GoodOrc P orc) {f : Nat} (hb : ((P.funcs[f]?).bind (·.body)).isSome = true) {args : List AV} {h : AH} {x : Bool} {h' : AH} (hr : acall orc (tbl P) f args h = some (.bool x, h')) {ι : Emb} {w : World} {rargs : List Value}
    (r : Rel P.globals.size ι h w) (ha : VRels ι args rargs) (hro : ∀ b c, h.get b = some c → ¬ c.rw) :
    Calls P f rargs.toArray w fun e w' => e = .returned (.bool x) ∧ Below w.heap.size w w' := by
  obtain ⟨n, hn⟩ := acall_ex hr
  exact calls_bool hm ho hb hn r ha hro
end Go.Fs
