/- The abstract machine of the Fs texts, part 6: what it runs, and that each of its runs is one of the program. -/
import Derived.Test.YtjmhjipacmlojaaGreatDoorFz03
import Derived.Test.YtjmhjipacmlojaaGreatDoorFz04
import Derived.Carry
import Derived.Handed
import Derived.WalkKit
import Derived.ProofKit
import Derived.OpenShut
import Derived.SizedLaws
section
/- The abstract machine without fuel: what a call comes to with fuel enough. A run without fuel is a run with some fuel. -/
namespace Go.Fs
open Go.RowKit

/-- What a rising row of answers comes to. -/
noncomputable def limO {α : Type} (f : Nat → Option α) : Option α :=
  open Classical in if h : ∃ n r, f n = some r then f (Classical.choose h) else none

def Rises {α : Type} (f : Nat → Option α) : Prop := ∀ n r, f n = some r → f (n + 1) = some r

theorem Rises.le {α : Type} {f : Nat → Option α} (h : Rises f) {n m : Nat} (hn : n ≤ m) {r : α} (hr : f n = some r) : f m = some r := by
  induction hn with
  | refl => exact hr
  | step _ ih => exact h _ _ ih

theorem limO_ex {α : Type} {f : Nat → Option α} {r : α} (h : limO f = some r) : ∃ n, f n = some r := by
  unfold limO at h
  split at h
  · exact ⟨_, h⟩
  · cases h

theorem limO_of {α : Type} {f : Nat → Option α} (hf : Rises f) {n : Nat} {r : α} (h : f n = some r) : limO f = some r := by
  have hx : ∃ n r, f n = some r := ⟨n, r, h⟩
  unfold limO
  rw [dif_pos hx]
  obtain ⟨r', hr'⟩ := Classical.choose_spec hx
  rcases Nat.le_total n (Classical.choose hx) with hle | hle
  · exact hf.le hle h
  · rw [← h, hf.le hle hr', hr']

theorem limO_none {α : Type} {f : Nat → Option α} (h : ∀ n, f n = none) : limO f = none := by
  unfold limO
  rw [dif_neg]
  rintro ⟨n, r, hr⟩
  rw [h] at hr
  cases hr

/-! ### Loops -/

theorem iter_rises (body : List AV → AH → Option St) : ∀ n tm h r, iter body n tm h = some r → iter body (n + 1) tm h = some r
  | 0, _, _, _, h => by cases h
  | n + 1, tm, hp, r, h => by
    rw [iter] at h ⊢
    split at h
    · exact iter_rises body n _ _ _ h
    · rw [h]

noncomputable def iterW (body : List AV → AH → Option St) (tm : List AV) (h : AH) : Option St := limO fun n => iter body n tm h

theorem iterW_eq (body : List AV → AH → Option St) (tm : List AV) (h : AH) :
    iterW body tm h = match body tm h with
      | some (.normal, tm', h') => iterW body tm' h'
      | r => r := by
  split
  · rename_i tm' h' hb
    unfold iterW
    cases hc : limO fun n => iter body n tm' h' with
    | some r =>
      obtain ⟨n, hn⟩ := limO_ex hc
      refine limO_of (n := n + 1) (fun n r => iter_rises body n tm h r) ?_
      simp only [iter, hb]
      exact hn
    | none =>
      refine limO_none fun n => ?_
      cases n with
      | zero => rfl
      | succ n =>
        simp only [iter, hb]
        cases hn : iter body n tm' h' with
        | none => rfl
        | some r =>
          rw [limO_of (n := n) (fun n r => iter_rises body n tm' h' r) hn] at hc
          cases hc
  · rename_i hb
    unfold iterW
    cases hr : body tm h with
    | none =>
      refine limO_none fun n => ?_
      cases n with
      | zero => rfl
      | succ n => simp only [iter, hr]
    | some r =>
      refine limO_of (n := 1) (fun n r => iter_rises body n tm h r) ?_
      simp only [iter, hr]
      obtain ⟨e, tm', h'⟩ := r
      cases e with
      | normal => exact absurd hr (hb _ _)
      | exit id => rfl
      | ret => rfl

/-! ### Calls that answer in fewer cases -/

def Rec.le (c d : Rec) : Prop := ∀ f args h r, c f args h = some r → d f args h = some r

theorem effRun_le {c d : Rec} (hcd : c.le d) {o : CO} {tm : List AV} {h : AH} {r : AV × AH} (hr : effRun c o tm h = some r) : effRun d o tm h = some r := by
  cases o with
  | call f args =>
    simp only [effRun] at hr ⊢
    split at hr
    · rename_i hf
      exact hcd _ _ _ _ hr
    · cases hr
  | _ => exact hr

theorem runOp_le {c d : Rec} (hcd : c.le d) {o : CO} {tm : List AV} {h : AH} {r : AV × AH} (hr : runOp c o tm h = some r) : runOp d o tm h = some r := by
  unfold runOp at hr ⊢
  split at hr
  · rename_i hq; rw [if_pos hq]; exact hr
  · rename_i hq; rw [if_neg hq]; exact effRun_le hcd hr

theorem runOps_le {c d : Rec} (hcd : c.le d) : ∀ {os : List CR} {tm : List AV} {h : AH} {r : List AV × AH}, runOps c os tm h = some r → runOps d os tm h = some r
  | [], _, _, _, hr => hr
  | o :: os, tm, h, r, hr => by
    simp only [runOps] at hr ⊢
    split at hr
    · rename_i hw
      rw [if_pos hw]
      obtain ⟨⟨v, h'⟩, h1, h2⟩ := Option.bind_eq_some_iff.1 hr
      rw [runOp_le hcd h1]
      exact runOps_le hcd h2
    · rename_i hw
      rw [if_neg hw]
      exact runOps_le hcd hr

theorem calmRun_le {c d : Rec} (hcd : c.le d) {o : CD} {tm : List AV} {h : AH} {v : AV} (hr : calmRun c o tm h = some v) : calmRun d o tm h = some v := by
  unfold calmRun at hr ⊢
  split at hr
  · rename_i hq; rw [if_pos hq]; exact hr
  · rename_i hq
    rw [if_neg hq]
    unfold stillRun at hr ⊢
    split at hr
    · split at hr
      · rename_i he
        rw [effRun_le hcd he]
        exact hr
      · cases hr
    · cases hr

theorem agrees_iff {c : Rec} {o : CD} {tm : List AV} {v : AV} {h : AH} : agrees c o tm v h = true ↔ ∃ u, calmRun c o tm h = some u ∧ u.same v = true := by
  unfold agrees
  cases calmRun c o tm h <;> simp

theorem steady_le {c d : Rec} (hcd : c.le d) {hs : List AH} : ∀ {os : List CD} {rs : List (List AV × AV × Bool)}, steady c hs os rs = true → steady d hs os rs = true
  | [], _, _ => rfl
  | _ :: _, [], _ => rfl
  | o :: os, (tm, v, wt) :: rs, h => by
    simp only [steady, Bool.and_eq_true, Bool.or_eq_true] at h ⊢
    refine ⟨h.1.imp id fun h1 => ?_, steady_le hcd h.2⟩
    rw [List.all_eq_true] at h1 ⊢
    intro x hx
    obtain ⟨u, h2, h3⟩ := agrees_iff.1 (h1 x hx)
    exact agrees_iff.2 ⟨u, calmRun_le hcd h2, h3⟩

theorem runT_le {c d : Rec} (hcd : c.le d) : ∀ {os : List CD} {tm : List AV} {h : AH} {r : List (List AV × AV × Bool) × List AH × List AV}, runT c os tm h = some r → runT d os tm h = some r
  | [], _, _, _, hr => hr
  | o :: os, tm, h, r, hr => by
    simp only [runT] at hr ⊢
    split at hr
    · rename_i hw
      rw [if_pos hw]
      split at hr
      · rename_i hq
        rw [if_pos hq]
        obtain ⟨v, h1, h2⟩ := Option.bind_eq_some_iff.1 hr
        obtain ⟨⟨rs, hs, tm'⟩, h3, h4⟩ := Option.map_eq_some_iff.1 h2
        rw [calmRun_le hcd h1]
        simp only [Option.bind_some]
        rw [runT_le hcd h3]
        exact congrArg some h4
      · rename_i hq
        rw [if_neg hq]
        obtain ⟨⟨v, h'⟩, h1, h2⟩ := Option.bind_eq_some_iff.1 hr
        obtain ⟨⟨rs, hs, tm'⟩, h3, h4⟩ := Option.map_eq_some_iff.1 h2
        rw [effRun_le hcd h1]
        simp only [Option.bind_some]
        rw [runT_le hcd h3]
        exact congrArg some h4
    · rename_i hw
      rw [if_neg hw]
      obtain ⟨⟨rs, hs, tm'⟩, h3, h4⟩ := Option.map_eq_some_iff.1 hr
      rw [runT_le hcd h3]
      exact congrArg some h4

theorem runD_le {c d : Rec} (hcd : c.le d) {os : List CD} {tm : List AV} {h : AH} {r : List AV × AH} (hr : runD c os tm h = some r) : runD d os tm h = some r := by
  unfold runD at hr ⊢
  split at hr
  · rename_i h1
    rw [runT_le hcd h1]
    simp only
    split at hr
    · rename_i h2
      rw [if_pos (steady_le hcd h2)]
      exact hr
    · cases hr
  · cases hr

theorem iter_le {b b' : List AV → AH → Option St} (hb : ∀ tm h r, b tm h = some r → b' tm h = some r) : ∀ {n m : Nat}, n ≤ m → ∀ {tm : List AV} {h : AH} {r : St}, iter b n tm h = some r → iter b' m tm h = some r
  | 0, _, _, _, _, _, h => by cases h
  | n + 1, 0, hn, _, _, _, _ => by omega
  | n + 1, m + 1, hn, tm, h, r, hr => by
    rw [iter] at hr ⊢
    split at hr
    · rename_i h1
      rw [hb _ _ _ h1]
      exact iter_le hb (by omega) hr
    · rename_i h1
      rw [hb _ _ _ hr]
      obtain ⟨e, tm', h'⟩ := r
      cases e with
      | normal => exact absurd hr (h1 _ _)
      | exit id => rfl
      | ret => rfl

theorem runC_le {c d : Rec} (hcd : c.le d) {n m : Nat} (hn : n ≤ m) : ∀ {x : CC} {tm : List AV} {h : AH} {r : St}, runC c n x tm h = some r → runC d m x tm h = some r
  | .skip, _, _, _, hr => hr
  | .region ops, tm, h, r, hr => by
    simp only [runC, Option.map_eq_some_iff] at hr ⊢
    obtain ⟨a, h1, h2⟩ := hr
    exact ⟨a, runOps_le hcd h1, h2⟩
  | .regionD ops, tm, h, r, hr => by
    simp only [runC, Option.map_eq_some_iff] at hr ⊢
    obtain ⟨a, h1, h2⟩ := hr
    exact ⟨a, runD_le hcd h1, h2⟩
  | .seq a b, tm, h, r, hr => by
    rw [runC] at hr ⊢
    split at hr
    · rename_i h1
      rw [runC_le hcd hn h1]
      exact runC_le hcd hn hr
    · rename_i h1
      rw [runC_le hcd hn hr]
      obtain ⟨e, tm', h'⟩ := r
      cases e with
      | normal => exact absurd hr (h1 _ _)
      | exit id => rfl
      | ret => rfl
  | .cond x a b, tm, h, r, hr => by
    rw [runC] at hr ⊢
    split at hr
    · exact runC_le hcd hn hr
    · exact runC_le hcd hn hr
    · cases hr
  | .block id a, tm, h, r, hr => by
    rw [runC] at hr ⊢
    split at hr
    · rename_i h1
      rw [runC_le hcd hn h1]
      exact hr
    · rename_i h1
      rw [runC_le hcd hn hr]
      obtain ⟨e, tm', h'⟩ := r
      cases e with
      | normal => rfl
      | exit id => exact absurd hr (h1 _ _ _)
      | ret => rfl
  | .loop a, tm, h, r, hr => by
    rw [runC] at hr ⊢
    exact iter_le (fun _ _ _ h1 => runC_le hcd hn h1) hn hr
  | .exit id, _, _, _, hr => hr
  | .ret, _, _, _, hr => hr
  | .stop, _, _, _, hr => by cases hr

theorem runF_le {c d : Rec} (hcd : c.le d) {n m : Nat} (hn : n ≤ m) {f : CF} {args : List AV} {h : AH} {r : AV × AH} (hr : runF c n f args h = some r) : runF d m f args h = some r := by
  unfold runF at hr ⊢
  split at hr
  · rename_i h1
    rw [runC_le hcd hn h1]
    exact hr
  · rename_i h1
    rw [runC_le hcd hn h1]
    exact hr
  · cases hr

theorem run_rises (orc : Orc) (tbl : Nat → Option CF) : ∀ n : Nat, Rec.le (runO orc tbl n) (runO orc tbl (n + 1))
  | 0, _, _, _, _, hr => by cases hr
  | n + 1, f, args, h, r, hr => by
    rw [runO] at hr ⊢
    split at hr
    · exact hr
    split at hr
    · exact runF_le (run_rises orc tbl n) (Nat.le_succ n) hr
    · cases hr

theorem run_le (orc : Orc) (tbl : Nat → Option CF) {n m : Nat} (h : n ≤ m) : Rec.le (runO orc tbl n) (runO orc tbl m) := by
  induction h with
  | refl => exact fun _ _ _ _ h => h
  | step _ ih => exact fun f a h r hr => run_rises orc tbl _ _ _ _ _ (ih _ _ _ _ hr)

/-! ### Without fuel -/

noncomputable def runW (call : Rec) : CC → List AV → AH → Option St
  | .skip, tm, h => some (.normal, tm, h)
  | .region ops, tm, h => (runOps call ops tm h).map fun (tm', h') => (.normal, tm', h')
  | .regionD ops, tm, h => (runD call ops tm h).map fun (tm', h') => (.normal, tm', h')
  | .seq a b, tm, h => match runW call a tm h with
    | some (.normal, tm', h') => runW call b tm' h'
    | r => r
  | .cond c x y, tm, h => match c.ev tm with
    | .bool true => runW call x tm h
    | .bool false => runW call y tm h
    | _ => none
  | .block id c, tm, h => match runW call c tm h with
    | some (.exit id', tm', h') => if id' = id then some (.normal, tm', h') else some (.exit id', tm', h')
    | r => r
  | .loop c, tm, h => iterW (runW call c) tm h
  | .exit id, tm, h => some (.exit id, tm, h)
  | .ret, tm, h => some (.ret, tm, h)
  | .stop, _, _ => none

noncomputable def runFW (call : Rec) (f : CF) (args : List AV) (h : AH) : Option (AV × AH) :=
  match runW call f.body (args ++ List.replicate (f.ntmps - args.length) AV.undef) (h.withLow h.n) with
  | some (.normal, tm, h') | some (.ret, tm, h') => (resAll tm h' f.res).map (settle h h')
  | _ => none

/-- What a call comes to, with fuel enough. -/
noncomputable def acall (orc : Orc) (tbl : Nat → Option CF) : Rec := fun f args h => limO fun n => runO orc tbl n f args h

theorem acall_ex {orc : Orc} {tbl : Nat → Option CF} {f : Nat} {args : List AV} {h : AH} {r : AV × AH} (hr : acall orc tbl f args h = some r) : ∃ n, runO orc tbl n f args h = some r := limO_ex hr
theorem acall_of {orc : Orc} {tbl : Nat → Option CF} {n f : Nat} {args : List AV} {h : AH} {r : AV × AH} (hr : runO orc tbl n f args h = some r) : acall orc tbl f args h = some r :=
  limO_of (fun n r => run_rises orc tbl n f args h r) hr

section
variable (orc : Orc) (tbl : Nat → Option CF)

/-- With some fuel, and all that is more. -/
def Ev {α : Type} (f : Rec → Nat → Option α) (r : α) : Prop := ∃ n, ∀ m, n ≤ m → f (runO orc tbl m) m = some r

theorem ev_effRun {o : CO} {tm : List AV} {h : AH} {r : AV × AH} (hr : effRun (acall orc tbl) o tm h = some r) : Ev orc tbl (fun c _ => effRun c o tm h) r := by
  cases o with
  | call f args =>
    simp only [effRun] at hr
    split at hr
    · rename_i hf
      obtain ⟨n, hn⟩ := acall_ex hr
      exact ⟨n, fun m hm => by simp only [effRun, hf]; exact run_le orc tbl hm _ _ _ _ hn⟩
    · cases hr
  | _ => exact ⟨0, fun _ _ => hr⟩

theorem ev_runOps : ∀ {os : List CR} {tm : List AV} {h : AH} {r : List AV × AH}, runOps (acall orc tbl) os tm h = some r → Ev orc tbl (fun c _ => runOps c os tm h) r
  | [], _, _, _, hr => ⟨0, fun _ _ => hr⟩
  | o :: os, tm, h, r, hr => by
    simp only [runOps] at hr
    split at hr
    · rename_i hw
      obtain ⟨⟨v, h'⟩, h1, h2⟩ := Option.bind_eq_some_iff.1 hr
      obtain ⟨n, hn⟩ := ev_runOps h2
      by_cases hq : o.op.quiet = true
      · refine ⟨n, fun m hm => ?_⟩
        simp only [runOps, if_pos hw]
        have : runOp (runO orc tbl m) o.op tm h = some (v, h') := by simp only [runOp, if_pos hq] at h1 ⊢; exact h1
        rw [this]
        exact hn m hm
      · have h3 : effRun (acall orc tbl) o.op tm h = some (v, h') := by simpa only [runOp, if_neg hq] using h1
        obtain ⟨k, hk⟩ := ev_effRun orc tbl h3
        refine ⟨max n k, fun m hm => ?_⟩
        simp only [runOps, if_pos hw]
        have : runOp (runO orc tbl m) o.op tm h = some (v, h') := by simp only [runOp, if_neg hq]; exact hk m (by omega)
        rw [this]
        exact hn m (by omega)
    · rename_i hw
      obtain ⟨n, hn⟩ := ev_runOps hr
      exact ⟨n, fun m hm => by simp only [runOps, if_neg hw]; exact hn m hm⟩

theorem ev_calm {o : CD} {tm : List AV} {h : AH} {v : AV} (hr : calmRun (acall orc tbl) o tm h = some v) : ∃ n, ∀ m, n ≤ m → calmRun (runO orc tbl m) o tm h = some v := by
  unfold calmRun at hr
  split at hr
  · rename_i hq
    exact ⟨0, fun m _ => by unfold calmRun; rw [if_pos hq]; exact hr⟩
  · rename_i hq
    unfold stillRun at hr
    split at hr
    · rename_i f as ho
      split at hr
      · rename_i v' h' he
        obtain ⟨n, hn⟩ := ev_effRun orc tbl he
        refine ⟨n, fun m hm => ?_⟩
        unfold calmRun stillRun
        rw [if_neg hq]
        simp only [ho]
        rw [← ho, show effRun (runO orc tbl m) o.op tm (h.withLow h.n) = some (v', h') from hn m hm]
        exact hr
      · cases hr
    · cases hr

theorem ev_agrees {o : CD} {tm : List AV} {v : AV} : ∀ {hs : List AH}, hs.all (agrees (acall orc tbl) o tm v) = true → ∃ n, ∀ m, n ≤ m → hs.all (agrees (runO orc tbl m) o tm v) = true
  | [], _ => ⟨0, fun _ _ => rfl⟩
  | h :: hs, hr => by
    rw [List.all_cons, Bool.and_eq_true] at hr
    obtain ⟨u, h1, h2⟩ := agrees_iff.1 hr.1
    obtain ⟨n, hn⟩ := ev_calm orc tbl h1
    obtain ⟨k, hk⟩ := ev_agrees hr.2
    exact ⟨max n k, fun m hm => by rw [List.all_cons, Bool.and_eq_true]; exact ⟨agrees_iff.2 ⟨u, hn m (by omega), h2⟩, hk m (by omega)⟩⟩

theorem ev_steady {hs : List AH} : ∀ {os : List CD} {rs : List (List AV × AV × Bool)}, steady (acall orc tbl) hs os rs = true → ∃ n, ∀ m, n ≤ m → steady (runO orc tbl m) hs os rs = true
  | [], _, _ => ⟨0, fun _ _ => rfl⟩
  | _ :: _, [], _ => ⟨0, fun _ _ => rfl⟩
  | o :: os, (tm, v, wt) :: rs, h => by
    simp only [steady, Bool.and_eq_true, Bool.or_eq_true] at h
    obtain ⟨n, hn⟩ := ev_steady h.2
    rcases h.1 with h1 | h1
    · exact ⟨n, fun m hm => by simp only [steady, Bool.and_eq_true, Bool.or_eq_true]; exact ⟨.inl h1, hn m hm⟩⟩
    · obtain ⟨k, hk⟩ := ev_agrees orc tbl h1
      exact ⟨max n k, fun m hm => by simp only [steady, Bool.and_eq_true, Bool.or_eq_true]; exact ⟨.inr (hk m (by omega)), hn m (by omega)⟩⟩

theorem ev_runT : ∀ {os : List CD} {tm : List AV} {h : AH} {r : List (List AV × AV × Bool) × List AH × List AV}, runT (acall orc tbl) os tm h = some r → Ev orc tbl (fun c _ => runT c os tm h) r
  | [], _, _, _, hr => ⟨0, fun _ _ => hr⟩
  | o :: os, tm, h, r, hr => by
    simp only [runT] at hr
    split at hr
    · rename_i hw
      split at hr
      · rename_i hq
        obtain ⟨v, h1, h2⟩ := Option.bind_eq_some_iff.1 hr
        obtain ⟨x, h3, h4⟩ := Option.map_eq_some_iff.1 h2
        obtain ⟨n, hn⟩ := ev_runT h3
        obtain ⟨k, hk⟩ := ev_calm orc tbl h1
        refine ⟨max n k, fun m hm => ?_⟩
        simp only [runT, if_pos hw, if_pos hq, hk m (by omega), Option.bind_some]
        rw [show runT (runO orc tbl m) os _ h = some x from hn m (by omega)]
        exact congrArg some h4
      · rename_i hq
        obtain ⟨⟨v, h'⟩, h1, h2⟩ := Option.bind_eq_some_iff.1 hr
        obtain ⟨x, h3, h4⟩ := Option.map_eq_some_iff.1 h2
        obtain ⟨n, hn⟩ := ev_runT h3
        obtain ⟨k, hk⟩ := ev_effRun orc tbl h1
        refine ⟨max n k, fun m hm => ?_⟩
        simp only [runT, if_pos hw, if_neg hq]
        rw [show effRun (runO orc tbl m) o.op tm h = some (v, h') from hk m (by omega)]
        simp only [Option.bind_some]
        rw [show runT (runO orc tbl m) os _ h' = some x from hn m (by omega)]
        exact congrArg some h4
    · rename_i hw
      obtain ⟨x, h3, h4⟩ := Option.map_eq_some_iff.1 hr
      obtain ⟨n, hn⟩ := ev_runT h3
      refine ⟨n, fun m hm => ?_⟩
      simp only [runT, if_neg hw]
      rw [show runT (runO orc tbl m) os _ h = some x from hn m hm]
      exact congrArg some h4

theorem ev_runC : ∀ {x : CC} {tm : List AV} {h : AH} {r : St}, runW (acall orc tbl) x tm h = some r → Ev orc tbl (fun c n => runC c n x tm h) r
  | .skip, _, _, _, hr => ⟨0, fun _ _ => hr⟩
  | .region ops, tm, h, r, hr => by
    simp only [runW, Option.map_eq_some_iff] at hr
    obtain ⟨a, h1, h2⟩ := hr
    obtain ⟨n, hn⟩ := ev_runOps orc tbl h1
    exact ⟨n, fun m hm => by simp only [runC, Option.map_eq_some_iff]; exact ⟨a, hn m hm, h2⟩⟩
  | .regionD ops, tm, h, r, hr => by
    simp only [runW, Option.map_eq_some_iff] at hr
    obtain ⟨a, h1, h2⟩ := hr
    unfold runD at h1
    split at h1
    · rename_i hT
      split at h1
      · rename_i hS
        obtain ⟨n, hn⟩ := ev_runT orc tbl hT
        obtain ⟨k, hk⟩ := ev_steady orc tbl hS
        refine ⟨max n k, fun m hm => ?_⟩
        simp only [runC, Option.map_eq_some_iff]
        refine ⟨a, ?_, h2⟩
        unfold runD
        simp only [hn m (by omega), hk m (by omega), if_true]
        exact h1
      · cases h1
    · cases h1
  | .seq a b, tm, h, r, hr => by
    rw [runW] at hr
    split at hr
    · rename_i h1
      obtain ⟨n, hn⟩ := ev_runC h1
      obtain ⟨k, hk⟩ := ev_runC hr
      exact ⟨max n k, fun m hm => by simp only [runC, hn m (by omega)]; exact hk m (by omega)⟩
    · rename_i h1
      obtain ⟨n, hn⟩ := ev_runC hr
      refine ⟨n, fun m hm => ?_⟩
      simp only [runC, hn m hm]
      obtain ⟨e, tm', h'⟩ := r
      cases e with
      | normal => exact absurd hr (h1 _ _)
      | exit id => rfl
      | ret => rfl
  | .cond x a b, tm, h, r, hr => by
    rw [runW] at hr
    split at hr
    · rename_i hx
      obtain ⟨n, hn⟩ := ev_runC hr
      exact ⟨n, fun m hm => by simp only [runC, hx]; exact hn m hm⟩
    · rename_i hx
      obtain ⟨n, hn⟩ := ev_runC hr
      exact ⟨n, fun m hm => by simp only [runC, hx]; exact hn m hm⟩
    · cases hr
  | .block id a, tm, h, r, hr => by
    rw [runW] at hr
    split at hr
    · rename_i h1
      obtain ⟨n, hn⟩ := ev_runC h1
      exact ⟨n, fun m hm => by simp only [runC, hn m hm]; exact hr⟩
    · rename_i h1
      obtain ⟨n, hn⟩ := ev_runC hr
      refine ⟨n, fun m hm => ?_⟩
      simp only [runC, hn m hm]
      obtain ⟨e, tm', h'⟩ := r
      cases e with
      | normal => rfl
      | exit id => exact absurd hr (h1 _ _ _)
      | ret => rfl
  | .loop a, tm, h, r, hr => by
    rw [runW] at hr
    obtain ⟨k, hk⟩ := limO_ex hr
    have go : ∀ (k : Nat) (tm : List AV) (h : AH) (r : St), iter (runW (acall orc tbl) a) k tm h = some r → ∃ n, ∀ m, n ≤ m → iter (runC (runO orc tbl m) m a) k tm h = some r := by
      intro k
      induction k with
      | zero => intro _ _ _ h; cases h
      | succ k ih =>
        intro tm h r hr
        rw [iter] at hr
        split at hr
        · rename_i h1
          obtain ⟨n, hn⟩ := ev_runC h1
          obtain ⟨j, hj⟩ := ih _ _ _ hr
          exact ⟨max n j, fun m hm => by simp only [iter, hn m (by omega)]; exact hj m (by omega)⟩
        · rename_i h1
          obtain ⟨n, hn⟩ := ev_runC hr
          refine ⟨n, fun m hm => ?_⟩
          simp only [iter, hn m hm]
          obtain ⟨e, tm', h'⟩ := r
          cases e with
          | normal => exact absurd hr (h1 _ _)
          | exit id => rfl
          | ret => rfl
    obtain ⟨n, hn⟩ := go k tm h r hk
    exact ⟨max n k, fun m hm => by simp only [runC]; exact iter_le (fun _ _ _ h => h) (show k ≤ m by omega) (hn m (by omega))⟩
  | .exit id, _, _, _, hr => ⟨0, fun _ _ => hr⟩
  | .ret, _, _, _, hr => ⟨0, fun _ _ => hr⟩
  | .stop, _, _, _, hr => by cases hr

/-- A call, by its function's text. -/
theorem acall_intro {orc : Orc} {tbl : Nat → Option CF} {f : Nat} {cf : CF} (hno : orc f = none) (hf : tbl f = some cf) {args : List AV} {h : AH} {r : AV × AH} (hr : runFW (acall orc tbl) cf args h = some r) : acall orc tbl f args h = some r := by
  have : ∃ n, runF (runO orc tbl n) n cf args h = some r := by
    unfold runFW at hr
    split at hr
    · rename_i h1
      obtain ⟨n, hn⟩ := ev_runC orc tbl h1
      have e := hn n (Nat.le_refl n)
      simp only at e
      exact ⟨n, by unfold runF; rw [e]; exact hr⟩
    · rename_i h1
      obtain ⟨n, hn⟩ := ev_runC orc tbl h1
      have e := hn n (Nat.le_refl n)
      simp only at e
      exact ⟨n, by unfold runF; rw [e]; exact hr⟩
    · cases hr
  obtain ⟨n, hn⟩ := this
  exact acall_of (n := n + 1) (by rw [runO, hno]; simp only [hf]; exact hn)
end

/-- A call whose abstract run, without fuel, hands back a bool. -/
theorem calls_acall {P : Program} (hm : P.follows .mixedOrders = true) {orc : Orc} (ho : GoodOrc P orc) {f : Nat} (hb : ((P.funcs[f]?).bind (·.body)).isSome = true) {args : List AV} {h : AH} {x : Bool} {h' : AH} (hr : acall orc (tbl P) f args h = some (.bool x, h')) {ι : Emb} {w : World} {rargs : List Value}
    (r : Rel P.globals.size ι h w) (ha : VRels ι args rargs) (hro : ∀ b c, h.get b = some c → ¬ c.rw) :
    Calls P f rargs.toArray w fun e w' => e = .returned (.bool x) ∧ Below w.heap.size w w' := by
  obtain ⟨n, hn⟩ := acall_ex hr
  exact calls_bool hm ho hb hn r ha hro
end Go.Fs
end

section
/- Rules for what the abstract machine does, without fuel: code, loops, calls. -/
namespace Go.Fs

def WP (call : Rec) (c : CC) (tm : List AV) (h : AH) (Q : AEx → List AV → AH → Prop) : Prop := ∃ e tm' h', runW call c tm h = some (e, tm', h') ∧ Q e tm' h'

section
variable {call : Rec} {tm : List AV} {h : AH} {Q : AEx → List AV → AH → Prop}

theorem WP.mono {c : CC} {R : AEx → List AV → AH → Prop} (hw : WP call c tm h R) (hq : ∀ e tm' h', R e tm' h' → Q e tm' h') : WP call c tm h Q := by
  obtain ⟨e, tm', h', h1, h2⟩ := hw
  exact ⟨e, tm', h', h1, hq _ _ _ h2⟩

theorem WP.skip (hq : Q .normal tm h) : WP call .skip tm h Q := ⟨_, _, _, rfl, hq⟩
theorem WP.exit {id : Nat} (hq : Q (.exit id) tm h) : WP call (.exit id) tm h Q := ⟨_, _, _, rfl, hq⟩
theorem WP.ret (hq : Q .ret tm h) : WP call .ret tm h Q := ⟨_, _, _, rfl, hq⟩

theorem WP.region {ops : List CR} {tm' : List AV} {h' : AH} (hr : runOps call ops tm h = some (tm', h')) (hq : Q .normal tm' h') : WP call (.region ops) tm h Q :=
  ⟨_, _, _, by simp only [runW, hr, Option.map_some], hq⟩

theorem WP.regionD {ops : List CD} {tm' : List AV} {h' : AH} (hr : runD call ops tm h = some (tm', h')) (hq : Q .normal tm' h') : WP call (.regionD ops) tm h Q :=
  ⟨_, _, _, by simp only [runW, hr, Option.map_some], hq⟩

/-- What is asked behind the first part of a sequence. -/
def andThen (call : Rec) (b : CC) (Q : AEx → List AV → AH → Prop) (e : AEx) (tm : List AV) (h : AH) : Prop :=
  match e with
  | .normal => WP call b tm h Q
  | e => Q e tm h

theorem WP.seq {a b : CC} (hw : WP call a tm h (andThen call b Q)) : WP call (.seq a b) tm h Q := by
  obtain ⟨e, tm', h', h1, h2⟩ := hw
  cases e with
  | normal =>
    obtain ⟨e2, tm2, h2', h3, h4⟩ := h2
    exact ⟨e2, tm2, h2', by simp only [runW, h1, h3], h4⟩
  | exit id => exact ⟨_, _, _, by simp only [runW, h1], h2⟩
  | ret => exact ⟨_, _, _, by simp only [runW, h1], h2⟩

theorem WP.cond {c : CA} {x y : CC} {b : Bool} (hc : c.ev tm = .bool b) (hx : b = true → WP call x tm h Q) (hy : b = false → WP call y tm h Q) : WP call (.cond c x y) tm h Q := by
  cases b with
  | true =>
    obtain ⟨e, tm', h', h1, h2⟩ := hx rfl
    exact ⟨e, tm', h', by simp only [runW, hc, h1], h2⟩
  | false =>
    obtain ⟨e, tm', h', h1, h2⟩ := hy rfl
    exact ⟨e, tm', h', by simp only [runW, hc, h1], h2⟩

def inBlock (id : Nat) (Q : AEx → List AV → AH → Prop) (e : AEx) (tm : List AV) (h : AH) : Prop :=
  match e with
  | .exit i => if i = id then Q .normal tm h else Q (.exit i) tm h
  | e => Q e tm h

theorem WP.block {id : Nat} {c : CC} (hw : WP call c tm h (inBlock id Q)) : WP call (.block id c) tm h Q := by
  obtain ⟨e, tm', h', h1, h2⟩ := hw
  cases e with
  | normal => exact ⟨_, _, _, by simp only [runW, h1], h2⟩
  | ret => exact ⟨_, _, _, by simp only [runW, h1], h2⟩
  | exit i =>
    simp only [inBlock] at h2
    by_cases hi : i = id
    · rw [if_pos hi] at h2
      exact ⟨_, _, _, by simp only [runW, h1, hi, if_true], h2⟩
    · rw [if_neg hi] at h2
      exact ⟨_, _, _, by simp only [runW, h1, hi, if_false], h2⟩

def inLoop (I : Nat → List AV → AH → Prop) (n : Nat) (Q : AEx → List AV → AH → Prop) (e : AEx) (tm : List AV) (h : AH) : Prop :=
  match e with
  | .normal => ∃ m, m < n ∧ I m tm h
  | e => Q e tm h

theorem WP.loop {c : CC} (I : Nat → List AV → AH → Prop) (n : Nat) (h0 : I n tm h) (hb : ∀ n tm h, I n tm h → WP call c tm h (inLoop I n Q)) : WP call (.loop c) tm h Q := by
  induction n using Nat.strongRecOn generalizing tm h with
  | _ n ih =>
    obtain ⟨e, tm', h', h1, h2⟩ := hb n tm h h0
    cases e with
    | normal =>
      obtain ⟨m, hm, hI⟩ := h2
      obtain ⟨e2, tm2, h2', h3, h4⟩ := ih m hm hI
      refine ⟨e2, tm2, h2', ?_, h4⟩
      simp only [runW] at h3 ⊢
      rw [iterW_eq, h1]
      exact h3
    | exit id =>
      refine ⟨_, _, _, ?_, h2⟩
      simp only [runW]
      rw [iterW_eq, h1]
    | ret =>
      refine ⟨_, _, _, ?_, h2⟩
      simp only [runW]
      rw [iterW_eq, h1]
end

/-- What is asked behind a function's body: its result, and the heap that is left. -/
def Done (f : CF) (h : AH) (v : AV) (h1 : AH) (e : AEx) (tm : List AV) (h' : AH) : Prop :=
  (e = .normal ∨ e = .ret) ∧ (resAll tm h' f.res).map (settle h h') = some (v, h1)

theorem acall_wp {orc : Orc} {tbl : Nat → Option CF} {f : Nat} {cf : CF} (hno : orc f = none) (hf : tbl f = some cf) {args : List AV} {h : AH} {v : AV} {h1 : AH}
    (hw : WP (acall orc tbl) cf.body (args ++ List.replicate (cf.ntmps - args.length) AV.undef) (h.withLow h.n) (Done cf h v h1)) : acall orc tbl f args h = some (v, h1) := by
  obtain ⟨e, tm', h', h2, h3, h4⟩ := hw
  refine acall_intro hno hf ?_
  unfold runFW
  rw [h2]
  rcases h3 with rfl | rfl <;> exact h4
end Go.Fs
end

section
/- Calls that are handed no places and hand back none: what they come to over an empty heap, they come to over each. -/
namespace Go.Fs

section
variable {P : Program}

theorem under_any {ι ι' : Emb} {v : AV} {rv : Value} (h : VRel ι v rv) (hu : v.under 0 = true) : VRel ι' v rv := by
  have e0 : ∀ j : Emb, (⟨0, j.blk, j.sh, j.size, j.ty⟩ : Emb).le j := fun j => ⟨Nat.zero_le _, fun _ _ => rfl, fun _ _ => rfl, fun _ _ => rfl, fun _ _ => rfl⟩
  have h1 := VRel.back (e0 ι) h hu
  have e1 : (⟨0, ι.blk, ι.sh, ι.size, ι.ty⟩ : Emb).le ι' := ⟨Nat.zero_le _, fun b hb => absurd hb (Nat.not_lt_zero _), fun b hb => absurd hb (Nat.not_lt_zero _), fun b hb => absurd hb (Nat.not_lt_zero _), fun b hb => absurd hb (Nat.not_lt_zero _)⟩
  exact h1.mono e1

theorem unders_any {ι ι' : Emb} {v : List AV} {rv : List Value} (h : VRels ι v rv) (hu : AV.unders 0 v = true) : VRels ι' v rv := by
  have e0 : ∀ j : Emb, (⟨0, j.blk, j.sh, j.size, j.ty⟩ : Emb).le j := fun j => ⟨Nat.zero_le _, fun _ _ => rfl, fun _ _ => rfl, fun _ _ => rfl, fun _ _ => rfl⟩
  have h1 := VRels.back (e0 ι) h hu
  have e1 : (⟨0, ι.blk, ι.sh, ι.size, ι.ty⟩ : Emb).le ι' := ⟨Nat.zero_le _, fun b hb => absurd hb (Nat.not_lt_zero _), fun b hb => absurd hb (Nat.not_lt_zero _), fun b hb => absurd hb (Nat.not_lt_zero _), fun b hb => absurd hb (Nat.not_lt_zero _)⟩
  exact h1.mono e1

theorem Rel.live_lt {G : Nat} {ι : Emb} {h : AH} {w : World} (r : Rel G ι h w) {b : Nat} {c : Blk} (hb : h.get b = some c) (hl : c.live) : ι.blk b < w.heap.size := by
  have := r.brel b c hb
  cases c with
  | cells cs ro => obtain ⟨arr, e, fr, h1, _⟩ := this; exact (Array.getElem?_eq_some_iff.1 h1).1
  | map es => obtain ⟨rs, cl, h1, _⟩ := this; exact (Array.getElem?_eq_some_iff.1 h1).1
  | iter s p => exact (Array.getElem?_eq_some_iff.1 this.1).1
  | typ _ _ => exact hl.elim
  | dead => exact hl.elim

/-- A world in which all that was there is as it was. -/
theorem Rel.later {G : Nat} {ι : Emb} {h : AH} {w w' : World} (r : Rel G ι h w) (hk : ∀ k, k < w.heap.size → w'.heap[k]? = w.heap[k]?) : Rel G ι h w' :=
  ⟨r.n, r.dom, r.gn, r.glob, fun b c hb => (r.brel b c hb).mono (by rw [r.n]; exact r.dom b c hb) ι.le_refl fun hl => hk _ (r.live_lt hb hl), r.sep⟩

theorem Stp.later {ι ι' ι0 : Emb} {h0 h' h : AH} {w w' : World} (s : Stp ι0 ι' h0 h' w w') (hn : ∀ b, h0.get b = none) : Stp ι ι h h w w' :=
  ⟨ι.le_refl, s.os, s.tape, s.output, s.size, fun k hk _ => s.kept k hk fun b c hb => (by rw [hn] at hb; cases hb), fun b c hb hc => .inr ⟨b, c, hb, hc, rfl⟩, Nat.le_refl _, Nat.le_refl _, fun _ _ _ => rfl⟩

theorem good_pure (hm : P.follows .mixedOrders = true) {n f : Nat} (hb : ((P.funcs[f]?).bind (·.body)).isSome = true) {args : List AV} {v : AV} {h0 : AH} (hr : run (tbl P) n f args (start P.globals.size) = some (v, h0)) (ha : AV.unders 0 args = true) (hv : v.under 0 = true) (h : AH) :
    GoodAt P f args h v h := by
  obtain ⟨h1, h2⟩ := (run_good hm (good_noOrc P) n f args _ v h0 hr).body hb
  refine .inl ⟨h1, fun ι w rargs r hargs => ?_⟩
  refine (h2 (emb0 P.globals.size) w rargs (start_rel _ w) (unders_any hargs ha)).mono fun e w' ⟨ι', rv, he, k1, k2, k3⟩ => ?_
  have hkept : ∀ k, k < w.heap.size → w'.heap[k]? = w.heap[k]? := fun k hk => k3.kept k hk fun b c hb => by rw [start_get] at hb; cases hb
  exact ⟨ι, rv, he, under_any k1 hv, r.later hkept, k3.later fun b => start_get _ b⟩

/-- Some functions, run over the empty heap where nothing is handed in or back but plain values. -/
def orcPure (P : Program) (n : Nat) (fs : List Nat) : Orc := fun f =>
  if fs.contains f then some fun args h =>
    if AV.unders 0 args && ((P.funcs[f]?).bind (·.body)).isSome then match run (tbl P) n f args (start P.globals.size) with
      | some (v, _) => if v.under 0 then some (v, h) else none
      | none => none
    else none
  else none

theorem good_orcPure (hm : P.follows .mixedOrders = true) (n : Nat) (fs : List Nat) : GoodOrc P (orcPure P n fs) := by
  intro f s hs args h v h' hr
  unfold orcPure at hs
  split at hs
  · cases hs
    simp only at hr
    split at hr
    · rename_i ha
      rw [Bool.and_eq_true] at ha
      split at hr
      · rename_i v0 h0 hrun
        split at hr
        · rename_i hv
          cases hr
          exact good_pure hm ha.2 hrun ha.1 hv h
        · cases hr
      · cases hr
    · cases hr
  · cases hs

theorem acall_orc {orc : Orc} {tbl : Nat → Option CF} {f : Nat} {s : List AV → AH → Option (AV × AH)} (hs : orc f = some s) {args : List AV} {h : AH} {r : AV × AH} (hr : s args h = some r) : acall orc tbl f args h = some r :=
  acall_of (n := 1) (by rw [runO, hs]; exact hr)

theorem acall_pure {n : Nat} {fs : List Nat} {f : Nat} {args : List AV} {v : AV} {h : AH} (hf : fs.contains f = true) (hb : ((P.funcs[f]?).bind (·.body)).isSome = true) (ha : AV.unders 0 args = true) (hv : v.under 0 = true)
    (hr : (run (tbl P) n f args (start P.globals.size)).map Prod.fst = some v) : acall (orcPure P n fs) (tbl P) f args h = some (v, h) := by
  obtain ⟨⟨v0, h0⟩, h1, h2⟩ := Option.map_eq_some_iff.1 hr
  simp only at h2
  subst h2
  refine acall_orc (s := fun args h => if AV.unders 0 args && ((P.funcs[f]?).bind (·.body)).isSome then match run (tbl P) n f args (start P.globals.size) with
      | some (v, _) => if v.under 0 then some (v, h) else none
      | none => none
    else none) (by unfold orcPure; rw [if_pos hf]) ?_
  simp only [ha, hb, Bool.and_self, if_true, h1, hv]
end
end Go.Fs
end

section
/- The abstract machine step by step, over values that need not be known: each state is first-order, so that simp can walk it. -/
namespace Go.Fs

inductive Fr where
  | seq (c : CC)
  | block (id : Nat)
  /-- The end of a loop's round: what is to hold there. -/
  | inv (J : List AV → AH → Prop)

section
variable (call : Rec) (Q : AEx → List AV → AH → Prop)

/-- What is left to do behind a piece of code. -/
def RetK : List Fr → AEx → List AV → AH → Prop
  | [], e, tm, h => Q e tm h
  | .seq c :: st, .normal, tm, h => WP call c tm h fun e tm h => RetK st e tm h
  | .seq _ :: st, e, tm, h => RetK st e tm h
  | .block id :: st, .exit i, tm, h => if i = id then RetK st .normal tm h else RetK st (.exit i) tm h
  | .block _ :: st, e, tm, h => RetK st e tm h
  | .inv J :: _, .normal, tm, h => J tm h
  | .inv _ :: st, e, tm, h => RetK st e tm h

def CodeK (c : CC) (st : List Fr) (tm : List AV) (h : AH) : Prop := WP call c tm h (RetK call Q st)

def RunK (os : List CR) (st : List Fr) (tm : List AV) (h : AH) : Prop := ∃ tm' h', runOps call os tm h = some (tm', h') ∧ RetK call Q st .normal tm' h'

/-- An operation's yield, and what comes behind it. -/
def ResK (r : Option (AV × AH)) (dst : Option Nat) (os : List CR) (st : List Fr) (tm : List AV) : Prop :=
  ∃ v h', r = some (v, h') ∧ RunK call Q os st (put tm dst v) h'

/-- A guarded operation, by its guard's value. -/
def GuardK (v : AV) (want : Bool) (op : CO) (dst : Option Nat) (os : List CR) (st : List Fr) (tm : List AV) (h : AH) : Prop :=
  if v.same (.bool want) then ResK call Q (runOp call op tm h) dst os st tm else RunK call Q os st (put tm dst AV.undef) h

def CondK (v : AV) (x y : CC) (st : List Fr) (tm : List AV) (h : AH) : Prop :=
  match v with
  | .bool true => CodeK call Q x st tm h
  | .bool false => CodeK call Q y st tm h
  | _ => False
end

section
variable {call : Rec} {Q : AEx → List AV → AH → Prop} {st : List Fr} {tm : List AV} {h : AH}

theorem CodeK.wp {c : CC} (hk : CodeK call Q c [] tm h) : WP call c tm h Q := hk

theorem RetK_nil (e : AEx) : RetK call Q [] e tm h = Q e tm h := rfl
theorem RetK_seq (c : CC) : RetK call Q (.seq c :: st) .normal tm h = CodeK call Q c st tm h := rfl
theorem RetK_seq_exit (c : CC) (i : Nat) : RetK call Q (.seq c :: st) (.exit i) tm h = RetK call Q st (.exit i) tm h := rfl
theorem RetK_seq_ret (c : CC) : RetK call Q (.seq c :: st) .ret tm h = RetK call Q st .ret tm h := rfl
theorem RetK_block (id : Nat) : RetK call Q (.block id :: st) .normal tm h = RetK call Q st .normal tm h := rfl
theorem RetK_block_ret (id : Nat) : RetK call Q (.block id :: st) .ret tm h = RetK call Q st .ret tm h := rfl
theorem RetK_block_exit (id : Nat) : RetK call Q (.block id :: st) (.exit id) tm h = RetK call Q st .normal tm h := by simp [RetK]
theorem RetK_block_exit_ne (id i : Nat) (hn : (i == id) = false) : RetK call Q (.block id :: st) (.exit i) tm h = RetK call Q st (.exit i) tm h := by
  have : ¬ i = id := by simpa using hn
  simp [RetK, this]

theorem RetK_inv (J : List AV → AH → Prop) : RetK call Q (.inv J :: st) .normal tm h = J tm h := rfl
theorem RetK_inv_exit (J : List AV → AH → Prop) (i : Nat) : RetK call Q (.inv J :: st) (.exit i) tm h = RetK call Q st (.exit i) tm h := rfl
theorem RetK_inv_ret (J : List AV → AH → Prop) : RetK call Q (.inv J :: st) .ret tm h = RetK call Q st .ret tm h := rfl

theorem CodeK_skip : CodeK call Q .skip st tm h = RetK call Q st .normal tm h := by
  unfold CodeK WP
  simp only [runW, Option.some.injEq, Prod.mk.injEq]
  exact propext ⟨fun ⟨_, _, _, ⟨h1, h2, h3⟩, h4⟩ => by subst h1 h2 h3; exact h4, fun hk => ⟨_, _, _, ⟨rfl, rfl, rfl⟩, hk⟩⟩
theorem CodeK_ret : CodeK call Q .ret st tm h = RetK call Q st .ret tm h := by
  unfold CodeK WP
  simp only [runW, Option.some.injEq, Prod.mk.injEq]
  exact propext ⟨fun ⟨_, _, _, ⟨h1, h2, h3⟩, h4⟩ => by subst h1 h2 h3; exact h4, fun hk => ⟨_, _, _, ⟨rfl, rfl, rfl⟩, hk⟩⟩
theorem CodeK_exit (i : Nat) : CodeK call Q (.exit i) st tm h = RetK call Q st (.exit i) tm h := by
  unfold CodeK WP
  simp only [runW, Option.some.injEq, Prod.mk.injEq]
  exact propext ⟨fun ⟨_, _, _, ⟨h1, h2, h3⟩, h4⟩ => by subst h1 h2 h3; exact h4, fun hk => ⟨_, _, _, ⟨rfl, rfl, rfl⟩, hk⟩⟩
theorem CodeK_region (os : List CR) : CodeK call Q (.region os) st tm h = RunK call Q os st tm h := by
  unfold CodeK WP RunK
  simp only [runW, Option.map_eq_some_iff, Prod.mk.injEq]
  exact propext ⟨fun ⟨_, _, _, ⟨⟨a, b⟩, h0, h1, h2, h3⟩, h4⟩ => by subst h1 h2 h3; exact ⟨_, _, h0, h4⟩, fun ⟨a, b, h0, hk⟩ => ⟨_, _, _, ⟨(a, b), h0, rfl, rfl, rfl⟩, hk⟩⟩
theorem CodeK_seq (a b : CC) : CodeK call Q (.seq a b) st tm h = CodeK call Q a (.seq b :: st) tm h := by
  unfold CodeK
  refine propext ⟨fun ⟨e, tm', h', h1, h2⟩ => ?_, fun hk => ?_⟩
  · simp only [runW] at h1
    split at h1
    · rename_i tm1 h3 h4
      exact ⟨_, _, _, h4, e, tm', h', h1, h2⟩
    · rename_i hne
      refine ⟨e, tm', h', h1, ?_⟩
      cases e with
      | normal => exact absurd h1 (hne _ _)
      | exit i => exact h2
      | ret => exact h2
  · refine WP.seq (hk.mono fun e tm' h' he => ?_)
    cases e with
    | normal => exact he
    | exit i => exact he
    | ret => exact he
theorem CodeK_cond (c : CA) (x y : CC) : CodeK call Q (.cond c x y) st tm h = CondK call Q (c.ev tm) x y st tm h := by
  unfold CodeK CondK WP
  simp only [runW]
  generalize c.ev tm = v
  cases v <;> first | simp | skip
  rename_i b
  cases b <;> rfl
theorem CodeK_block (id : Nat) (c : CC) : CodeK call Q (.block id c) st tm h = CodeK call Q c (.block id :: st) tm h := by
  unfold CodeK
  refine propext ⟨fun ⟨e, tm', h', h1, h2⟩ => ?_, fun hk => ?_⟩
  · simp only [runW] at h1
    split at h1
    · rename_i i tm1 h3 h4
      split at h1
      · rename_i hi
        cases h1
        exact ⟨_, _, _, h4, by simp only [RetK, hi, if_true]; exact h2⟩
      · rename_i hi
        cases h1
        exact ⟨_, _, _, h4, by simp only [RetK, hi, if_false]; exact h2⟩
    · rename_i hne
      refine ⟨e, tm', h', h1, ?_⟩
      cases e with
      | normal => exact h2
      | exit i => exact absurd h1 (hne _ _ _)
      | ret => exact h2
  · refine WP.block (hk.mono fun e tm' h' he => ?_)
    cases e with
    | normal => exact he
    | exit i => exact he
    | ret => exact he

/-- Of the heap no more is kept than is told. -/
theorem CodeK_heap {c : CC} (R : AH → Prop) (hR : R h) (hk : ∀ h', R h' → CodeK call Q c st tm h') : CodeK call Q c st tm h := hk h hR

/-- A loop, by what holds at the beginning of each round; n falls. -/
theorem CodeK_loop {c : CC} (I : Nat → List AV → AH → Prop) (n : Nat) (h0 : I n tm h) (hb : ∀ n tm h, I n tm h → CodeK call Q c (.inv (fun tm' h' => ∃ m, m < n ∧ I m tm' h') :: st) tm h) : CodeK call Q (.loop c) st tm h := by
  refine WP.loop I n h0 fun n tm h hI => (hb n tm h hI).mono fun e tm' h' he => ?_
  cases e with
  | normal => exact he
  | exit i => exact he
  | ret => exact he

theorem tmset_self {l : List AV} {i : Nat} {a : AV} (h : i < l.length) : (l.set i a).getD i AV.undef = a := by
  simp [List.getD_eq_getElem?_getD, h]
theorem tmset_ne {l : List AV} {i j : Nat} {a : AV} (h : (i == j) = false) : (l.set i a).getD j AV.undef = l.getD j AV.undef := by
  have : i ≠ j := by simpa using h
  simp [List.getD_eq_getElem?_getD, List.getElem?_set_ne this]

theorem CondK_true (x y : CC) : CondK call Q (.bool true) x y st tm h = CodeK call Q x st tm h := rfl
theorem CondK_false (x y : CC) : CondK call Q (.bool false) x y st tm h = CodeK call Q y st tm h := rfl
theorem CondK_split {b : Bool} {x y : CC} (h1 : b = true → CodeK call Q x st tm h) (h2 : b = false → CodeK call Q y st tm h) : CondK call Q (.bool b) x y st tm h := by
  cases b with
  | true => exact h1 rfl
  | false => exact h2 rfl

theorem RunK_nil : RunK call Q [] st tm h = RetK call Q st .normal tm h := by
  unfold RunK
  simp only [runOps, Option.some.injEq, Prod.mk.injEq]
  exact propext ⟨fun ⟨_, _, ⟨h1, h2⟩, h4⟩ => by subst h1 h2; exact h4, fun hk => ⟨_, _, ⟨rfl, rfl⟩, hk⟩⟩
theorem RunK_cons (dst : Option Nat) (op : CO) (os : List CR) : RunK call Q (⟨dst, op, none⟩ :: os) st tm h = ResK call Q (runOp call op tm h) dst os st tm := by
  unfold RunK ResK
  simp only [runOps, CR.wanted, if_true, Option.bind_eq_some_iff]
  refine propext ⟨fun ⟨a, b, ⟨⟨v, h'⟩, h1, h2⟩, h3⟩ => ⟨v, h', h1, a, b, h2, h3⟩, fun ⟨v, h', h1, a, b, h2, h3⟩ => ⟨a, b, ⟨⟨v, h'⟩, h1, h2⟩, h3⟩⟩
theorem RunK_guard (dst : Option Nat) (op : CO) (j : Nat) (want : Bool) (os : List CR) : RunK call Q (⟨dst, op, some (j, want)⟩ :: os) st tm h = GuardK call Q (tm.getD j AV.undef) want op dst os st tm h := by
  have hw : (CR.mk dst op (some (j, want))).wanted tm = (tm.getD j AV.undef).same (.bool want) := by
    unfold CR.wanted
    simp only
    generalize tm.getD j AV.undef = v
    cases v <;> simp [AV.same]
  unfold RunK GuardK
  simp only [runOps, hw]
  split
  · unfold ResK RunK
    simp only [Option.bind_eq_some_iff]
    refine propext ⟨fun ⟨a, b, ⟨⟨v, h'⟩, h1, h2⟩, h3⟩ => ⟨v, h', h1, a, b, h2, h3⟩, fun ⟨v, h', h1, a, b, h2, h3⟩ => ⟨a, b, ⟨⟨v, h'⟩, h1, h2⟩, h3⟩⟩
  · rfl
theorem ResK_some (v : AV) (h' : AH) (dst : Option Nat) (os : List CR) : ResK call Q (some (v, h')) dst os st tm = RunK call Q os st (put tm dst v) h' := by
  unfold ResK
  simp only [Option.some.injEq, Prod.mk.injEq]
  exact propext ⟨fun ⟨_, _, ⟨h1, h2⟩, h4⟩ => by subst h1 h2; exact h4, fun hk => ⟨_, _, ⟨rfl, rfl⟩, hk⟩⟩

/-- A call of which some facts are told. -/
theorem ResK_ex {r : Option (AV × AH)} {dst : Option Nat} {os : List CR} {R : AV → AH → Prop} (hr : ∃ v h', r = some (v, h') ∧ R v h') (hk : ∀ v h', R v h' → RunK call Q os st (put tm dst v) h') : ResK call Q r dst os st tm := by
  obtain ⟨v, h', h1, h2⟩ := hr
  exact ⟨v, h', h1, hk v h' h2⟩

theorem GuardK_tt (op : CO) (dst : Option Nat) (os : List CR) : GuardK call Q (.bool true) true op dst os st tm h = ResK call Q (runOp call op tm h) dst os st tm := rfl
theorem GuardK_ff (op : CO) (dst : Option Nat) (os : List CR) : GuardK call Q (.bool false) false op dst os st tm h = ResK call Q (runOp call op tm h) dst os st tm := rfl
theorem GuardK_tf (op : CO) (dst : Option Nat) (os : List CR) : GuardK call Q (.bool true) false op dst os st tm h = RunK call Q os st (put tm dst AV.undef) h := rfl
theorem GuardK_ft (op : CO) (dst : Option Nat) (os : List CR) : GuardK call Q (.bool false) true op dst os st tm h = RunK call Q os st (put tm dst AV.undef) h := rfl
theorem GuardK_u (want : Bool) (op : CO) (dst : Option Nat) (os : List CR) : GuardK call Q AV.undef want op dst os st tm h = RunK call Q os st (put tm dst AV.undef) h := rfl
theorem GuardK_split {b want : Bool} {op : CO} {dst : Option Nat} {os : List CR} (h1 : b = true → GuardK call Q (.bool true) want op dst os st tm h) (h2 : b = false → GuardK call Q (.bool false) want op dst os st tm h) :
    GuardK call Q (.bool b) want op dst os st tm h := by
  cases b with
  | true => exact h1 rfl
  | false => exact h2 rfl
end

/-! ### Operations -/

def ptrV (v : AV) (f : Nat → Nat → Option (AV × AH)) : Option (AV × AH) :=
  match v with
  | .ptr (some (b, o)) => f b o
  | _ => none

section
variable {call : Rec} {tm : List AV} {h : AH}
theorem op_mv (x : CA) : runOp call (.mv x) tm h = some (x.ev tm, h) := rfl
theorem op_un (op : UnOp) (x : CA) : runOp call (.un op x) tm h = (aun op (x.ev tm)).map fun v => (v, h) := rfl
theorem op_bin (op : BinOp) (e : EqT) (x y : CA) : runOp call (.bin op e x y) tm h = (abin op e (x.ev tm) (y.ev tm)).map fun v => (v, h) := rfl
/-- A load, an address, by the pointer's value. -/
def loadV (v : AV) (h : AH) (g : Option Nat) : Option (AV × AH) :=
  match v with
  | .ptr (some (b, o)) => (readVar h b o g).map fun v => (v, h)
  | _ => none
theorem loadV_ptr (b o : Nat) (g : Option Nat) : loadV (.ptr (some (b, o))) h g = (readVar h b o g).map fun v => (v, h) := rfl
theorem op_load (g : Option Nat) (x : CA) : runOp call (.load g x) tm h = loadV (x.ev tm) h g := by
  simp only [runOp, CO.quiet, quietRun, if_true, loadV]
  generalize x.ev tm = v
  cases v <;> first | rfl | skip
  rename_i a
  cases a <;> rfl
def faddrV (v : AV) (h : AH) (off : Nat) : Option (AV × AH) :=
  match v with
  | .ptr (some (b, o)) => some (.ptr (some (b, o + off)), h)
  | _ => none
theorem faddrV_ptr (b o off : Nat) : faddrV (.ptr (some (b, o))) h off = some (.ptr (some (b, o + off)), h) := rfl
theorem op_faddr (off : Nat) (x : CA) : runOp call (.faddr off x) tm h = faddrV (x.ev tm) h off := by
  simp only [runOp, CO.quiet, quietRun, if_true, faddrV]
  generalize x.ev tm = v
  cases v <;> first | rfl | skip
  rename_i a
  cases a <;> rfl
/-- A choice, by its condition's value. -/
def pickV (c : AV) (x y : AV) (h : AH) : Option (AV × AH) :=
  match c with
  | .bool true => some (x, h)
  | .bool false => some (y, h)
  | _ => none
theorem pickV_true (x y : AV) : pickV (.bool true) x y h = some (x, h) := rfl
theorem pickV_false (x y : AV) : pickV (.bool false) x y h = some (y, h) := rfl
theorem pickV_bool (c a b : Bool) : pickV (.bool c) (.bool a) (.bool b) h = some (.bool (bif c then a else b), h) := by cases c <;> rfl
theorem pickV_same (c : Bool) (a : AV) : pickV (.bool c) a a h = some (a, h) := by cases c <;> rfl
theorem op_pick (c x y : CA) : runOp call (.pick c x y) tm h = pickV (c.ev tm) (x.ev tm) (y.ev tm) h := by
  simp only [runOp, CO.quiet, quietRun, if_true, pickV]
  generalize c.ev tm = v
  cases v <;> first | rfl | skip
  rename_i b
  cases b <;> rfl
def boxV (v : AV) (h : AH) : Option (AV × AH) := if v.cells.all AV.one then some (.ptr (some (h.n, 0)), h.push (.cells v.cells false)) else none
theorem op_box (x : CA) : runOp call (.box x) tm h = boxV (x.ev tm) h := rfl
theorem boxV_agg (cs : List AV) (hc : cs.all AV.one = true) : boxV (.agg cs) h = some (.ptr (some (h.n, 0)), h.push (.cells cs false)) := by
  unfold boxV; exact if_pos hc
theorem boxV_one (v : AV) (hc : v.cells = [v]) (h1 : v.one = true) : boxV v h = some (.ptr (some (h.n, 0)), h.push (.cells [v] false)) := by
  unfold boxV; rw [hc]; simp [h1]
theorem op_call (f : Nat) (args : List CA) : runOp call (.call (.f f) args) tm h = call f (args.map (CA.ev tm)) h := by
  simp only [runOp, CO.quiet, effRun, CA.ev, Bool.false_eq_true, if_false, List.nil_append, List.append_nil]
theorem op_build (z : List AV) (ps : List (Nat × Nat × CA)) : runOp call (.build z ps) tm h = (fillA tm z ps).map fun cs => (.agg cs, h) := by
  simp only [runOp, CO.quiet, quietRun, if_true, Option.map_map]
  rfl
def lenV (v : AV) (h : AH) : Option (AV × AH) :=
  match v with
  | .slice _ n _ => some (.int .i64 n, h)
  | _ => none
theorem lenV_slice (a : Option (Nat × Nat)) (n : Nat) (c : Cap) : lenV (.slice a n c) h = some (.int .i64 n, h) := rfl
theorem op_lenV (x : CA) : runOp call (.lenV x) tm h = lenV (x.ev tm) h := by
  simp only [runOp, CO.quiet, quietRun, if_true, lenV]
  generalize x.ev tm = v
  cases v <;> rfl
def lenSV (v : AV) (h : AH) : Option (AV × AH) :=
  match v with
  | .str s => some (.int .i64 s.length, h)
  | _ => none
theorem lenSV_str (s : List UInt8) : lenSV (.str s) h = some (.int .i64 s.length, h) := rfl
theorem op_lenS (x : CA) : runOp call (.lenS x) tm h = lenSV (x.ev tm) h := by
  simp only [runOp, CO.quiet, quietRun, if_true, lenSV]
  generalize x.ev tm = v
  cases v <;> rfl
def toIntV (k : IntKind) (v : AV) (h : AH) : Option (AV × AH) :=
  match v with
  | .int _ n => some (.int k (k.wrap n), h)
  | _ => none
theorem toIntV_int (k k' : IntKind) (n : Int) : toIntV k (.int k' n) h = some (.int k (k.wrap n), h) := rfl
theorem op_toInt (k : IntKind) (x : CA) : runOp call (.toInt k x) tm h = toIntV k (x.ev tm) h := by
  simp only [runOp, CO.quiet, quietRun, if_true, toIntV]
  generalize x.ev tm = v
  cases v <;> rfl
/-- An element's address. -/
def iaddrV (esz : Nat) (v i : AV) (h : AH) : Option (AV × AH) :=
  match v, i with
  | .slice (some (b, o)) len _, .int _ n => if 0 ≤ n ∧ n < len then some (.ptr (some (b, o + n.toNat * esz)), h) else none
  | _, _ => none
theorem iaddrV_at {esz b o len : Nat} {c : Cap} {k : IntKind} {n : Int} (h0 : 0 ≤ n) (h1 : n < len) : iaddrV esz (.slice (some (b, o)) len c) (.int k n) h = some (.ptr (some (b, o + n.toNat * esz)), h) := by
  unfold iaddrV; exact if_pos ⟨h0, h1⟩
theorem iaddrV_nat {esz b o len i : Nat} {c : Cap} {k : IntKind} (h1 : i < len) : iaddrV esz (.slice (some (b, o)) len c) (.int k (i : Int)) h = some (.ptr (some (b, o + i * esz)), h) :=
  iaddrV_at (by omega) (by omega)
theorem op_iaddrS (esz : Nat) (x i : CA) : runOp call (.iaddrS esz x i) tm h = iaddrV esz (x.ev tm) (i.ev tm) h := by
  simp only [runOp, CO.quiet, quietRun, if_true, iaddrV]
  generalize x.ev tm = v
  generalize i.ev tm = u
  cases v <;> first | rfl | skip
  rename_i a _ _
  cases a <;> first | rfl | skip
  cases u <;> first | rfl | skip
  simp only
  split <;> rfl
theorem iaddrV_esz {esz b o len i : Nat} {c : Cap} {k : IntKind} (h1 : i < len) : iaddrV esz (.slice (some (b, o)) len c) (.int k (i : Int)) h = some (.ptr (some (b, o + i * esz)), h) := iaddrV_nat h1
/-- A call of a function value. -/
def callV (call : Rec) (f : AV) (args : List AV) (h : AH) : Option (AV × AH) :=
  match f with
  | .func (.func g) first captured => call g (first ++ args ++ captured) h
  | _ => none
theorem callV_fn (g : Nat) (args : List AV) : callV call (.func (.func g) [] []) args h = call g args h := by simp [callV]
theorem op_callV (t : Nat) (args : List CA) : runOp call (.call (.t t) args) tm h = callV call (tm.getD t AV.undef) (args.map (CA.ev tm)) h := by
  simp only [runOp, CO.quiet, effRun, CA.ev, Bool.false_eq_true, if_false, callV]
  generalize tm.getD t AV.undef = v
  cases v <;> rfl
theorem op_append (esz bytes : Nat) (s x : CA) : runOp call (.append esz bytes s x) tm h = appendRun esz bytes (s.ev tm) (x.ev tm) h := rfl
def mkSV (bytes : Nat) (zero : List AV) (l c : AV) (h : AH) : Option (AV × AH) :=
  match l, c with
  | .int _ l, .int _ c => if 0 ≤ l ∧ l ≤ c ∧ bytes * c ≤ 281474976710656 ∧ c ≤ 1152921504606846976 then some (.slice (some (h.n, 0)) l.toNat (.exact c.toNat), h.push (.cells (reps zero c.toNat) false)) else none
  | _, _ => none
theorem op_mkS (bytes esz : Nat) (zero : List AV) (l c : CA) : runOp call (.mkS bytes esz zero l c) tm h = mkSV bytes zero (l.ev tm) (c.ev tm) h := by
  simp only [runOp, CO.quiet, Bool.false_eq_true, if_false, effRun, mkSV]
  generalize l.ev tm = v
  generalize c.ev tm = u
  cases v <;> first | rfl | (cases u <;> rfl)
theorem mkSV_at {bytes : Nat} {zero : List AV} {k k' : IntKind} {l c : Nat} (h1 : l ≤ c) (h2 : bytes * c ≤ 281474976710656) (h3 : c ≤ 1152921504606846976) :
    mkSV bytes zero (.int k (l : Int)) (.int k' (c : Int)) h = some (.slice (some (h.n, 0)) l (.exact c), h.push (.cells (reps zero c) false)) := by
  unfold mkSV
  simp only
  have h4 : ((bytes * c : Nat) : Int) ≤ 281474976710656 := by omega
  rw [Int.natCast_mul] at h4
  rw [if_pos ⟨by omega, by omega, h4, by omega⟩, Int.toNat_natCast, Int.toNat_natCast]
theorem op_litS (esz len : Nat) (zero : List AV) (ps : List (Nat × Nat × CA)) : runOp call (.litS esz len zero ps) tm h =
    (match fillA tm (reps zero len) ps with | some cs => if cs.all AV.one then some (.slice (some (h.n, 0)) len (.exact len), h.push (.cells cs false)) else none | none => none) := rfl
/-- A slice expression without a third bound. -/
def slcVV (tm : List AV) (esz : Nat) (v : AV) (lo hi mx : Option CA) (h : AH) : Option (AV × AH) := (quietRun (.slcV esz (.c v) lo hi mx) tm h).map fun v => (v, h)
theorem op_slcV (esz : Nat) (x : CA) (lo hi mx : Option CA) : runOp call (.slcV esz x lo hi mx) tm h = slcVV tm esz (x.ev tm) lo hi mx h := rfl
theorem slcVV_hi {esz b o n k : Nat} {kd : IntKind} {c : Nat} {tm : List AV} {i : Nat} (hi : tm.getD i AV.undef = .int kd (k : Int)) (h1 : k ≤ c) (h2 : 0 < c) :
    slcVV tm esz (.slice (some (b, o)) n (.exact c)) none (some (.t i)) none h = some (.slice (some (b, o)) k (.exact c), h) := by
  have hb : bounds3 tm n c none (some (.t i)) none = some (0, k, c) := by
    unfold bounds3
    simp only [optBound, Option.bind_some, highOf, CA.ev, hi, bound]
    rw [if_pos ⟨by omega, by omega⟩]
    simp
  unfold slcVV
  simp only [quietRun, CA.ev, hb, Option.map_some]
  have : ¬ c = 0 := by omega
  simp [this]
theorem op_ext (i : Nat) (x : CA) : runOp call (.ext i x) tm h = (match x.ev tm with | .tuple vs => vs[i]? | _ => none).map fun v => (v, h) := rfl
def storeV (n : Nat) (a v : AV) (h : AH) : Option (AV × AH) :=
  match a with
  | .ptr (some (b, o)) => if v.cells.length = n then (writeCells h b o v.cells).map fun h' => (AV.undef, h') else none
  | _ => none
theorem storeV_ptr (n b o : Nat) (v : AV) : storeV n (.ptr (some (b, o))) v h = if v.cells.length = n then (writeCells h b o v.cells).map fun h' => (AV.undef, h') else none := rfl
theorem op_store (n : Nat) (a x : CA) : runOp call (.store n a x) tm h = storeV n (a.ev tm) (x.ev tm) h := by
  simp only [runOp, CO.quiet, Bool.false_eq_true, if_false, effRun, storeV]
  generalize a.ev tm = v
  cases v <;> rfl
theorem op_alloc (z : List AV) : runOp call (.alloc z) tm h = some (.ptr (some (h.n, 0)), h.push (.cells z false)) := rfl
end

/-- One leaf of two aggregates that are held against each other. -/
def leafK (q : SK) (x y : Option AV) (r : Option Bool) : Option Bool :=
  match x, y with
  | some x, some y => match scalEq q x y with
    | some true => r
    | some false => some false
    | none => none
  | _, _ => none
theorem aeqK_agg (sz : Nat) (ls : List (Nat × SK)) (xs ys : List AV) : aeq (.agg sz ls) (.agg xs) (.agg ys) = if xs.length = sz ∧ ys.length = sz then leavesEq xs ys ls else none := rfl
theorem aeqK_scal (a b : Bool) : aeq .scal (.bool a) (.bool b) = some (a == b) := rfl
theorem leavesK_nil (xs ys : List AV) : leavesEq xs ys [] = some true := rfl
theorem leavesK_cons (xs ys : List AV) (i : Nat) (q : SK) (is : List (Nat × SK)) : leavesEq xs ys ((i, q) :: is) = leafK q xs[i]? ys[i]? (leavesEq xs ys is) := by
  simp only [leavesEq, leafK]
  cases xs[i]? <;> cases ys[i]? <;> rfl
theorem leafK_i (k : IntKind) (a b : Int) (r : Bool) : leafK .i (some (.int k a)) (some (.int k b)) (some r) = some (a == b && r) := by
  simp only [leafK, scalEq, if_true]
  cases a == b <;> rfl
theorem leafK_b (a b r : Bool) : leafK .b (some (.bool a)) (some (.bool b)) (some r) = some (a == b && r) := by
  simp only [leafK, scalEq]
  cases a == b <;> rfl
theorem leafK_s (a b : List UInt8) (r : Bool) : leafK .s (some (.str a)) (some (.str b)) (some r) = some (decide (a = b) && r) := by
  simp only [leafK, scalEq]
  cases decide (a = b) <;> rfl

theorem settle_keep {h h' : AH} {v : AV} (hl : h.n ≤ h'.low) (hv : v.under h.n = true) : Fs.settle h h' v = (v, h) := by
  unfold Fs.settle; rw [if_pos ⟨hl, hv⟩]

theorem settle_new {h h' : AH} {v : AV} (hv : v.under h.n = false) : Fs.settle h h' v = (v, h'.withLow (min h.low h'.low)) := by
  unfold Fs.settle; rw [if_neg (by simp [hv])]

/-! ### Regions whose order is open -/

/-- What an operation that reads looks at, with its operands' values in place. -/
def closeOp (tm : List AV) : CO → CO
  | .load g x => .load g (.c (x.ev tm))
  | .lookup q z ok m k => .lookup q z ok (.c (m.ev tm)) (.c (k.ev tm))
  | .b2s x => .b2s (.c (x.ev tm))
  | .lenM x => .lenM (.c (x.ev tm))
  | .toUns x => .toUns (.c (x.ev tm))
  | .fromUns t n x => .fromUns t n (.c (x.ev tm))
  | o => o

theorem closeOp_run {o : CO} (hr : o.reads = true) (tm : List AV) (h : AH) : quietRun (closeOp tm o) [] h = quietRun o tm h := by
  cases o <;> first | rfl | (simp [CO.reads] at hr)

/-- Reads that are to read the same in some of the heaps: from which on, up to which. -/
def KeptOne : List AH → CO → AV → Prop
  | [], _, _ => True
  | h :: hs, c, v => quietRun c [] h = some v ∧ KeptOne hs c v
def Kept (hs : List AH) : List (Nat × Nat × CO × AV) → Prop
  | [] => True
  | (lo, hi, c, v) :: pr => KeptOne ((hs.drop lo).take (hi + 1 - lo)) c v ∧ Kept hs pr

theorem calm_quiet {call : Rec} {o : CD} (hs : o.still = false) (hc : o.calm = true) (tm : List AV) (h : AH) : calmRun call o tm h = quietRun o.op tm h := by
  unfold calmRun
  rw [if_pos (by simpa [CD.calm, hs] using hc)]

theorem keptOne_all {call : Rec} {o : CD} (hs : o.still = false) (hc : o.calm = true) (hr : o.op.reads = true) {tm : List AV} {v : AV} : ∀ {hs : List AH}, KeptOne hs (closeOp tm o.op) v → hs.all (agrees call o tm v) = true
  | [], _ => rfl
  | h :: hs', ⟨h1, h2⟩ => by
    rw [List.all_cons, keptOne_all hs hc hr h2, Bool.and_true]
    rw [closeOp_run hr] at h1
    unfold agrees
    rw [calm_quiet hs hc, h1]
    exact AV.same_refl v

theorem kept_append {hs : List AH} {b : List (Nat × Nat × CO × AV)} : ∀ (a : List (Nat × Nat × CO × AV)), Kept hs (a ++ b) → Kept hs a ∧ Kept hs b
  | [], h => ⟨trivial, h⟩
  | (_, _, _, _) :: a, ⟨h1, h2⟩ => ⟨⟨h1, (kept_append a h2).1⟩, (kept_append a h2).2⟩

section
variable (call : Rec) (Q : AEx → List AV → AH → Prop) (st : List Fr)

def DrawK : List CD → List (Nat × Nat × CO × AV) → List AH → List AV → AH → Prop
  | [], pr, hs, tm, h => Kept (hs ++ [h]) pr ∧ RetK call Q st .normal tm h
  | o :: os, pr, hs, tm, h => o.still = false ∧
    if o.wanted tm then ∃ v h', runOp call o.op tm h = some (v, h') ∧ DrawK os (if o.op.reads then pr ++ [(o.lo, o.hi, closeOp tm o.op, v)] else pr) (if o.op.quiet then hs else hs ++ [h]) (put tm o.dst v) h'
    else DrawK os pr (if o.op.quiet then hs else hs ++ [h]) (put tm o.dst AV.undef) h

def DResK (r : Option (AV × AH)) (o : CD) (os : List CD) (pr : List (Nat × Nat × CO × AV)) (hs : List AH) (tm : List AV) (h : AH) : Prop :=
  ∃ v h', r = some (v, h') ∧ DrawK call Q st os (if o.op.reads then pr ++ [(o.lo, o.hi, closeOp tm o.op, v)] else pr) (if o.op.quiet then hs else hs ++ [h]) (put tm o.dst v) h'

def DGuardK (g : AV) (want : Bool) (o : CD) (os : List CD) (pr : List (Nat × Nat × CO × AV)) (hs : List AH) (tm : List AV) (h : AH) : Prop :=
  if g.same (.bool want) then DResK call Q st (runOp call o.op tm h) o os pr hs tm h
  else DrawK call Q st os pr (if o.op.quiet then hs else hs ++ [h]) (put tm o.dst AV.undef) h
end

section
variable {call : Rec} {Q : AEx → List AV → AH → Prop} {st : List Fr} {tm : List AV} {h : AH} {os : List CD} {pr : List (Nat × Nat × CO × AV)} {hs : List AH}

theorem runT_of : ∀ (os : List CD) (pr : List (Nat × Nat × CO × AV)) (hs : List AH) (tm : List AV) (h : AH), DrawK call Q st os pr hs tm h →
    ∃ rs' hs' tm' h', runT call os tm h = some (rs', hs', tm') ∧ hs'.getLast? = some h' ∧ RetK call Q st .normal tm' h' ∧ Kept (hs ++ hs') pr ∧ steady call (hs ++ hs') os rs' = true
  | [], pr, hs, tm, h, ⟨h1, h2⟩ => ⟨[], [h], tm, h, rfl, rfl, h2, h1, rfl⟩
  | o :: os, pr, hs, tm, h, hk => by
    have hcat : ∀ (b : Bool) (hs' : List AH), (if b then hs else hs ++ [h]) ++ hs' = hs ++ (if b then hs' else h :: hs') := fun b hs' => by cases b <;> simp
    have hlast : ∀ (b : Bool) (hs' : List AH) (h' : AH), hs'.getLast? = some h' → (if b then hs' else h :: hs').getLast? = some h' := fun b hs' h' hl => by
      cases b with
      | true => exact hl
      | false =>
        cases hs' with
        | nil => cases hl
        | cons a l => simpa using hl
    unfold DrawK at hk
    obtain ⟨hst, hk⟩ := hk
    have hcalm : o.calm = o.op.quiet := by simp [CD.calm, hst]
    have hlk : o.looksIn = o.op.reads := by simp [CD.looksIn, hst]
    split at hk
    · rename_i hw
      obtain ⟨v, h1, hrun, hk⟩ := hk
      obtain ⟨rs', hs', tm', h', g1, g2, g3, g4, g5⟩ := runT_of os _ _ _ _ hk
      rw [hcat] at g4 g5
      by_cases hq : o.op.quiet = true
      · have hrun' : ∃ u, quietRun o.op tm h = some u ∧ (u, h) = (v, h1) := by
          unfold runOp at hrun
          rw [if_pos hq] at hrun
          exact Option.map_eq_some_iff.1 hrun
        obtain ⟨u, hu, he⟩ := hrun'
        cases he
        have hc : o.calm = true := hcalm.trans hq
        simp only [hq, if_true] at g4 g5
        have hT : runT call (o :: os) tm h = some ((tm, v, true) :: rs', hs', tm') := by
          simp only [runT, hw, if_true, hc, calm_quiet hst hc, hu, Option.bind_some, g1, Option.map_some]
        by_cases hrd : o.op.reads = true
        · rw [if_pos hrd] at g4
          obtain ⟨k1, k2, _⟩ := kept_append _ g4
          refine ⟨_, hs', tm', h', hT, g2, g3, k1, ?_⟩
          simp only [steady, hc, hlk, hrd, Bool.and_self, Bool.not_true, Bool.false_or, Bool.and_eq_true, g5, and_true]
          exact keptOne_all hst hc hrd k2
        · rw [if_neg hrd] at g4
          refine ⟨_, hs', tm', h', hT, g2, g3, g4, ?_⟩
          simp only [steady, hlk, hrd, Bool.and_false, Bool.not_false, Bool.true_or, Bool.true_and, g5]
      · have hrd : o.op.reads = false := by
          cases ho : o.op <;> rw [ho] at hq <;> first | rfl | (exact absurd rfl hq)
        have hrun' : effRun call o.op tm h = some (v, h1) := by
          unfold runOp at hrun
          rwa [if_neg hq] at hrun
        have hc : ¬ o.calm = true := by rw [hcalm]; exact hq
        simp only [hq, hrd, Bool.false_eq_true, if_false] at g4 g5
        refine ⟨(tm, v, true) :: rs', h :: hs', tm', h', ?_, ?_, g3, g4, ?_⟩
        · simp only [runT, hw, if_true, hc, Bool.false_eq_true, if_false, hrun', Option.bind_some, g1, Option.map_some]
        · exact hlast false hs' h' g2
        · simp only [steady, hlk, hrd, Bool.and_false, Bool.not_false, Bool.true_or, Bool.true_and, g5]
    · rename_i hw
      obtain ⟨rs', hs', tm', h', g1, g2, g3, g4, g5⟩ := runT_of os _ _ _ _ hk
      rw [hcat] at g4 g5
      refine ⟨(tm, AV.undef, false) :: rs', if o.op.quiet then hs' else h :: hs', tm', h', ?_, hlast _ hs' h' g2, g3, g4, ?_⟩
      · simp only [runT, hw, Bool.false_eq_true, if_false, g1, Option.map_some, hcalm]
      · simp only [steady, Bool.false_and, Bool.not_false, Bool.true_or, Bool.true_and, g5]

theorem CodeK_regionD (os : List CD) (hk : DrawK call Q st os [] [] tm h) : CodeK call Q (.regionD os) st tm h := by
  obtain ⟨rs', hs', tm', h', g1, g2, g3, _, g5⟩ := runT_of os [] [] tm h hk
  refine WP.regionD (tm' := tm') (h' := h') ?_ g3
  unfold runD
  simp only [List.nil_append] at g5
  simp only [g1, g5, if_true]
  rw [List.getLastD_eq_getLast?, g2]
  rfl

theorem DrawK_nil : DrawK call Q st [] pr hs tm h = (Kept (hs ++ [h]) pr ∧ RetK call Q st .normal tm h) := rfl
theorem DrawK_cons (dst : Option Nat) (op : CO) (lo hi : Nat) : DrawK call Q st (⟨⟨dst, op, none⟩, lo, hi, false⟩ :: os) pr hs tm h = DResK call Q st (runOp call op tm h) ⟨⟨dst, op, none⟩, lo, hi, false⟩ os pr hs tm h :=
  propext ⟨fun hk => hk.2, fun hk => ⟨rfl, hk⟩⟩
theorem DrawK_guard (dst : Option Nat) (op : CO) (j : Nat) (want : Bool) (lo hi : Nat) : DrawK call Q st (⟨⟨dst, op, some (j, want)⟩, lo, hi, false⟩ :: os) pr hs tm h = DGuardK call Q st (tm.getD j AV.undef) want ⟨⟨dst, op, some (j, want)⟩, lo, hi, false⟩ os pr hs tm h := by
  have hw : (CR.mk dst op (some (j, want))).wanted tm = (tm.getD j AV.undef).same (.bool want) := by
    unfold CR.wanted
    simp only
    generalize tm.getD j AV.undef = v
    cases v <;> simp [AV.same]
  unfold DGuardK
  rw [← hw]
  exact propext ⟨fun hk => hk.2, fun hk => ⟨rfl, hk⟩⟩
theorem DResK_some (v : AV) (h' : AH) (o : CD) : DResK call Q st (some (v, h')) o os pr hs tm h = DrawK call Q st os (if o.op.reads then pr ++ [(o.lo, o.hi, closeOp tm o.op, v)] else pr) (if o.op.quiet then hs else hs ++ [h]) (put tm o.dst v) h' := by
  unfold DResK
  simp only [Option.some.injEq, Prod.mk.injEq]
  exact propext ⟨fun ⟨_, _, ⟨h1, h2⟩, h4⟩ => by subst h1 h2; exact h4, fun hk => ⟨_, _, ⟨rfl, rfl⟩, hk⟩⟩
theorem DGuardK_tt (o : CD) : DGuardK call Q st (.bool true) true o os pr hs tm h = DResK call Q st (runOp call o.op tm h) o os pr hs tm h := rfl
theorem DGuardK_ff (o : CD) : DGuardK call Q st (.bool false) false o os pr hs tm h = DResK call Q st (runOp call o.op tm h) o os pr hs tm h := rfl
theorem DGuardK_tf (o : CD) : DGuardK call Q st (.bool true) false o os pr hs tm h = DrawK call Q st os pr (if o.op.quiet then hs else hs ++ [h]) (put tm o.dst AV.undef) h := rfl
theorem DGuardK_ft (o : CD) : DGuardK call Q st (.bool false) true o os pr hs tm h = DrawK call Q st os pr (if o.op.quiet then hs else hs ++ [h]) (put tm o.dst AV.undef) h := rfl
theorem DGuardK_u (want : Bool) (o : CD) : DGuardK call Q st AV.undef want o os pr hs tm h = DrawK call Q st os pr (if o.op.quiet then hs else hs ++ [h]) (put tm o.dst AV.undef) h := rfl
theorem DGuardK_split {b want : Bool} {o : CD} (h1 : b = true → DGuardK call Q st (.bool true) want o os pr hs tm h) (h2 : b = false → DGuardK call Q st (.bool false) want o os pr hs tm h) :
    DGuardK call Q st (.bool b) want o os pr hs tm h := by
  cases b with
  | true => exact h1 rfl
  | false => exact h2 rfl
theorem kept_load (b o : Nat) (g : Option Nat) (tm0 : List AV) (h : AH) : quietRun (.load g (.c (.ptr (some (b, o))))) tm0 h = readVar h b o g := rfl
end

/-- A call that leaves the heap as it was. -/
def DoneK (res : List CRes) (h : AH) (v : AV) (e : AEx) (tm : List AV) (h' : AH) : Prop :=
  (e = .normal ∨ e = .ret) ∧ h.n ≤ h'.low ∧ v.under h.n = true ∧ resAll tm h' res = some v

/-- A call of which some facts are shown. -/
theorem acall_facts {orc : Orc} {tbl : Nat → Option CF} {f : Nat} {nt : Nat} {res : List CRes} {body : CC} (hno : orc f = none) (hf : tbl f = some ⟨nt, res, body⟩) {args : List AV} {h : AH} {R : AV → AH → Prop}
    (hw : CodeK (acall orc tbl) (fun e tm h' => (e = .normal ∨ e = .ret) ∧ ∃ v, resAll tm h' res = some v ∧ R (Fs.settle h h' v).1 (Fs.settle h h' v).2) body [] (args ++ List.replicate (nt - args.length) AV.undef) (h.withLow h.n)) :
    ∃ v h1, acall orc tbl f args h = some (v, h1) ∧ R v h1 := by
  obtain ⟨e, tm', h', h2, h3, v, h4, h5⟩ := hw
  refine ⟨_, _, acall_intro hno hf ?_, h5⟩
  unfold runFW
  rw [h2]
  rcases h3 with rfl | rfl <;> simp only [h4, Option.map_some]

theorem acall_sym {orc : Orc} {tbl : Nat → Option CF} {f : Nat} {nt : Nat} {res : List CRes} {body : CC} (hno : orc f = none) (hf : tbl f = some ⟨nt, res, body⟩) {args : List AV} {h : AH} {v : AV}
    (hw : CodeK (acall orc tbl) (DoneK res h v) body [] (args ++ List.replicate (nt - args.length) AV.undef) (h.withLow h.n)) : acall orc tbl f args h = some (v, h) := by
  refine acall_wp hno hf (WP.mono hw fun e tm' h' ⟨h1, h2, h3, h4⟩ => ⟨h1, ?_⟩)
  simp only [h4, Option.map_some, settle_keep h2 h3]
end Go.Fs
end

section
/- From an abstract run at what is handed in to a given statement: 'the law returns true; what was handed in reads as it did'. -/
namespace Go.Fs
open Go.RowKit Go.ChangeShapes

section
variable {H : Type} {enc : TypeId × Value → H} {P : Program}

theorem start_ro (G : Nat) : RO (start G) := fun b c hb => by rw [start_get] at hb; cases hb

/-- The walk of a law, by its abstract run. -/
theorem law_walk (hm : P.follows .mixedOrders = true) {orc : Orc} (ho : GoodOrc P orc) {opq : TypeId → Bool} {fuel f : Nat} (hb : ((P.funcs[f]?).bind (·.body)).isSome = true) {ts : List TypeId} {vs : Array Value} {ds : List (DataW H)} {ps : List MemPlace} {w : World} {base : Nat} {as : List AV} {h h' : AH} {x : Bool}
    (ht : DataW.TrodAll enc P w 0 (fun _ => true) true ts vs.toList ds ps) (hok : ∀ (j : Nat) t v, ts[j]? = some t → vs.toList[j]? = some v → Value.okWide P w .any base t v)
    (ha : absArgs P opq fuel ts ds (start P.globals.size) = some (as, h)) (hr : acall orc (tbl P) f as h = some (.bool x, h')) :
    Calls P f vs w fun e w' => e = .returned (.bool x) ∧ Below w.heap.size w w' := by
  obtain ⟨ι, r, _, ro, v⟩ := openArgs ht hok (start_rel _ w) (start_ro _) ha
  have := calls_acall hm ho hb hr r v ro
  simpa using this

theorem below_trodAll (hl : laidOutB P = true) {W W' : World} (hb : Below W.heap.size W W') : ∀ {ts : List TypeId} {vs : List Value} {ds : List (DataW H)} {ps : List MemPlace},
    (ts.all fun t => P.readableRec t && decide (t < P.types.size)) = true → DataW.TrodAll enc P W 0 (fun _ => true) true ts vs ds ps → (∀ x ∈ ps, x.block < W.heap.size) →
      DataW.TrodAll enc P W' 0 (fun b => decide (b < W.heap.size)) true ts vs ds ps
  | [], [], [], _, _, h, _ => h
  | t :: ts, v :: vs, d :: ds, ps, hts, ⟨p, q, h1, h2, he⟩, hlt => by
    subst he
    simp only [List.all_cons, Bool.and_eq_true, decide_eq_true_eq] at hts
    exact ⟨p, q, Below.trod hl hts.1.1 hts.1.2 h1 hb fun x hx => hlt x (List.mem_append_left _ hx), below_trodAll hl hb hts.2 h2 fun x hx => hlt x (List.mem_append_right _ hx), rfl⟩

theorem law_post (hl : laidOutB P = true) {f : Func} {s : ChangeSpec} {fresh handsOn : Bool} {W W' : World} {args : Array Value} {ds gs : List (DataW H)} {before : List MemPlace} {tb : TypeId}
    (hts : (f.params.toList.all fun t => P.readableRec t && decide (t < P.types.size)) = true) (hres : f.resultTypes = #[tb]) (hb : P.underlying tb = some .bool) (hs : s.vars = [])
    (hfn : s.fn H (ds ++ []) = { results := [.lit (.bool true)], args := ds }) (hW : DataW.Whole enc P f.params.toList s.vars false W args.toList ds gs before) (hB : Below W.heap.size W W') :
    s.post enc P f false fresh handsOn false W args (.bool true) W' := by
  have hW' := hW
  obtain ⟨p, q, hA, hV, he, _, _⟩ := hW'
  rw [hs] at hV
  obtain ⟨rfl, rfl⟩ := trodVars_none hV
  have hlt := hW.lt
  refine ⟨ds, [], before, [], p, [], hW, ?_, ?_, ?_, hB.frame _, fun h => by cases h⟩
  · rw [hres, hfn]
    exact trodAll_cons_mk (p := []) (shut_bool hb _) trodAll_mk0
  · rw [hfn]
    exact below_trodAll hl hB hts hA fun x hx => hlt x (by rw [he]; exact List.mem_append_left _ (by simpa using hx))
  · rw [hfn, hs]
    rfl

theorem law_contract (hm : P.follows .mixedOrders = true) {orc : Orc} (ho : GoodOrc P orc) (hl : laidOutB P = true) {opq : TypeId → Bool} {fuel : Nat} {fid : FuncId} (hbody : ((P.funcs[fid]?).bind (·.body)).isSome = true) {f : Func} {s : ChangeSpec} {fresh handsOn : Bool} {tb : TypeId}
    (hts : (f.params.toList.all fun t => P.readableRec t && decide (t < P.types.size)) = true) (hres : f.resultTypes = #[tb]) (hb : P.underlying tb = some .bool) (hs : s.vars = [])
    (habs : ∀ (W : World) (args : Array Value) (ds : List (DataW H)) (p : List MemPlace), DataW.TrodAll enc P W 0 (fun _ => true) true f.params.toList args.toList ds p →
      (s.fn H (ds ++ []) = { results := [.lit (.bool true)], args := ds }) ∧ ∃ as h h', absArgs P opq fuel f.params.toList ds (start P.globals.size) = some (as, h) ∧ acall orc (tbl P) fid as h = some (.bool true, h'))
    (W : World) (base : Nat) (args : Array Value) (ds gs : List (DataW H)) (before : List MemPlace)
    (hval : ∀ (j : Nat) t v, f.params[j]? = some t → args[j]? = some v → Value.okWide P W .any base t v) (hW : DataW.Whole enc P f.params.toList s.vars false W args.toList ds gs before) :
    Calls P fid args W fun e W' => ∃ v, e = .returned v ∧ s.post enc P f false fresh handsOn false W args v W' := by
  have hW' := hW
  obtain ⟨p, q, hA, hV, he, _, _⟩ := hW'
  obtain ⟨hfn, as, h, h', h1, h2⟩ := habs W args ds p hA
  refine (law_walk hm ho hbody hA (fun j t v hj hv => hval j t v (by simpa using hj) (by simpa using hv)) h1 h2).mono fun e W' ⟨he, hB⟩ => ?_
  exact ⟨_, he, law_post hl hts hres hb hs hfn hW hB⟩
end
end Go.Fs
end

section
/- Lists of integers that are handed in. -/
namespace Go.Fs
section
variable {H : Type} {P : Program} {opq : TypeId → Bool}

/-- A slice that holds these numbers. -/
def Ints (k : IntKind) (h : AH) (v : AV) (xs : List Int) : Prop :=
  ∃ (a : Option (Nat × Nat)) (c : Cap), v = .slice a xs.length c ∧ (∀ x ∈ xs, k.min ≤ x ∧ x ≤ k.max) ∧
    (xs = [] ∨ ∃ (b : Nat) (cells : List AV) (ro : Bool), a = some (b, 0) ∧ b < h.n ∧ h.get b = some (.cells cells ro) ∧ ∀ (i : Nat) (x : Int), xs[i]? = some x → cells[i]? = some (.int k x))

theorem Ints.mono {k : IntKind} {h h' : AH} {v : AV} {xs : List Int} (hi : Ints k h v xs) (hn : h.n ≤ h'.n) (ho : ∀ b, b < h.n → h'.get b = h.get b) : Ints k h' v xs := by
  obtain ⟨a, c, h1, h2, h3⟩ := hi
  refine ⟨a, c, h1, h2, ?_⟩
  rcases h3 with h3 | ⟨b, cells, ro, g1, g2, g3, g4⟩
  · exact .inl h3
  · exact .inr ⟨b, cells, ro, g1, by omega, by rw [ho b g2]; exact g3, g4⟩

theorem absD_int {k : IntKind} {e : TypeId} {f : Nat} (he : P.underlying e = some (.int k)) (n : Int) (h : AH) : absD (H := H) P opq (f + 1) e (.lit (.int k n)) h = some ([.int k n], h) := by
  conv => lhs; unfold absD
  simp [he]

theorem absD_slice {t e : TypeId} {f : Nat} (hu : P.underlying t = some (.slice e)) (ho : opq t = false) (xs ys : List (DataW H)) (h : AH) : absD P opq (f + 1) t (.slice xs ys) h =
    if xs.length + ys.length = 0 then some ([.slice (some (h.n, 0)) 0 (.exact 0)], h.push .dead) else if 0 < P.cellsOf e then
      (absL (absD P opq f e) (xs ++ ys) h).map fun (cs, h') => ([.slice (some (h'.n, 0)) xs.length (.exact (xs.length + ys.length))], h'.push (.cells cs true)) else none := by
  conv => lhs; unfold absD
  simp [hu, ho]

theorem absL_ints {k : IntKind} {e : TypeId} {f : Nat} (he : P.underlying e = some (.int k)) (h : AH) : ∀ (ns : List Int), absL (H := H) (absD P opq (f + 1) e) (ns.map fun n => .lit (.int k n)) h = some (ns.map (.int k ·), h)
  | [] => rfl
  | n :: ns => by
    rw [List.map_cons, absL, absD_int he]
    simp [absL_ints he h ns]

theorem absArg_ints {k : IntKind} {t e : TypeId} {f : Nat} (hu : P.underlying t = some (.slice e)) (he : P.underlying e = some (.int k)) (hc : P.cellsOf e = 1) (ho : opq t = false) {d : DataW H}
    (hd : d = .nil ∨ ∃ xs ys : List Int, d = .slice (xs.map fun n => .lit (.int k n)) (ys.map fun n => .lit (.int k n)) ∧ xs.length + ys.length ≤ maxLen ∧ (∀ n ∈ xs ++ ys, k.min ≤ n ∧ n ≤ k.max)) (h : AH) :
    ∃ v h' xs, absArg P opq (f + 2) t d h = some (v, h') ∧ Ints k h' v xs ∧ h.n ≤ h'.n ∧ (∀ b, b < h.n → h'.get b = h.get b) ∧ xs.length ≤ maxLen := by
  rcases hd with rfl | ⟨xs, ys, rfl, hl, hall⟩
  · refine ⟨.slice none 0 (.exact 0), h, [], ?_, ⟨none, .exact 0, rfl, by simp, .inl rfl⟩, Nat.le_refl _, fun _ _ => rfl, by simp⟩
    simp [absArg, absD, hu]
  · have hx : ∀ x ∈ xs, k.min ≤ x ∧ x ≤ k.max := fun x hx => hall x (by simp [hx])
    by_cases hz : xs.length + ys.length = 0
    · have hx0 : xs = [] := List.eq_nil_of_length_eq_zero (by omega)
      have hy0 : ys = [] := List.eq_nil_of_length_eq_zero (by omega)
      subst hx0 hy0
      refine ⟨.slice (some (h.n, 0)) 0 (.exact 0), h.push .dead, [], ?_, ⟨_, .exact 0, rfl, by simp, .inl rfl⟩, by simp, fun b hb => Hp.get_push_ne _ _ _ (by omega), by simp⟩
      unfold absArg
      rw [hu]
      simp only [absD_slice hu ho, List.map_nil, List.length_nil, Nat.add_zero, if_true, Option.bind_some]
    · refine ⟨.slice (some (h.n, 0)) xs.length (.exact (xs.length + ys.length)), h.push (.cells ((xs ++ ys).map (.int k ·)) true), xs, ?_, ⟨_, _, rfl, hx, .inr ⟨h.n, _, true, rfl, by simp, Hp.get_push_self _ _, fun i x hi => ?_⟩⟩, by simp, fun b hb => Hp.get_push_ne _ _ _ (by omega), by omega⟩
      · have := absL_ints (H := H) (P := P) (opq := opq) (f := f) he h (xs ++ ys)
        rw [List.map_append] at this
        unfold absArg
        rw [hu]
        simp only [absD_slice hu ho, List.length_map, if_neg hz, hc, this, Option.map_some, Option.bind_some, if_true, Nat.lt_one_iff]
      · have hlt : i < xs.length := (List.getElem?_eq_some_iff.1 hi).1
        rw [List.getElem?_map, List.getElem?_append_left hlt, hi]
        rfl
end
end Go.Fs
end

section
/- Laws with parameters over variables that read as listed, and one more that holds whatever number. -/
namespace Go.Fs
open Go.RowKit Go.ChangeShapes

section
variable {H : Type} {enc : TypeId × Value → H} {P : Program}

theorem law_laid (hm : P.follows .mixedOrders = true) {orc : Orc} (ho : GoodOrc P orc) {opq : TypeId → Bool} {fuel f k : Nat} (hb : ((P.funcs[f]?).bind (·.body)).isSome = true) {ts : List TypeId} {vs : Array Value} {ds : List (DataW H)} {ps : List MemPlace} {w : World} {base : Nat} {as : List AV} {h0 h h' : AH} {x : Bool}
    {laid : List (String × DataW Unit)} (ht : DataW.TrodAll enc P w 0 (fun _ => true) true ts vs.toList ds ps) (hok : ∀ (j : Nat) t v, ts[j]? = some t → vs.toList[j]? = some v → Value.okWide P w .any base t v)
    (hl : absLaid P k laid (start P.globals.size) = some h0) (hw : laidMet P laid w) {g : Nat} (hg : g < P.globals.size) {m : Int} (hc : w.cell? ⟨g, 0, none⟩ = some (.int .i64 m))
    (ha : absArgs P opq fuel ts ds (h0.set g (.cells [.int .i64 m] true)) = some (as, h)) (hr : acall orc (tbl P) f as h = some (.bool x, h')) :
    Calls P f vs w fun e w' => e = .returned (.bool x) ∧ Below w.heap.size w w' := by
  obtain ⟨ps0, hv, _⟩ := hw
  obtain ⟨ι, r, hro, hle⟩ := laid_rel hv hl (start_relW P.globals.size w) (fun b c hb => by rw [start_get] at hb; cases hb) (Emb.le_refl _)
  obtain ⟨r2, ro2⟩ := r.setVar hro hle hg hc (a := .int .i64 m) (by simp [VRel])
  obtain ⟨ι', r3, _, ro3, v⟩ := openArgs ht hok r2 ro2 ha
  have := calls_acall hm ho hb hr r3 v ro3
  simpa using this

/-- What the quick machine tells may be told ahead. -/
theorem good_quick (hm : P.follows .mixedOrders = true) {orc : Orc} (ho : GoodOrc P orc) (n f : Nat) {args : List AV} {h : AH} {v : AV} {h' : AH} (hv : runQ orc (tbl P) n f args h = some (v, h')) : GoodAt P f args h v h' := by
  rw [runQ_eq] at hv
  exact run_good hm ho n f args h v h' hv

/-- What an abstract call comes to may be told ahead. -/
theorem good_acall (hm : P.follows .mixedOrders = true) {orc : Orc} (ho : GoodOrc P orc) {f : Nat} {args : List AV} {h : AH} {v : AV} {h' : AH} (hr : acall orc (tbl P) f args h = some (v, h')) : GoodAt P f args h v h' := by
  obtain ⟨n, hn⟩ := acall_ex hr
  exact run_good hm ho n f args h v h' hn

/-- A function that is run by the quick machine, wherever it is called. -/
noncomputable def orcQ (P : Program) (orc : Orc) (n g : Nat) : Orc := fun f => match Nat.beq f g with
  | true => some fun args h => runQ orc (tbl P) n f args h
  | false => orc f
theorem good_orcQ (hm : P.follows .mixedOrders = true) {orc : Orc} (ho : GoodOrc P orc) (n g : Nat) : GoodOrc P (orcQ P orc n g) := by
  intro f s hs args h v h' hv
  unfold orcQ at hs
  split at hs
  · cases hs
    exact good_quick hm ho n f hv
  · exact ho f s hs args h v h' hv

/-- The row's step: its arguments may be, its lists' variables read as listed, the world has its shape, the data are of a size that can be. -/
theorem returns_args {C : Checked} {os : Os} {f : FuncId} {fn : Func} {s : ChangeSpec} {X : World → Prop} (hX : ∀ w w' : World, w.heap = w'.heap → X w → X w')
    (own : ownKnob C.prog.godebug = none) (started : os.Started) (noInit : C.prog.inits.idxOf? f = none) (hfn : C.prog.funcs[f]? = some fn)
    (witness : ∃ (w : World) (tape : Tape) (i : Input), w.os = os ∧ (w.forCall tape i).Shaped C.prog ∧ i.vars = [] ∧ Input.okWide C.prog (w.forCall tape i) .any w.heap.size f i ∧
      ((s.pre enc C.prog fn [] false (w.forCall tape i).memory i.args ∧ X (w.forCall tape i).memory) ∧ sizedMet enc C.prog fn (OpenSpec.ofChange s) false (w.forCall tape i).memory i.args) ∧ Assume.holds {} C.prog (lone (Frame.enter C.prog f i.args .normal) [] (w.forCall tape i)))
    (go : ∀ (W : World) (base : Nat) (args : Array Value) (ds gs : List (DataW H)) (before : List MemPlace), (∀ (j : Nat) t v, fn.params[j]? = some t → args[j]? = some v → Value.okWide C.prog W .any base t v) →
      DataW.Whole enc C.prog fn.params.toList s.vars false W args.toList ds gs before → X W → W.ShapedOpen C.prog → (DataW.weightsEach C.prog (fn.params.toList ++ s.plain.varTypes C.prog) (ds ++ gs)).all (· ≤ reachBytes) = true →
      Calls C.prog f args W fun e W' => ∃ v, e = .returned v ∧ s.post enc C.prog fn false true false false W args v W') :
    ReturnsInHanded {} C os f .any (fun w args => (s.pre enc C.prog fn [] false w args ∧ X w) ∧ sizedMet enc C.prog fn (OpenSpec.ofChange s) false w args) (s.post enc C.prog fn false true false false) := by
  refine returnsInHanded_of_calls own started noInit witness ?_
  intro w tape i _ hsh _ hok hpre _
  obtain ⟨_, _, _, fn', hfn', _, _, _, _, hval⟩ := hok
  obtain rfl : fn' = fn := Option.some.inj (hfn'.symm.trans hfn)
  obtain ⟨⟨⟨ds, gs, before, hw, _⟩, hx⟩, hz⟩ := hpre
  refine (go (w.forCall tape i) w.heap.size i.args ds gs before hval (DataW.Whole.of_heap (w' := w.forCall tape i) (by rfl) hw) (hX _ _ (by rfl) hx) hsh (hz.weights hw)).mono fun e W' ⟨v, he, hp⟩ => ?_
  subst he
  exact ChangeSpec.post_blind hp

/-- A list that is handed in, of which nothing is asked. -/
theorem absArg_row {k : IntKind} {t e : TypeId} {fuel : Nat} (hu : P.underlying t = some (.slice e)) (he : P.underlying e = some (.int k)) (hc : P.cellsOf e = 1) {d : DataW H}
    (hd : d = .nil ∨ ∃ xs ys : List Int, d = .slice (xs.map fun n => .lit (.int k n)) (ys.map fun n => .lit (.int k n))) (h : AH) :
    ∃ v h', absArg P (fun _ => false) (fuel + 2) t d h = some (v, h') ∧ (h' = h ∨ ∃ blk, h' = h.push blk) := by
  rcases hd with rfl | ⟨xs, ys, rfl⟩
  · exact ⟨.slice none 0 (.exact 0), h, by simp [absArg, absD, hu], .inl rfl⟩
  · by_cases hz : xs.length + ys.length = 0
    · have hx0 : xs = [] := List.eq_nil_of_length_eq_zero (by omega)
      have hy0 : ys = [] := List.eq_nil_of_length_eq_zero (by omega)
      subst hx0 hy0
      refine ⟨.slice (some (h.n, 0)) 0 (.exact 0), h.push .dead, ?_, .inr ⟨_, rfl⟩⟩
      unfold absArg
      rw [hu]
      simp only [absD_slice (opq := fun _ => false) hu rfl, List.map_nil, List.length_nil, Nat.add_zero, if_true, Option.bind_some]
    · refine ⟨.slice (some (h.n, 0)) xs.length (.exact (xs.length + ys.length)), h.push (.cells ((xs ++ ys).map (.int k ·)) true), ?_, .inr ⟨_, rfl⟩⟩
      have := absL_ints (H := H) (P := P) (opq := fun _ => false) (f := fuel) he h (xs ++ ys)
      rw [List.map_append] at this
      unfold absArg
      rw [hu]
      simp only [absD_slice (opq := fun _ => false) hu rfl, List.length_map, if_neg hz, hc, this, Option.map_some, Option.bind_some, if_true, Nat.lt_one_iff]
theorem absArg_str {t : TypeId} {fuel : Nat} (hu : P.underlying t = some .string) (bs : List UInt8) (h : AH) : absArg (H := H) P (fun _ => false) (fuel + 1) t (.lit (.string bs)) h = some (.str bs, h) := by
  simp [absArg, absD, hu]
end
end Go.Fs
end

section
/- Rows that are written over to the end of their spare room: the rows are opened anew, with that room. -/
namespace Go.Fs

theorem BRel.back {ι ι' : Emb} {w w' : World} {b : Nat} {c : Blk} (hle : ι.le ι') (hbi : b < ι.n) (h1 : BRel ι w b c) (h2 : BRel ι' w' b c) : BRel ι w' b c := by
  have e1 := hle.blk b hbi
  have e2 := hle.sh b hbi
  have e3 := hle.size b hbi
  have e4 := hle.ty b hbi
  cases c with
  | cells cs ro =>
    obtain ⟨arr, e, fr, g1, g2, g3, g4⟩ := h2
    obtain ⟨arr0, e0, fr0, k1, k2, k3, k4⟩ := h1
    refine ⟨arr, e, fr, by rw [← e1]; exact g1, by rw [← e3]; exact g2, fun i c hc => ?_, fun hro => ⟨(g4.1 hro).1, by rw [← e2]; exact (g4.1 hro).2⟩, by rw [← e4]; exact g4.2⟩
    obtain ⟨x, g5, g6⟩ := g3 i c hc
    obtain ⟨x0, k5, k6⟩ := k3 i c hc
    exact ⟨x, by rw [← e2]; exact g5, g6.back hle k6.under⟩
  | map es =>
    obtain ⟨rs, cl, g1, g2⟩ := h2
    obtain ⟨rs0, cl0, k1, k2⟩ := h1
    refine ⟨rs, cl, by rw [← e1]; exact g1, ?_⟩
    clear g1 k1
    revert g2 k2
    generalize rs.toList = L
    generalize rs0.toList = L0
    induction es generalizing L L0 with
    | nil => intro g2 _; exact g2
    | cons p es ih =>
      obtain ⟨k, x⟩ := p
      intro g2 k2
      obtain ⟨r1, rs1, rfl, m1, m2, m3⟩ := g2
      obtain ⟨r2, rs2, rfl, n1, n2, n3⟩ := k2
      exact ⟨r1, rs1, rfl, m1.back hle n1.under, m2.back hle n2.under, ih _ _ m3 n3⟩
  | iter s p => exact ⟨by rw [← e1]; exact h2.1, by rw [← e2]; exact h2.2⟩
  | typ b' t => exact h1
  | dead => trivial

/-- The same world, told in other words. -/
theorem Rel.recast {G : Nat} {ι : Emb} {h h2 : AH} {w : World} (r : Rel G ι h w) (hn : h2.n = h.n)
    (hc : ∀ b c', h2.get b = some c' → ∃ c, h.get b = some c ∧ (c'.rw → c.rw) ∧ (c'.live → c.live) ∧ BRel ι w b c') : Rel G ι h2 w := by
  refine ⟨by rw [hn]; exact r.n, fun b c' hb => ?_, by rw [hn]; exact r.gn, r.glob, fun b c' hb => ?_, fun b b' c c' hb hb' hne hrw hlv => ?_⟩
  · obtain ⟨c, h1, _⟩ := hc b c' hb
    rw [hn]; exact r.dom b c h1
  · obtain ⟨c, _, _, _, h4⟩ := hc b c' hb
    exact h4
  · obtain ⟨d, h1, h2, _, _⟩ := hc b c hb
    obtain ⟨d', g1, _, g3, _⟩ := hc b' c' hb'
    exact r.sep b b' d d' h1 g1 hne (h2 hrw) (g3 hlv)

/-! ### Many blocks put in their places -/
def Hp.sets {α : Type} : List (Nat × α) → Hp α → Hp α
  | [], h => h
  | (b, c) :: l, h => (Hp.sets l h).set b c
theorem Hp.n_sets {α : Type} : ∀ (l : List (Nat × α)) (h : Hp α), (Hp.sets l h).n = h.n
  | [], _ => rfl
  | (b, c) :: l, h => by simp only [Hp.sets, Hp.n_set]; exact Hp.n_sets l h
theorem Hp.low_sets {α : Type} : ∀ (l : List (Nat × α)) (h : Hp α), (Hp.sets l h).low ≤ h.low ∧ ∀ p ∈ l, (Hp.sets l h).low ≤ p.1
  | [], _ => ⟨Nat.le_refl _, fun _ hp => by simp at hp⟩
  | (b, c) :: l, h => by
    have ih := Hp.low_sets l h
    simp only [Hp.sets, Hp.low_set]
    refine ⟨by omega, fun p hp => ?_⟩
    simp only [List.mem_cons] at hp
    rcases hp with rfl | hp
    · simp only; omega
    · have := ih.2 p hp; omega
theorem Hp.get_sets_not {α : Type} {k : Nat} : ∀ {l : List (Nat × α)} {h : Hp α}, (∀ p ∈ l, p.1 ≠ k) → (Hp.sets l h).get k = h.get k
  | [], _, _ => rfl
  | (b, c) :: l, h, hk => by
    simp only [Hp.sets]
    rw [Hp.get_set_ne _ _ _ _ (Ne.symm (hk (b, c) (by simp)))]
    exact Hp.get_sets_not fun p hp => hk p (by simp [hp])
theorem Hp.get_sets_mem {α : Type} {k : Nat} {x : α} : ∀ {l : List (Nat × α)} {h : Hp α}, (k, x) ∈ l → (l.map Prod.fst).Nodup → (Hp.sets l h).get k = some x
  | [], _, hm, _ => by simp at hm
  | (b, c) :: l, h, hm, hd => by
    simp only [List.map_cons, List.nodup_cons] at hd
    simp only [Hp.sets]
    simp only [List.mem_cons] at hm
    rcases hm with he | hm
    · cases he; exact Hp.get_set_self _ _ _
    · have : k ≠ b := fun e => hd.1 (by rw [← e]; exact List.mem_map.2 ⟨_, hm, rfl⟩)
      rw [Hp.get_set_ne _ _ _ _ this]
      exact Hp.get_sets_mem hm hd.2

/-! ### A row, opened -/

/-- The block of a row that is the whole of its block. -/
def apartRow (esz : Nat) (h : AH) : AV → Option (Option Nat)
  | .slice none _ (.exact 0) => some none
  | .slice (some (b, 0)) len (.exact c) => match h.get b with
    | some (.cells cs false) => if len ≤ c ∧ cs.length = c * esz ∧ c ≤ 1152921504606846976 then some (some b) else none
    | _ => none
  | .slice (some (b, 0)) len (.opn e) => match h.get b with
    | some (.cells cs false) => if e = esz ∧ cs.length = len * esz then some (some b) else none
    | _ => none
  | _ => none

/-- A row with all its room. -/
def OpenRow (esz : Nat) (h : AH) (ob : Option Nat) (x : AV) : Prop :=
  (ob = none ∧ x = .slice none 0 (.exact 0)) ∨
  ∃ b len c cs, ob = some b ∧ x = .slice (some (b, 0)) len (.exact c) ∧ h.get b = some (.cells cs false) ∧ cs.length = c * esz ∧ len ≤ c ∧ c ≤ maxLen

theorem BRel.opened {ι : Emb} {w : World} {b : Nat} {cs : List AV} (hb : BRel ι w b (.cells cs false)) (k : Nat) (hle : ι.sh b + cs.length + k ≤ ι.size b) :
    ∃ sp, sp.length = k ∧ BRel ι w b (.cells (cs ++ sp) false) := by
  obtain ⟨arr, e, fr, h1, h2, h3, h4, h5⟩ := hb
  have key : ∀ j : Nat, ∃ a : AV, ∀ v, arr[ι.sh b + cs.length + j]? = some v → VRel ι a v := fun j => by
    cases hv : arr[ι.sh b + cs.length + j]? with
    | none => exact ⟨AV.undef, fun v hv' => by cases hv'⟩
    | some v =>
      obtain ⟨a, ha⟩ := (h4 rfl).2 _ v (by omega) hv
      exact ⟨a, fun v' hv' => by cases hv'; exact ha ι⟩
  let f := fun j => Classical.choose (key j)
  have hf : ∀ j v, arr[ι.sh b + cs.length + j]? = some v → VRel ι (f j) v := fun j => Classical.choose_spec (key j)
  refine ⟨(List.range k).map f, by simp, arr, e, fr, h1, h2, fun i c hc => ?_, fun hro => ⟨(h4 hro).1, fun j v hj hv => (h4 hro).2 j v (by simp at hj; omega) hv⟩, h5⟩
  have hlt0 := (List.getElem?_eq_some_iff.1 hc).1
  simp only [List.length_append, List.length_map, List.length_range] at hlt0
  by_cases hi : i < cs.length
  · rw [List.getElem?_append_left hi] at hc
    exact h3 i c hc
  · rw [List.getElem?_append_right (by omega), List.getElem?_map, List.getElem?_range (by omega)] at hc
    simp only [Option.map_some, Option.some.injEq] at hc
    have hlt : ι.sh b + i < arr.size := by omega
    refine ⟨arr[ι.sh b + i], by simp [hlt], ?_⟩
    rw [← hc]
    refine hf _ _ ?_
    rw [show ι.sh b + cs.length + (i - cs.length) = ι.sh b + i by omega]
    simp [hlt]

section
variable {P : Program} {G : Nat} {ι : Emb} {h : AH} {w : World}

theorem row_open (r : Rel G ι h w) {esz : Nat} (hp : 0 < esz) {x : AV} {rx : Value} {ob : Option Nat} (hx : VRel ι x rx) (ha : apartRow esz h x = some ob) :
    ∃ x', VRel ι x' rx ∧ ((ob = none ∧ x' = .slice none 0 (.exact 0)) ∨ ∃ b len c cs cs', ob = some b ∧ x' = .slice (some (b, 0)) len (.exact c) ∧ h.get b = some (.cells cs false) ∧ BRel ι w b (.cells cs' false) ∧ cs'.length = c * esz ∧ len ≤ c ∧ c ≤ maxLen) := by
  have hmx : maxLen = 9223372036854775807 := rfl
  unfold apartRow at ha
  split at ha
  · cases ha
    have hx' := hx
    simp only [VRel] at hx'
    obtain ⟨h1, _, h3⟩ := hx'
    exact ⟨_, by rw [h3]; simp [VRel], .inl ⟨rfl, rfl⟩⟩
  · rename_i b len c
    split at ha
    · rename_i cs hb
      split at ha
      · rename_i hc
        cases ha
        exact ⟨_, hx, .inr ⟨b, len, c, cs, cs, rfl, rfl, hb, r.brel b _ hb, hc.2.1, hc.1, by omega⟩⟩
      · cases ha
    · cases ha
  · rename_i b len e
    split at ha
    · rename_i cs hb
      split at ha
      · rename_i hc
        cases ha
        obtain ⟨rfl, hl⟩ := hc
        simp only [VRel] at hx
        obtain ⟨hbn, _, o', c', rfl, hm, hcase⟩ := hx
        have hB := r.brel b _ hb
        rcases hcase with ⟨h1, h2, h3⟩ | ⟨rfl, rfl, h3⟩
        · have hmul : len * e ≤ c' * e := Nat.mul_le_mul_right _ h2
          obtain ⟨sp, g1, g2⟩ := hB.opened (c' * e - len * e) (by omega)
          refine ⟨.slice (some (b, 0)) len (.exact c'), ?_, .inr ⟨b, len, c', cs, cs ++ sp, rfl, rfl, hb, g2, by rw [List.length_append, g1, hl]; omega, h2, hm⟩⟩
          simp only [VRel]
          exact ⟨hbn, h2, _, rfl, fun _ => by rw [h1]⟩
        · refine ⟨.slice (some (b, 0)) 0 (.exact 0), ?_, .inr ⟨b, 0, 0, cs, cs, rfl, rfl, hb, hB, by omega, Nat.le_refl _, by omega⟩⟩
          simp only [VRel]
          exact ⟨hbn, Nat.le_refl _, _, rfl, fun hh => by omega⟩
      · cases ha
    · cases ha
  · cases ha

theorem rows_open (r : Rel G ι h w) {esz : Nat} (hp : 0 < esz) : ∀ {L : List AV} {rs : List Value} {obs : List (Option Nat)}, VRels ι L rs → L.mapM (apartRow esz h) = some obs →
    ∃ (L' : List AV) (U : List (Nat × Blk)), VRels ι L' rs ∧ L'.length = obs.length ∧ U.map Prod.fst = obs.filterMap id ∧ (∀ p ∈ U, ∃ cs cs', h.get p.1 = some (.cells cs false) ∧ p.2 = .cells cs' false ∧ BRel ι w p.1 p.2) ∧
      ∀ hx : AH, (∀ p ∈ U, hx.get p.1 = some p.2) → ∀ (i : Nat) (x : AV), L'[i]? = some x → ∃ ob, obs[i]? = some ob ∧ OpenRow esz hx ob x
  | [], rs, obs, hr, hm => by
    simp only [List.mapM_nil, Option.pure_def, Option.some.injEq] at hm
    subst hm
    exact ⟨[], [], hr, rfl, rfl, fun p hp => by simp at hp, fun hx _ i x hi => by simp at hi⟩
  | x :: L, rs, obs, hr, hm => by
    simp only [List.mapM_cons, Option.bind_eq_bind, Option.bind_eq_some_iff, Option.pure_def, Option.some.injEq] at hm
    obtain ⟨ob, h1, obs', h2, rfl⟩ := hm
    simp only [VRels] at hr
    obtain ⟨rx, rs', rfl, g1, g2⟩ := hr
    obtain ⟨L', U, k1, k2, k3, k4, k5⟩ := rows_open r hp g2 h2
    obtain ⟨x', q1, q2⟩ := row_open r hp g1 h1
    rcases q2 with ⟨rfl, rfl⟩ | ⟨b, len, c, cs, cs', rfl, rfl, m1, m2, m3, m4, m5⟩
    · refine ⟨_ :: L', U, by simp only [VRels]; exact ⟨_, _, rfl, q1, k1⟩, by simp [k2], by simpa using k3, k4, fun hx hU i x hi => ?_⟩
      cases i with
      | zero => simp only [List.getElem?_cons_zero, Option.some.injEq] at hi; subst hi; exact ⟨none, rfl, .inl ⟨rfl, rfl⟩⟩
      | succ i => simp only [List.getElem?_cons_succ] at hi ⊢; exact k5 hx hU i x hi
    · refine ⟨_ :: L', (b, .cells cs' false) :: U, by simp only [VRels]; exact ⟨_, _, rfl, q1, k1⟩, by simp [k2], by simpa using k3, fun p hp => ?_, fun hx hU i x hi => ?_⟩
      · simp only [List.mem_cons] at hp
        rcases hp with rfl | hp
        · exact ⟨cs, cs', m1, rfl, m2⟩
        · exact k4 p hp
      · cases i with
        | zero =>
          simp only [List.getElem?_cons_zero, Option.some.injEq] at hi
          subst hi
          exact ⟨some b, rfl, .inr ⟨b, len, c, cs', rfl, rfl, hU (b, .cells cs' false) (by simp), m3, m4, m5⟩⟩
        | succ i => simp only [List.getElem?_cons_succ] at hi ⊢; exact k5 hx (fun p hp => hU p (by simp [hp])) i x hi

/-- Rows that lie apart: each is written over, and nothing is known of it behind that. -/
def apartOrc (esz : Nat) : List AV → AH → Option (AV × AH)
  | [.slice (some (bL, 0)) m _], h => match h.get bL with
    | some (.cells L _) => if L.length = m ∧ m ≤ 1000000 then (match L.mapM (apartRow esz h) with
      | some obs => if (bL :: obs.filterMap id).Nodup then some (.bool true, Hp.sets ((bL :: obs.filterMap id).map fun b => (b, Blk.dead)) h) else none
      | none => none) else none
    | _ => none
  | _, _ => none

/-- What the function does with rows whose room is known. -/
def ApartRun (P : Program) (esz f : Nat) : Prop :=
  ∀ (h : AH) (bL m : Nat) (cap : Cap) (ro : Bool) (L : List AV) (obs : List (Option Nat)), h.get bL = some (.cells L ro) → bL < h.n → L.length = m → m ≤ 1000000 → obs.length = m →
    (∀ (i : Nat) (x : AV), L[i]? = some x → ∃ ob, obs[i]? = some ob ∧ OpenRow esz h ob x) → (∀ b, some b ∈ obs → b < h.n) → (obs.filterMap id).Nodup → bL ∉ obs.filterMap id →
    ∃ h1, acall noOrc (tbl P) f [.slice (some (bL, 0)) m cap] h = some (.bool true, h1) ∧ ∀ b, b < h.n → b ∉ obs.filterMap id → h1.get b = h.get b

theorem good_apart (hm : P.follows .mixedOrders = true) {esz f : Nat} (hp : 0 < esz) (hrun : ApartRun P esz f) (hb : ((P.funcs[f]?).bind (·.body)).isSome = true) {args : List AV} {h : AH} {v : AV} {h' : AH} (hs : apartOrc esz args h = some (v, h')) : GoodAt P f args h v h' := by
  unfold apartOrc at hs
  split at hs
  · rename_i bL m cap
    split at hs
    · rename_i L ro hL
      split at hs
      · rename_i hlen
        obtain ⟨hlen, hmm⟩ := hlen
        split at hs
        · rename_i obs hobs
          split at hs
          · rename_i hnd
            cases hs
            have hfn : ∃ fn b, P.funcs[f]? = some fn ∧ fn.body = some b ∧ (fn.name == "runtime.NumGoroutine") = false := by
              obtain ⟨h1, hr1, _⟩ := hrun ((start 0).push (.cells [] true)) (start 0).n 0 (.exact 0) true [] [] (Hp.get_push_self _ _) (by simp) rfl (by omega) rfl (fun i x hi => by simp at hi) (fun b hb => by simp at hb) (by simp) (by simp)
              obtain ⟨n, hn⟩ := acall_ex hr1
              exact ((run_good hm (good_noOrc P) n f _ _ _ _ hn).body hb).1
            refine .inl ⟨hfn, fun ι w rargs r hargs => ?_⟩
            obtain ⟨arrL, eL, frL, z1, z2, z3, z4⟩ := r.brel bL _ hL
            have hbL := r.dom bL _ hL
            -- the rows' real values
            have hreal : ∃ rs : List Value, VRels ι L rs ∧ ∀ (i : Nat) (v : Value), rs[i]? = some v → arrL[ι.sh bL + i]? = some v := by
              refine ⟨(arrL.toList.drop (ι.sh bL)).take L.length, VRels.mk ?_ fun i c hc => ?_, fun i v hi => ?_⟩
              · rw [List.length_take, List.length_drop]
                rcases Nat.eq_zero_or_pos L.length with h0 | h0
                · omega
                · obtain ⟨v, g1, _⟩ := z3 (L.length - 1) _ (List.getElem?_eq_getElem (by omega))
                  have := (Array.getElem?_eq_some_iff.1 g1).1
                  simp; omega
              · obtain ⟨v, g1, g2⟩ := z3 i c hc
                have hi := (List.getElem?_eq_some_iff.1 hc).1
                exact ⟨v, by rw [List.getElem?_take_of_lt hi, List.getElem?_drop, Array.getElem?_toList]; exact g1, g2⟩
              · have hlt := (List.getElem?_eq_some_iff.1 hi).1
                rw [List.length_take] at hlt
                rw [List.getElem?_take_of_lt (by omega), List.getElem?_drop, Array.getElem?_toList] at hi
                exact hi
            obtain ⟨rs, hrs, hat⟩ := hreal
            obtain ⟨L', U, k1, k2, k3, k4, k5⟩ := rows_open r hp hrs hobs
            have hndU : (((bL, Blk.cells L' true) :: U).map Prod.fst).Nodup := by simpa [k3] using hnd
            have hh2n : (Hp.sets ((bL, .cells L' true) :: U) h).n = h.n := Hp.n_sets _ _
            have hget : ∀ p ∈ (bL, Blk.cells L' true) :: U, (Hp.sets ((bL, Blk.cells L' true) :: U) h).get p.1 = some p.2 := fun p hp => Hp.get_sets_mem hp hndU
            have hnot : ∀ b, b ∉ bL :: obs.filterMap id → (Hp.sets ((bL, Blk.cells L' true) :: U) h).get b = h.get b := fun b hb => Hp.get_sets_not fun p hp he => by
              refine hb ?_
              have h9 : p.1 ∈ ((bL, Blk.cells L' true) :: U).map Prod.fst := List.mem_map.2 ⟨p, hp, rfl⟩
              rw [List.map_cons, k3] at h9
              rw [← he]; exact h9
            generalize hH2 : Hp.sets ((bL, Blk.cells L' true) :: U) h = h2 at *
            have hll : L'.length = L.length := by
              rw [← k1.length, hrs.length]
            -- the same world, told with the rows' room
            have hcast : ∀ b c', h2.get b = some c' → ∃ c, h.get b = some c ∧ (c'.rw → c.rw) ∧ (c'.live → c.live) ∧ BRel ι w b c' := fun b c' hb' => by
              by_cases hbm : b ∈ bL :: obs.filterMap id
              · rw [← k3] at hbm
                have : b ∈ ((bL, Blk.cells L' true) :: U).map Prod.fst := hbm
                obtain ⟨p, hp1, rfl⟩ := List.mem_map.1 this
                have := hget p hp1
                rw [this] at hb'
                cases hb'
                simp only [List.mem_cons] at hp1
                rcases hp1 with rfl | hp1
                · have hB : BRel ι w bL (.cells L' true) := ⟨arrL, eL, frL, z1, z2, fun i c hc => by
                    obtain ⟨v, g1, g2⟩ := k1.get i c hc
                    exact ⟨v, hat i v g1, g2⟩, (fun hh => by cases hh), z4.2⟩
                  exact ⟨_, hL, (fun hh : true = false => by cases hh), (fun _ => trivial), hB⟩
                · obtain ⟨cs, cs', g1, g2, g3⟩ := k4 p hp1
                  exact ⟨_, g1, (fun _ => rfl), (fun _ => trivial), g3⟩
              · rw [hnot b hbm] at hb'
                exact ⟨c', hb', id, id, r.brel b c' hb'⟩
            have r2 : Rel P.globals.size ι h2 w := r.recast hh2n hcast
            have hndo : (obs.filterMap id).Nodup ∧ bL ∉ obs.filterMap id := by
              rw [List.nodup_cons] at hnd; exact ⟨hnd.2, hnd.1⟩
            obtain ⟨h3, hr3, hkeep⟩ := hrun h2 bL m cap true L' obs (hget (bL, .cells L' true) (by simp)) (by rw [hh2n]; exact hbL) (by omega) hmm (by rw [← k2, hll]; exact hlen)
              (fun i x hi => k5 h2 (fun p hp => hget p (by simp [hp])) i x hi) (fun b hb => by
                have : b ∈ obs.filterMap id := List.mem_filterMap.2 ⟨some b, hb, rfl⟩
                rw [← k3] at this
                obtain ⟨p, hp1, rfl⟩ := List.mem_map.1 this
                obtain ⟨cs, cs', g1, _⟩ := k4 p hp1
                rw [hh2n]; exact r.dom _ _ g1) hndo.1 hndo.2
            obtain ⟨n, hn⟩ := acall_ex hr3
            refine (((run_good hm (good_noOrc P) n f _ _ _ _ hn).body hb).2 ι w rargs r2 hargs).mono fun e w' ⟨ι3, rv, he, q1, q2, q3⟩ => ?_
            have hdead : ∀ b c, (Hp.sets ((bL :: obs.filterMap id).map fun b => (b, Blk.dead)) h).get b = some c → (c = .dead ∧ ∃ d, h.get b = some d) ∨ (b ∉ bL :: obs.filterMap id ∧ h.get b = some c) := fun b c hb' => by
              by_cases hbm : b ∈ bL :: obs.filterMap id
              · left
                have := Hp.get_sets_mem (h := h) (k := b) (x := Blk.dead) (l := (bL :: obs.filterMap id).map fun b => (b, Blk.dead)) (List.mem_map.2 ⟨b, hbm, rfl⟩) (by rw [List.map_map, show (Prod.fst ∘ fun (b : Nat) => (b, Blk.dead)) = id from rfl, List.map_id]; exact hnd)
                rw [this] at hb'
                cases hb'
                refine ⟨rfl, ?_⟩
                rw [← k3] at hbm
                have hbm' : b ∈ ((bL, Blk.cells L' true) :: U).map Prod.fst := hbm
                obtain ⟨p, hp1, rfl⟩ := List.mem_map.1 hbm'
                obtain ⟨c, g1, _⟩ := hcast _ _ (hget p hp1)
                exact ⟨c, g1⟩
              · right
                rw [Hp.get_sets_not (fun p hp he => by
                  obtain ⟨b', hb1, rfl⟩ := List.mem_map.1 hp
                  exact hbm (he ▸ hb1))] at hb'
                exact ⟨hbm, hb'⟩
            refine ⟨ι, rv, he, ?_, ⟨by rw [Hp.n_sets]; exact r.n, fun b c hb' => ?_, by rw [Hp.n_sets]; exact r.gn, r.glob, fun b c hb' => ?_, fun b b' c c' hb1 hb2 hne hrw hlv => ?_⟩,
              ⟨ι.le_refl, q3.os, q3.tape, q3.output, q3.size, fun k hk hn' => q3.kept k hk fun b c hb' hrw => ?_, fun b c hb' hrw => ?_, by rw [Hp.n_sets]; exact Nat.le_refl _, (Hp.low_sets _ _).1, fun b hb1 hb2 => ?_⟩⟩
            · simp only [VRel] at q1 ⊢; exact q1
            · rw [Hp.n_sets]
              rcases hdead b c hb' with ⟨_, d, hd⟩ | ⟨_, hd⟩
              · exact r.dom b d hd
              · exact r.dom b c hd
            · rcases hdead b c hb' with ⟨rfl, _⟩ | ⟨hbm, hd⟩
              · trivial
              · have hbn := r.dom b c hd
                have h3b : h3.get b = some c := by
                  rw [hkeep b (by rw [hh2n]; exact hbn) fun hh => hbm (by simp [hh]), hnot b hbm, hd]
                exact BRel.back q3.le (by rw [r.n]; exact hbn) (r.brel b c hd) (q2.brel b c h3b)
            · rcases hdead b c hb1 with ⟨rfl, _⟩ | ⟨_, hd⟩
              · exact hrw.elim
              · rcases hdead b' c' hb2 with ⟨rfl, _⟩ | ⟨_, hd'⟩
                · exact hlv.elim
                · exact r.sep b b' c c' hd hd' hne hrw hlv
            · obtain ⟨d, g1, g2, _⟩ := hcast b c hb'
              exact hn' b d g1 (g2 hrw)
            · rcases hdead b c hb' with ⟨rfl, _⟩ | ⟨_, hd⟩
              · exact hrw.elim
              · exact .inr ⟨b, c, hd, hrw, rfl⟩
            · refine Hp.get_sets_not fun p hp he => ?_
              have := (Hp.low_sets ((bL :: obs.filterMap id).map fun b => (b, Blk.dead)) h).2 p hp
              omega
          · cases hs
        · cases hs
      · cases hs
    · cases hs
  · cases hs
end
end Go.Fs
end

