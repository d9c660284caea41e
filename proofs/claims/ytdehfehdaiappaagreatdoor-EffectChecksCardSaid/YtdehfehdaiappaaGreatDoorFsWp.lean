/- Rules for what the abstract machine does, without fuel: code, loops, calls. -/
import Derived.Test.YtdehfehdaiappaaGreatDoorFsLim
import Derived.Test.YtdehfehdaiappaaGreatDoorFsOpen
namespace Go.Fs

def WP (call : Rec) (c : CC) (tm : List AV) (h : AH) (Q : AEx → List AV → AH → Prop) : Prop := ∃ e tm' h', runW call c tm h = some (e, tm', h') ∧ Q e tm' h'

section
variable {call : Rec} {tm : List AV} {h : AH} {Q : AEx → List AV → AH → Prop}

theorem WP.mono {c : CC} {R : AEx → List AV → AH → Prop} (hw : WP call c tm h R) (hq : ∀ e tm' h', R e tm' h' → Q e tm' h') : WP call c tm h Q := by
  obtain ⟨e, tm', h', h1, h2⟩ := hw
  exact ⟨e, tm', h', h1, hq _ _ _ h2⟩

theorem WP.skip (hq : Q .normal tm h) : WP call .skip tm h Q := ⟨_, _, _, rfl, hq⟩
theorem WP.exit {id : Nat} (hq : Q (.exit id) tm h) : WP call (.exit id) tm h Q := ⟨_, _, _, rfl, hq⟩
theorem WP.ret (hq : Q .ret tm h) : WP call .ret tm h Q := ⟨_, _, _, rfl, hq⟩

theorem WP.region {ops : List CR} {tm' : List AV} {h' : AH} (hr : runOps call ops tm h = some (tm', h')) (hq : Q .normal tm' h') : WP call (.region ops) tm h Q :=
  ⟨_, _, _, by simp only [runW, hr, Option.map_some], hq⟩

theorem WP.regionD {ops : List CD} {tm' : List AV} {h' : AH} (hr : runD call ops tm h = some (tm', h')) (hq : Q .normal tm' h') : WP call (.regionD ops) tm h Q :=
  ⟨_, _, _, by simp only [runW, hr, Option.map_some], hq⟩

/-- What is asked behind the first part of a sequence. -/
def andThen (call : Rec) (b : CC) (Q : AEx → List AV → AH → Prop) (e : AEx) (tm : List AV) (h : AH) : Prop :=
  match e with
  | .normal => WP call b tm h Q
  | e => Q e tm h

theorem WP.seq {a b : CC} (hw : WP call a tm h (andThen call b Q)) : WP call (.seq a b) tm h Q := by
  obtain ⟨e, tm', h', h1, h2⟩ := hw
  cases e with
  | normal =>
    obtain ⟨e2, tm2, h2', h3, h4⟩ := h2
    exact ⟨e2, tm2, h2', by simp only [runW, h1, h3], h4⟩
  | exit id => exact ⟨_, _, _, by simp only [runW, h1], h2⟩
  | ret => exact ⟨_, _, _, by simp only [runW, h1], h2⟩

theorem WP.cond {c : CA} {x y : CC} {b : Bool} (hc : c.ev tm = .bool b) (hx : b = true → WP call x tm h Q) (hy : b = false → WP call y tm h Q) : WP call (.cond c x y) tm h Q := by
  cases b with
  | true =>
    obtain ⟨e, tm', h', h1, h2⟩ := hx rfl
    exact ⟨e, tm', h', by simp only [runW, hc, h1], h2⟩
  | false =>
    obtain ⟨e, tm', h', h1, h2⟩ := hy rfl
    exact ⟨e, tm', h', by simp only [runW, hc, h1], h2⟩

def inBlock (id : Nat) (Q : AEx → List AV → AH → Prop) (e : AEx) (tm : List AV) (h : AH) : Prop :=
  match e with
  | .exit i => if i = id then Q .normal tm h else Q (.exit i) tm h
  | e => Q e tm h

theorem WP.block {id : Nat} {c : CC} (hw : WP call c tm h (inBlock id Q)) : WP call (.block id c) tm h Q := by
  obtain ⟨e, tm', h', h1, h2⟩ := hw
  cases e with
  | normal => exact ⟨_, _, _, by simp only [runW, h1], h2⟩
  | ret => exact ⟨_, _, _, by simp only [runW, h1], h2⟩
  | exit i =>
    simp only [inBlock] at h2
    by_cases hi : i = id
    · rw [if_pos hi] at h2
      exact ⟨_, _, _, by simp only [runW, h1, hi, if_true], h2⟩
    · rw [if_neg hi] at h2
      exact ⟨_, _, _, by simp only [runW, h1, hi, if_false], h2⟩

def inLoop (I : Nat → List AV → AH → Prop) (n : Nat) (Q : AEx → List AV → AH → Prop) (e : AEx) (tm : List AV) (h : AH) : Prop :=
  match e with
  | .normal => ∃ m, m < n ∧ I m tm h
  | e => Q e tm h

theorem WP.loop {c : CC} (I : Nat → List AV → AH → Prop) (n : Nat) (h0 : I n tm h) (hb : ∀ n tm h, I n tm h → WP call c tm h (inLoop I n Q)) : WP call (.loop c) tm h Q := by
  induction n using Nat.strongRecOn generalizing tm h with
  | _ n ih =>
    obtain ⟨e, tm', h', h1, h2⟩ := hb n tm h h0
    cases e with
    | normal =>
      obtain ⟨m, hm, hI⟩ := h2
      obtain ⟨e2, tm2, h2', h3, h4⟩ := ih m hm hI
      refine ⟨e2, tm2, h2', ?_, h4⟩
      simp only [runW] at h3 ⊢
      rw [iterW_eq, h1]
      exact h3
    | exit id =>
      refine ⟨_, _, _, ?_, h2⟩
      simp only [runW]
      rw [iterW_eq, h1]
    | ret =>
      refine ⟨_, _, _, ?_, h2⟩
      simp only [runW]
      rw [iterW_eq, h1]
end

/-- What is asked behind a function's body: its result, and the heap that is left. -/
def Done (f : CF) (h : AH) (v : AV) (h1 : AH) (e : AEx) (tm : List AV) (h' : AH) : Prop :=
  (e = .normal ∨ e = .ret) ∧ (resAll tm h' f.res).map (settle h h') = some (v, h1)

theorem acall_wp {orc : Orc} {tbl : Nat → Option CF} {f : Nat} {cf : CF} (hno : orc f = none) (hf : tbl f = some cf) {args : List AV} {h : AH} {v : AV} {h1 : AH}
    (hw : WP (acall orc tbl) cf.body (args ++ List.replicate (cf.ntmps - args.length) AV.undef) (h.withLow h.n) (Done cf h v h1)) : acall orc tbl f args h = some (v, h1) := by
  obtain ⟨e, tm', h', h2, h3, h4⟩ := hw
  refine acall_intro hno hf ?_
  unfold runFW
  rw [h2]
  rcases h3 with rfl | rfl <;> exact h4
end Go.Fs
