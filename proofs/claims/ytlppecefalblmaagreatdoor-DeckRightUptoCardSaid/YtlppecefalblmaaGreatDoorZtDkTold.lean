/- The books' and the decks' functions, told all together; the law DeckRight. -/
import Derived.Test.YtlppecefalblmaaGreatDoorZtCdChk
import Derived.Test.YtlppecefalblmaaGreatDoorZtCdRefC
import Derived.Test.YtlppecefalblmaaGreatDoorZtCdTell
import Derived.Test.YtlppecefalblmaaGreatDoorZtBkBooks
import Derived.Test.YtlppecefalblmaaGreatDoorZtDkRight
namespace Go.Proofs.Cards
open Go Go.Fs
set_option linter.unusedSimpArgs false
set_option linter.unusedVariables false
variable {orc : Orc}
def told1 : List Nat := [8, 36, 86, 87, 38, 39, 88, 37, 89, 90, 91, 92, 93, 94, 95, 96, 97, 132, 133, 134]
def told2 : List Nat := [13, 52, 53, 54, 55, 109, 141, 111, 112, 113, 114, 115, 116]
def told3 : List Nat := [19, 59, 60, 62, 57, 61, 63, 64, 65, 66, 67, 33, 68, 85, 120]
def told4 : List Nat := [117, 85, 120, 118, 121, 119, 122, 10, 123, 124, 125, 126]
theorem btold (h1 : ∀ f, f ∈ told1 → orc f = none) (h2 : ∀ f, f ∈ told2 → orc f = none) (h3 : ∀ f, f ∈ told3 → orc f = none) (h4 : ∀ f, f ∈ told4 → orc f = none) (ht : Ef.Trims orc) : BTold orc where
 shut := fun pa H cs g g0 g1 => by
  have := shut_spec (orc := orc) (fun f hf => h4 f (by unfold told4; simp only [List.mem_cons, List.not_mem_nil, or_false] at hf ⊢; rcases hf with rfl | rfl <;> simp)) g g0 g1
  simpa using this
 rnone := fun pb H cs g g0 => rnone_spec (h4 _ (by simp [told4])) g g0
 chk := fun c ps v H hp => check_spec h1 ht c v ps H hp
 rchk := fun c ps hc hr v H hp => rchk_spec h2 c v ps hc hr H hp
 place := fun pa sh xs zs ms s H g hl => place_spec (orc := orc) (h4 _ (by simp [told4])) (ns := xs.map (·.c.name)) s g (by rw [List.length_map]; exact bk_2 _ _ _ _) (by rw [List.length_map]; exact hl) (bk_names _ _ _ _ _)
 rplace := fun pb N sh ys lv ms s H g r hl => by
  obtain ⟨a, cap, e, hx⟩ := RowW.names r
  exact rplace_spec (orc := orc) (h4 _ (by simp [told4])) s g (by rw [rb_2, e]) (by rw [List.length_map]; exact hl) hx
 ahead := fun c x a n cap H => ahead_spec (h4 _ (by simp [told4])) c x.c a x.a n x.n cap x.cap H
 rahead := fun c x a n cap H => rahead_spec (h4 _ (by simp [told4])) c x.c a x.a n x.n cap x.cap H
 copy := fun c ps hl N v X hp hN => ccopy_spec N (h4 _ (by simp [told4])) c v ps hN hp hl
 rcopy := fun c ps hl N v X hp hN => rccopy_spec N (h4 _ (by simp [told4])) c v ps hN hp hl
 win := fun n H => bwithin_spec (h4 _ (by simp [told4])) n H
 bname := fun s H => bname_spec (h4 _ (by simp [told4])) s H
 rname := fun s H => rname7_spec (h4 _ (by simp [told4])) s H
 none := h3
def told5 : List Nat := [6, 34, 85, 25, 70, 69, 79, 118, 33]
theorem at_told (h4 : ∀ f, f ∈ told4 → orc f = none) (h5 : ∀ f, f ∈ told5 → orc f = none) {pa N : Nat} {ds : List Cd} {ms : List Mrk} {sh : Bool} {h : AH} {xs zs : List Cv} (M : Nat) (B : Bk1 pa N ds ms sh h xs zs) (n : Int) (hM : M ≤ h.n) :
    ∃ v1 h1, acall orc T 34 [.ptr (some (pa, 0)), .int .i64 n] h = some (v1, h1) ∧ Ef.Kp M h h1 ∧ AtR h1 (atD sh ds n) v1 :=
 at_spec M (fun f hf => h5 f (by unfold told5; simp only [List.mem_cons, List.not_mem_nil, or_false] at hf ⊢; rcases hf with rfl | rfl <;> simp)) (fun c ps hl N v X hp hN => ccopy_spec N (h4 _ (by simp [told4])) c v ps hN hp hl) B n hM
theorem dcheck_told (h4 : ∀ f, f ∈ told4 → orc f = none) (h5 : ∀ f, f ∈ told5 → orc f = none) {pa N : Nat} {ds : List Cd} {ms : List Mrk} {sh : Bool} {h : AH} {xs zs : List Cv} {v : AV} {l : List Int} (B : Bk1 pa N ds ms sh h xs zs) (hv : Ints .i64 h v l) :
    acall orc T 25 [.ptr (some (pa, 0)), v] h = some (flt (chkD sh ds l).1 (chkD sh ds l).2, h) :=
 dcheck_spec (fun f hf => h5 f (by unfold told5; simp only [List.mem_cons, List.not_mem_nil, or_false] at hf ⊢; rcases hf with rfl | rfl <;> simp)) B hv
  (fun H B => asked_spec (fun f hf => h5 f (by unfold told5; simp only [List.mem_cons, List.not_mem_nil, or_false] at hf ⊢; rcases hf with rfl | rfl | rfl | rfl | rfl | rfl <;> simp)) B)
  (fun M n H B hM => at_told h4 h5 M B n hM)
theorem right_law (h1 : ∀ f, f ∈ told1 → orc f = none) (h2 : ∀ f, f ∈ told2 → orc f = none) (h3 : ∀ f, f ∈ told3 → orc f = none) (h4 : ∀ f, f ∈ told4 → orc f = none) (h5 : ∀ f, f ∈ told5 → orc f = none) (ht : Ef.Trims orc)
    {fv mv : AV} {op : Bool} {fs : List Cv} {fds : List Cd} {mks : List Mrk} {v : AV} {l : List Int} {h0 h : AH} (hg : Grown h0 h)
    (hfv : ∃ a c, fv = .slice a fs.length c) (hmv : ∃ a c, mv = .slice a mks.length c) (hF : fs.length ≤ 80 → mks.length ≤ 20 → Fill h fv mv fs fds mks) (hv : Ints .i64 h v l)
    (hAw : ∀ H, Grown h0 H → acall orc T 32 [] H = some (.bool true, H)) :
    acall orc T 6 [.agg [fv, mv, .bool op], v] h = some (.bool true, h) :=
 right_walk (h5 _ (by simp [told5])) (btold h1 h2 h3 h4 ht) hg hfv hmv hF hv hAw (fun pa N ds ms sh xs zs v l H B hv => dcheck_told h4 h5 B hv) (fun pa N ds ms sh xs zs M n H B hM => at_told h4 h5 M B n hM)
end Go.Proofs.Cards
