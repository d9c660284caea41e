/- suit.Of, which ranges over a function: what it answers, whatever the name; what is told of it ahead of the machine. -/
import Derived.RangeFuncFrom
import Derived.RangeFuncCalls
import Derived.WalkKit
import Derived.OwnWalkIn
import Derived.TacticsInMore
import Derived.RegionIn
import Derived.LoopNIn
import Derived.LoopIn
import Derived.Shelf.Abstract
import Derived.Test.YtjmhjipacmlojaaGreatDoorFz04
import Derived.Test.YtjmhjipacmlojaaGreatDoorFz04
import Derived.Test.YtjmhjipacmlojaaGreatDoorChecked
namespace Go.Proofs.YtjmhjipacmlojaaGreatDoor.suits
set_option maxRecDepth 100000
set_option maxHeartbeats 32000000
open Go.RowKit Go.Fs Go.Shelf
def nm : Fin 6 → List UInt8
 | 0 => [97, 105, 114]
 | 1 => [101, 97, 114, 116, 104]
 | 2 => [102, 105, 114, 101]
 | 3 => [119, 97, 116, 101, 114]
 | 4 => [118, 111, 105, 100]
 | 5 => [103, 111, 108, 100]
def enc (k : Fin 6) : Value := .int .u8 ((k.val : Int) + 1)
def upto (k : Nat) : List (Fin 6) := (List.finRange 6).take k
theorem upto_all : ∀ k : Fin 6, k ∈ upto 6 := by decide
theorem mixed : Tryz.prog.follows .mixedOrders = true := by kernel_rfl
theorem name_of (k : Nat) (s : List UInt8) (h : (runQ noOrc (tbl Tryz.prog) 20 30 [.int .u8 (Int.ofNat k)] (Go.Fs.start Tryz.prog.globals.size)).map Prod.fst = some (.str s)) (w : World) :
    Calls Tryz.prog 30 #[.int .u8 (Int.ofNat k)] w fun e w' => e = .returned (.string ⟨s.toArray⟩) ∧ Below w.heap.size w w' := by
 obtain ⟨⟨v, h'⟩, h1, h2⟩ := Option.map_eq_some_iff.1 h
 simp only at h2
 subst h2
 rw [runQ_eq] at h1
 exact (run_sound mixed (good_noOrc _) (by kernel_rfl) h1 (start_rel _ w) (rargs := [.int .u8 (Int.ofNat k)]) (by simp [VRels, VRel])).mono fun e w' ⟨ι', rv, he, hv, _, s⟩ =>
  ⟨by rw [he, str_of hv], below_of s fun b c hb => by rw [start_get] at hb; cases hb⟩
theorem name_calls : ∀ (k : Fin 6) (w : World), Calls Tryz.prog 30 #[enc k] w fun e w' => e = .returned (.string ⟨(nm k).toArray⟩) ∧ Below w.heap.size w w'
 | 0, w => name_of 1 _ (by kernel_rfl) w
 | 1, w => name_of 2 _ (by kernel_rfl) w
 | 2, w => name_of 3 _ (by kernel_rfl) w
 | 3, w => name_of 4 _ (by kernel_rfl) w
 | 4, w => name_of 5 _ (by kernel_rfl) w
 | 5, w => name_of 6 _ (by kernel_rfl) w
theorem all_in (F : Fence) (n : Nat) (hf : F.fn 132) (hro : F.round = none) (hn : 1 ≤ n) (l : Nat) (J Jx : List (Fin 6) → World → Prop)
    (hY : ∀ pre x W, J pre W → pre.length < 6 → YieldAt F (n - 1) Tryz.prog l #[enc x] W fun e W' =>
      (e = .returned (.bool true) ∧ J (pre ++ [x]) W' ∧ KeepsWalks W W') ∨ (e = .returned (.bool false) ∧ Jx (pre ++ [x]) W'))
    (W : World) (h0 : J [] W) :
    CallsIn F n Tryz.prog 132 #[.func (.yield l) #[] #[]] W fun e W' => (∃ v, e = .returned v) ∧ ((∃ xs, xs = upto 6 ∧ J xs W') ∨ (∃ pre, (∃ k, pre = upto k) ∧ Jx pre W')) := by
 refine callsIn_of_wp Tryz.func132 rfl hf ?_ hro
 simp only [Tryz.ntmps132, List.size_toArray, List.length_cons, List.length_nil, Nat.reduceAdd, Nat.reduceSub, Array.replicate_succ, Array.replicate_zero, List.push_toArray, List.append_toArray, List.nil_append, List.cons_append]
 gi_wp2
 gi_loopw [2] (fun s wr => ∃ k : Nat, s = .int .u8 ((k : Int) + 1) ∧ k ≤ 6 ∧ J (upto k) wr) (fun s _ => match s with | .int _ m => 7 - m.toNat | _ => 0)
 case atStart => exact ⟨0, rfl, by omega, h0⟩
 case round =>
  obtain ⟨k, rfl, h1, hJ⟩ := hrel
  by_cases hk : k = 6
  · subst hk
    gi_wp2
    go_end0
    exact ⟨⟨_, rfl⟩, .inl ⟨_, rfl, hJ⟩⟩
  · have hlt : k < 6 := by omega
    have hup : upto k ++ [⟨k, hlt⟩] = upto (k + 1) := by
     unfold upto
     rw [List.take_succ_eq_append_getElem (by simp; exact hlt)]
     simp
    obtain ⟨fn, tmps, assign, body, hy, hR⟩ := hY (upto k) ⟨k, hlt⟩ wr hJ (by simp [upto]; omega)
    have hy' : (Instr.yield l #[.int .u8 ((k : Int) + 1)]).run Tryz.prog wr = .ok (.round l fn tmps assign body) wr := hy
    clear hy
    gi_wp2
    refine hR.mono ?_
    rintro e W3 (⟨rfl, hJ3, hk3⟩ | ⟨rfl, hJx3⟩)
    · gi_wp2
      go_roundw
      case rel => exact ⟨k + 1, by simp, by omega, hup ▸ hJ3⟩
      case measure =>
       show 7 - ((k : Int) + 1 + 1).toNat < 7 - ((k : Int) + 1).toNat
       omega
    · gi_wp2
      refine bodyPost_ret (results_none rfl _ _ _) rfl ?_
      exact ⟨⟨_, rfl⟩, .inr ⟨_, ⟨k + 1, rfl⟩, hup ▸ hJx3⟩⟩
theorem all_stops (F : Fence) (n : Nat) (hf : F.fn 132) (hro : F.round = none) (hn : 1 ≤ n) (w : World) :
    SeqStopsK F n Tryz.prog 132 #[] (fun x => #[enc x]) KeepsWalks (fun xs => xs = upto 6) (fun pre => ∃ k, pre = upto k) 6 w :=
 fun l J Jx W _ _ _ hY h0 => all_in F n hf hro hn l J Jx hY W h0
theorem keeps_of {W W' : World} (h : Below W.heap.size W W') : KeepsOthers W W' :=
 ⟨h.size, fun k _ hk _ => (h.block k (Array.getElem?_eq_some_iff.1 hk).1).trans hk⟩
theorem all_calls (w : World) : Calls Tryz.prog 101 #[] w fun e w' => e = .returned (.func (.func 132) #[] #[]) ∧ w' = w := by
 go_enter Tryz.func101, Tryz.ntmps101
 go_wp2
 go_ret
 exact ⟨rfl, rfl⟩
theorem cell_of_box {W : World} {B : Nat} {v : Value} {t : TypeId} (h : W.heap[B]? = some (.cells #[v] t (0, 0))) : W.cell? ⟨B, 0, none⟩ = some v ∧ W.frozen? ⟨B, 0, none⟩ = false := by
 constructor <;> simp [World.cell?, World.frozen?, h]
structure Mid (w : World) (s : List UInt8) (a : Int) (b : Bool) (W : World) : Prop where
 c0 : W.cell? ⟨w.heap.size, 0, none⟩ = some (.string ⟨s.toArray⟩)
 c1 : W.cell? ⟨w.heap.size + 1, 0, none⟩ = some (.int .u8 a)
 f1 : W.frozen? ⟨w.heap.size + 1, 0, none⟩ = false
 c2 : W.cell? ⟨w.heap.size + 1 + 1, 0, none⟩ = some (.bool b)
 f2 : W.frozen? ⟨w.heap.size + 1 + 1, 0, none⟩ = false
 bel : Below w.heap.size w W
theorem Mid.later {w : World} {s : List UInt8} {a : Int} {b : Bool} {W W' : World} (h : Mid w s a b W) (hb : Below W.heap.size W W') : Mid w s a b W' := by
 have k : ∀ (B : Nat) v, W.cell? ⟨B, 0, none⟩ = some v → W'.heap[B]? = W.heap[B]? := fun B v hv => by
  obtain ⟨o, ho, _⟩ := cells_of_cell hv
  exact hb.block B (Array.getElem?_eq_some_iff.1 ho).1
 exact ⟨(World.cell?_of_block (k _ _ h.c0)).trans h.c0, (World.cell?_of_block (k _ _ h.c1)).trans h.c1, (World.frozen?_of_block (k _ _ h.c1)).trans h.f1,
  (World.cell?_of_block (k _ _ h.c2)).trans h.c2, (World.frozen?_of_block (k _ _ h.c2)).trans h.f2, h.bel.trans (hb.mono h.bel.size)⟩
theorem Mid.own {w : World} {s : List UInt8} {a : Int} {b : Bool} {B : Nat} (hB : w.heap.size ≤ B) {W W' : World} {row : Option Nat} (h : Mid w s a b W) (hg : W.grownBy W' row)
    (hr : ∀ r, row = some r → B ≤ r ∧ ∃ o : Obj, W.heap[r]? = some o ∧ o.isCells = false) : Mid w s a b W' :=
 ⟨cell_kept h.c0 hg fun r e => (hr r e).2, cell_kept h.c1 hg fun r e => (hr r e).2, (frozen_kept h.c1 hg fun r e => (hr r e).2).trans h.f1, cell_kept h.c2 hg fun r e => (hr r e).2, (frozen_kept h.c2 hg fun r e => (hr r e).2).trans h.f2,
  ownFrom_below (β := Unit) (Nat.le_refl _) hB () W W' row h.bel hg hr⟩
theorem set_mid {w : World} {s : List UInt8} {W : World} (h : Mid w s 0 false W) (a : Int) (b : Bool) : Mid w s a b ((W.setCell ⟨w.heap.size + 1, 0, none⟩ (.int .u8 a)).setCell ⟨w.heap.size + 1 + 1, 0, none⟩ (.bool b)) := by
 have n1 : ∀ (X : World) (v : Value) (k : Nat), k ≠ w.heap.size + 1 → (X.setCell ⟨w.heap.size + 1, 0, none⟩ v).heap[k]? = X.heap[k]? := fun X v k hk => Below.heap_setCell X ⟨w.heap.size + 1, 0, none⟩ v k hk
 have n2 : ∀ (X : World) (v : Value) (k : Nat), k ≠ w.heap.size + 1 + 1 → (X.setCell ⟨w.heap.size + 1 + 1, 0, none⟩ v).heap[k]? = X.heap[k]? := fun X v k hk => Below.heap_setCell X ⟨w.heap.size + 1 + 1, 0, none⟩ v k hk
 have c2 : (W.setCell ⟨w.heap.size + 1, 0, none⟩ (.int .u8 a)).cell? ⟨w.heap.size + 1 + 1, 0, none⟩ = some (.bool false) := (World.cell?_of_block (n1 W _ (w.heap.size + 1 + 1) (by omega))).trans h.c2
 refine ⟨?_, ?_, ?_, ?_, ?_, ?_⟩
 · exact (World.cell?_of_block ((n2 _ _ w.heap.size (by omega)).trans (n1 _ _ w.heap.size (by omega)))).trans h.c0
 · exact (World.cell?_of_block (n2 _ _ (w.heap.size + 1) (by omega))).trans (World.cell?_setCell_same' _ _ _ (by rw [h.c1]; rfl))
 · rw [World.frozen?_setCell, World.frozen?_setCell]; exact h.f1
 · exact World.cell?_setCell_same' _ _ _ (by rw [c2]; rfl)
 · rw [World.frozen?_setCell, World.frozen?_setCell]; exact h.f2
 · exact (h.bel.setCell (Nat.le_succ _) _).setCell (by show w.heap.size ≤ w.heap.size + 1 + 1; omega) _
def find (s : List UInt8) : Option (Fin 6) := (List.finRange 6).find? fun k => decide (nm k = s)
def answer (s : List UInt8) : Int × Bool := match find s with
 | some k => ((k.val : Int) + 1, true)
 | none => (0, false)
attribute [local go_sem] Oper.semAt_some
theorem of_calls (s : List UInt8) (w : World) : Calls Tryz.prog 56 #[.string ⟨s.toArray⟩] w fun e w' =>
    e = .returned (.tuple #[.int .u8 (answer s).1, .bool (answer s).2]) ∧ Below w.heap.size w w' := by
 have hA : Fence.wide.fn 101 := trivial
 have hN : Fence.wide.fn 30 := trivial
 refine (callsIn_wide (n := 3)).1 ?_
 refine callsIn_of_wp_marks Tryz.func56 rfl trivial ?_ rfl
 simp only [Tryz.ntmps56, List.size_toArray, List.length_cons, List.length_nil, Nat.reduceAdd, Nat.reduceSub, Array.replicate_succ, Array.replicate_zero, List.push_toArray, List.append_toArray, List.nil_append, List.cons_append]
 gi_wp2_with (gi_at_call 101; refine ((callsIn_wide (n := 2)).2 (all_calls _)).mono ?_; rintro e w' ⟨rfl, rfl⟩)
 obtain ⟨W0, hW0⟩ : ∃ W0, ((w.alloc (.cells #[.string ⟨s.toArray⟩] 9)).alloc (.cells #[.int .u8 0] 22)).alloc (.cells #[.bool false] 4) = W0 := ⟨_, rfl⟩
 have hs0 : W0.heap.size = w.heap.size + 3 := by rw [← hW0]; simp
 have hM0 : Mid w s 0 false W0 := by
  have hB0 : W0.heap[w.heap.size]? = some (.cells #[.string ⟨s.toArray⟩] 9 (0, 0)) := by
   rw [← hW0]; exact ((Below.heap_alloc _ _ _ (by simp; omega)).trans (Below.heap_alloc _ _ _ (by simp))).trans (World.alloc_heap_new w _)
  have hB1 : W0.heap[w.heap.size + 1]? = some (.cells #[.int .u8 0] 22 (0, 0)) := by
   rw [← hW0]; refine (Below.heap_alloc _ _ _ (by simp)).trans ?_
   have := World.alloc_heap_new (w.alloc (.cells #[.string ⟨s.toArray⟩] 9)) (.cells #[.int .u8 0] 22); rwa [World.size_alloc] at this
  have hB2 : W0.heap[w.heap.size + 1 + 1]? = some (.cells #[.bool false] 4 (0, 0)) := by
   rw [← hW0]; have := World.alloc_heap_new ((w.alloc (.cells #[.string ⟨s.toArray⟩] 9)).alloc (.cells #[.int .u8 0] 22)) (.cells #[.bool false] 4); rwa [World.size_alloc, World.size_alloc] at this
  exact ⟨(cell_of_box hB0).1, (cell_of_box hB1).1, (cell_of_box hB1).2, (cell_of_box hB2).1, (cell_of_box hB2).2,
   by rw [← hW0]; exact (((Below.refl _ w).alloc (Nat.le_refl _) _).alloc (by simp) _).alloc (by simp; omega) _⟩
 rw [hW0]
 refine wpIn_rangeFunc_ownF (F := Fence.wide) rfl (by omega) (gf := 132) (lb := #[]) rfl trivial (enters_of Tryz.func132 (by kernel_rfl) rfl)
  (all_stops Fence.wide 2 trivial rfl (by omega) W0) walksK_t walksK_b (Below.refl _ _) (fun _ => rfl)
  (fun pre W => (∀ y ∈ pre, nm y ≠ s) ∧ Mid w s 0 false W)
  (fun c pre W => c = .ret ∧ ∃ p y, pre = p ++ [y] ∧ (∀ z ∈ p, nm z ≠ s) ∧ nm y = s ∧ Mid w s ((y.val : Int) + 1) true W)
  (fun p A B row hs hg hr => ⟨hs.1, hs.2.own (by omega) hg hr⟩)
  (fun c p A B row ⟨h1, q, y, h2, h3, h4, h5⟩ hg hr => ⟨h1, q, y, h2, h3, h4, h5.own (by omega) hg hr⟩)
  ⟨by simp, hM0⟩
  (fun x => { tmps := #[.string ⟨s.toArray⟩, .pointer (some ⟨w.heap.size, 0, none⟩), .pointer (some ⟨w.heap.size + 1, 0, none⟩), .pointer (some ⟨w.heap.size + 1 + 1, 0, none⟩), enc x, .func (.func 132) #[] #[], enc x, undef, undef, undef, undef, undef], defers := [] }) ?assign ?body ?done ?stop
 case assign =>
  intro l x W K hK
  gi_wp2_with (rw [Oper.semAt_eq _ _ _ (fun c h => by cases h)]; go_simp; try go_bits)
  exact hK
 case body =>
  rintro l pre x W ⟨hp, hm⟩ _
  have hc0 := hm.c0
  have hname : ∀ W', CallsIn (Fence.wide.inRound l) 0 Tryz.prog 30 #[enc x] W' fun e w' => e = .returned (.string ⟨(nm x).toArray⟩) ∧ Below W'.heap.size W' w' := fun W' => CallsIn.inRound l ((callsIn_wide (n := 0)).2 (name_calls x W'))
  have hcd : W.drew.cell? ⟨w.heap.size, 0, none⟩ = some (.string ⟨s.toArray⟩) := hc0
  have later : ∀ w', Below W.drew.heap.size W.drew w' → Mid w s 0 false w' := fun w' hb => (hm.later (Below.refl _ W).drew).later hb
  gi_wp2
  refine wpIn_region_any mixed ?_
  change wpAnyIn _ _ _ _ _ _ _ _ _ (World.drew _)
  refine wpAnyIn_ready (rs := [0, 2]) (by kernel_rfl) (by simp) ?_
  refine AllReadyIn.cons rfl (fun K hK => ?_) (AllReadyIn.cons rfl (fun K hK => ?_) AllReadyIn.nil)
  · go_simp
    refine hK _ _ ?_
    clear hK K
    refine wpAnyIn_ready (rs := [1, 2]) (by kernel_rfl) (by simp) ?_
    refine AllReadyIn.cons rfl (fun K hK => ?_) (AllReadyIn.cons rfl (fun K hK => ?_) AllReadyIn.nil)
    · go_simp
      refine (hname _).mono ?_
      rintro e w' ⟨rfl, hb⟩
      have hm' := later w' hb
      have hc' := hm'.c0
      refine hK _ _ ?_
      clear hK K
      refine wpAnyIn_ready (rs := [2]) (by kernel_rfl) (by simp) ?_
      refine AllReadyIn.cons rfl (fun K hK => ?_) AllReadyIn.nil
      go_simp
      refine hK _ _ ?_
      clear hK K
      refine wpAnyIn_ready (rs := [3]) (by kernel_rfl) (by simp) ?_
      refine AllReadyIn.cons rfl (fun K hK => ?_) AllReadyIn.nil
      go_simp
      refine hK _ _ ?_
      clear hK K
      refine wpAnyIn_done (by kernel_rfl) ?_ _
      have hbw : Below W.heap.size W w' := ((Below.refl W.heap.size W).drew).trans hb
      have hk : KeepsOthers W w' := keeps_of hbw
      have hc1 := hm'.c1
      have hf1 := hm'.f1
      have hc2 := hm'.c2
      have hf2 := hm'.f2
      by_cases hx : nm x = s
      · have hb1 : (nm x == s) = true := by simp [hx]
        rw [hb1]
        simp only [enc]
        have hc3 : (w'.setCell ⟨w.heap.size + 1, 0, none⟩ (.int .u8 ((x.val : Int) + 1))).cell? ⟨w.heap.size + 1 + 1, 0, none⟩ = some (.bool false) := (World.cell?_of_block (Below.heap_setCell w' ⟨w.heap.size + 1, 0, none⟩ _ _ (by show w.heap.size + 1 + 1 ≠ w.heap.size + 1; omega))).trans hc2
        have hf3 : (w'.setCell ⟨w.heap.size + 1, 0, none⟩ (.int .u8 ((x.val : Int) + 1))).frozen? ⟨w.heap.size + 1 + 1, 0, none⟩ = false := by rw [World.frozen?_setCell]; exact hf2
        gi_wp2
        refine ⟨hk.trans ((KeepsOthers.setCell _ _ _).trans (KeepsOthers.setCell _ _ _)), rfl, pre, x, rfl, hp, hx, ?_⟩
        exact set_mid hm' _ _
      · have hb0 : (nm x == s) = false := by simp [hx]
        rw [hb0]
        gi_wp2
        exact ⟨hk, hk.walks, fun y hy => (List.mem_append.1 hy).elim (hp y) (fun e => by simp at e; rw [e]; exact hx), hm'⟩
    · go_simp
      refine hK _ _ ?_
      clear hK K
      refine wpAnyIn_ready (rs := [1]) (by kernel_rfl) (by simp) ?_
      refine AllReadyIn.cons rfl (fun K hK => ?_) AllReadyIn.nil
      go_simp
      refine (hname _).mono ?_
      rintro e w' ⟨rfl, hb⟩
      have hm' := later w' hb
      have hc' := hm'.c0
      refine hK _ _ ?_
      clear hK K
      refine wpAnyIn_ready (rs := [3]) (by kernel_rfl) (by simp) ?_
      refine AllReadyIn.cons rfl (fun K hK => ?_) AllReadyIn.nil
      go_simp
      refine hK _ _ ?_
      clear hK K
      refine wpAnyIn_done (by kernel_rfl) ?_ _
      have hbw : Below W.heap.size W w' := ((Below.refl W.heap.size W).drew).trans hb
      have hk : KeepsOthers W w' := keeps_of hbw
      have hc1 := hm'.c1
      have hf1 := hm'.f1
      have hc2 := hm'.c2
      have hf2 := hm'.f2
      by_cases hx : nm x = s
      · have hb1 : (nm x == s) = true := by simp [hx]
        rw [hb1]
        simp only [enc]
        have hc3 : (w'.setCell ⟨w.heap.size + 1, 0, none⟩ (.int .u8 ((x.val : Int) + 1))).cell? ⟨w.heap.size + 1 + 1, 0, none⟩ = some (.bool false) := (World.cell?_of_block (Below.heap_setCell w' ⟨w.heap.size + 1, 0, none⟩ _ _ (by show w.heap.size + 1 + 1 ≠ w.heap.size + 1; omega))).trans hc2
        have hf3 : (w'.setCell ⟨w.heap.size + 1, 0, none⟩ (.int .u8 ((x.val : Int) + 1))).frozen? ⟨w.heap.size + 1 + 1, 0, none⟩ = false := by rw [World.frozen?_setCell]; exact hf2
        gi_wp2
        refine ⟨hk.trans ((KeepsOthers.setCell _ _ _).trans (KeepsOthers.setCell _ _ _)), rfl, pre, x, rfl, hp, hx, ?_⟩
        exact set_mid hm' _ _
      · have hb0 : (nm x == s) = false := by simp [hx]
        rw [hb0]
        gi_wp2
        exact ⟨hk, hk.walks, fun y hy => (List.mem_append.1 hy).elim (hp y) (fun e => by simp at e; rw [e]; exact hx), hm'⟩
  · go_simp
    refine hK _ _ ?_
    clear hK K
    refine wpAnyIn_ready (rs := [0]) (by kernel_rfl) (by simp) ?_
    refine AllReadyIn.cons rfl (fun K hK => ?_) AllReadyIn.nil
    go_simp
    refine hK _ _ ?_
    clear hK K
    refine wpAnyIn_ready (rs := [1]) (by kernel_rfl) (by simp) ?_
    refine AllReadyIn.cons rfl (fun K hK => ?_) AllReadyIn.nil
    go_simp
    refine (hname _).mono ?_
    rintro e w' ⟨rfl, hb⟩
    have hm' := later w' hb
    have hc' := hm'.c0
    refine hK _ _ ?_
    clear hK K
    refine wpAnyIn_ready (rs := [3]) (by kernel_rfl) (by simp) ?_
    refine AllReadyIn.cons rfl (fun K hK => ?_) AllReadyIn.nil
    go_simp
    refine hK _ _ ?_
    clear hK K
    refine wpAnyIn_done (by kernel_rfl) ?_ _
    have hbw : Below W.heap.size W w' := ((Below.refl W.heap.size W).drew).trans hb
    have hk : KeepsOthers W w' := keeps_of hbw
    have hc1 := hm'.c1
    have hf1 := hm'.f1
    have hc2 := hm'.c2
    have hf2 := hm'.f2
    by_cases hx : nm x = s
    · have hb1 : (nm x == s) = true := by simp [hx]
      rw [hb1]
      simp only [enc]
      have hc3 : (w'.setCell ⟨w.heap.size + 1, 0, none⟩ (.int .u8 ((x.val : Int) + 1))).cell? ⟨w.heap.size + 1 + 1, 0, none⟩ = some (.bool false) := (World.cell?_of_block (Below.heap_setCell w' ⟨w.heap.size + 1, 0, none⟩ _ _ (by show w.heap.size + 1 + 1 ≠ w.heap.size + 1; omega))).trans hc2
      have hf3 : (w'.setCell ⟨w.heap.size + 1, 0, none⟩ (.int .u8 ((x.val : Int) + 1))).frozen? ⟨w.heap.size + 1 + 1, 0, none⟩ = false := by rw [World.frozen?_setCell]; exact hf2
      gi_wp2
      refine ⟨hk.trans ((KeepsOthers.setCell _ _ _).trans (KeepsOthers.setCell _ _ _)), rfl, pre, x, rfl, hp, hx, ?_⟩
      exact set_mid hm' _ _
    · have hb0 : (nm x == s) = false := by simp [hx]
      rw [hb0]
      gi_wp2
      exact ⟨hk, hk.walks, fun y hy => (List.mem_append.1 hy).elim (hp y) (fun e => by simp at e; rw [e]; exact hx), hm'⟩
 case done =>
  rintro D xs W hD rfl ⟨hne, hm⟩ hK
  have hfind : answer s = (0, false) := by
   unfold answer
   have : find s = none := List.find?_eq_none.2 fun k _ => by simpa using hne k (upto_all k)
   rw [this]
  have hc1 := hm.c1
  have hf1 := hm.f1
  have hc2 := hm.c2
  have hf2 := hm.f2
  have hc3 : (W.setCell ⟨w.heap.size + 1, 0, none⟩ (.int .u8 0)).cell? ⟨w.heap.size + 1 + 1, 0, none⟩ = some (.bool false) := (World.cell?_of_block (Below.heap_setCell W ⟨w.heap.size + 1, 0, none⟩ _ _ (by show w.heap.size + 1 + 1 ≠ w.heap.size + 1; omega))).trans hc2
  have hf3 : (W.setCell ⟨w.heap.size + 1, 0, none⟩ (.int .u8 0)).frozen? ⟨w.heap.size + 1 + 1, 0, none⟩ = false := by rw [World.frozen?_setCell]; exact hf2
  gi_wp2
  have hm2 := set_mid hm 0 false
  have hK' := ((KeepsOthers.setCell W ⟨w.heap.size + 1, 0, none⟩ (.int .u8 0)).trans (KeepsOthers.setCell _ ⟨w.heap.size + 1 + 1, 0, none⟩ (.bool false))).same D _ hK rfl
  refine ⟨by simp, .inl ⟨_, _, rfl, run_takeDeferred hK', ?_⟩⟩
  have hm3 : Mid w s 0 false (World.putObj _ D (.deferred none)) := hm2.own (B := w.heap.size) (Nat.le_refl _) (grownBy_putObj' _ D (.deferred none)) (fun r e => by cases e; exact ⟨by omega, _, hK', rfl⟩)
  have h31 := hm3.c1
  have h32 := hm3.c2
  refine ⟨.tuple #[.int .u8 0, .bool false], ?_, by rw [hfind], hm3.bel⟩
  simp [results, Tryz.f56, go_sem, h31, h32]
 case stop =>
  rintro D c pre W hD ⟨k, hpre⟩ ⟨rfl, p, y, hpy, hbefore, hy, hm⟩ hK
  have hfind : answer s = ((y.val : Int) + 1, true) := by
   unfold answer
   have : find s = some y := by
    have hup : (List.finRange 6) = (p ++ [y]) ++ (List.finRange 6).drop k := by
     rw [← hpy, hpre]
     exact (List.take_append_drop k _).symm
    unfold find
    rw [hup, List.find?_append, List.find?_append, List.find?_eq_none.2 (fun z hz => by simpa using hbefore z hz)]
    simp [hy]
   rw [this]
  gi_wp2
  refine ⟨by simp, .inl ⟨_, _, rfl, run_takeDeferred hK, ?_⟩⟩
  have hm3 : Mid w s ((y.val : Int) + 1) true (World.putObj _ D (.deferred none)) := hm.own (B := w.heap.size) (Nat.le_refl _) (grownBy_putObj' _ D (.deferred none)) (fun r e => by cases e; exact ⟨by omega, _, hK, rfl⟩)
  have h31 := hm3.c1
  have h32 := hm3.c2
  refine ⟨.tuple #[.int .u8 ((y.val : Int) + 1), .bool true], ?_, by rw [hfind], hm3.bel⟩
  simp [results, Tryz.f56, go_sem, h31, h32]
end Go.Proofs.YtjmhjipacmlojaaGreatDoor.suits
