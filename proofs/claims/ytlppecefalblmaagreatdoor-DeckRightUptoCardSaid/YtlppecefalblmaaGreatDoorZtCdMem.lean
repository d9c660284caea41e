/- Lists of parts in memory, and cards: held against each other, copied, lent, kept. -/
import Derived.Test.YtlppecefalblmaaGreatDoorFz05
import Derived.Test.YtlppecefalblmaaGreatDoorZtEfMore
import Derived.Test.YtlppecefalblmaaGreatDoorFz05
namespace Go.Proofs.Cards
open Go Go.Fs
set_option linter.unusedSimpArgs false
set_option linter.unusedVariables false
noncomputable abbrev T := tbl Tryz.prog
variable {orc : Orc}
def cf57 : CF := ⟨7, [(.tmp 2)], (.seq (.region [Zo 2 (.mv (.c (.slice none 0 (.exact 0))))]) (.seq (.region [Zo 3 (.mv (.c (.slice none 0 (.exact 0))))]) (.seq (.region [Zm 4 3, Zm 5 0, Zo 6 (.append 8 40 (.t 4) (.t 5)), Zm 2 6]) .ret)))⟩
theorem tbl57 : tbl Tryz.prog 57 = some cf57 := by kernel_rfl
structure Prt where
 a : Int
 b : Int
 c : Int
 d : Int
 e : Int
 f : Int
 g : Int
 s : List UInt8
 deriving DecidableEq
def Prt.cells (p : Prt) : List AV := [.int .u8 p.a, .int .u8 p.b, .int .u8 p.c, .int .i64 p.d, .int .u8 p.e, .int .u8 p.f, .int .u8 p.g, .str p.s]
def Parts (h : AH) (v : AV) (ps : List Prt) : Prop :=
 ∃ (a : Option (Nat × Nat)) (c : Cap), v = .slice a ps.length c ∧ ps.length ≤ 1152921504606846976 ∧
  (ps = [] ∨ ∃ (b : Nat) (o : Nat) (cells : List AV) (ro : Bool), a = some (b, o) ∧ b < h.n ∧ h.get b = some (.cells cells ro) ∧ ∀ (i : Nat) (p : Prt), ps[i]? = some p → cut cells (o + i * 8) 8 = some p.cells)
theorem Parts.mono {h h' : AH} {v : AV} {ps : List Prt} (hi : Parts h v ps) (hn : h.n ≤ h'.n) (ho : ∀ b, b < h.n → h'.get b = h.get b) : Parts h' v ps := by
 obtain ⟨a, c, h1, h2, h3⟩ := hi
 refine ⟨a, c, h1, h2, ?_⟩
 rcases h3 with h3 | ⟨b, o, cells, ro, g1, g2, g3, g4⟩
 · exact .inl h3
 · exact .inr ⟨b, o, cells, ro, g1, by omega, by rw [ho b g2]; exact g3, g4⟩
theorem cut_parts {cells : List AV} {o n : Nat} {xs : List AV} (h : cut cells o n = some xs) : o + n ≤ cells.length ∧ (cells.drop o).take n = xs := by
 unfold cut at h
 split at h
 · rename_i hle; exact ⟨hle, by simpa using h⟩
 · cases h
structure InvS (h0 : AH) (v u : AV) (ps qs : List Prt) (n : Nat) (tm : List AV) (h : AH) : Prop where
 len : tm.length = 26
 t0 : tm.getD 0 AV.undef = v
 t1 : tm.getD 1 AV.undef = u
 st : ∃ i : Nat, n = ps.length - i ∧ i ≤ ps.length ∧ tm.getD 5 AV.undef = .int .i64 i ∧ ps.take i = qs.take i
 heap : h = h0.withLow h0.n
def pcells (ps : List Prt) : List AV := ps.flatMap Prt.cells
theorem length_cells (p : Prt) : p.cells.length = 8 := rfl
theorem length_pcells : ∀ ps : List Prt, (pcells ps).length = 8 * ps.length
 | [] => rfl
 | p :: ps => by
   have := length_pcells ps
   simp only [pcells, List.flatMap_cons, List.length_append, length_cells, List.length_cons] at this ⊢
   omega
theorem pcells_append (a b : List Prt) : pcells (a ++ b) = pcells a ++ pcells b := by simp [pcells]
theorem one_cells (p : Prt) : p.cells.all AV.one = true := rfl
theorem cut_of {cells : List AV} {o n : Nat} {xs : List AV} (h1 : o + n ≤ cells.length) (h2 : (cells.drop o).take n = xs) : cut cells o n = some xs := by
 unfold cut; rw [if_pos h1, h2]
theorem cut_all {cells : List AV} : ∀ (ps : List Prt) (o : Nat), ps ≠ [] → (∀ (i : Nat) (p : Prt), ps[i]? = some p → cut cells (o + i * 8) 8 = some p.cells) → cut cells o (ps.length * 8) = some (pcells ps)
 | [], _, h, _ => absurd rfl h
 | p :: ps, o, _, hc => by
   obtain ⟨h1, h2⟩ := cut_parts (hc 0 p rfl)
   rw [Nat.zero_mul, Nat.add_zero] at h1 h2
   by_cases hne : ps = []
   · subst hne
     exact cut_of (by simpa using h1) (by simpa [pcells] using h2)
   · have ih := cut_all ps (o + 8) hne fun i q hq => by
       have := hc (i + 1) q (by simpa using hq)
       rw [show o + (i + 1) * 8 = o + 8 + i * 8 by omega] at this
       exact this
     obtain ⟨h3, h4⟩ := cut_parts ih
     refine cut_of (by simp only [List.length_cons]; omega) ?_
     simp only [List.length_cons]
     rw [show (ps.length + 1) * 8 = 8 + ps.length * 8 by omega, List.take_add, h2, List.drop_drop, h4]
     simp [pcells]
theorem cut_at {ps : List Prt} {pre post : List AV} {i : Nat} {p : Prt} (hp : ps[i]? = some p) : cut (pre ++ pcells ps ++ post) (pre.length + i * 8) 8 = some p.cells := by
 have hlt : i < ps.length := (List.getElem?_eq_some_iff.1 hp).1
 have e : ps = ps.take i ++ p :: ps.drop (i + 1) := by
  have hg : ps[i] = p := by
   have := List.getElem?_eq_getElem hlt
   rw [this] at hp
   exact Option.some.inj hp
  rw [← hg, List.getElem_cons_drop, List.take_append_drop]
 refine cut_of ?_ ?_
 · simp only [List.length_append, length_pcells]; omega
 · have e2 : pre ++ pcells ps ++ post = (pre ++ pcells (ps.take i)) ++ (p.cells ++ (pcells (ps.drop (i + 1)) ++ post)) := by
     conv => lhs; rw [e]
     simp [pcells]
   have hl : (pre ++ pcells (ps.take i)).length = pre.length + i * 8 := by
    simp only [List.length_append, length_pcells, List.length_take]; omega
   rw [e2, ← hl, List.drop_left, ← length_cells p, List.take_left]
theorem elems_parts {h : AH} {v : AV} {ps : List Prt} (hp : Parts h v ps) : elemsOf 8 h v = some (pcells ps) ∧ lenOf v = some ps.length := by
 obtain ⟨a, c, rfl, _, h3⟩ := hp
 refine ⟨?_, rfl⟩
 by_cases hne : ps = []
 · subst hne; rfl
 · rcases h3 with h3 | ⟨b, o, cells, ro, rfl, hb, hg, hc⟩
   · exact absurd h3 hne
   · have hz : ¬ ps.length = 0 := by simpa using hne
     simp only [elemsOf, if_neg hz, readCells, hg]
     exact cut_all ps o hne hc
theorem parts_block {h : AH} {b n : Nat} {c : Cap} {ps qs : List Prt} {ro : Bool} (hg : h.get b = some (.cells (pcells (ps ++ qs)) ro)) (hb : b < h.n) (hn : n = ps.length) (hl : ps.length ≤ 1152921504606846976) : Parts h (.slice (some (b, 0)) n c) ps := by
 subst hn
 refine ⟨_, c, rfl, hl, .inr ⟨b, 0, _, ro, rfl, hb, hg, fun i p hp => ?_⟩⟩
 have := cut_at (pre := []) (post := pcells qs) hp
 rw [pcells_append]
 simpa using this
def Copied (h : AH) (ps : List Prt) (v : AV) (h' : AH) : Prop :=
 (ps = [] ∧ v = .slice none 0 (.exact 0) ∧ h' = h) ∨
 (ps ≠ [] ∧ v = .slice (some (h.n, 0)) ps.length (.opn 8) ∧ h'.n = h.n + 1 ∧ h'.get h.n = some (.cells (pcells ps) false) ∧ (∀ b, b < h.n → h'.get b = h.get b) ∧ min h.low h.n ≤ h'.low)
theorem append_nil {h : AH} {x : AV} {ps : List Prt} (hp : Parts h x ps) (hl : ps.length * 40 ≤ 140737488355328) :
    appendRun 8 40 (.slice none 0 (.exact 0)) x h = if ps.length = 0 then some (.slice none 0 (.exact 0), h) else some (.slice (some (h.n, 0)) ps.length (.opn 8), h.push (.cells (pcells ps) false)) := by
 obtain ⟨h1, h2⟩ := elems_parts hp
 unfold appendRun
 rw [h2, Option.bind_some, h1, Option.bind_some]
 unfold appendCore
 simp only [elemsOf, if_true, Option.bind_some, Nat.zero_add, List.nil_append]
 by_cases hz : ps.length = 0
 · rw [if_pos (by omega), if_pos hz]
 · rw [if_neg (by omega), if_neg hz, if_pos ⟨by omega, by omega⟩]
theorem copy_spec (ho : orc 57 = none) {v : AV} {ps : List Prt} {h : AH} (hp : Parts h v ps) (hl : ps.length * 40 ≤ 140737488355328) :
    ∃ v' h', acall orc T 57 [v] h = some (v', h') ∧ Copied h ps v' h' := by
 refine acall_facts ho tbl57 ?_
 have hp' : Parts (h.withLow h.n) v ps := hp.mono (Nat.le_refl _) fun _ _ => rfl
 have ha := append_nil hp' hl
 refine GD ?_
 by_cases hz : ps.length = 0
 · rw [if_pos hz] at ha
   (have fct := Fj @Fs.over.eq_1 (Fj @op_append @ha); (repeat' first | refine A_walk ?_ | exact trivial | refine GuardK_split (fun hb => ?_) (fun hb => ?_) | refine CondK_split (fun hb => ?_) (fun hb => ?_) | refine CodeK_regionD _ ?_ | refine DGuardK_split (fun hb => ?_) (fun hb => ?_)); all_goals try clear fct)
   refine ⟨_, rfl, .inl ⟨by simpa using hz, ?_⟩⟩
   rw [settle_keep (by simp) (by simp [AV.under])]
   exact ⟨rfl, rfl⟩
 · rw [if_neg hz] at ha
   (have fct := Fj @Fs.over.eq_1 (Fj @op_append @ha); (repeat' first | refine A_walk ?_ | exact trivial | refine GuardK_split (fun hb => ?_) (fun hb => ?_) | refine CondK_split (fun hb => ?_) (fun hb => ?_) | refine CodeK_regionD _ ?_ | refine DGuardK_split (fun hb => ?_) (fun hb => ?_)); all_goals try clear fct)
   refine ⟨_, rfl, .inr ⟨by simpa using hz, ?_⟩⟩
   rw [settle_new (by simp [AV.under])]
   refine ⟨rfl, rfl, ?_, fun b hb => ?_, ?_⟩
   · simp only [Hp.get_withLow, Hp.get_push, Hp.n_withLow, if_true]
   · have : ¬ b = h.n := by omega
     simp only [Hp.get_withLow, Hp.get_push, Hp.n_withLow, this, if_false]
   · simp only [Hp.low_withLow, Hp.low_push]; omega
structure Crd where
 name : List UInt8
 suit : Int
 kind : Int
 cost : Int
 power : Int
 health : Int
 traits : Int
 token : Bool
 deriving DecidableEq
def Crd.cells (c : Crd) (v : AV) : List AV := [.str c.name, .int .u8 c.suit, .int .u8 c.kind, .int .i64 c.cost, .int .i64 c.power, .int .i64 c.health, .int .u16 c.traits, .bool c.token, v]
end Go.Proofs.Cards
