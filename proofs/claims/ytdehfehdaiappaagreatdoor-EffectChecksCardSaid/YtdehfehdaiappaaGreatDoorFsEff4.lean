/- The operations that make or write memory: what the abstract machine does is what the model does. -/
import Derived.Test.YtdehfehdaiappaaGreatDoorFsEff3
namespace Go.Fs
section
variable {P : Program} {ι : Emb} {h : AH} {w : World}

def CO.isCall : CO → Bool
  | .call _ _ => true
  | _ => false

theorem does_of {a : Act} {o : Oper} {v : AV} {h' : AH} {s : Sem Value} (he : execOp a.eval o = (do pure (.value (← s)) : Sem Next))
    (hs : ∃ ι' rv w', s.run P w = .ok rv w' ∧ VRel ι' v rv ∧ Rel P.globals.size ι' h' w' ∧ Stp ι ι' h h' w w') : Does P ι h w a o v h' := by
  obtain ⟨ι', rv, w', h1, h2⟩ := hs
  refine ⟨ι', rv, w', .inl ?_, h2⟩
  rw [he]
  simp [h1]

theorem does_unit {a : Act} {o : Oper} {h' : AH} {s : Sem Unit} (he : execOp a.eval o = (do s; pure .skip : Sem Next))
    (hs : ∃ ι' w', s.run P w = .ok () w' ∧ Rel P.globals.size ι' h' w' ∧ Stp ι ι' h h' w w') : Does P ι h w a o AV.undef h' := by
  obtain ⟨ι', w', h1, h2⟩ := hs
  refine ⟨ι', Go.undef, w', .inr ⟨?_, rfl⟩, VRel.undef, h2⟩
  rw [he]
  simp [h1]

theorem reps_rel {z : List AV} {rz : List Value} (hz : VRels ι z rz) : ∀ n, VRels ι (reps z n) ((List.replicate n rz).flatten)
  | 0 => by simp [reps, VRels]
  | n + 1 => by
    simp only [reps, List.replicate_succ, List.flatten_cons]
    exact hz.append (reps_rel hz n)

theorem range_map (rz : Array Value) (hpos : 0 < rz.size) (n : Nat) : ((Array.range (n * rz.size)).map (fun i => rz[i % rz.size]!)).toList = (List.replicate n rz.toList).flatten := by
  induction n with
  | zero => simp
  | succ n ih =>
    rw [List.replicate_succ']
    rw [List.flatten_append, ← ih]
    simp only [List.flatten_cons, List.flatten_nil, List.append_nil]
    apply List.ext_getElem?
    intro i
    rw [Array.getElem?_toList, Array.getElem?_map, Array.getElem?_range]
    rw [List.getElem?_append]
    simp only [Array.length_toList, Array.size_map, Array.size_range, Array.getElem?_toList, Array.getElem?_map, Array.getElem?_range]
    have e : (n + 1) * rz.size = n * rz.size + rz.size := by rw [Nat.add_mul]; omega
    by_cases h1 : i < n * rz.size
    · rw [if_pos (by omega), if_pos h1, if_pos h1]
    · rw [if_neg h1]
      by_cases h2 : i < (n + 1) * rz.size
      · rw [if_pos h2]
        have h3 : i - n * rz.size < rz.size := by omega
        have h4 : i % rz.size = i - n * rz.size := by
          have : i = (i - n * rz.size) + n * rz.size := by omega
          rw [this, Nat.add_mul_mod_self_right, Nat.mod_eq_of_lt h3]
          omega
        simp [h4, h3]
      · rw [if_neg h2]
        rw [Array.getElem?_eq_none (by omega)]
        rfl

theorem zeroCells_none (rz : Array Value) : Builtin.zeroCells rz 0 = #[] := by
  simp [Builtin.zeroCells, Array.range_zero']

/-- The model's append of a number of zero elements. -/
theorem appz_runs {ats : Array TypeId} (type : TypeId) {t e u : TypeId} {i : TypeInfo} {rz : Value} {k kk : IntKind} {l : Int} (ht : ats[0]? = some t) (hu : P.underlying t = some (.slice e)) (hx : ats[1]? = some u)
    (hxu : P.underlying u = some (.int k)) (hi : P.info? e = some i) (hz : i.zero = some rz) (hzs : rz.cells.size = i.size) (hzsp : ∀ (j : Nat) (v : Value), rz.cells[j]? = some v → Spare v) (hpos : 0 < i.size) (h0 : 0 ≤ l) (hb : l * i.bytes ≤ 281474976710656) (h60 : l ≤ 1152921504606846976) :
    AppRuns P w e i rz (fun rs => Builtin.append_ ats type #[rs, .int kk l]) l.toNat (Builtin.zeroCells rz.cells l.toNat) := by
  have w1 : IntKind.i64.wrap l = l := by unfold IntKind.wrap; simp [IntKind.bits, IntKind.signed]; omega
  have c1 : ¬ (l < 0) := by omega
  have c2 : ¬ (281474976710656 < l * (i.bytes : Int)) := by omega
  refine ⟨hpos, hzs, hzsp, fun base sLen sCap w' hroom hst => ?_, fun base sLen sCap old hold hg hbb h63 => ?_⟩
  · by_cases hn : l.toNat = 0
    · have hnil : Builtin.zeroCells rz.cells l.toNat = #[] := by rw [hn, zeroCells_none]
      rw [hnil] at hst
      have hroom' : sLen ≤ sCap := by omega
      cases base with
      | none => simp only at hst; subst hst; simp [Builtin.append_, ht, hx, run_underlying hu, run_underlying hxu, sizeOf, typeInfo, hi, Go.asInt, asIntOf, w1, c1, c2, hroom', hn]
      | some a => simp only at hst; simp [Builtin.append_, ht, hx, run_underlying hu, run_underlying hxu, sizeOf, typeInfo, hi, Go.asInt, asIntOf, w1, c1, c2, hroom', hn]; rw [hst]; rfl
    · have hn0 : ¬ (l.toNat * i.size = 0) := by
        intro hh
        rcases Nat.mul_eq_zero.1 hh with h | h <;> omega
      cases base with
      | none => simp only at hst; subst hst; simp [Builtin.append_, ht, hx, run_underlying hu, run_underlying hxu, sizeOf, typeInfo, zeroValue, hi, hz, Go.asInt, asIntOf, w1, c1, c2, hroom]
      | some a => simp only at hst; simp [Builtin.append_, ht, hx, run_underlying hu, run_underlying hxu, sizeOf, typeInfo, zeroValue, hi, hz, Go.asInt, asIntOf, w1, c1, c2, hroom, hn0, hst]
  · have h1 : ¬ (sLen + l.toNat ≤ sCap) := by omega
    have h2 : ¬ (9223372036854775807 < ((sLen : Int) + (l.toNat : Int))) := by omega
    have h3 : ¬ (281474976710656 < Builtin.nextslicecap (sLen + l.toNat) sCap * i.bytes) := by have := growslice_fits hg hbb; omega
    by_cases hn : l.toNat = 0
    · have hl : l = 0 := by omega
      subst hl
      simp only [Int.toNat_zero, Nat.add_zero] at h1 h2 h3
      have h2' : ¬ (9223372036854775807 < (sLen : Int)) := by omega
      simp [Builtin.append_, ht, hx, run_underlying hu, run_underlying hxu, sizeOf, typeInfo, zeroValue, hi, hz, Go.asInt, asIntOf, w1, h1, h2', h3, Question.forced, hold, newRow, grownCap, zeroCells_none]
    · have hn0 : ¬ (l.toNat * i.size = 0) := by
        intro hh
        rcases Nat.mul_eq_zero.1 hh with h | h <;> omega
      have h2' : ¬ (9223372036854775807 < ((sLen : Int) + max l 0)) := by omega
      simp [Builtin.append_, ht, hx, run_underlying hu, run_underlying hxu, sizeOf, typeInfo, zeroValue, hi, hz, Go.asInt, asIntOf, w1, c1, c2, h1, h2', h3, Question.forced, hn0, hold, newRow, grownCap]

theorem appz_sound {ats : Array TypeId} (type : TypeId) {t e u : TypeId} {i : TypeInfo} {z : AV} {k : IntKind} {s x v : AV} {rs rx : Value} {h' : AH} (ht : ats[0]? = some t) (hu : P.underlying t = some (.slice e)) (hx : ats[1]? = some u)
    (hxu : P.underlying u = some (.int k)) (hi : P.info? e = some i) (hz : zeroT P e = some z) (hzl : z.cells.length = i.size) (hpos : 0 < i.size)
    (r : Rel P.globals.size ι h w) (hs : VRel ι s rs) (hrx : VRel ι x rx) (ha : appendZ i.size i.bytes z.cells s x h = some (v, h')) :
    ∃ ι' rv w', (Builtin.append_ ats type #[rs, rx]).run P w = .ok rv w' ∧ VRel ι' v rv ∧ Rel P.globals.size ι' h' w' ∧ Stp ι ι' h h' w w' := by
  unfold appendZ at ha
  split at ha
  · rename_i kk l
    split at ha
    · rename_i hc
      obtain ⟨rz, hz1, hz2, i', hi', hzv⟩ := zeroT_run (ι := ι) hz
      rw [hi] at hi'; cases hi'
      have hzs : rz.cells.size = i.size := by have := hz2.cells.length; simp at this; omega
      have hR := reps_rel hz2.cells l.toNat
      have hrm := range_map rz.cells (by omega) l.toNat
      rw [← hrm] at hR
      have hrx' := int_of hrx
      subst hrx'
      have hsz : (Builtin.zeroCells rz.cells l.toNat).size = l.toNat * i.size := by simp [Builtin.zeroCells, hzs]
      exact append_core (appz_runs type ht hu hx hxu hi hzv hzs (zeroT_spare hz hi hzv) hpos hc.1 hc.2.1 hc.2.2) r hs hR hsz ha
    · cases ha
  · cases ha

theorem sameBits_bool (n : Nat) (a b : Bool) : Instr.sameBits n (.bool a) (.bool b) = (a == b) := by cases n <;> rfl
theorem sameBits_int (n : Nat) (j k : IntKind) (a b : Int) : Instr.sameBits n (.int j a) (.int k b) = (j == k && a == b) := by cases n <;> rfl
theorem sameBits_str (n : Nat) (a b : ByteArray) : Instr.sameBits n (.string a) (.string b) = (a == b) := by cases n <;> rfl

theorem mapPut_ok {q : SK} {k x : AV} {rk rx : Value} {kt : TypeId} (hk : VRel ι k rk) (hx : VRel ι x rx) (hq : q.fits P kt) (hsc : scalar q k = true) :
    ∀ {es es' : List (AV × AV)} {rs : List MapEntry} (i : Nat), mapPut q k x es = some es' → ERels ι es rs →
      ∃ d, P.underlying kt = some d ∧ ((Instr.findNow d rk rs i = some none ∧ ∀ born, ERels ι es' (rs ++ [⟨rk, rx, born⟩])) ∨
        ∃ j e rv, Instr.findNow d rk rs i = some (some (i + j, rv)) ∧ rs[j]? = some e ∧ Instr.sameBits 10000 e.key rk = true ∧ ERels ι es' (rs.set j { e with key := rk, val := rx }))
  | [], es', rs, i, hm, hr => by
    simp only [mapPut, Option.some.injEq] at hm
    simp only [ERels] at hr
    subst hm; subst hr
    have hd : ∃ d, P.underlying kt = some d := by
      cases q
      · exact ⟨_, hq⟩
      · obtain ⟨k', hk'⟩ := hq; exact ⟨_, hk'⟩
      · exact ⟨_, hq⟩
    obtain ⟨d, hd⟩ := hd
    refine ⟨d, hd, .inl ⟨rfl, fun born => ?_⟩⟩
    simp only [List.nil_append, ERels]
    exact ⟨_, _, rfl, hk, hx, rfl⟩
  | (k', x') :: es, es', rs, i, hm, hr => by
    simp only [ERels] at hr
    obtain ⟨e, rs', rfl, h1, h2, h3⟩ := hr
    simp only [mapPut] at hm
    have hd : ∃ d, P.underlying kt = some d := by
      cases q
      · exact ⟨_, hq⟩
      · obtain ⟨k', hk'⟩ := hq; exact ⟨_, hk'⟩
      · exact ⟨_, hq⟩
    obtain ⟨d, hd⟩ := hd
    have hsame : ∀ b, scalEq q k k' = some b → Instr.sameNow d rk e.key = some b ∧ (b = true → Instr.sameBits 10000 e.key rk = true) := fun b hb => by
      cases q
      · cases k <;> cases k' <;> simp only [scalEq] at hb <;> first | (cases hb; done) | skip
        cases hb
        simp only [SK.fits] at hq
        rw [hq] at hd; cases hd
        rw [bool_of hk, bool_of h1]
        refine ⟨rfl, fun h0 => ?_⟩
        rw [sameBits_bool]
        rename_i p p'
        cases p <;> cases p' <;> simp_all
      · cases k <;> cases k' <;> simp only [scalEq] at hb <;> first | (cases hb; done) | skip
        split at hb
        · rename_i hkk
          cases hb
          obtain ⟨kk, hq⟩ := hq
          rw [hq] at hd; cases hd
          rw [int_of hk, int_of h1]
          refine ⟨by simp [Instr.sameNow, hkk], fun h0 => ?_⟩
          rw [sameBits_int]
          simp at h0
          simp [hkk, h0]
        · cases hb
      · cases k <;> cases k' <;> simp only [scalEq] at hb <;> first | (cases hb; done) | skip
        cases hb
        simp only [SK.fits] at hq
        rw [hq] at hd; cases hd
        rename_i a b
        rw [str_of hk, str_of h1]
        have hb : ((⟨a.toArray⟩ : ByteArray) == ⟨b.toArray⟩) = decide (a = b) := by
          show ((a.toArray : Array UInt8) == b.toArray) = decide (a = b)
          rw [Bool.eq_iff_iff, beq_iff_eq]
          simp
        have hb2 : ((⟨b.toArray⟩ : ByteArray) == ⟨a.toArray⟩) = decide (a = b) := by
          show ((b.toArray : Array UInt8) == a.toArray) = decide (a = b)
          rw [Bool.eq_iff_iff, beq_iff_eq]
          simp [eq_comm]
        refine ⟨by simp [Instr.sameNow, hb], fun h0 => ?_⟩
        rw [sameBits_str, hb2]
        exact h0
    cases hb : scalEq q k k' with
    | none => simp [hb] at hm
    | some b =>
      obtain ⟨hs, hs2⟩ := hsame b hb
      cases b with
      | true =>
        simp only [hb, Option.some.injEq] at hm
        subst hm
        refine ⟨d, hd, .inr ⟨0, e, e.val, by simp [Instr.findNow, hs], rfl, hs2 rfl, ?_⟩⟩
        simp only [List.set_cons_zero, ERels]
        exact ⟨_, _, rfl, hk, hx, h3⟩
      | false =>
        simp only [hb, Option.map_eq_some_iff] at hm
        obtain ⟨es2, hm, rfl⟩ := hm
        obtain ⟨d', hd', h4⟩ := mapPut_ok hk hx hq hsc (i + 1) hm h3
        rw [hd] at hd'; cases hd'
        refine ⟨d, hd, ?_⟩
        rcases h4 with ⟨h5, h6⟩ | ⟨j, e', rv, h5, h6, h7, h8⟩
        · refine .inl ⟨by simpa [Instr.findNow, hs] using h5, fun born => ?_⟩
          simp only [List.cons_append, ERels]
          exact ⟨_, _, rfl, h1, h2, h6 born⟩
        · refine .inr ⟨j + 1, e', rv, ?_, by simpa using h6, h7, ?_⟩
          · simp only [Instr.findNow, hs, h5]
            congr 3
            omega
          · simp only [List.set_cons_succ, ERels]
            exact ⟨_, _, rfl, h1, h2, h8⟩

/-- A map's block written over. -/
theorem setMap_rel {G : Nat} (r : Rel G ι h w) {b : Nat} {es es' : List (AV × AV)} (hb : h.get b = some (.map es)) {rs : Array MapEntry} {clock : Nat} (hr : ERels ι es' rs.toList) :
    Rel G ι (h.set b (.map es')) { w with heap := w.heap.setIfInBounds (ι.blk b) (.map rs clock) } ∧ Stp ι ι h (h.set b (.map es')) w { w with heap := w.heap.setIfInBounds (ι.blk b) (.map rs clock) } := by
  obtain ⟨rs0, c0, g1, g2⟩ := r.brel b _ hb
  have hlt := (Array.getElem?_eq_some_iff.1 g1).1
  have hother : ∀ k, k ≠ ι.blk b → (w.heap.setIfInBounds (ι.blk b) (.map rs clock))[k]? = w.heap[k]? := fun k hk => Array.getElem?_setIfInBounds_ne (Ne.symm hk)
  have hself : (w.heap.setIfInBounds (ι.blk b) (.map rs clock))[ι.blk b]? = some (.map rs clock) := by simp [hlt]
  refine ⟨⟨r.n, fun b' c' hb' => ?_, r.gn, r.glob, fun b' c' hb' => ?_, fun b1 b2 c1 c2 h1 h2 hne hrw hlv => ?_⟩, ?_⟩
  · rw [Hp.get_set] at hb'
    split at hb'
    · rename_i he; rw [he]; exact r.dom b _ hb
    · exact r.dom b' c' hb'
  · rw [Hp.get_set] at hb'
    split at hb'
    · rename_i he; cases hb'; rw [he]; exact ⟨rs, clock, hself, hr⟩
    · rename_i he
      exact (r.brel b' c' hb').mono (by rw [r.n]; exact r.dom b' c' hb') ι.le_refl fun hl => hother _ fun hh => r.sep b b' _ c' hb hb' (Ne.symm he) trivial hl hh.symm
  · have k1 : ∃ c, h.get b1 = some c ∧ c.rw := by
      rw [Hp.get_set] at h1
      split at h1
      · rename_i he; exact ⟨.map es, by rw [he]; exact hb, trivial⟩
      · exact ⟨_, h1, hrw⟩
    have k2 : ∃ c, h.get b2 = some c ∧ c.live := by
      rw [Hp.get_set] at h2
      split at h2
      · rename_i he; exact ⟨.map es, by rw [he]; exact hb, trivial⟩
      · exact ⟨_, h2, hlv⟩
    obtain ⟨d1, e1, e2⟩ := k1
    obtain ⟨d2, e3, e4⟩ := k2
    exact r.sep b1 b2 d1 d2 e1 e3 hne e2 e4
  · refine ⟨ι.le_refl, rfl, rfl, rfl, by simp, fun k hk hn => hother k (fun he => hn b _ hb trivial he.symm), fun b' c' hb' hrw => ?_, by simp, by simp; omega, fun b' h5 _ => ?_⟩
    · rw [Hp.get_set] at hb'
      split at hb'
      · rename_i he; exact .inr ⟨b, _, hb, trivial, by rw [he]⟩
      · exact .inr ⟨b', c', hb', hrw, rfl⟩
    · simp at h5
      exact Hp.get_set_ne _ _ _ _ (by omega)

/-- A block of one thing put in its place. -/
theorem put_rel {G : Nat} (r : Rel G ι h w) {b : Nat} {c c' : Blk} (hb : h.get b = some c) (hrw : c.rw) (hlv : c.live) (_hlt : ι.blk b < w.heap.size) (o : Obj)
    (hB : BRel ι { w with heap := w.heap.setIfInBounds (ι.blk b) o } b c') :
    Rel G ι (h.set b c') { w with heap := w.heap.setIfInBounds (ι.blk b) o } ∧ Stp ι ι h (h.set b c') w { w with heap := w.heap.setIfInBounds (ι.blk b) o } := by
  have hother : ∀ k, k ≠ ι.blk b → (w.heap.setIfInBounds (ι.blk b) o)[k]? = w.heap[k]? := fun k hk => Array.getElem?_setIfInBounds_ne (Ne.symm hk)
  refine ⟨⟨r.n, fun b' c' hb' => ?_, r.gn, r.glob, fun b' c' hb' => ?_, fun b1 b2 c1 c2 h1 h2 hne hrw1 hlv2 => ?_⟩, ?_⟩
  · rw [Hp.get_set] at hb'
    split at hb'
    · rename_i he; rw [he]; exact r.dom b _ hb
    · exact r.dom b' c' hb'
  · rw [Hp.get_set] at hb'
    split at hb'
    · rename_i he; cases hb'; rw [he]; exact hB
    · rename_i he
      exact (r.brel b' c' hb').mono (by rw [r.n]; exact r.dom b' c' hb') ι.le_refl fun hl => hother _ fun hh => r.sep b b' _ c' hb hb' (Ne.symm he) hrw hl hh.symm
  · have k1 : ∃ c, h.get b1 = some c ∧ c.rw := by
      rw [Hp.get_set] at h1
      split at h1
      · rename_i he; exact ⟨c, by rw [he]; exact hb, hrw⟩
      · exact ⟨_, h1, hrw1⟩
    have k2 : ∃ c, h.get b2 = some c ∧ c.live := by
      rw [Hp.get_set] at h2
      split at h2
      · rename_i he; exact ⟨c, by rw [he]; exact hb, hlv⟩
      · exact ⟨_, h2, hlv2⟩
    obtain ⟨d1, e1, e2⟩ := k1
    obtain ⟨d2, e3, e4⟩ := k2
    exact r.sep b1 b2 d1 d2 e1 e3 hne e2 e4
  · refine ⟨ι.le_refl, rfl, rfl, rfl, by simp, fun k hk hn => hother k (fun he => hn b _ hb hrw he.symm), fun b' c' hb' hrw' => ?_, by simp, by simp; omega, fun b' h5 _ => ?_⟩
    · rw [Hp.get_set] at hb'
      split at hb'
      · rename_i he; exact .inr ⟨b, _, hb, hrw, by rw [he]⟩
      · exact .inr ⟨b', c', hb', hrw', rfl⟩
    · simp at h5
      exact Hp.get_set_ne _ _ _ _ (by omega)

/-- A block that stands for nothing real. -/
theorem pushTyp {G : Nat} (r : Rel G ι h w) {b t : Nat} (hb : b < ι.n) (ht : ι.ty b = t) (hs : ι.sh b = 0) :
    Rel G (ι.add 0 0 0 0) (h.push (.typ b t)) w ∧ Stp ι (ι.add 0 0 0 0) h (h.push (.typ b t)) w w := by
  have hn := r.n
  have hadd : ∀ b', b' ≠ h.n → (ι.add 0 0 0 0).blk b' = ι.blk b' := fun b' hb' => by simp [Emb.add, hn, hb']
  refine ⟨⟨by simp [hn], fun b' d hd => ?_, Nat.le_succ_of_le r.gn, fun g hg => ?_, fun b' d hd => ?_, fun b1 b2 c1 c2 h1 h2 hne hrw hlv => ?_⟩, ?_⟩
  · rw [Hp.get_push] at hd
    split at hd
    · rename_i he; simp [he]
    · have := r.dom b' d hd; simp; omega
  · have := r.gn
    have h1 := r.glob g hg
    simp [Emb.add, show g ≠ ι.n by omega, h1]
  · rw [Hp.get_push] at hd
    split at hd
    · cases hd
      have hbne : b ≠ ι.n := by omega
      exact ⟨by simp; omega, by simp [Emb.add, hbne, ht], by simp [Emb.add, hbne, hs]⟩
    · have hbn := r.dom b' d hd
      exact (r.brel b' d hd).mono (by omega) (ι.le_add _ _ _ _) fun _ => rfl
  · rw [Hp.get_push] at h1 h2
    split at h1
    · cases h1; exact hrw.elim
    · rename_i e1
      split at h2
      · cases h2; exact hlv.elim
      · rename_i e2
        rw [hadd b1 e1, hadd b2 e2]
        exact r.sep b1 b2 c1 c2 h1 h2 hne hrw hlv
  · refine ⟨ι.le_add _ _ _ _, rfl, rfl, rfl, Nat.le_refl _, fun _ _ _ => rfl, fun b' d hd hrw => ?_, by simp, by simp, fun b' _ h6 => Hp.get_push_ne _ _ _ (by omega)⟩
    rw [Hp.get_push] at hd
    split at hd
    · cases hd; exact hrw.elim
    · rename_i e1; exact .inr ⟨b', d, hd, hrw, (hadd b' e1).symm⟩

/-- A new row, and its type behind it. -/
theorem typ_new {G : Nat} (r : Rel G ι h w) (e : TypeId) {cs : List AV} {arr : Array Value} (hr : VRels ι cs arr.toList) :
    ∃ ι', ((ι.add w.heap.size 0 arr.size e).le ι') ∧ Rel G ι' ((h.push (.cells cs false)).push (.typ h.n e)) (w.alloc (.cells arr e)) ∧ Stp ι ι' h ((h.push (.cells cs false)).push (.typ h.n e)) w (w.alloc (.cells arr e)) := by
  obtain ⟨k1, k2⟩ := new_rel r e hr
  obtain ⟨k3, k4⟩ := pushTyp k1 (b := h.n) (t := e) (by rw [← r.n]; simp) (by rw [← r.n]; simp) (by rw [← r.n]; simp)
  exact ⟨_, Emb.le_add _ _ _ _ _, k3, k2.trans k4⟩
end
end Go.Fs
