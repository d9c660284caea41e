/- The quiet operations: all of them. -/
import Derived.Test.YtdehfehdaiappaaGreatDoorFsBin
import Derived.Laws.BytesArg
namespace Go.Fs
section
variable {P : Program} {ι : Emb} {h : AH} {w : World}

/-! ### Slices -/

theorem sliceBound_ok {v : AV} {rv : Value} {y Y n : Nat} (hv : VRel ι v rv) (hb : bound y v = some n) (hY : y ≤ Y) (c : BoundsCode) : (Instr.sliceBound rv Y c).run P w = .ok n w := by
  cases v <;> simp only [bound] at hb <;> first | (cases hb; done) | skip
  split at hb
  · rename_i k i hi
    cases hb
    rw [int_of hv]
    have : 0 ≤ i ∧ i ≤ (Y : Int) := ⟨hi.1, by omega⟩
    simp [Instr.sliceBound, asIntOf, this]
  · cases hb

theorem cO_rel {tm : List AV} {a : Act} (r : Rel P.globals.size ι h w) (ha : ARel ι tm a) {x : Option Operand} {c : Option CA} (hc : cO P x = some c) :
    (x = none ∧ c = none) ∨ ∃ y d, x = some y ∧ c = some d ∧ VRel ι (d.ev tm) (a.eval y) := by
  cases x with
  | none => simp only [cO, Option.some.injEq] at hc; exact .inl ⟨rfl, hc.symm⟩
  | some y =>
    simp only [cO, Option.map_eq_some_iff] at hc
    obtain ⟨d, hd, rfl⟩ := hc
    exact .inr ⟨y, d, rfl, rfl, ev_rel r ha hd⟩

theorem bounds_ok {tm : List AV} {a : Act} (r : Rel P.globals.size ι h w) (ha : ARel ι tm a) {lo hi mx : Option Operand} {clo chi cmx : Option CA} (h1 : cO P lo = some clo) (h2 : cO P hi = some chi) (h3 : cO P mx = some cmx)
    {len cap C l hh m : Nat} (hb : bounds3 tm len cap clo chi cmx = some (l, hh, m)) (hC : cap ≤ C) (isS : Bool) :
    (Instr.sliceBounds isS len C (lo.map a.eval) (hi.map a.eval) (mx.map a.eval)).run P w = .ok (l, hh, if cmx.isNone then C else m) w ∧ (cmx.isNone = true → m = cap) := by
  unfold bounds3 at hb
  simp only [Option.bind_eq_some_iff, Option.map_eq_some_iff, Prod.mk.injEq] at hb
  obtain ⟨m', hm', h', hh', l', hl', e1, e2, e3⟩ := hb
  rw [e1, e2] at hl'
  rw [e2, e3] at hh'
  rw [e3] at hm'
  unfold highOf at hh'
  rcases cO_rel r ha h3 with ⟨rfl, rfl⟩ | ⟨ym, dm, rfl, rfl, hym⟩
  · simp only [optBound, Option.some.injEq] at hm'
    subst hm'
    refine ⟨?_, fun _ => rfl⟩
    rcases cO_rel r ha h2 with ⟨rfl, rfl⟩ | ⟨yh, dh, rfl, rfl, hyh⟩
    · simp only [Option.some.injEq] at hh'
      subst hh'
      rcases cO_rel r ha h1 with ⟨rfl, rfl⟩ | ⟨yl, dl, rfl, rfl, hyl⟩
      · simp only [optBound, Option.some.injEq] at hl'
        subst hl'
        simp [Instr.sliceBounds]
      · simp only [optBound] at hl'
        have hL := fun c => sliceBound_ok (P := P) (w := w) hyl hl' (Nat.le_refl _) c
        simp [Instr.sliceBounds, hL]
    · simp only at hh'
      have hH := fun c => sliceBound_ok (P := P) (w := w) hyh hh' hC c
      rcases cO_rel r ha h1 with ⟨rfl, rfl⟩ | ⟨yl, dl, rfl, rfl, hyl⟩
      · simp only [optBound, Option.some.injEq] at hl'
        subst hl'
        simp [Instr.sliceBounds, hH]
      · simp only [optBound] at hl'
        have hL := fun c => sliceBound_ok (P := P) (w := w) hyl hl' (Nat.le_refl _) c
        simp [Instr.sliceBounds, hH, hL]
  · simp only [optBound] at hm'
    have hM := fun c => sliceBound_ok (P := P) (w := w) hym hm' hC c
    refine ⟨?_, fun h0 => by simp at h0⟩
    rcases cO_rel r ha h2 with ⟨rfl, rfl⟩ | ⟨yh, dh, rfl, rfl, hyh⟩
    · cases hh'
    · simp only at hh'
      have hH := fun c => sliceBound_ok (P := P) (w := w) hyh hh' (Nat.le_refl _) c
      rcases cO_rel r ha h1 with ⟨rfl, rfl⟩ | ⟨yl, dl, rfl, rfl, hyl⟩
      · simp only [optBound, Option.some.injEq] at hl'
        subst hl'
        simp [Instr.sliceBounds, hM, hH]
      · simp only [optBound] at hl'
        have hL := fun c => sliceBound_ok (P := P) (w := w) hyl hl' (Nat.le_refl _) c
        simp [Instr.sliceBounds, hM, hH, hL]

theorem le_of_bounds3 {tm : List AV} {len cap : Nat} {lo hi mx : Option CA} {l hh m : Nat} (hb : bounds3 tm len cap lo hi mx = some (l, hh, m)) (hle : len ≤ cap) : l ≤ hh ∧ hh ≤ m ∧ m ≤ cap := by
  unfold bounds3 at hb
  simp only [Option.bind_eq_some_iff, Option.map_eq_some_iff, Prod.mk.injEq] at hb
  obtain ⟨m', hm', h', hh', l', hl', e1, e2, e3⟩ := hb
  rw [e1, e2] at hl'
  rw [e2, e3] at hh'
  rw [e3] at hm'
  unfold highOf at hh'
  have bd : ∀ {y n : Nat} {v : AV}, bound y v = some n → n ≤ y := fun {y n v} hb => by
    cases v <;> simp only [bound] at hb <;> first | (cases hb; done) | skip
    split at hb
    · rename_i hi; cases hb; omega
    · cases hb
  have h1 : m ≤ cap := by
    cases mx with
    | none => simp [optBound] at hm'; omega
    | some x => exact bd hm'
  have h3 : l ≤ hh := by
    cases lo with
    | none => simp [optBound] at hl'; omega
    | some x => exact bd hl'
  refine ⟨h3, ?_, h1⟩
  cases hi with
  | none =>
    cases mx with
    | none => simp [optBound] at hh' hm'; omega
    | some x => cases hh'
  | some x => exact bd hh'

theorem slcV_ok {tm : List AV} {a : Act} (r : Rel P.globals.size ι h w) (ha : ARel ι tm a) {t e : TypeId} {s : Nat} (ht : P.underlying t = some (.slice e)) (hs : sizeT P e = some s)
    {x : Operand} {c : CA} (hx : cA P x = some c) {lo hi mx : Option Operand} {clo chi cmx : Option CA} (h1 : cO P lo = some clo) (h2 : cO P hi = some chi) (h3 : cO P mx = some cmx)
    {v : AV} (hv : quietRun (.slcV s c clo chi cmx) tm h = some v) :
    ∃ rv, (Instr.sliceAt t (a.eval x) (lo.map a.eval) (hi.map a.eval) (mx.map a.eval)).run P w = .ok rv w ∧ VRel ι v rv := by
  have hr := ev_rel r ha hx
  have hsz := sizeT_run hs
  have key : ∀ (A : Option Addr) (len C l hh m : Nat), a.eval x = .slice A len C → (Instr.sliceBounds true len C (lo.map a.eval) (hi.map a.eval) (mx.map a.eval)).run P w = .ok (l, hh, m) w →
      (Instr.sliceAt t (a.eval x) (lo.map a.eval) (hi.map a.eval) (mx.map a.eval)).run P w = .ok (.slice (if m = l then A else A.map (·.add (l * s))) (hh - l) (m - l)) w := fun A len C l hh m hA hB => by
    simp [Instr.sliceAt, Instr.slice, run_underlying ht, hA, hB, hsz]
  simp only [quietRun] at hv
  split at hv
  · rename_i A len cap hc
    simp only [Option.map_eq_some_iff] at hv
    obtain ⟨⟨l, hh, m⟩, hb, rfl⟩ := hv
    rw [hc] at hr
    cases A with
    | none =>
      simp only [VRel] at hr
      obtain ⟨rfl, rfl, hv⟩ := hr
      obtain ⟨h4, h5⟩ := bounds_ok r ha h1 h2 h3 hb (Nat.le_refl 0) true
      have hle := le_of_bounds3 hb (Nat.le_refl 0)
      have e0 : (if cmx.isNone then 0 else m) = m := by split <;> omega
      rw [e0] at h4
      refine ⟨_, key none 0 0 l hh m hv h4, ?_⟩
      have : l = 0 ∧ hh = 0 ∧ m = 0 := by omega
      obtain ⟨rfl, rfl, rfl⟩ := this
      simp [VRel]
    | some p =>
      obtain ⟨b, o⟩ := p
      simp only [VRel] at hr
      obtain ⟨hbn, hlc, A, hv, hA⟩ := hr
      obtain ⟨h4, h5⟩ := bounds_ok r ha h1 h2 h3 hb (Nat.le_refl cap) true
      have hle := le_of_bounds3 hb hlc
      have e0 : (if cmx.isNone then cap else m) = m := by split; (rename_i hn; exact (h5 hn).symm); rfl
      rw [e0] at h4
      refine ⟨_, key _ len cap l hh m hv h4, ?_⟩
      by_cases hml : m = l
      · simp only [hml, if_true, VRel]
        exact ⟨hbn, by omega, A, rfl, fun h0 => by omega⟩
      · have hA' := hA (by omega)
        subst hA'
        simp only [hml, if_false, Option.map_some, VRel, Addr.add_lit]
        exact ⟨hbn, by omega, _, rfl, fun _ => by rw [Nat.add_assoc]⟩
  · rename_i b o len e' hc
    rw [hc] at hr
    simp only [VRel] at hr
    obtain ⟨hbn, hep, o', c', hv', hmx, hcase⟩ := hr
    have hlc : len ≤ c' := by rcases hcase with ⟨_, h0, _⟩ | ⟨h0, h00⟩ <;> omega
    split at hv
    · split at hv
      · rename_i hes
        subst hes
        simp only [Option.map_eq_some_iff] at hv
        obtain ⟨⟨l, hh, m⟩, hb, rfl⟩ := hv
        obtain ⟨h4, h5⟩ := bounds_ok r ha h1 h2 h3 hb hlc true
        have hle : l ≤ hh ∧ hh ≤ m ∧ m ≤ len := le_of_bounds3 hb (Nat.le_refl len)
        simp only [Option.isNone_none, if_true] at h4
        refine ⟨_, key _ len c' l hh c' hv' h4, ?_⟩
        by_cases hml : c' = l
        · simp only [hml, if_true, VRel]
          refine ⟨hbn, hep, o', l - l, by rw [show hh - l = 0 by omega], by omega, .inr ⟨by omega, by omega, ?_⟩⟩
          rcases hcase with ⟨ho, h0, hz⟩ | ⟨h0, h00, h000⟩
          · rw [← hz, ho, hml]; omega
          · omega
        · simp only [hml, if_false, Option.map_some, VRel, Addr.add_lit]
          rcases hcase with ⟨ho, h0, hz⟩ | ⟨h0, h00⟩
          · refine ⟨hbn, hep, _, _, rfl, by omega, .inl ⟨by rw [ho, Nat.add_assoc], by omega, ?_⟩⟩
            have : l * e' + (c' - l) * e' = c' * e' := by rw [← Nat.add_mul]; congr 1; omega
            omega
          · omega
      · cases hv
    · rename_i mxv
      simp only [Option.bind_eq_some_iff] at hv
      obtain ⟨⟨l, hh, m⟩, hb, hv⟩ := hv
      split at hv
      · cases hv
      · rename_i hml0
        have hml : ¬ m = l := hml0
        cases hv
        obtain ⟨h4, h5⟩ := bounds_ok r ha h1 h2 h3 hb hlc true
        have hle : l ≤ hh ∧ hh ≤ m ∧ m ≤ len := le_of_bounds3 hb (Nat.le_refl len)
        simp only [Option.isNone_some, Bool.false_eq_true, if_false] at h4
        refine ⟨_, key _ len c' l hh m hv' h4, ?_⟩
        simp only [hml, if_false, Option.map_some, VRel, Addr.add_lit]
        rcases hcase with ⟨ho, h0, hz⟩ | ⟨h0, h00⟩
        · exact ⟨hbn, by omega, _, rfl, fun _ => by rw [ho, Nat.add_assoc]⟩
        · omega
  · cases hv

theorem bytes_ok : ∀ {cs : List AV} {s : List UInt8} {vs : List Value}, bytesOf cs = some s → VRels ι cs vs →
    ∀ acc : ByteArray, (forIn (m := Sem) vs acc fun c s => match c with
      | .int .u8 n => pure (ForInStep.yield (s.push (UInt8.ofNat n.toNat)))
      | _ => (stuck "bytesToString: byte expected" : Sem PUnit).bind fun _ => pure (ForInStep.yield s)).run P w = .ok ⟨acc.data ++ s.toArray⟩ w
  | [], s, vs, hb, hr, acc => by
    simp only [bytesOf, Option.some.injEq] at hb
    simp only [VRels] at hr
    subst hb; subst hr
    simp
  | c :: cs, s, vs, hb, hr, acc => by
    simp only [VRels] at hr
    obtain ⟨x, xs, rfl, h1, h2⟩ := hr
    cases c
    case int k n =>
      cases k
      case u8 =>
        simp only [bytesOf, Option.map_eq_some_iff] at hb
        obtain ⟨s', hs', rfl⟩ := hb
        rw [int_of h1, List.forIn_cons]
        simp only [Sem.run_bind, Sem.run_pure, Result.andThen_ok]
        have := bytes_ok hs' h2 (acc.push (UInt8.ofNat n.toNat))
        rw [this]
        congr 1
        simp [ByteArray.push]
      all_goals (simp [bytesOf] at hb)
    all_goals (simp [bytesOf] at hb)

theorem mapFind_ok {q : SK} {k : AV} {rk : Value} {kt : TypeId} (hk : VRel ι k rk) (hq : q.fits P kt) (hsc : scalar q k = true) :
    ∀ {es : List (AV × AV)} {rs : List MapEntry} {res : Option AV} (i : Nat), mapFind q k es = some res → ERels ι es rs →
      ∃ d, P.underlying kt = some d ∧ match res with
        | none => Instr.findNow d rk rs i = some none
        | some v => ∃ j rv, Instr.findNow d rk rs i = some (some (j, rv)) ∧ VRel ι v rv
  | [], rs, res, i, hm, hr => by
    simp only [mapFind, Option.some.injEq] at hm
    simp only [ERels] at hr
    subst hm; subst hr
    cases q
    · exact ⟨_, hq, rfl⟩
    · obtain ⟨k', hk'⟩ := hq; exact ⟨_, hk', rfl⟩
    · exact ⟨_, hq, rfl⟩
  | (k', x) :: es, rs, res, i, hm, hr => by
    simp only [ERels] at hr
    obtain ⟨e, rs', rfl, h1, h2, h3⟩ := hr
    simp only [mapFind] at hm
    have hsame : ∀ b, scalEq q k k' = some b → ∀ d, P.underlying kt = some d → Instr.sameNow d rk e.key = some b := fun b hb d hd => by
      cases q
      · cases k <;> cases k' <;> simp only [scalEq] at hb <;> first | (cases hb; done) | skip
        cases hb
        simp only [SK.fits] at hq
        rw [hq] at hd; cases hd
        rw [bool_of hk, bool_of h1]; rfl
      · cases k <;> cases k' <;> simp only [scalEq] at hb <;> first | (cases hb; done) | skip
        split at hb
        · rename_i hkk
          cases hb
          obtain ⟨kk, hq⟩ := hq
          rw [hq] at hd; cases hd
          rw [int_of hk, int_of h1]
          simp [Instr.sameNow, hkk]
        · cases hb
      · cases k <;> cases k' <;> simp only [scalEq] at hb <;> first | (cases hb; done) | skip
        cases hb
        simp only [SK.fits] at hq
        rw [hq] at hd; cases hd
        rename_i a b
        rw [str_of hk, str_of h1]
        simp only [Instr.sameNow, Option.some.injEq]
        show ((a.toArray : Array UInt8) == b.toArray) = decide (a = b)
        rw [Bool.eq_iff_iff, beq_iff_eq]
        simp
    have hd : ∃ d, P.underlying kt = some d := by
      cases q
      · exact ⟨_, hq⟩
      · obtain ⟨k', hk'⟩ := hq; exact ⟨_, hk'⟩
      · exact ⟨_, hq⟩
    obtain ⟨d, hd⟩ := hd
    cases hb : scalEq q k k' with
    | none => simp [hb] at hm
    | some b =>
      have hs := hsame b hb d hd
      cases b with
      | true =>
        simp only [hb, Option.some.injEq] at hm
        subst hm
        exact ⟨d, hd, i, e.val, by simp [Instr.findNow, hs], h2⟩
      | false =>
        simp only [hb] at hm
        obtain ⟨d', hd', h4⟩ := mapFind_ok hk hq hsc (i + 1) hm h3
        rw [hd] at hd'; cases hd'
        refine ⟨d, hd, ?_⟩
        cases res with
        | none => simpa [Instr.findNow, hs] using h4
        | some v => simpa [Instr.findNow, hs] using h4

theorem checkKey_ok {q : SK} {kt : TypeId} (hq : q.fits P kt) {k : AV} {rk : Value} (hk : VRel ι k rk) (hsc : scalar q k = true) (emp : Bool) : (Instr.checkKey emp 10000 kt rk).run P w = .ok () w := by
  rw [show (10000 : Nat) = 9999 + 1 from rfl, Instr.checkKey]
  cases q
  · cases k <;> simp [scalar] at hsc
    simp only [SK.fits] at hq
    rw [bool_of hk]; simp [run_underlying hq]
  · cases k <;> simp [scalar] at hsc
    obtain ⟨kk, hq⟩ := hq
    rw [int_of hk]; simp [run_underlying hq]
  · cases k <;> simp [scalar] at hsc
    simp only [SK.fits] at hq
    rw [str_of hk]; simp [run_underlying hq]

end
end Go.Fs
