/- The abstract machine of the Fs texts, part 2: what it runs, and that each of its runs is one of the program. -/
import Derived.Test.YtlppecefalblmaaGreatDoorFz00
import Derived.Laws.Cover3
import Derived.Laws.BytesArg
import Derived.Lib.UnsafeStr
import Derived.Laws.IdiomCopy
import Derived.Below
section
/- Two operands: arithmetic, strings, equality of all kinds. -/
namespace Go.Fs
section
variable {P : Program} {ι : Emb} {h : AH} {w : World}
theorem sizeT_run {t : TypeId} {s : Nat} (hs : sizeT P t = some s) (w : World) : (sizeOf t).run P w = .ok s w := by
 unfold sizeT at hs
 cases hi : P.info? t with
 | none => simp [hi] at hs
 | some i => simp [hi] at hs; simp [sizeOf, typeInfo, hi, hs]
theorem keyT_fits {kt : TypeId} {q : SK} (h : keyT P kt = some q) : q.fits P kt := by
 unfold keyT at h
 cases hu : P.underlying kt with
 | none => simp [hu] at h
 | some d => cases d <;> simp [hu] at h <;> subst h <;> first | exact hu | exact ⟨_, hu⟩
theorem aggT_of {t : TypeId} {d : TypeDesc} {s : Nat} (hu : P.underlying t = some d) (hs : sizeT P t = some s) (hd : (∃ fs, d = .struct fs) ∨ ∃ n e, d = .array n e) : aggT P t = some (some s) := by
 obtain ⟨i, hi⟩ := aggT_some hu
 unfold sizeT at hs
 simp [hi] at hs
 unfold aggT
 rcases hd with ⟨fs, rfl⟩ | ⟨n, e, rfl⟩ <;> simp [hu, hi, hs]
theorem aeq_agg {op : BinOp} {t : TypeId} {ox oy : Operand} {x y : AV} {rx ry : Value} {b : Bool} {d : TypeDesc} {s : Nat} {l : List (Nat × SK)} (hx : VRel ι x rx) (hy : VRel ι y ry) (hu : P.underlying t = some d)
    (h2 : P.eqGuardType P.depth t = false) (h3 : sizeT P t = some s) (h4 : leavesT P 40 t = some l) (hd : (∃ fs, d = .struct fs) ∨ ∃ n e, d = .array n e) (he : aeq (.agg s l) x y = some b) :
    (eqGuard op t ox oy rx ry).run P w = .ok () w ∧ (Op.equal t rx ry).run P w = .ok b w ∧ (∀ k n, rx ≠ .int k n) ∧ (∀ s, rx ≠ .string s) ∧ (∀ k n, rx ≠ .float k n) ∧ (∀ k n m, rx ≠ .complex k n m) := by
 cases x <;> cases y <;> simp only [aeq] at he <;> first | (cases he; done) | skip
 split at he
 · rename_i as bs hl
   simp only [VRel] at hx hy
   obtain ⟨ra, rfl, ha⟩ := hx
   obtain ⟨rb, rfl, hb⟩ := hy
   have hra : ra.size = s := by have := ha.length; simp at this; omega
   have hrb : rb.size = s := by have := hb.length; simp at this; omega
   have hag := aggT_of hu h3 hd
   refine ⟨run_eqGuard_agg w op t ox oy ra rb h2, ?_, by simp, by simp, by simp, by simp⟩
   exact leaves_ok (P := P) 40 t l h4 ι w 10000 (by omega) as bs ra rb 0 (.agg ra) (.agg rb) b ha hb
    (.inl ⟨s, hag, by rw [Nat.zero_add, ← hra, Array.extract_size]⟩) (.inl ⟨s, hag, by rw [Nat.zero_add, ← hrb, Array.extract_size]⟩)
    (by simpa [shift] using he)
 · cases he
theorem eq10 (t : TypeId) (x y : Value) : (Op.equal t x y).run P w = (Op.equalIn (9999 + 1) t x y).run P w := rfl
theorem aeq_ok {op : BinOp} {t : TypeId} {ox oy : Operand} {x y : AV} {rx ry : Value} {b : Bool} (hx : VRel ι x rx) (hy : VRel ι y ry) (hop : op = .eql ∨ op = .neq)
    (he : aeq (eqT P op t ox oy) x y = some b) :
    (eqGuard op t ox oy rx ry).run P w = .ok () w ∧ (Op.equal t rx ry).run P w = .ok b w ∧ (∀ k n, rx ≠ .int k n) ∧ (∀ s, rx ≠ .string s) ∧ (∀ k n, rx ≠ .float k n) ∧ (∀ k n m, rx ≠ .complex k n m) := by
 have hE : eqT P op t ox oy = eqT P .eql t ox oy := by rcases hop with rfl | rfl <;> rfl
 rw [hE] at he
 unfold eqT at he
 simp only at he
 cases hu : P.underlying t with
 | none => simp [hu, aeq] at he
 | some d =>
   cases d <;> simp only [hu] at he <;> first | (simp [aeq] at he; done) | skip
   case bool =>
    cases x <;> cases y <;> simp only [aeq] at he <;> first | (cases he; done) | skip
    cases he
    rw [bool_of hx, bool_of hy]
    refine ⟨by rw [eqGuard_at_bool]; rfl, ?_, by simp, by simp, by simp, by simp⟩
    rw [eq10, Op.equalIn]; simp [run_underlying hu]
   case struct fs =>
    cases hg : P.eqGuardType P.depth t with
    | true => simp [hg, aeq] at he
    | false =>
      cases hs : sizeT P t with
      | none => simp [hg, hs, aeq] at he
      | some s =>
        cases hl : leavesT P 40 t with
        | none => simp [hg, hs, hl, aeq] at he
        | some l =>
          simp only [hg, hs, hl, Bool.false_eq_true, if_false] at he
          exact aeq_agg hx hy hu hg hs hl (.inl ⟨fs, rfl⟩) he
   case array n e =>
    cases hg : P.eqGuardType P.depth t with
    | true => simp [hg, aeq] at he
    | false =>
      cases hs : sizeT P t with
      | none => simp [hg, hs, aeq] at he
      | some s =>
        cases hl : leavesT P 40 t with
        | none => simp [hg, hs, hl, aeq] at he
        | some l =>
          simp only [hg, hs, hl, Bool.false_eq_true, if_false] at he
          exact aeq_agg hx hy hu hg hs hl (.inr ⟨n, e, rfl⟩) he
   case pointer e =>
    cases x <;> first | (simp [aeq] at he; done) | skip
    rename_i xa
    cases y <;> first | (cases xa <;> simp [aeq] at he; done) | skip
    rename_i ya
    cases xa with
    | none =>
      simp only [VRel] at hx
      subst hx
      simp only [aeq, Option.some.injEq] at he
      subst he
      have hry : ∃ q, ry = .pointer q ∧ q.isNone = ya.isNone := by
       cases ya with
       | none => simp only [VRel] at hy; exact ⟨none, hy, rfl⟩
       | some p => obtain ⟨b', o'⟩ := p; simp only [VRel] at hy; exact ⟨_, hy.2, rfl⟩
      obtain ⟨q, rfl, hq⟩ := hry
      refine ⟨by rw [eqGuard_at_pointer]; rfl, ?_, by simp, by simp, by simp, by simp⟩
      rw [eq10, Op.equalIn]; simp [run_underlying hu, hq]
    | some p =>
      obtain ⟨b', o'⟩ := p
      cases ya with
      | some q =>
        obtain ⟨b2, o2⟩ := q
        cases hsz : sizeT P e with
        | none => simp [hsz, aeq] at he
        | some n =>
          by_cases hn : n = 0
          · subst hn; simp [hsz, aeq] at he
          · have hany : ((some n).any fun n => n != 0) = true := by simpa using hn
            rw [hsz, hany] at he
            simp only [aeq] at he
            split at he
            · rename_i hbb
              subst hbb
              simp only [VRel] at hx hy
              obtain ⟨_, rfl⟩ := hx
              obtain ⟨_, rfl⟩ := hy
              cases he
              refine ⟨by rw [eqGuard_at_pointer]; rfl, ?_, by simp, by simp, by simp, by simp⟩
              have haddr : ((⟨ι.blk b', ι.sh b' + o', none⟩ : Addr) == ⟨ι.blk b', ι.sh b' + o2, none⟩) = (o' == o2) := by
               rw [Bool.eq_iff_iff, beq_iff_eq, beq_iff_eq, Addr.mk.injEq]
               simp
              rw [eq10, Op.equalIn]; simp [run_underlying hu, sizeT_run hsz, hn, sameAddr, haddr]
            · cases he
      | none =>
        simp only [VRel] at hx hy
        obtain ⟨_, rfl⟩ := hx
        subst hy
        simp only [aeq, Option.some.injEq] at he
        subst he
        refine ⟨by rw [eqGuard_at_pointer]; rfl, ?_, by simp, by simp, by simp, by simp⟩
        rw [eq10, Op.equalIn]; simp [run_underlying hu]
   case slice e =>
    cases x <;> first | (simp [aeq] at he; done) | skip
    rename_i xa xl xc
    cases y <;> first | (cases xa <;> simp [aeq] at he; done) | skip
    rename_i ya yl yc
    have shape : ∀ {za : Option (Nat × Nat)} {zl : Nat} {zc : Cap} {rz : Value}, VRel ι (.slice za zl zc) rz → ∃ q l c, rz = .slice q l c ∧ q.isNone = za.isNone := fun {za zl zc rz} hz => by
     cases za with
     | none => cases zc <;> simp only [VRel] at hz; exact ⟨none, 0, 0, hz.2.2, rfl⟩
     | some p =>
       obtain ⟨b', o'⟩ := p
       cases zc <;> simp only [VRel] at hz
       · obtain ⟨_, _, _, rfl, _⟩ := hz; exact ⟨_, _, _, rfl, rfl⟩
       · obtain ⟨_, _, o2, c2, rfl, _⟩ := hz; exact ⟨_, _, _, rfl, rfl⟩
    obtain ⟨q, l, c, rfl, hq⟩ := shape hx
    obtain ⟨q', l', c', rfl, hq'⟩ := shape hy
    have hb : (q = none ∧ b = q'.isNone) ∨ (q ≠ none ∧ q' = none ∧ b = false) := by
     cases xa with
     | none =>
       simp only [aeq, Option.some.injEq] at he
       left; exact ⟨by simpa using hq, by rw [hq', he]⟩
     | some p =>
       cases ya with
       | none =>
         simp only [aeq, Option.some.injEq] at he
         right; exact ⟨by intro h0; subst h0; simp at hq, by simpa using hq', he.symm⟩
       | some _ => simp [aeq] at he
    refine ⟨by rw [eqGuard_at_slice]; rfl, ?_, by simp, by simp, by simp, by simp⟩
    rcases hb with ⟨rfl, rfl⟩ | ⟨h0, rfl, rfl⟩
    · rw [eq10, Op.equalIn]; simp [run_underlying hu]
    · cases q with
      | none => exact absurd rfl h0
      | some _ => rw [eq10, Op.equalIn]; simp [run_underlying hu]
   case map k e =>
    cases x <;> first | (simp [aeq] at he; done) | skip
    rename_i xa
    cases y <;> first | (cases xa <;> simp [aeq] at he; done) | skip
    rename_i ya
    have shape : ∀ {za : Option Nat} {rz : Value}, VRel ι (.map za) rz → ∃ q, rz = .map q ∧ q.isNone = za.isNone := fun {za rz} hz => by
     cases za <;> simp only [VRel] at hz
     · exact ⟨none, hz, rfl⟩
     · exact ⟨_, hz.2, rfl⟩
    obtain ⟨q, rfl, hq⟩ := shape hx
    obtain ⟨q', rfl, hq'⟩ := shape hy
    refine ⟨by rw [eqGuard_at_map]; rfl, ?_, by simp, by simp, by simp, by simp⟩
    cases xa with
    | none =>
      simp only [aeq, Option.some.injEq] at he
      have : q = none := by simpa using hq
      subst this
      rw [eq10, Op.equalIn]; simp [run_underlying hu, hq', he]
    | some p =>
      cases ya with
      | none =>
        simp only [aeq, Option.some.injEq] at he
        have : q' = none := by simpa using hq'
        subst this
        cases q with
        | none => simp at hq
        | some _ => rw [eq10, Op.equalIn]; simp [run_underlying hu, he]
      | some _ => simp [aeq] at he
   case func ps rs v =>
    cases x <;> first | (simp [aeq] at he; done) | skip
    · rename_i f1 a1 c1
      cases y <;> first | (simp [aeq] at he; done) | skip
      simp only [VRel] at hx hy
      obtain ⟨ra, rc, rfl, _⟩ := hx
      subst hy
      simp only [aeq, Option.some.injEq] at he
      subst he
      refine ⟨by rw [eqGuard_at_func]; rfl, ?_, by simp, by simp, by simp, by simp⟩
      rw [eq10, Op.equalIn]; simp [run_underlying hu]
    · cases y <;> first | (simp [aeq] at he; done) | skip
      · simp only [VRel] at hx hy
        subst hx
        obtain ⟨ra, rc, rfl, _⟩ := hy
        simp only [aeq, Option.some.injEq] at he
        subst he
        refine ⟨by rw [eqGuard_at_nilFunc]; rfl, ?_, by simp, by simp, by simp, by simp⟩
        rw [eq10, Op.equalIn]; simp [run_underlying hu]
      · simp only [VRel] at hx hy
        subst hx; subst hy
        simp only [aeq, Option.some.injEq] at he
        subst he
        refine ⟨by rw [eqGuard_at_nilFunc]; rfl, ?_, by simp, by simp, by simp, by simp⟩
        rw [eq10, Op.equalIn]; simp [run_underlying hu]
   case interface ms =>
    cases x <;> first | (simp [aeq] at he; done) | skip
    · rename_i t1 v1
      cases y <;> first | (simp [aeq] at he; done) | skip
      · rename_i t2 v2
        simp only [VRel] at hx hy
        obtain ⟨r1, rfl, hr1⟩ := hx
        obtain ⟨r2, rfl, hr2⟩ := hy
        refine ⟨by rw [eqGuard_at_iface]; rfl, ?_, by simp, by simp, by simp, by simp⟩
        simp only [aeq] at he
        split at he
        · rename_i htt
          subst htt
          split at he
          · rename_i q hq
            unfold scalT at hq
            split at hq
            · rename_i i hi
              split at hq
              · rename_i hcmp
                have hf := keyT_fits hq
                have hs := scalEq_ok (w := w) (d := 9998) hr1 hr2 he hf
                rw [eq10, Op.equalIn]
                simp [run_underlying hu, typeInfo, hi, hcmp, hs]
              · cases hq
            · cases hq
          · cases he
        · rename_i htt
          cases he
          rw [eq10, Op.equalIn]
          simp [run_underlying hu, htt]
      simp only [VRel] at hx hy
      obtain ⟨r1, rfl, _⟩ := hx
      subst hy
      simp only [aeq, Option.some.injEq] at he
      subst he
      refine ⟨by rw [eqGuard_at_iface]; rfl, ?_, by simp, by simp, by simp, by simp⟩
      rw [eq10, Op.equalIn]; simp [run_underlying hu]
    · cases y <;> first | (simp [aeq] at he; done) | skip
      · simp only [VRel] at hx hy
        subst hx
        obtain ⟨r1, rfl, _⟩ := hy
        simp only [aeq, Option.some.injEq] at he
        subst he
        refine ⟨by rw [eqGuard_nil_iface]; rfl, ?_, by simp, by simp, by simp, by simp⟩
        rw [eq10, Op.equalIn]; simp [run_underlying hu]
      · simp only [VRel] at hx hy
        subst hx; subst hy
        simp only [aeq] at he
        split at he
        · rename_i hlit
          cases he
          refine ⟨?_, by (rw [eq10, Op.equalIn]; simp [run_underlying hu]), by simp, by simp, by simp, by simp⟩
          simp only [Bool.or_eq_true] at hlit
          rcases hlit with hlit | hlit
          · cases ox <;> simp [isConst] at hlit
            rw [eqGuard_nil_constL]; rfl
          · cases oy <;> simp [isConst] at hlit
            rw [eqGuard_nil_constR]; rfl
        · cases he
theorem bin_ok {op : BinOp} {t : TypeId} {ox oy : Operand} {x y v : AV} {rx ry : Value} (hx : VRel ι x rx) (hy : VRel ι y ry) (hv : abin op (eqT P op t ox oy) x y = some v) :
    ∃ rv, (do eqGuard op t ox oy rx ry; binOp op t rx ry : Sem Value).run P w = .ok rv w ∧ VRel ι v rv := by
 unfold abin at hv
 split at hv
 · rename_i k a k' b
   rw [int_of hx, int_of hy]
   have hg : eqGuard op t ox oy (.int k a) (.int k' b) = pure () := by cases op <;> rfl
   rw [hg]
   split at hv
   · rename_i hs; exact ashift_ok hv hs t
   · rename_i hs
     split at hv
     · rename_i hk; subst hk; exact aint_ok (by simpa using hs) hv t
     · cases hv
 · rw [str_of hx, str_of hy]
   have hg : ∀ s u, eqGuard op t ox oy (.string s) u = pure () := fun s u => by cases op <;> rfl
   rw [hg]
   exact astr_ok hv t
 · split at hv
   · simp only [Option.map_eq_some_iff] at hv
     obtain ⟨b, hb, rfl⟩ := hv
     obtain ⟨h1, h2, h3, h4, h5, h6⟩ := aeq_ok (w := w) hx hy (.inl rfl) hb
     refine ⟨.bool b, ?_, by simp [VRel]⟩
     rw [Sem.run_bind, h1]
     have e : binOp .eql t rx ry = (do pure (.bool (← Op.equal t rx ry))) := by
      cases rx <;> first | rfl | exact absurd rfl (h3 _ _) | exact absurd rfl (h4 _) | exact absurd rfl (h5 _ _) | exact absurd rfl (h6 _ _ _)
     simp only [Result.andThen_ok, e, Sem.run_bind, h2, Sem.run_pure]
   · simp only [Option.map_eq_some_iff] at hv
     obtain ⟨b, hb, rfl⟩ := hv
     obtain ⟨h1, h2, h3, h4, h5, h6⟩ := aeq_ok (w := w) hx hy (.inr rfl) hb
     refine ⟨.bool (!b), ?_, by simp [VRel]⟩
     rw [Sem.run_bind, h1]
     have e : binOp .neq t rx ry = (do pure (.bool (!(← Op.equal t rx ry)))) := by
      cases rx <;> first | rfl | exact absurd rfl (h3 _ _) | exact absurd rfl (h4 _) | exact absurd rfl (h5 _ _) | exact absurd rfl (h6 _ _ _)
     simp only [Result.andThen_ok, e, Sem.run_bind, h2, Sem.run_pure]
   · cases hv
end
end Go.Fs
end

section
/- The quiet operations: all of them. -/
namespace Go.Fs
section
variable {P : Program} {ι : Emb} {h : AH} {w : World}
theorem sliceBound_ok {v : AV} {rv : Value} {y Y n : Nat} (hv : VRel ι v rv) (hb : bound y v = some n) (hY : y ≤ Y) (c : BoundsCode) : (Instr.sliceBound rv Y c).run P w = .ok n w := by
 cases v <;> simp only [bound] at hb <;> first | (cases hb; done) | skip
 split at hb
 · rename_i k i hi
   cases hb
   rw [int_of hv]
   have : 0 ≤ i ∧ i ≤ (Y : Int) := ⟨hi.1, by omega⟩
   simp [Instr.sliceBound, asIntOf, this]
 · cases hb
theorem cO_rel {tm : List AV} {a : Act} (r : Rel P.globals.size ι h w) (ha : ARel ι tm a) {x : Option Operand} {c : Option CA} (hc : cO P x = some c) :
    (x = none ∧ c = none) ∨ ∃ y d, x = some y ∧ c = some d ∧ VRel ι (d.ev tm) (a.eval y) := by
 cases x with
 | none => simp only [cO, Option.some.injEq] at hc; exact .inl ⟨rfl, hc.symm⟩
 | some y =>
   simp only [cO, Option.map_eq_some_iff] at hc
   obtain ⟨d, hd, rfl⟩ := hc
   exact .inr ⟨y, d, rfl, rfl, ev_rel r ha hd⟩
theorem bounds_ok {tm : List AV} {a : Act} (r : Rel P.globals.size ι h w) (ha : ARel ι tm a) {lo hi mx : Option Operand} {clo chi cmx : Option CA} (h1 : cO P lo = some clo) (h2 : cO P hi = some chi) (h3 : cO P mx = some cmx)
    {len cap C l hh m : Nat} (hb : bounds3 tm len cap clo chi cmx = some (l, hh, m)) (hC : cap ≤ C) (isS : Bool) :
    (Instr.sliceBounds isS len C (lo.map a.eval) (hi.map a.eval) (mx.map a.eval)).run P w = .ok (l, hh, if cmx.isNone then C else m) w ∧ (cmx.isNone = true → m = cap) := by
 unfold bounds3 at hb
 simp only [Option.bind_eq_some_iff, Option.map_eq_some_iff, Prod.mk.injEq] at hb
 obtain ⟨m', hm', h', hh', l', hl', e1, e2, e3⟩ := hb
 rw [e1, e2] at hl'
 rw [e2, e3] at hh'
 rw [e3] at hm'
 unfold highOf at hh'
 rcases cO_rel r ha h3 with ⟨rfl, rfl⟩ | ⟨ym, dm, rfl, rfl, hym⟩
 · simp only [optBound, Option.some.injEq] at hm'
   subst hm'
   refine ⟨?_, fun _ => rfl⟩
   rcases cO_rel r ha h2 with ⟨rfl, rfl⟩ | ⟨yh, dh, rfl, rfl, hyh⟩
   · simp only [Option.some.injEq] at hh'
     subst hh'
     rcases cO_rel r ha h1 with ⟨rfl, rfl⟩ | ⟨yl, dl, rfl, rfl, hyl⟩
     · simp only [optBound, Option.some.injEq] at hl'
       subst hl'
       simp [Instr.sliceBounds]
     · simp only [optBound] at hl'
       have hL := fun c => sliceBound_ok (P := P) (w := w) hyl hl' (Nat.le_refl _) c
       simp [Instr.sliceBounds, hL]
   · simp only at hh'
     have hH := fun c => sliceBound_ok (P := P) (w := w) hyh hh' hC c
     rcases cO_rel r ha h1 with ⟨rfl, rfl⟩ | ⟨yl, dl, rfl, rfl, hyl⟩
     · simp only [optBound, Option.some.injEq] at hl'
       subst hl'
       simp [Instr.sliceBounds, hH]
     · simp only [optBound] at hl'
       have hL := fun c => sliceBound_ok (P := P) (w := w) hyl hl' (Nat.le_refl _) c
       simp [Instr.sliceBounds, hH, hL]
 · simp only [optBound] at hm'
   have hM := fun c => sliceBound_ok (P := P) (w := w) hym hm' hC c
   refine ⟨?_, fun h0 => by simp at h0⟩
   rcases cO_rel r ha h2 with ⟨rfl, rfl⟩ | ⟨yh, dh, rfl, rfl, hyh⟩
   · cases hh'
   · simp only at hh'
     have hH := fun c => sliceBound_ok (P := P) (w := w) hyh hh' (Nat.le_refl _) c
     rcases cO_rel r ha h1 with ⟨rfl, rfl⟩ | ⟨yl, dl, rfl, rfl, hyl⟩
     · simp only [optBound, Option.some.injEq] at hl'
       subst hl'
       simp [Instr.sliceBounds, hM, hH]
     · simp only [optBound] at hl'
       have hL := fun c => sliceBound_ok (P := P) (w := w) hyl hl' (Nat.le_refl _) c
       simp [Instr.sliceBounds, hM, hH, hL]
theorem le_of_bounds3 {tm : List AV} {len cap : Nat} {lo hi mx : Option CA} {l hh m : Nat} (hb : bounds3 tm len cap lo hi mx = some (l, hh, m)) (hle : len ≤ cap) : l ≤ hh ∧ hh ≤ m ∧ m ≤ cap := by
 unfold bounds3 at hb
 simp only [Option.bind_eq_some_iff, Option.map_eq_some_iff, Prod.mk.injEq] at hb
 obtain ⟨m', hm', h', hh', l', hl', e1, e2, e3⟩ := hb
 rw [e1, e2] at hl'
 rw [e2, e3] at hh'
 rw [e3] at hm'
 unfold highOf at hh'
 have bd : ∀ {y n : Nat} {v : AV}, bound y v = some n → n ≤ y := fun {y n v} hb => by
  cases v <;> simp only [bound] at hb <;> first | (cases hb; done) | skip
  split at hb
  · rename_i hi; cases hb; omega
  · cases hb
 have h1 : m ≤ cap := by
  cases mx with
  | none => simp [optBound] at hm'; omega
  | some x => exact bd hm'
 have h3 : l ≤ hh := by
  cases lo with
  | none => simp [optBound] at hl'; omega
  | some x => exact bd hl'
 refine ⟨h3, ?_, h1⟩
 cases hi with
 | none =>
   cases mx with
   | none => simp [optBound] at hh' hm'; omega
   | some x => cases hh'
 | some x => exact bd hh'
theorem slcV_ok {tm : List AV} {a : Act} (r : Rel P.globals.size ι h w) (ha : ARel ι tm a) {t e : TypeId} {s : Nat} (ht : P.underlying t = some (.slice e)) (hs : sizeT P e = some s)
    {x : Operand} {c : CA} (hx : cA P x = some c) {lo hi mx : Option Operand} {clo chi cmx : Option CA} (h1 : cO P lo = some clo) (h2 : cO P hi = some chi) (h3 : cO P mx = some cmx)
    {v : AV} (hv : quietRun (.slcV s c clo chi cmx) tm h = some v) :
    ∃ rv, (Instr.sliceAt t (a.eval x) (lo.map a.eval) (hi.map a.eval) (mx.map a.eval)).run P w = .ok rv w ∧ VRel ι v rv := by
 have hr := ev_rel r ha hx
 have hsz := sizeT_run hs
 have key : ∀ (A : Option Addr) (len C l hh m : Nat), a.eval x = .slice A len C → (Instr.sliceBounds true len C (lo.map a.eval) (hi.map a.eval) (mx.map a.eval)).run P w = .ok (l, hh, m) w →
     (Instr.sliceAt t (a.eval x) (lo.map a.eval) (hi.map a.eval) (mx.map a.eval)).run P w = .ok (.slice (if m = l then A else A.map (·.add (l * s))) (hh - l) (m - l)) w := fun A len C l hh m hA hB => by
  simp [Instr.sliceAt, Instr.slice, run_underlying ht, hA, hB, hsz]
 simp only [quietRun] at hv
 split at hv
 · rename_i A len cap hc
   simp only [Option.map_eq_some_iff] at hv
   obtain ⟨⟨l, hh, m⟩, hb, rfl⟩ := hv
   rw [hc] at hr
   cases A with
   | none =>
     simp only [VRel] at hr
     obtain ⟨rfl, rfl, hv⟩ := hr
     obtain ⟨h4, h5⟩ := bounds_ok r ha h1 h2 h3 hb (Nat.le_refl 0) true
     have hle := le_of_bounds3 hb (Nat.le_refl 0)
     have e0 : (if cmx.isNone then 0 else m) = m := by split <;> omega
     rw [e0] at h4
     refine ⟨_, key none 0 0 l hh m hv h4, ?_⟩
     have : l = 0 ∧ hh = 0 ∧ m = 0 := by omega
     obtain ⟨rfl, rfl, rfl⟩ := this
     simp [VRel]
   | some p =>
     obtain ⟨b, o⟩ := p
     simp only [VRel] at hr
     obtain ⟨hbn, hlc, A, hv, hA⟩ := hr
     obtain ⟨h4, h5⟩ := bounds_ok r ha h1 h2 h3 hb (Nat.le_refl cap) true
     have hle := le_of_bounds3 hb hlc
     have e0 : (if cmx.isNone then cap else m) = m := by split; (rename_i hn; exact (h5 hn).symm); rfl
     rw [e0] at h4
     refine ⟨_, key _ len cap l hh m hv h4, ?_⟩
     by_cases hml : m = l
     · simp only [hml, if_true, VRel]
       exact ⟨hbn, by omega, A, rfl, fun h0 => by omega⟩
     · have hA' := hA (by omega)
       subst hA'
       simp only [hml, if_false, Option.map_some, VRel, Addr.add_lit]
       exact ⟨hbn, by omega, _, rfl, fun _ => by rw [Nat.add_assoc]⟩
 · rename_i b o len e' hc
   rw [hc] at hr
   simp only [VRel] at hr
   obtain ⟨hbn, hep, o', c', hv', hmx, hcase⟩ := hr
   have hlc : len ≤ c' := by rcases hcase with ⟨_, h0, _⟩ | ⟨h0, h00⟩ <;> omega
   split at hv
   · split at hv
     · rename_i hes
       subst hes
       simp only [Option.map_eq_some_iff] at hv
       obtain ⟨⟨l, hh, m⟩, hb, rfl⟩ := hv
       obtain ⟨h4, h5⟩ := bounds_ok r ha h1 h2 h3 hb hlc true
       have hle : l ≤ hh ∧ hh ≤ m ∧ m ≤ len := le_of_bounds3 hb (Nat.le_refl len)
       simp only [Option.isNone_none, if_true] at h4
       refine ⟨_, key _ len c' l hh c' hv' h4, ?_⟩
       by_cases hml : c' = l
       · simp only [hml, if_true, VRel]
         refine ⟨hbn, hep, o', l - l, by rw [show hh - l = 0 by omega], by omega, .inr ⟨by omega, by omega, ?_⟩⟩
         rcases hcase with ⟨ho, h0, hz⟩ | ⟨h0, h00, h000⟩
         · rw [← hz, ho, hml]; omega
         · omega
       · simp only [hml, if_false, Option.map_some, VRel, Addr.add_lit]
         rcases hcase with ⟨ho, h0, hz⟩ | ⟨h0, h00⟩
         · refine ⟨hbn, hep, _, _, rfl, by omega, .inl ⟨by rw [ho, Nat.add_assoc], by omega, ?_⟩⟩
           have : l * e' + (c' - l) * e' = c' * e' := by rw [← Nat.add_mul]; congr 1; omega
           omega
         · omega
     · cases hv
   · rename_i mxv
     simp only [Option.bind_eq_some_iff] at hv
     obtain ⟨⟨l, hh, m⟩, hb, hv⟩ := hv
     split at hv
     · cases hv
     · rename_i hml0
       have hml : ¬ m = l := hml0
       cases hv
       obtain ⟨h4, h5⟩ := bounds_ok r ha h1 h2 h3 hb hlc true
       have hle : l ≤ hh ∧ hh ≤ m ∧ m ≤ len := le_of_bounds3 hb (Nat.le_refl len)
       simp only [Option.isNone_some, Bool.false_eq_true, if_false] at h4
       refine ⟨_, key _ len c' l hh m hv' h4, ?_⟩
       simp only [hml, if_false, Option.map_some, VRel, Addr.add_lit]
       rcases hcase with ⟨ho, h0, hz⟩ | ⟨h0, h00⟩
       · exact ⟨hbn, by omega, _, rfl, fun _ => by rw [ho, Nat.add_assoc]⟩
       · omega
 · cases hv
theorem bytes_ok : ∀ {cs : List AV} {s : List UInt8} {vs : List Value}, bytesOf cs = some s → VRels ι cs vs →
    ∀ acc : ByteArray, (forIn (m := Sem) vs acc fun c s => match c with
     | .int .u8 n => pure (ForInStep.yield (s.push (UInt8.ofNat n.toNat)))
     | _ => (stuck "bytesToString: byte expected" : Sem PUnit).bind fun _ => pure (ForInStep.yield s)).run P w = .ok ⟨acc.data ++ s.toArray⟩ w
 | [], s, vs, hb, hr, acc => by
   simp only [bytesOf, Option.some.injEq] at hb
   simp only [VRels] at hr
   subst hb; subst hr
   simp
 | c :: cs, s, vs, hb, hr, acc => by
   simp only [VRels] at hr
   obtain ⟨x, xs, rfl, h1, h2⟩ := hr
   cases c
   case int k n =>
    cases k
    case u8 =>
     simp only [bytesOf, Option.map_eq_some_iff] at hb
     obtain ⟨s', hs', rfl⟩ := hb
     rw [int_of h1, List.forIn_cons]
     simp only [Sem.run_bind, Sem.run_pure, Result.andThen_ok]
     have := bytes_ok hs' h2 (acc.push (UInt8.ofNat n.toNat))
     rw [this]
     congr 1
     simp [ByteArray.push]
    all_goals (simp [bytesOf] at hb)
   all_goals (simp [bytesOf] at hb)
theorem mapFind_ok {q : SK} {k : AV} {rk : Value} {kt : TypeId} (hk : VRel ι k rk) (hq : q.fits P kt) (hsc : scalar q k = true) :
    ∀ {es : List (AV × AV)} {rs : List MapEntry} {res : Option AV} (i : Nat), mapFind q k es = some res → ERels ι es rs →
     ∃ d, P.underlying kt = some d ∧ match res with
      | none => Instr.findNow d rk rs i = some none
      | some v => ∃ j rv, Instr.findNow d rk rs i = some (some (j, rv)) ∧ VRel ι v rv
 | [], rs, res, i, hm, hr => by
   simp only [mapFind, Option.some.injEq] at hm
   simp only [ERels] at hr
   subst hm; subst hr
   cases q
   · exact ⟨_, hq, rfl⟩
   · obtain ⟨k', hk'⟩ := hq; exact ⟨_, hk', rfl⟩
   · exact ⟨_, hq, rfl⟩
 | (k', x) :: es, rs, res, i, hm, hr => by
   simp only [ERels] at hr
   obtain ⟨e, rs', rfl, h1, h2, h3⟩ := hr
   simp only [mapFind] at hm
   have hsame : ∀ b, scalEq q k k' = some b → ∀ d, P.underlying kt = some d → Instr.sameNow d rk e.key = some b := fun b hb d hd => by
    cases q
    · cases k <;> cases k' <;> simp only [scalEq] at hb <;> first | (cases hb; done) | skip
      cases hb
      simp only [SK.fits] at hq
      rw [hq] at hd; cases hd
      rw [bool_of hk, bool_of h1]; rfl
    · cases k <;> cases k' <;> simp only [scalEq] at hb <;> first | (cases hb; done) | skip
      split at hb
      · rename_i hkk
        cases hb
        obtain ⟨kk, hq⟩ := hq
        rw [hq] at hd; cases hd
        rw [int_of hk, int_of h1]
        simp [Instr.sameNow, hkk]
      · cases hb
    · cases k <;> cases k' <;> simp only [scalEq] at hb <;> first | (cases hb; done) | skip
      cases hb
      simp only [SK.fits] at hq
      rw [hq] at hd; cases hd
      rename_i a b
      rw [str_of hk, str_of h1]
      simp only [Instr.sameNow, Option.some.injEq]
      show ((a.toArray : Array UInt8) == b.toArray) = decide (a = b)
      rw [Bool.eq_iff_iff, beq_iff_eq]
      simp
   have hd : ∃ d, P.underlying kt = some d := by
    cases q
    · exact ⟨_, hq⟩
    · obtain ⟨k', hk'⟩ := hq; exact ⟨_, hk'⟩
    · exact ⟨_, hq⟩
   obtain ⟨d, hd⟩ := hd
   cases hb : scalEq q k k' with
   | none => simp [hb] at hm
   | some b =>
     have hs := hsame b hb d hd
     cases b with
     | true =>
       simp only [hb, Option.some.injEq] at hm
       subst hm
       exact ⟨d, hd, i, e.val, by simp [Instr.findNow, hs], h2⟩
     | false =>
       simp only [hb] at hm
       obtain ⟨d', hd', h4⟩ := mapFind_ok hk hq hsc (i + 1) hm h3
       rw [hd] at hd'; cases hd'
       refine ⟨d, hd, ?_⟩
       cases res with
       | none => simpa [Instr.findNow, hs] using h4
       | some v => simpa [Instr.findNow, hs] using h4
theorem checkKey_ok {q : SK} {kt : TypeId} (hq : q.fits P kt) {k : AV} {rk : Value} (hk : VRel ι k rk) (hsc : scalar q k = true) (emp : Bool) : (Instr.checkKey emp 10000 kt rk).run P w = .ok () w := by
 rw [show (10000 : Nat) = 9999 + 1 from rfl, Instr.checkKey]
 cases q
 · cases k <;> simp [scalar] at hsc
   simp only [SK.fits] at hq
   rw [bool_of hk]; simp [run_underlying hq]
 · cases k <;> simp [scalar] at hsc
   obtain ⟨kk, hq⟩ := hq
   rw [int_of hk]; simp [run_underlying hq]
 · cases k <;> simp [scalar] at hsc
   simp only [SK.fits] at hq
   rw [str_of hk]; simp [run_underlying hq]
end
end Go.Fs
end

section
/- A quiet operation: the model yields the value that the abstract machine tells, and leaves the world as it is. -/
namespace Go.Fs
section
variable {P : Program} {ι : Emb} {h : AH} {w : World}
theorem foldl_set (off : Nat) : ∀ (vc : List Value) (k : Nat) (cells : Array Value), off + k + vc.length ≤ cells.size →
    ((vc.zipIdx k).foldl (fun cs (p : Value × Nat) => cs.setIfInBounds (off + p.2) p.1) cells).toList = cells.toList.take (off + k) ++ vc ++ cells.toList.drop (off + k + vc.length)
 | [], k, cells, h => by simp
 | v :: vc, k, cells, h => by
   simp only [List.length_cons] at h
   simp only [List.zipIdx_cons, List.foldl_cons]
   rw [foldl_set off vc (k + 1) _ (by simp; omega)]
   simp only [Array.toList_setIfInBounds]
   have hlt : off + k < cells.toList.length := by simp; omega
   rw [show off + (k + 1) = (off + k) + 1 by omega, List.take_set, List.drop_set]
   rw [if_pos (by omega)]
   rw [List.take_succ_eq_append_getElem hlt, List.set_append]
   simp only [List.length_take, List.length_cons]
   rw [if_neg (by omega)]
   rw [show off + k - min (off + k) cells.toList.length = 0 by omega]
   simp [show off + k + 1 + vc.length = off + k + (vc.length + 1) by omega]
theorem over_rel {cs vs : List AV} {rs us : List Value} (h1 : VRels ι cs rs) (h2 : VRels ι vs us) (o : Nat) : VRels ι (over cs o vs) (rs.take o ++ us ++ rs.drop (o + us.length)) := by
 unfold over
 rw [h2.length]
 exact ((h1.take o).append h2).append (h1.drop _)
theorem length_over {cs vs : List AV} {o : Nat} (hle : o + vs.length ≤ cs.length) : (over cs o vs).length = cs.length := by
 unfold over
 simp
 omega
theorem fill_ok {tm : List AV} {a : Act} (r : Rel P.globals.size ι h w) (ha : ARel ι tm a) (place : Nat → Option (Nat × Nat)) :
    ∀ (parts : List (Nat × Operand)) (places : List (Nat × Nat × CA)) (cs cs' : List AV) (arr : Array Value),
     List.length places = List.length parts → (∀ (j : Nat) i x off size c, parts[j]? = some (i, x) → places[j]? = some (off, size, c) → place i = some (off, size) ∧ cA P x = some c) →
     fillA tm cs places = some cs' → VRels ι cs arr.toList → ∃ arr', Instr.fill place arr (parts.map fun (i, x) => (i, a.eval x)) = some arr' ∧ VRels ι cs' arr'.toList
 | [], places, cs, cs', arr, hl, _, hf, hr => by
   have : places = [] := List.eq_nil_of_length_eq_zero (by simpa using hl)
   subst this
   simp only [fillA, Option.some.injEq] at hf
   subst hf
   exact ⟨arr, by simp [Instr.fill], hr⟩
 | (i, x) :: parts, [], cs, cs', arr, hl, _, hf, hr => by simp at hl
 | (i, x) :: parts, (off, size, c) :: places, cs, cs', arr, hl, hp, hf, hr => by
   obtain ⟨h1, h2⟩ := hp 0 i x off size c rfl rfl
   simp only [fillA] at hf
   split at hf
   · rename_i hc
     have hv := (ev_rel r ha h2).cells
     have hvl := hv.length
     have hlen := hr.length
     have hs1 : (a.eval x).cells.size = size := by simp at hvl; omega
     have hs2 : arr.size = cs.length := by simpa using hlen
     have e1 : ((a.eval x).cells.zipIdx.foldl (fun cs (p : Value × Nat) => cs.setIfInBounds (off + p.2) p.1) arr).toList = arr.toList.take off ++ (a.eval x).cells.toList ++ arr.toList.drop (off + (a.eval x).cells.toList.length) := by
      have := foldl_set off (a.eval x).cells.toList 0 arr (by simp; omega)
      simp only [Nat.add_zero] at this
      rw [← this, ← Array.foldl_toList]
      congr 2
      simp
     have hr' : VRels ι (over cs off (c.ev tm).cells) ((a.eval x).cells.zipIdx.foldl (fun cs (p : Value × Nat) => cs.setIfInBounds (off + p.2) p.1) arr).toList := by
      rw [e1]; exact over_rel hr hv off
     obtain ⟨arr', h3, h4⟩ := fill_ok r ha place parts places _ cs' _ (by simpa using hl) (fun j i' x' off' size' c' hj hj' => hp (j + 1) i' x' off' size' c' (by simpa using hj) (by simpa using hj')) hf hr'
     refine ⟨arr', ?_, h4⟩
     simp only [List.map_cons, Instr.fill, h1]
     rw [if_neg (by simp [hs1]; omega)]
     exact h3
   · cases hf
theorem placesF_ok (fs : Array Field) : ∀ (ps : List (Nat × Operand)) (l : List (Nat × Nat × CA)), placesF P fs ps = some l → l.length = ps.length ∧
    ∀ (j : Nat) i x off size c, ps[j]? = some (i, x) → l[j]? = some (off, size, c) → (∃ f, fs[i]? = some f ∧ f.offset = off ∧ sizeT P f.type = some size) ∧ cA P x = some c
 | [], l, hl => by simp only [placesF, Option.some.injEq] at hl; subst hl; simp
 | (i, x) :: ps, l, hl => by
   simp only [placesF] at hl
   cases hf : fs[i]? with
   | none => simp [hf] at hl
   | some f =>
     cases hs : sizeT P f.type with
     | none => simp [hf, hs] at hl
     | some s =>
       cases hx : cA P x with
       | none => simp [hf, hs, hx] at hl
       | some c =>
         cases hr : placesF P fs ps with
         | none => simp [hf, hs, hx, hr] at hl
         | some l' =>
           simp only [hf, hs, hx, hr, Option.some.injEq] at hl
           subst hl
           obtain ⟨h1, h2⟩ := placesF_ok fs ps l' hr
           refine ⟨by simp [h1], fun j i' x' off size c' hj hj' => ?_⟩
           cases j with
           | zero =>
             simp only [List.getElem?_cons_zero, Option.some.injEq, Prod.mk.injEq] at hj hj'
             obtain ⟨rfl, rfl⟩ := hj
             obtain ⟨rfl, rfl, rfl⟩ := hj'
             exact ⟨⟨f, hf, rfl, hs⟩, hx⟩
           | succ j => exact h2 j i' x' off size c' (by simpa using hj) (by simpa using hj')
theorem placesA_ok (s : Nat) : ∀ (ps : List (Nat × Operand)) (l : List (Nat × Nat × CA)), placesA P s ps = some l → l.length = ps.length ∧
    ∀ (j : Nat) i x off size c, ps[j]? = some (i, x) → l[j]? = some (off, size, c) → (off = i * s ∧ size = s) ∧ cA P x = some c
 | [], l, hl => by simp only [placesA, Option.some.injEq] at hl; subst hl; simp
 | (i, x) :: ps, l, hl => by
   simp only [placesA] at hl
   cases hx : cA P x with
   | none => simp [hx] at hl
   | some c =>
     cases hr : placesA P s ps with
     | none => simp [hx, hr] at hl
     | some l' =>
       simp only [hx, hr, Option.some.injEq] at hl
       subst hl
       obtain ⟨h1, h2⟩ := placesA_ok s ps l' hr
       refine ⟨by simp [h1], fun j i' x' off size c' hj hj' => ?_⟩
       cases j with
       | zero =>
         simp only [List.getElem?_cons_zero, Option.some.injEq, Prod.mk.injEq] at hj hj'
         obtain ⟨rfl, rfl⟩ := hj
         obtain ⟨rfl, rfl, rfl⟩ := hj'
         exact ⟨⟨rfl, rfl⟩, hx⟩
       | succ j => exact h2 j i' x' off size c' (by simpa using hj) (by simpa using hj')
theorem zeroT_run {t : TypeId} {z : AV} (hz : zeroT P t = some z) : ∃ rz, (∀ w, (zeroValue t).run P w = .ok rz w) ∧ VRel ι z rz ∧ ∃ i, P.info? t = some i ∧ i.zero = some rz := by
 unfold zeroT at hz
 simp only [Option.bind_eq_some_iff] at hz
 obtain ⟨i, hi, rz, hrz, ho⟩ := hz
 exact ⟨rz, fun w => by simp [zeroValue, typeInfo, hi, hrz], ofValue_rel ι 200 rz z ho, i, hi, hrz⟩
theorem zeroT_spare {t : TypeId} {z : AV} (hz : zeroT P t = some z) {i : TypeInfo} {rz : Value} (hi : P.info? t = some i) (hr : i.zero = some rz) (j : Nat) (v : Value) (hv : rz.cells[j]? = some v) : Spare v := by
 have key : ∀ ι' : Emb, VRels ι' z.cells rz.cells.toList := fun ι' => by
  obtain ⟨rz', _, h2, i', hi', hr'⟩ := zeroT_run (ι := ι') hz
  rw [hi] at hi'; cases hi'
  rw [hr] at hr'; cases hr'
  exact h2.cells
 have hl := (key ⟨0, fun _ => 0, fun _ => 0, fun _ => 0, fun _ => 0⟩).length
 have hlt := (Array.getElem?_eq_some_iff.1 hv).1
 simp only [Array.length_toList] at hl
 refine ⟨z.cells[j]'(by omega), fun ι' => ?_⟩
 obtain ⟨r, h1, h2⟩ := (key ι').get j _ (List.getElem?_eq_getElem (by omega))
 rw [Array.getElem?_toList, hv] at h1
 cases h1
 exact h2
theorem run_mapM_places (fs : Array Field) (hs : ∀ f ∈ fs.toList, ∃ s, sizeT P f.type = some s) (w : World) :
    ∃ arr : Array (Nat × Nat), (fs.mapM fun f => do pure (f.offset, ← sizeOf f.type) : Sem (Array (Nat × Nat))).run P w = .ok arr w ∧
     ∀ (i : Nat) f s, fs[i]? = some f → sizeT P f.type = some s → arr[i]? = some (f.offset, s) := by
 have key : ∀ (l : List Field), (∀ f ∈ l, ∃ s, sizeT P f.type = some s) → ∃ arr : List (Nat × Nat), (l.mapM fun f => do pure (f.offset, ← sizeOf f.type) : Sem (List (Nat × Nat))).run P w = .ok arr w ∧
     ∀ (i : Nat) f s, l[i]? = some f → sizeT P f.type = some s → arr[i]? = some (f.offset, s) := by
  intro l
  induction l with
  | nil => intro _; exact ⟨[], by simp, by simp⟩
  | cons f l ih =>
    intro hl
    obtain ⟨s, hs⟩ := hl f (by simp)
    obtain ⟨arr, h1, h2⟩ := ih fun g hg => hl g (by simp [hg])
    refine ⟨(f.offset, s) :: arr, ?_, fun i g s' hi hs' => ?_⟩
    · rw [List.mapM_cons]
      simp only [Sem.run_bind, sizeT_run hs, Result.andThen_ok, Sem.run_pure] at h1 ⊢
      rw [h1]
      simp
    · cases i with
      | zero =>
        simp only [List.getElem?_cons_zero, Option.some.injEq] at hi
        subst hi
        rw [hs] at hs'; cases hs'; rfl
      | succ i => simpa using h2 i g s' (by simpa using hi) hs'
 obtain ⟨arr, h1, h2⟩ := key fs.toList hs
 refine ⟨arr.toArray, ?_, fun i f s hi hs => by simpa using h2 i f s (by simpa using hi) hs⟩
 rw [Array.mapM_eq_mapM_toList]
 simp only [map_eq_pure_bind, Sem.run_bind, h1, Result.andThen_ok, Sem.run_pure]
end
end Go.Fs
end

section
/- A quiet operation: the model yields the value that the abstract machine tells, and leaves the world as it is. -/
namespace Go.Fs
set_option maxRecDepth 100000
set_option maxHeartbeats 32000000
section
variable {P : Program} {ι : Emb} {h : AH} {w : World}
def Tells (P : Program) (ι : Emb) (w : World) (a : Act) (o : Oper) (v : AV) : Prop := ∃ rv, (execOp a.eval o).run P w = .ok (.value rv) w ∧ VRel ι v rv
theorem tells_of {a : Act} {o : Oper} {v : AV} {s : Sem Value} (he : execOp a.eval o = (do pure (.value (← s)) : Sem Next)) (hs : ∃ rv, s.run P w = .ok rv w ∧ VRel ι v rv) : Tells P ι w a o v := by
 obtain ⟨rv, h1, h2⟩ := hs
 refine ⟨rv, ?_, h2⟩
 rw [he]
 simp [h1]
theorem map_some_cA {α : Type} {x : Operand} {f : CA → α} {c : α} (h : (cA P x).map f = some c) : ∃ d, cA P x = some d ∧ c = f d := by
 simp only [Option.map_eq_some_iff] at h
 obtain ⟨d, h1, h2⟩ := h
 exact ⟨d, h1, h2.symm⟩
theorem ptr_of {b o : Nat} {v : Value} (hv : VRel ι (.ptr (some (b, o))) v) : b < ι.n ∧ v = .pointer (some ⟨ι.blk b, ι.sh b + o, none⟩) := by simpa [VRel] using hv
theorem nil_or_at {xa : Option (Nat × Nat)} {n : Nat} {cp : Cap} {v : Value} (hv : VRel ι (.slice xa n cp) v) : ∃ q c, v = .slice q n c := by
 cases xa with
 | none => cases cp <;> simp only [VRel] at hv; obtain ⟨rfl, _, rfl⟩ := hv; exact ⟨none, 0, rfl⟩
 | some p =>
   obtain ⟨b, o⟩ := p
   cases cp <;> simp only [VRel] at hv
   · obtain ⟨_, _, _, rfl, _⟩ := hv; exact ⟨_, _, rfl⟩
   · obtain ⟨_, _, o2, c2, rfl, _⟩ := hv; exact ⟨_, _, rfl⟩
theorem slice_at {b o n : Nat} {cp : Cap} {v : Value} (hv : VRel ι (.slice (some (b, o)) n cp) v) (hn : 0 < n) : b < ι.n ∧ ∃ c, v = .slice (some ⟨ι.blk b, ι.sh b + o, none⟩) n c := by
 cases cp <;> simp only [VRel] at hv
 · obtain ⟨h1, h2, a, rfl, h3⟩ := hv
   exact ⟨h1, _, by rw [h3 (by omega)]⟩
 · obtain ⟨h1, _, o2, c2, rfl, _, h2⟩ := hv
   rcases h2 with ⟨rfl, _⟩ | ⟨h0, _⟩
   · exact ⟨h1, _, rfl⟩
   · omega
theorem fld_ok {fd : Field} {g : Option Nat} (hg : aggT P fd.type = some g) {cs : List AV} {rs : Array Value} (hr : VRels ι cs rs.toList) {off : Nat} {v : AV} (hv : partOf g cs off = some v) :
    ∃ rv, (part fd.type rs off).run P w = .ok rv w ∧ VRel ι v rv := by
 obtain ⟨h1, h2⟩ := run_isAgg (w := w) hg
 cases g with
 | none =>
   simp only [partOf] at hv
   obtain ⟨rv, h3, h4⟩ := hr.get _ _ hv
   refine ⟨rv, ?_, h4⟩
   rw [Array.getElem?_toList] at h3
   simp [part, h1, h3]
 | some n =>
   simp only [partOf, Option.map_eq_some_iff] at hv
   obtain ⟨ds, hd, rfl⟩ := hv
   unfold cut at hd
   split at hd
   · cases hd
     refine ⟨.agg (rs.extract off (off + n)), by simp [part, h1, h2 n rfl], ?_⟩
     simp only [VRel]
     refine ⟨_, rfl, ?_⟩
     have := (hr.drop off).take n
     rw [Array.toList_extract]
     simpa [List.extract_eq_take_drop] using this
   · cases hd
theorem run_builtin (a : Act) (w : World) (b : Builtin) (args : Array Operand) (ats : Array TypeId) (dst : Option Tmp) (type : TypeId) (pos : String) (after : Array Edge) (guard : Option (Nat × Bool)) :
    ∃ cs, (execOp a.eval ⟨dst, .call ⟨.builtin b, args, ats⟩, type, pos, after, guard⟩).run P w = (builtin b ats type cs (args.map a.eval)).run P w := by
 refine ⟨args.map fun | .const _ => true | _ => false, ?_⟩
 simp only [execOp, resolve, invoke, Sem.run_bind, Sem.run_pure, Result.andThen_ok]
 rfl
theorem one_arg {args : Array Operand} {x : Operand} (h : args.toList = [x]) : args = #[x] := by
 apply Array.ext'; simpa using h
theorem two_args {args : Array Operand} {x y : Operand} (h : args.toList = [x, y]) : args = #[x, y] := by
 apply Array.ext'; simpa using h
def hasRoom (n : Nat) : Cap → Prop
 | .exact c => 0 < c
 | .opn _ => 0 < n
theorem slice_room {p : Nat × Nat} {n : Nat} {cp : Cap} {v : Value} (hv : VRel ι (.slice (some p) n cp) v) (hc : hasRoom n cp) :
    p.1 < ι.n ∧ ∃ c, 0 < c ∧ v = .slice (some ⟨ι.blk p.1, ι.sh p.1 + p.2, none⟩) n c := by
 obtain ⟨b, o⟩ := p
 cases cp <;> simp only [VRel] at hv <;> simp only [hasRoom] at hc
 · obtain ⟨h1, h2, a, rfl, h3⟩ := hv
   exact ⟨h1, _, hc, by rw [h3 hc]⟩
 · obtain ⟨h1, _, o2, c2, rfl, _, h2⟩ := hv
   rcases h2 with ⟨rfl, _⟩ | ⟨h0, _⟩
   · exact ⟨h1, _, by omega, rfl⟩
   · omega
theorem shape_of {G : Nat} (r : Rel G ι h w) {b : Nat} {cs : List AV} {ro : Bool} (hb : h.get b = some (.cells cs ro)) : ∃ z, w.shape? (ι.blk b) = some (ι.ty b, z) ∧ (∀ i, i < cs.length → ι.sh b + i < z) := by
 obtain ⟨arr, e, fr, h1, h2, h3, h4, h5⟩ := r.brel b _ hb
 refine ⟨arr.size, by unfold World.shape?; rw [h1, h5], fun i hi => ?_⟩
 obtain ⟨v, h6, _⟩ := h3 i _ (List.getElem?_eq_getElem hi)
 exact (Array.getElem?_eq_some_iff.1 h6).1
theorem liesAt_head {u n count : Nat} (hn : P.cellsOf u = n + 1) (hc : 1 ≤ count) : liesAt P P.depth u count 0 u 1 = true := by
 have hd : P.depth = (2 * (P.types.size + Made.depth) + 1) + 1 := rfl
 rw [hd]
 simp only [liesAt, Bool.or_eq_true]
 left
 rw [hd]
 simp [rowAt, hn, hc, sameLayout]
theorem typed_ptr {G : Nat} (r : Rel G ι h w) {t b o : Nat} (ht : typed h t (.ptr (some (b, o))) = true) : o = 0 ∧ ι.ty b = t ∧ ι.sh b = 0 := by
 cases o with
 | succ o => simp [typed] at ht
 | zero =>
   simp only [typed] at ht
   split at ht
   · rename_i b2 t2 hb2
     simp only [Bool.and_eq_true, beq_iff_eq] at ht
     obtain ⟨g1, g2, g3⟩ := r.brel _ _ hb2
     rw [ht.1] at g2 g3
     exact ⟨rfl, by rw [g2, ht.2], g3⟩
   · cases ht
theorem toUns_ok (r : Rel P.globals.size ι h w) {src dst t k : Nat} {tm : List AV} {d : CA} {v : AV} {rx : Value} (hs : P.underlying src = some (.pointer t)) (hd : P.underlying dst = some .unsafePointer) (hk : sizeT P t = some (k + 1))
    (e1 : VRel ι (d.ev tm) rx) (hv : quietRun (.toUns d) tm h = some v) : ∃ rv, (convert src dst rx).run P w = .ok rv w ∧ VRel ι v rv := by
 simp only [quietRun] at hv
 split at hv
 · rename_i hp
   cases hv
   rw [hp] at e1
   simp only [VRel] at e1
   subst e1
   exact ⟨.pointer none, by simp [convert, run_underlying hs, run_underlying hd, Conv.unsafePointer], by simp [VRel]⟩
 · rename_i b o hp
   simp only [Option.map_eq_some_iff] at hv
   obtain ⟨c, hc, rfl⟩ := hv
   rw [hp] at e1
   obtain ⟨hb, rfl⟩ := ptr_of e1
   unfold readCell at hc
   split at hc
   · rename_i cs ro hbb
     obtain ⟨z, g1, g2⟩ := shape_of r hbb
     have g3 := g2 o (List.getElem?_eq_some_iff.1 hc).1
     refine ⟨.pointer (some ⟨ι.blk b, ι.sh b + o, none⟩), ?_, e1⟩
     have g4 : ¬ (z ≤ ι.sh b + o) := by omega
     simp [convert, run_underlying hs, run_underlying hd, Conv.unsafePointer, Conv.seenAt, viewAt, g1, cellsIn, sizeT_run hk, g4]
   · cases hc
 · cases hv
theorem fromUns_ok (r : Rel P.globals.size ι h w) {src dst u k : Nat} {tm : List AV} {d : CA} {v : AV} {rx : Value} (hs : P.underlying src = some .unsafePointer) (hd : P.underlying dst = some (.pointer u)) (hk : sizeT P u = some (k + 1))
    (e1 : VRel ι (d.ev tm) rx) (hv : quietRun (.fromUns u (k + 1) d) tm h = some v) : ∃ rv, (convert src dst rx).run P w = .ok rv w ∧ VRel ι v rv := by
 simp only [quietRun] at hv
 split at hv
 · rename_i hp
   cases hv
   rw [hp] at e1
   simp only [VRel] at e1
   subst e1
   exact ⟨.pointer none, by simp [convert, run_underlying hs, run_underlying hd, Conv.unsafePointer], by simp [VRel]⟩
 · rename_i b o hp
   split at hv
   · rename_i ht
     simp only [Option.map_eq_some_iff] at hv
     obtain ⟨c, hc, rfl⟩ := hv
     rw [hp] at e1
     obtain ⟨hb, rfl⟩ := ptr_of e1
     obtain ⟨rfl, h1, h2⟩ := typed_ptr r ht
     unfold readCells at hc
     split at hc
     · rename_i cs ro hbb
       unfold cut at hc
       split at hc
       · rename_i hle
         obtain ⟨z, g1, g2⟩ := shape_of r hbb
         have g3 := g2 k (by omega)
         have hcu : P.cellsOf u = k + 1 := by
          unfold sizeT at hk
          unfold Program.cellsOf
          rw [hk]; rfl
         have g4 : 1 ≤ z / (k + 1) := by
          rw [Nat.le_div_iff_mul_le (by omega)]; omega
         have g5 := liesAt_head (P := P) hcu g4
         refine ⟨.pointer (some ⟨ι.blk b, ι.sh b + 0, none⟩), ?_, e1⟩
         simp [convert, run_underlying hs, run_underlying hd, Conv.unsafePointer, Conv.seenAt, viewAt, g1, sizeT_run hk, variablesAt, h1, h2, hcu, g5]
       · cases hc
     · cases hc
   · cases hv
 · cases hv
theorem builtin_quiet {b : Builtin} {args : Array Operand} {ats : Array TypeId} {dst : Option Tmp} {type : TypeId} {pos : String} {after : Array Edge} {guard : Option (Nat × Bool)} {c : CO} {tm : List AV} {a : Act} {v : AV}
    (hc : cBuiltin P b ats args = some c) (hq : c.quiet = true) (hv : quietRun c tm h = some v) (r : Rel P.globals.size ι h w) (ha : ARel ι tm a) :
    Tells P ι w a ⟨dst, .call ⟨.builtin b, args, ats⟩, type, pos, after, guard⟩ v := by
 unfold Tells
 obtain ⟨cs, hrun⟩ := run_builtin (P := P) a w b args ats dst type pos after guard
 rw [hrun]
 clear hrun
 have fin : ∀ (s : Sem Value), (∃ rv, s.run P w = .ok rv w ∧ VRel ι v rv) → ∃ rv, ((do pure (.value (← s)) : Sem Next)).run P w = .ok (.value rv) w ∧ VRel ι v rv := fun s ⟨rv, h1, h2⟩ => ⟨rv, by simp [h1], h2⟩
 unfold cBuiltin at hc
 split at hc
 · rename_i x t hargs ht
   rw [one_arg hargs]
   refine fin (Builtin.len_ ats type (#[x].map a.eval)) ?_
   split at hc
   · rename_i hu
     obtain ⟨d, hd, rfl⟩ := map_some_cA hc
     have e1 := ev_rel r ha hd
     simp only [quietRun] at hv
     split at hv
     · rename_i s hp
       cases hv
       rw [hp] at e1
       have e2 := str_of e1
       refine ⟨goInt s.length, ?_, by simp [VRel, goInt]⟩
       have hsz : (⟨s.toArray⟩ : ByteArray).size = s.length := by simp [ByteArray.size]
       simp [Builtin.len_, ht, run_underlying hu, e2, hsz]
     · cases hv
   · rename_i e hu
     obtain ⟨d, hd, rfl⟩ := map_some_cA hc
     have e1 := ev_rel r ha hd
     simp only [quietRun] at hv
     split at hv
     · rename_i q n cp hp
       cases hv
       rw [hp] at e1
       obtain ⟨q', c', e2⟩ := nil_or_at e1
       exact ⟨goInt n, by simp [Builtin.len_, ht, run_underlying hu, e2], by simp [VRel, goInt]⟩
     · cases hv
   · rename_i k e hu
     obtain ⟨d, hd, rfl⟩ := map_some_cA hc
     have e1 := ev_rel r ha hd
     simp only [quietRun] at hv
     split at hv
     · rename_i hp
       cases hv
       rw [hp] at e1
       simp only [VRel] at e1
       exact ⟨goInt 0, by simp [Builtin.len_, ht, run_underlying hu, e1], by simp [VRel, goInt]⟩
     · rename_i rr hp
       split at hv
       · rename_i es hes
         cases hv
         rw [hp] at e1
         simp only [VRel] at e1
         obtain ⟨hbn, e2⟩ := e1
         obtain ⟨rs, clock, g1, g2⟩ := r.brel rr _ hes
         have hlen : ∀ {es : List (AV × AV)} {rs : List MapEntry}, ERels ι es rs → rs.length = es.length := fun {es rs} => by
          induction es generalizing rs with
          | nil => intro h; simp only [ERels] at h; subst h; rfl
          | cons p es ih => obtain ⟨k, x⟩ := p; intro h; simp only [ERels] at h; obtain ⟨_, rs', rfl, _, _, h3⟩ := h; simp [ih h3]
         have hl := hlen g2
         refine ⟨goInt es.length, ?_, by simp [VRel, goInt]⟩
         simp only [Array.length_toList] at hl
         simp [Builtin.len_, ht, run_underlying hu, e2, getObj, Sem.run, g1, hl]
       · cases hv
     · cases hv
   · rename_i n e hu
     obtain ⟨d, hd, rfl⟩ := map_some_cA hc
     simp only [quietRun, Option.some.injEq] at hv
     subst hv
     exact ⟨goInt n, by simp [Builtin.len_, ht, run_underlying hu], by simp [VRel, goInt]⟩
   · rename_i ar hu
     split at hc
     · rename_i n e hu2
       obtain ⟨d, hd, rfl⟩ := map_some_cA hc
       simp only [quietRun, Option.some.injEq] at hv
       subst hv
       exact ⟨goInt n, by simp [Builtin.len_, ht, run_underlying hu, run_underlying hu2], by simp [VRel, goInt]⟩
     · cases hc
   · cases hc
 · rename_i x t hargs ht
   rw [one_arg hargs]
   refine fin (Builtin.cap_ ats type (#[x].map a.eval)) ?_
   split at hc
   · rename_i e hu
     obtain ⟨d, hd, rfl⟩ := map_some_cA hc
     have e1 := ev_rel r ha hd
     simp only [quietRun] at hv
     split at hv
     · rename_i q n cp hp
       cases hv
       rw [hp] at e1
       have e2 : ∃ q', a.eval x = .slice q' n cp := by
        cases q with
        | none => simp only [VRel] at e1; obtain ⟨rfl, rfl, e2⟩ := e1; exact ⟨none, e2⟩
        | some p => obtain ⟨b', o'⟩ := p; simp only [VRel] at e1; obtain ⟨_, _, A, e3, _⟩ := e1; exact ⟨_, e3⟩
       obtain ⟨q', e2⟩ := e2
       exact ⟨goInt cp, by simp [Builtin.cap_, ht, run_underlying hu, e2], by simp [VRel, goInt]⟩
     · cases hv
   · cases hc
 · rename_i x y hargs
   rw [two_args hargs]
   refine fin (Builtin.min_ ats type (#[x, y].map a.eval)) ?_
   split at hc
   · rename_i c1 c2 h1 h2
     cases hc
     have e1 := ev_rel r ha h1
     have e2 := ev_rel r ha h2
     simp only [quietRun] at hv
     split at hv
     · rename_i k i k' j hp hp'
       cases hv
       rw [hp] at e1
       rw [hp'] at e2
       exact ⟨.int k (if j < i then j else i), by simp [Builtin.min_, Builtin.min2, int_of e1, int_of e2], by simp [VRel]⟩
     · cases hv
   · cases hc
 · rename_i x y hargs
   rw [two_args hargs]
   refine fin (Builtin.max_ ats type (#[x, y].map a.eval)) ?_
   split at hc
   · rename_i c1 c2 h1 h2
     cases hc
     have e1 := ev_rel r ha h1
     have e2 := ev_rel r ha h2
     simp only [quietRun] at hv
     split at hv
     · rename_i k i k' j hp hp'
       cases hv
       rw [hp] at e1
       rw [hp'] at e2
       exact ⟨.int k (if i < j then j else i), by simp [Builtin.max_, Builtin.max2, int_of e1, int_of e2], by simp [VRel]⟩
     · cases hv
   · cases hc
 · exfalso
   split at hc
   · split at hc
     · split at hc
       · split at hc
         · cases hc; simp [CO.quiet] at hq
         · cases hc
       · cases hc
     · split at hc
       · split at hc
         · split at hc
           · cases hc; split at hq <;> simp [CO.quiet] at hq
           · cases hc
         · cases hc
       · cases hc
   · cases hc
 · exfalso
   split at hc
   · split at hc
     · cases hc; simp [CO.quiet] at hq
     · cases hc
   · cases hc
 · rename_i x t hargs ht
   rw [one_arg hargs]
   refine fin (Builtin.unsafeSliceData_ ats type (#[x].map a.eval)) ?_
   obtain ⟨d, hd, rfl⟩ := map_some_cA hc
   have e1 := ev_rel r ha hd
   simp only [quietRun] at hv
   have main : ∀ (p : Nat × Nat) (n : Nat) (cp : Cap), d.ev tm = .slice (some p) n cp → hasRoom n cp → v = .ptr (some p) →
       ∃ rv, (Builtin.unsafeSliceData_ ats type (#[x].map a.eval)).run P w = .ok rv w ∧ VRel ι v rv := fun p n cp hp hcp hvp => by
    rw [hp] at e1
    obtain ⟨hb, c, hc0, e2⟩ := slice_room e1 hcp
    refine ⟨.pointer (some ⟨ι.blk p.1, ι.sh p.1 + p.2, none⟩), ?_, by subst hvp; obtain ⟨b, o⟩ := p; simp only [VRel]; exact ⟨hb, trivial⟩⟩
    rw [show #[x].map a.eval = #[a.eval x] by simp, e2]
    exact Lib.run_unsafeSliceData_row w ats type _ n c (by omega)
   split at hv
   · rename_i n cp hp
     cases hv
     rw [hp] at e1
     obtain ⟨q, c, e2⟩ := nil_or_at e1
     have e3 : q = none := by cases cp <;> simp only [VRel] at e1; rw [e1.2.2] at e2; cases e2; rfl
     subst e3
     refine ⟨.pointer none, ?_, by simp [VRel]⟩
     rw [show #[x].map a.eval = #[a.eval x] by simp, e2]
     rfl
   · rename_i p n e' hp
     split at hv
     · rename_i hn
       exact main p n _ hp hn (by cases hv; rfl)
     · cases hv
   · rename_i p n c' hp
     split at hv
     · rename_i hn
       exact main p n _ hp hn (by cases hv; rfl)
     · cases hv
   · cases hv
 · exfalso
   split at hc
   · split at hc
     · cases hc; simp [CO.quiet] at hq
     · cases hc
   · cases hc
 · cases hc
theorem quiet_sound {o : Oper} {c : CO} {tm : List AV} {a : Act} {v : AV} (hc : cOp P o.op = some c) (hq : c.quiet = true) (hv : quietRun c tm h = some v) (r : Rel P.globals.size ι h w) (ha : ARel ι tm a) : Tells P ι w a o v := by
 obtain ⟨dst, op, type, pos, after, guard⟩ := o
 cases op <;> simp only [cOp] at hc <;> first | (cases hc; done) | skip
 case move x =>
  obtain ⟨d, hd, rfl⟩ := map_some_cA hc
  simp only [quietRun, Option.some.injEq] at hv
  subst hv
  exact ⟨_, by simp [execOp], ev_rel r ha hd⟩
 case assign x =>
  obtain ⟨d, hd, rfl⟩ := map_some_cA hc
  simp only [quietRun, Option.some.injEq] at hv
  subst hv
  exact ⟨_, by simp [execOp], ev_rel r ha hd⟩
 case pick x y z =>
  split at hc
  · rename_i cx cy cz h1 h2 h3
    cases hc
    simp only [quietRun] at hv
    have e1 := ev_rel r ha h1
    split at hv
    · rename_i hb
      cases hv
      rw [hb] at e1
      exact ⟨_, by simp [execOp, asBool, bool_of e1], ev_rel r ha h2⟩
    · rename_i hb
      cases hv
      rw [hb] at e1
      exact ⟨_, by simp [execOp, asBool, bool_of e1], ev_rel r ha h3⟩
    · cases hv
  · cases hc
 case box t x => obtain ⟨d, hd, rfl⟩ := map_some_cA hc; simp [CO.quiet] at hq
 case range t x =>
  exfalso
  split at hc
  · obtain ⟨d, hd, rfl⟩ := map_some_cA hc; simp [CO.quiet] at hq
  · cases hc
 case next x b =>
  exfalso
  cases b <;> simp only at hc <;> first | (cases hc; done) | skip
  obtain ⟨d, hd, rfl⟩ := map_some_cA hc; simp [CO.quiet] at hq
 case alloc t =>
  split at hc
  · split at hc
    · cases hc; split at hq <;> simp [CO.quiet] at hq
    · cases hc
  · cases hc
 case build t parts =>
  split at hc
  · rename_i z fs hz hu
    split at hc
    · rename_i hall
      simp only [Option.map_eq_some_iff] at hc
      obtain ⟨places, hp, rfl⟩ := hc
      simp only [quietRun, Option.map_eq_some_iff] at hv
      obtain ⟨cs', hf, rfl⟩ := hv
      obtain ⟨rz, hz1, hz2, i, hi1, hi2⟩ := zeroT_run (ι := ι) hz
      obtain ⟨arr, h1, h2⟩ := run_mapM_places (P := P) fs (fun f hf => by
       have := List.all_eq_true.1 hall f hf
       exact Option.isSome_iff_exists.1 this) w
      obtain ⟨p1, p2⟩ := placesF_ok fs parts.toList places hp
      obtain ⟨arr', h3, h4⟩ := fill_ok r ha (arr[·]?) parts.toList places z.cells cs' rz.cells p1 (fun j i x off size c hj hj' => by
       obtain ⟨⟨f, g1, g2, g3⟩, g4⟩ := p2 j i x off size c hj hj'
       exact ⟨by rw [h2 i f size g1 g3, g2], g4⟩) hf hz2.cells
      refine tells_of (s := Instr.build t (parts.map fun (i, x) => (i, a.eval x))) rfl ⟨.agg arr', ?_, by simp only [VRel]; exact ⟨_, rfl, h4⟩⟩
      simp only [Instr.build, Sem.run_bind, hz1, Result.andThen_ok, run_underlying hu, h1]
      rw [Array.toList_map, h3]
      rfl
    · cases hc
  · rename_i z n e hz hu
    split at hc
    · rename_i s hs
      simp only [Option.map_eq_some_iff] at hc
      obtain ⟨places, hp, rfl⟩ := hc
      simp only [quietRun, Option.map_eq_some_iff] at hv
      obtain ⟨cs', hf, rfl⟩ := hv
      obtain ⟨rz, hz1, hz2, i, hi1, hi2⟩ := zeroT_run (ι := ι) hz
      obtain ⟨p1, p2⟩ := placesA_ok s parts.toList places hp
      obtain ⟨arr', h3, h4⟩ := fill_ok r ha (fun i => some (i * s, s)) parts.toList places z.cells cs' rz.cells p1 (fun j i x off size c hj hj' => by
       obtain ⟨⟨g1, g2⟩, g4⟩ := p2 j i x off size c hj hj'
       exact ⟨by rw [g1, g2], g4⟩) hf hz2.cells
      refine tells_of (s := Instr.build t (parts.map fun (i, x) => (i, a.eval x))) rfl ⟨.agg arr', ?_, by simp only [VRel]; exact ⟨_, rfl, h4⟩⟩
      simp only [Instr.build, Sem.run_bind, hz1, Result.andThen_ok, run_underlying hu, sizeT_run hs]
      rw [Array.toList_map, h3]
      rfl
    · cases hc
  · cases hc
 case buildSlice t len parts =>
  exfalso
  split at hc
  · split at hc
    · split at hc
      · cases hc
      · split at hc
        · split at hc
          · simp only [Option.map_eq_some_iff] at hc; obtain ⟨_, _, rfl⟩ := hc; simp [CO.quiet] at hq
          · cases hc
        · split at hc
          · split at hc
            · simp only [Option.map_eq_some_iff] at hc; obtain ⟨_, _, rfl⟩ := hc; simp [CO.quiet] at hq
            · cases hc
          · cases hc
    · cases hc
  · cases hc
 case insert t m k x =>
  exfalso
  split at hc
  · simp only [Option.map_eq_some_iff] at hc; obtain ⟨_, _, rfl⟩ := hc; simp [CO.quiet] at hq
  · cases hc
 case load t x =>
  split at hc
  · rename_i g d hg hd
    cases hc
    simp only [quietRun] at hv
    split at hv
    · rename_i b o hb
      have e1 := ev_rel r ha hd
      rw [hb] at e1
      obtain ⟨_, e2⟩ := ptr_of e1
      obtain ⟨rv, h1, h2⟩ := load_ok r hg hv
      exact tells_of (s := Instr.loadAt t (a.eval x)) rfl ⟨rv, by simp [Instr.loadAt, Instr.sureAddr, e2, h1], h2⟩
    · cases hv
  · cases hc
 case store t x y =>
  exfalso
  split at hc
  · cases hc; simp [CO.quiet] at hq
  · cases hc
 case nilCheck x =>
  obtain ⟨d, hd, rfl⟩ := map_some_cA hc
  have e1 := ev_rel r ha hd
  simp only [quietRun] at hv
  split at hv
  · rename_i p hp
    cases hv
    rw [hp] at e1
    obtain ⟨b, o⟩ := p
    obtain ⟨h1, e2⟩ := ptr_of e1
    exact ⟨a.eval x, by simp [execOp, e2], e1⟩
  · rename_i f fi ca hp
    cases hv
    rw [hp] at e1
    have e1' := e1
    simp only [VRel] at e1
    obtain ⟨ra, rc, e2, _⟩ := e1
    exact ⟨a.eval x, by simp [execOp, e2], e1'⟩
  · cases hv
 case binOp op t x y yt =>
  split at hc
  · rename_i cx cy h1 h2
    cases hc
    simp only [quietRun] at hv
    exact tells_of (s := do eqGuard op t x y (a.eval x) (a.eval y); binOp op t (a.eval x) (a.eval y)) rfl (bin_ok (ev_rel r ha h1) (ev_rel r ha h2) hv)
  · cases hc
 case unOp op t x =>
  obtain ⟨d, hd, rfl⟩ := map_some_cA hc
  have e1 := ev_rel r ha hd
  simp only [quietRun] at hv
  unfold aun at hv
  split at hv
  · rename_i k n hp
    cases hv
    rw [hp] at e1
    exact ⟨.int k (k.wrap (0 - n)), by simp [execOp, Op.unary, Op.intArith, int_of e1], by simp [VRel]⟩
  · rename_i k n hp
    cases hv
    rw [hp] at e1
    exact ⟨.int k (bits .xor k (if k.signed then -1 else k.max) n), by simp [execOp, Op.unary, Op.intBits, bits, int_of e1], by simp [VRel]⟩
  · rename_i b hp
    cases hv
    rw [hp] at e1
    exact ⟨.bool (!b), by simp [execOp, Op.unary, bool_of e1], by simp [VRel]⟩
  · cases hv
 case convert src dst x =>
  split at hc
  · rename_i k0 k d hs hd hx
    cases hc
    have e1 := ev_rel r ha hx
    simp only [quietRun] at hv
    split at hv
    · rename_i k1 n hp
      cases hv
      rw [hp] at e1
      exact tells_of (s := convert src dst (a.eval x)) rfl ⟨.int k (k.wrap n), by simp [convert, run_underlying hs, run_underlying hd, Conv.intToInt, int_of e1], by simp [VRel]⟩
    · cases hv
  · rename_i d hs hd hx
    cases hc
    have e1 := ev_rel r ha hx
    simp only [quietRun] at hv
    split at hv
    · rename_i s hp
      cases hv
      rw [hp] at e1
      exact tells_of (s := convert src dst (a.eval x)) rfl ⟨_, by simp [convert, run_underlying hs, run_underlying hd, str_of e1]; rfl, by simp [VRel]⟩
    · cases hv
  · rename_i e d hs hd hx
    split at hc
    · rename_i hu8
      cases hc
      have he : P.underlying e = some (.int .u8) := by
       unfold isU8 at hu8
       split at hu8
       · rename_i h1; exact h1
       · cases hu8
      have e1 := ev_rel r ha hx
      simp only [quietRun] at hv
      have hconv : ∀ q l cp, a.eval x = .slice q l cp → (convert src dst (a.eval x)).run P w = (Conv.bytesToString (.slice q l cp)).run P w := fun q l cp hq => by
       rw [hq]
       simp [convert, run_underlying hs, run_underlying hd, run_underlying he]
      split at hv
      · rename_i l cp hp
        cases hv
        rw [hp] at e1
        cases cp <;> simp only [VRel] at e1
        obtain ⟨rfl, _, e2⟩ := e1
        exact tells_of (s := convert src dst (a.eval x)) rfl ⟨.string ⟨[].toArray⟩, by rw [hconv _ _ _ e2]; simp [Conv.bytesToString]; rfl, by simp [VRel]⟩
      · rename_i b o' n cp hp
        rw [hp] at e1
        simp only [Option.bind_eq_some_iff, Option.map_eq_some_iff] at hv
        obtain ⟨cs, hcs, s, hs2, rfl⟩ := hv
        obtain ⟨vs, g1, g2, g3, g4⟩ := cells_of r hcs
        rcases Nat.eq_zero_or_pos n with h0 | h0
        · subst h0
          have : cs = [] := List.eq_nil_of_length_eq_zero g2
          subst this
          simp only [bytesOf, Option.some.injEq] at hs2
          subst hs2
          obtain ⟨q, cp', e2⟩ := nil_or_at e1
          refine tells_of (s := convert src dst (a.eval x)) rfl ⟨.string ⟨[].toArray⟩, ?_, by simp [VRel]⟩
          rw [hconv _ _ _ e2]
          cases q <;> simp [Conv.bytesToString, loadCells, loadCellsFrom] <;> rfl
        · obtain ⟨_, c, e2⟩ := slice_at e1 h0
          refine tells_of (s := convert src dst (a.eval x)) rfl ⟨.string ⟨s.toArray⟩, ?_, by simp [VRel]⟩
          rw [hconv _ _ _ e2]
          have h5 := run_loadCells_list (P := P) w ⟨ι.blk b, ι.sh b + o', none⟩ vs g4
          rw [g1] at h5
          have h6 := bytes_ok (P := P) (w := w) hs2 g3 ByteArray.empty
          simp only [Conv.bytesToString, Sem.run_bind, h5, Result.andThen_ok]
          rw [← Array.forIn_toList]
          have h7 := congrArg (fun z : Result ByteArray => z.andThen fun s w' => Sem.run P (pure (Value.string s)) w') h6
          exact h7.trans (by simp)
      · cases hv
    · cases hc
  · rename_i e d hs hd hx
    split at hc
    · cases hc; simp [CO.quiet] at hq
    · cases hc
  · rename_i e d hs hd hx
    split at hc
    · rename_i k hk
      cases hc
      exact tells_of (s := convert src dst (a.eval x)) rfl (toUns_ok r hs hd hk (ev_rel r ha hx) hv)
    · cases hc
  · rename_i e d hs hd hx
    split at hc
    · rename_i k hk
      cases hc
      exact tells_of (s := convert src dst (a.eval x)) rfl (fromUns_ok r hs hd hk (ev_rel r ha hx) hv)
    · cases hc
  · cases hc
 case makeInterface t x =>
  split at hc
  · cases hc
  · rename_i d hni hu
    obtain ⟨c', hd, rfl⟩ := map_some_cA hc
    simp only [quietRun, Option.some.injEq] at hv
    subst hv
    refine tells_of (s := Instr.makeInterface t (a.eval x)) rfl ⟨.iface t (a.eval x), ?_, by simp only [VRel]; exact ⟨_, rfl, ev_rel r ha hd⟩⟩
    simp only [Instr.makeInterface, Sem.run_bind, run_underlying hu, Result.andThen_ok]
    cases d <;> first | rfl | exact absurd rfl (hni _)
  · cases hc
 case makeFunc fn first captured =>
  split at hc
  · rename_i f1 c1 h1 h2
    cases hc
    simp only [quietRun, Option.some.injEq] at hv
    subst hv
    refine tells_of (s := Instr.makeFunc fn (first.map a.eval) (captured.map a.eval)) rfl ⟨_, by simp [Instr.makeFunc]; rfl, ?_⟩
    simp only [VRel]
    exact ⟨_, _, rfl, evs_rel r ha h1, evs_rel r ha h2⟩
  · cases hc
 case makeMap t rs =>
  exfalso
  cases rs <;> simp only at hc
  · cases hc; simp [CO.quiet] at hq
  · cases hc
 case makeSlice t l c' =>
  exfalso
  split at hc
  · split at hc
    · split at hc
      · cases hc; split at hq <;> simp [CO.quiet] at hq
      · cases hc
    · cases hc
  · cases hc
 case slice t x lo hi mx =>
  split at hc
  · rename_i cx clo chi ht hx h1 h2 h3
    cases hc
    have hmx : mx = none := by cases mx <;> simp [cO] at h3 ⊢
    subst hmx
    simp only [quietRun] at hv
    split at hv
    · rename_i s hp
      simp only [Option.map_eq_some_iff] at hv
      obtain ⟨⟨l, hh, m⟩, hb, rfl⟩ := hv
      have e1 := ev_rel r ha hx
      rw [hp] at e1
      have e2 := str_of e1
      obtain ⟨h4, h5⟩ := bounds_ok r ha h1 h2 h3 hb (Nat.le_refl _) false
      refine tells_of (s := Instr.sliceAt t (a.eval x) (lo.map a.eval) (hi.map a.eval) none) rfl ⟨.string ⟨((s.drop l).take (hh - l)).toArray⟩, ?_, by simp [VRel]⟩
      simp only [Option.isNone_none, if_true, Option.map_none] at h4
      have hsz : (⟨s.toArray⟩ : ByteArray).size = s.length := by simp [ByteArray.size]
      simp only [Instr.sliceAt, Instr.slice, Sem.run_bind, run_underlying ht, Result.andThen_ok, e2, Option.isSome_none, Bool.false_eq_true, if_false, hsz]
      rw [h4]
      simp only [Result.andThen_ok, Sem.run_pure]
      congr 2
      apply ByteArray.ext
      simp [List.extract_eq_take_drop]
    · cases hv
  · rename_i e cx clo chi cmx ht hx h1 h2 h3
    simp only [Option.map_eq_some_iff] at hc
    obtain ⟨s, hs, rfl⟩ := hc
    exact tells_of (s := Instr.sliceAt t (a.eval x) (lo.map a.eval) (hi.map a.eval) (mx.map a.eval)) rfl (slcV_ok r ha ht hs hx h1 h2 h3 hv)
  · rename_i n e cx clo chi cmx ht hx h1 h2 h3
    simp only [Option.map_eq_some_iff] at hc
    obtain ⟨s, hs, rfl⟩ := hc
    simp only [quietRun] at hv
    split at hv
    · rename_i b o' hp
      simp only [Option.map_eq_some_iff] at hv
      obtain ⟨⟨l, hh, m⟩, hb, rfl⟩ := hv
      have e1 := ev_rel r ha hx
      rw [hp] at e1
      obtain ⟨hbn, e2⟩ := ptr_of e1
      obtain ⟨h4, h5⟩ := bounds_ok r ha h1 h2 h3 hb (Nat.le_refl n) false
      have hle := le_of_bounds3 hb (Nat.le_refl n)
      have e0 : (if cmx.isNone then n else m) = m := by split; (rename_i hn; exact (h5 hn).symm); rfl
      rw [e0] at h4
      refine tells_of (s := Instr.sliceAt t (a.eval x) (lo.map a.eval) (hi.map a.eval) (mx.map a.eval)) rfl
       ⟨.slice (some (if m = l then ⟨ι.blk b, ι.sh b + o', none⟩ else (⟨ι.blk b, ι.sh b + o', none⟩ : Addr).add (l * s))) (hh - l) (m - l), ?_, ?_⟩
      · simp [Instr.sliceAt, run_underlying ht, e2, Instr.sureAddr, h4, sizeT_run hs]
      · simp only [VRel]
        refine ⟨hbn, by omega, ?_⟩
        by_cases hml : m = l
        · simp [hml]
        · simp [hml, Addr.add_lit, Nat.add_assoc]
    · cases hv
  · rename_i ar cx clo chi cmx ht hx h1 h2 h3
    split at hc
    · rename_i n e hu
      simp only [Option.map_eq_some_iff] at hc
      obtain ⟨s, hs, rfl⟩ := hc
      simp only [quietRun] at hv
      split at hv
      · rename_i b o' hp
        simp only [Option.map_eq_some_iff] at hv
        obtain ⟨⟨l, hh, m⟩, hb, rfl⟩ := hv
        have e1 := ev_rel r ha hx
        rw [hp] at e1
        obtain ⟨hbn, e2⟩ := ptr_of e1
        obtain ⟨h4, h5⟩ := bounds_ok r ha h1 h2 h3 hb (Nat.le_refl n) false
        have hle := le_of_bounds3 hb (Nat.le_refl n)
        have e0 : (if cmx.isNone then n else m) = m := by split; (rename_i hn; exact (h5 hn).symm); rfl
        rw [e0] at h4
        refine tells_of (s := Instr.sliceAt t (a.eval x) (lo.map a.eval) (hi.map a.eval) (mx.map a.eval)) rfl
         ⟨.slice (some (if m = l then ⟨ι.blk b, ι.sh b + o', none⟩ else (⟨ι.blk b, ι.sh b + o', none⟩ : Addr).add (l * s))) (hh - l) (m - l), ?_, ?_⟩
        · simp [Instr.sliceAt, Instr.slice, run_underlying ht, run_underlying hu, e2, asAddr, h4, sizeT_run hs]
        · simp only [VRel]
          refine ⟨hbn, by omega, ?_⟩
          by_cases hml : m = l
          · simp [hml]
          · simp [hml, Addr.add_lit, Nat.add_assoc]
      · cases hv
    · cases hc
  · cases hc
 case fieldAddr s x f =>
  split at hc
  · rename_i fs d hu hd
    split at hc
    · rename_i fd hf
      split at hc
      · rename_i k hs
        cases hc
        simp only [quietRun] at hv
        split at hv
        · rename_i b o' hp
          cases hv
          have e1 := ev_rel r ha hd
          rw [hp] at e1
          obtain ⟨hbn, e2⟩ := ptr_of e1
          refine tells_of (s := Instr.fieldAt s (a.eval x) f) rfl ⟨.pointer (some ⟨ι.blk b, ι.sh b + (o' + fd.offset), none⟩), ?_, by simp only [VRel]; exact ⟨hbn, trivial⟩⟩
          simp [Instr.fieldAt, run_underlying hu, hf, e2, Instr.sureAddr, fieldPlace, sizeT_run hs, Addr.add_lit, Nat.add_assoc]
        · cases hv
      · cases hc
    · cases hc
  · cases hc
 case field t x f =>
  split at hc
  · rename_i fs d hu hd
    split at hc
    · rename_i fd hf
      simp only [Option.map_eq_some_iff] at hc
      obtain ⟨g, hg, rfl⟩ := hc
      simp only [quietRun] at hv
      split at hv
      · rename_i cs hp
        have e1 := ev_rel r ha hd
        rw [hp] at e1
        simp only [VRel] at e1
        obtain ⟨rs, e2, e3⟩ := e1
        obtain ⟨rv, h1, h2⟩ := fld_ok (w := w) hg e3 hv
        exact tells_of (s := Instr.field t (a.eval x) f) rfl ⟨rv, by simp [Instr.field, run_underlying hu, hf, e2, asAgg, h1], h2⟩
      · cases hv
    · cases hc
  · cases hc
 case indexAddr t x i =>
  split at hc
  · rename_i e cx ci hu hx hi
    simp only [Option.map_eq_some_iff] at hc
    obtain ⟨s, hs, rfl⟩ := hc
    simp only [quietRun] at hv
    split at hv
    · rename_i b o' len cp k n hp hq'
      split at hv
      · rename_i hn
        cases hv
        have e1 := ev_rel r ha hx
        have e2 := ev_rel r ha hi
        rw [hp] at e1
        rw [hq'] at e2
        obtain ⟨hbn, c, e3⟩ := slice_at e1 (by omega)
        refine tells_of (s := Instr.indexAt t (a.eval x) (a.eval i)) rfl ⟨.pointer (some ⟨ι.blk b, ι.sh b + (o' + n.toNat * s), none⟩), ?_, by simp only [VRel]; exact ⟨hbn, trivial⟩⟩
        simp [Instr.indexAt, run_underlying hu, e3, int_of e2, asIntOf, hn, sizeT_run hs, Addr.add_lit, Nat.add_assoc]
      · cases hv
    · cases hv
  · rename_i n' e cx ci hu hx hi
    simp only [Option.map_eq_some_iff] at hc
    obtain ⟨s, hs, rfl⟩ := hc
    simp only [quietRun] at hv
    split at hv
    · rename_i b o' k j hp hq'
      split at hv
      · rename_i hn
        cases hv
        have e1 := ev_rel r ha hx
        have e2 := ev_rel r ha hi
        rw [hp] at e1
        rw [hq'] at e2
        obtain ⟨hbn, e3⟩ := ptr_of e1
        refine tells_of (s := Instr.indexAt t (a.eval x) (a.eval i)) rfl ⟨.pointer (some ⟨ι.blk b, ι.sh b + (o' + j.toNat * s), none⟩), ?_, by simp only [VRel]; exact ⟨hbn, trivial⟩⟩
        simp [Instr.indexAt, run_underlying hu, e3, int_of e2, asIntOf, Instr.sureAddr, hn, sizeT_run hs, Addr.add_lit, Nat.add_assoc]
      · cases hv
    · cases hv
  · cases hc
 case index t x i =>
  split at hc
  · rename_i cx ci hu hx hi
    cases hc
    simp only [quietRun] at hv
    split at hv
    · rename_i s k n hp hq'
      split at hv
      · rename_i hn
        simp only [Option.map_eq_some_iff] at hv
        obtain ⟨b, hb, rfl⟩ := hv
        have e1 := ev_rel r ha hx
        have e2 := ev_rel r ha hi
        rw [hp] at e1
        rw [hq'] at e2
        have e3 := str_of e1
        refine tells_of (s := Instr.index t (a.eval x) (a.eval i)) rfl ⟨.int .u8 b.toNat, ?_, by simp [VRel]⟩
        have h6 : (⟨s.toArray⟩ : ByteArray)[n.toNat]? = some b := by
         obtain ⟨hlt, hb'⟩ := List.getElem?_eq_some_iff.1 hb
         have hlt' : n.toNat < (⟨s.toArray⟩ : ByteArray).size := by simpa [ByteArray.size] using hlt
         rw [getElem?_pos (⟨s.toArray⟩ : ByteArray) n.toNat hlt']
         rw [← hb']
         rfl
        simp [Instr.index, run_underlying hu, e3, int_of e2, asIntOf, hn, h6]
      · cases hv
    · cases hv
  · rename_i n' e cx ci hu hx hi
    split at hc
    · rename_i s g hs hg
      cases hc
      simp only [quietRun] at hv
      split at hv
      · rename_i cs k j hp hq'
        split at hv
        · rename_i hn
          have e1 := ev_rel r ha hx
          have e2 := ev_rel r ha hi
          rw [hp] at e1
          rw [hq'] at e2
          simp only [VRel] at e1
          obtain ⟨rs, e3, e4⟩ := e1
          obtain ⟨rv, h1, h2⟩ := fld_ok (w := w) (fd := { name := "", type := e, offset := 0, embedded := false, tag := "", pkgPath := "", byteOffset := 0 }) hg e4 hv
          exact tells_of (s := Instr.index t (a.eval x) (a.eval i)) rfl ⟨rv, by simp [Instr.index, run_underlying hu, e3, int_of e2, asIntOf, hn, sizeT_run hs, h1], h2⟩
        · cases hv
      · cases hv
    · cases hc
  · cases hc
 case lookup t m k ok =>
  split at hc
  · rename_i key e cm ck hu hm hk
    split at hc
    · rename_i q z hkt hz
      cases hc
      have hf := keyT_fits hkt
      obtain ⟨rz, hz1, hz2, _⟩ := zeroT_run (ι := ι) hz
      have e1 := ev_rel r ha hm
      have e2 := ev_rel r ha hk
      simp only [quietRun] at hv
      have hres : ∀ (rv : Value) (b : Bool) (av : AV), VRel ι av rv → VRel ι (if ok then .tuple [av, .bool b] else av) (if ok then .tuple #[rv, .bool b] else rv) := fun rv b av hr => by
       cases ok
       · simpa using hr
       · simp only [if_true, VRel, VRels]
         exact ⟨_, rfl, rv, [.bool b], by simp, hr, .bool b, [], rfl, rfl, rfl⟩
      split at hv
      · rename_i hp
        split at hv
        · rename_i hsc
          cases hv
          rw [hp] at e1
          simp only [VRel] at e1
          refine tells_of (s := Instr.lookup t (a.eval m) (a.eval k) ok) rfl ⟨_, ?_, hres rz false z hz2⟩
          obtain ⟨d, hd⟩ : ∃ d, P.underlying key = some d := by
           cases q
           · exact ⟨_, hf⟩
           · obtain ⟨k', hk'⟩ := hf; exact ⟨_, hk'⟩
           · exact ⟨_, hf⟩
          simp [Instr.lookup, run_underlying hu, e1, checkKey_ok hf e2 hsc, Instr.findKey, run_underlying hd, Instr.findNow, hz1]
        · cases hv
      · rename_i rr hp
        split at hv
        · rename_i es hes
          split at hv
          · rename_i hsc
            simp only [Option.map_eq_some_iff] at hv
            obtain ⟨res, hres', rfl⟩ := hv
            rw [hp] at e1
            simp only [VRel] at e1
            obtain ⟨hbn, e3⟩ := e1
            obtain ⟨rs, clock, g1, g2⟩ := r.brel rr _ hes
            obtain ⟨d, hd, hfind⟩ := mapFind_ok e2 hf hsc 0 hres' g2
            cases res with
            | none =>
              refine tells_of (s := Instr.lookup t (a.eval m) (a.eval k) ok) rfl ⟨_, ?_, hres rz false z hz2⟩
              simp only at hfind
              simp [Instr.lookup, run_underlying hu, e3, getObj, Sem.run, g1, checkKey_ok hf e2 hsc, Instr.findKey, run_underlying hd, hfind, hz1]
            | some av =>
              obtain ⟨j, rv, hfind, hrv⟩ := hfind
              refine tells_of (s := Instr.lookup t (a.eval m) (a.eval k) ok) rfl ⟨_, ?_, hres rv true av hrv⟩
              simp [Instr.lookup, run_underlying hu, e3, getObj, Sem.run, g1, checkKey_ok hf e2 hsc, Instr.findKey, run_underlying hd, hfind]
          · cases hv
        · cases hv
      · cases hv
    · cases hc
  · cases hc
 case mapUpdate t m k x =>
  exfalso
  split at hc
  · simp only [Option.map_eq_some_iff] at hc; obtain ⟨_, _, rfl⟩ := hc; simp [CO.quiet] at hq
  · cases hc
 case extract t i =>
  obtain ⟨d, hd, rfl⟩ := map_some_cA hc
  simp only [quietRun] at hv
  split at hv
  · rename_i vs hp
    have e1 := ev_rel r ha hd
    rw [hp] at e1
    simp only [VRel] at e1
    obtain ⟨rs, e2, e3⟩ := e1
    obtain ⟨rv, h1, h2⟩ := e3.get _ _ hv
    rw [Array.getElem?_toList] at h1
    exact tells_of (s := Instr.extract (a.eval t) i) rfl ⟨rv, by simp [Instr.extract, e2, h1], h2⟩
  · cases hv
 case call cl =>
  obtain ⟨callee, args, ats⟩ := cl
  cases callee
  case value f =>
   exfalso
   simp only at hc
   split at hc
   · cases hc; simp [CO.quiet] at hq
   · cases hc
  case invoke _ _ => simp at hc
  case builtin b =>
   exact builtin_quiet hc hq hv r ha
end
end Go.Fs
end

section
/- The operations that make or write memory. -/
namespace Go.Fs
section
variable {P : Program} {ι : Emb} {h : AH} {w : World}
def Does (P : Program) (ι : Emb) (h : AH) (w : World) (a : Act) (o : Oper) (v : AV) (h' : AH) : Prop :=
 ∃ ι' rv w', ((execOp a.eval o).run P w = .ok (.value rv) w' ∨ ((execOp a.eval o).run P w = .ok .skip w' ∧ rv = Go.undef)) ∧ VRel ι' v rv ∧ Rel P.globals.size ι' h' w' ∧ Stp ι ι' h h' w w'
theorem setCells_block (B : Nat) (e : TypeId) (fr : Nat × Nat) : ∀ (vs : List Value) (o : Nat) (w : World) (arr : Array Value), w.heap[B]? = some (.cells arr e fr) → o + vs.length ≤ arr.size →
    (∃ arr', (w.setCells B o vs).heap[B]? = some (.cells arr' e fr) ∧ arr'.toList = arr.toList.take o ++ vs ++ arr.toList.drop (o + vs.length)) ∧
    (∀ k, k ≠ B → (w.setCells B o vs).heap[k]? = w.heap[k]?) ∧ (w.setCells B o vs).heap.size = w.heap.size ∧ (w.setCells B o vs).tape = w.tape ∧ (w.setCells B o vs).os = w.os ∧ (w.setCells B o vs).output = w.output
 | [], o, w, arr, h, _ => ⟨⟨arr, h, by simp⟩, fun _ _ => rfl, rfl, rfl, rfl, rfl⟩
 | v :: vs, o, w, arr, h, hle => by
   simp only [List.length_cons] at hle
   have h1 : (w.setCell ⟨B, o, none⟩ v).heap[B]? = some (.cells (arr.setIfInBounds o v) e fr) := by
    simp [World.setCell, Array.getElem?_modify, h]
   obtain ⟨⟨arr', h2, h3⟩, h4, h5, h6, h7, h8⟩ := setCells_block B e fr vs (o + 1) (w.setCell ⟨B, o, none⟩ v) _ h1 (by simp; omega)
   refine ⟨⟨arr', h2, ?_⟩, fun k hk => ?_, ?_, h6, h7, h8⟩
   · rw [h3]
     simp only [Array.toList_setIfInBounds]
     have hlt : o < arr.toList.length := by simp; omega
     rw [List.take_set, List.drop_set, if_pos (by omega), List.take_succ_eq_append_getElem hlt, List.set_append]
     simp only [List.length_take, List.length_cons]
     rw [if_neg (by omega), show o - min o arr.toList.length = 0 by omega]
     simp [show o + 1 + vs.length = o + (vs.length + 1) by omega]
   · rw [show (w.setCells B o (v :: vs)) = (w.setCell ⟨B, o, none⟩ v).setCells B (o + 1) vs from rfl, h4 k hk]
     exact RowKit.Below.heap_setCell _ _ _ _ hk
   · rw [show (w.setCells B o (v :: vs)) = (w.setCell ⟨B, o, none⟩ v).setCells B (o + 1) vs from rfl, h5]
     simp [World.setCell]
theorem one_of {v : AV} {rv : Value} (hr : VRel ι v rv) (h1 : v.one = true) : rv.oneCell' = true := by
 match v, hr with
 | .bool _, h | .int _ _, h | .str _, h | .ptr none, h | .map none, h | .nilFunc, h | .nilIface, h => simp only [VRel] at h; subst h; rfl
 | .ptr (some (_, _)), h => simp only [VRel] at h; obtain ⟨_, rfl⟩ := h; rfl
 | .map (some _), h => simp only [VRel] at h; obtain ⟨_, rfl⟩ := h; rfl
 | .slice none _ (.exact _), h => simp only [VRel] at h; obtain ⟨_, _, rfl⟩ := h; rfl
 | .slice none _ (.opn _), h => simp only [VRel] at h
 | .slice (some (_, _)) _ (.exact _), h => simp only [VRel] at h; obtain ⟨_, _, _, rfl, _⟩ := h; rfl
 | .slice (some (_, _)) _ (.opn _), h => simp only [VRel] at h; obtain ⟨_, _, _, _, rfl, _⟩ := h; rfl
 | .func _ _ _, h => simp only [VRel] at h; obtain ⟨_, _, rfl, _⟩ := h; rfl
 | .iface _ _, h => simp only [VRel] at h; obtain ⟨_, rfl, _⟩ := h; rfl
 | .tuple _, _ => simp [AV.one] at h1
 | .agg cs, _ => simp [AV.one] at h1
 | .junk c, h => simp only [VRel] at h; exact h.2.2 h1
theorem ones_of : ∀ {vs : List AV} {rs : List Value}, VRels ι vs rs → vs.all AV.one = true → ∀ r ∈ rs, r.oneCell' = true
 | [], rs, hr, _, r, hm => by simp only [VRels] at hr; subst hr; cases hm
 | v :: vs, rs, hr, h1, r, hm => by
   simp only [VRels] at hr
   obtain ⟨x, xs, rfl, h2, h3⟩ := hr
   simp only [List.all_cons, Bool.and_eq_true] at h1
   cases hm with
   | head => exact one_of h2 h1.1
   | tail _ hm => exact ones_of h3 h1.2 r hm
theorem write_rel {G : Nat} (r : Rel G ι h w) {b o : Nat} {vs : List AV} {rs : List Value} {h' : AH} (hw : writeCells h b o vs = some h') (hr : VRels ι vs rs) :
    (∀ j, j < rs.length → (w.cell? ⟨ι.blk b, ι.sh b + o + j, none⟩).isSome = true) ∧ (∀ j, j < rs.length → w.frozen? ⟨ι.blk b, ι.sh b + o + j, none⟩ = false) ∧ (∀ v ∈ rs, v.oneCell' = true) ∧
    Rel G ι h' (w.setCells (ι.blk b) (ι.sh b + o) rs) ∧ Stp ι ι h h' w (w.setCells (ι.blk b) (ι.sh b + o) rs) := by
 unfold writeCells at hw
 split at hw
 · rename_i cs hb
   split at hw
   · rename_i hcond
     cases hw
     simp only [Bool.and_eq_true, decide_eq_true_eq] at hcond
     obtain ⟨hle, hone⟩ := hcond
     obtain ⟨arr, e, fr, h1, h2, h3, h4, h4'⟩ := r.brel b _ hb
     have hlen := hr.length
     have hsz : ∀ j, j < cs.length → ι.sh b + j < arr.size := fun j hj => by
      obtain ⟨v, h5, _⟩ := h3 j cs[j] (by simp [hj])
      exact (Array.getElem?_eq_some_iff.1 h5).1
     have hin : ∀ j, j < rs.length → ι.sh b + o + j < arr.size := fun j hj => by
      have := hsz (o + j) (by omega)
      omega
     have hfit : ι.sh b + o + rs.length ≤ arr.size ∨ rs.length = 0 := by
      rcases Nat.eq_zero_or_pos rs.length with h0 | h0
      · exact .inr h0
      · left; have := hin (rs.length - 1) (by omega); omega
     have ones := ones_of hr hone
     refine ⟨fun j hj => ?_, fun j hj => ?_, ones, ?_⟩
     · simp [World.cell?, h1, hin j hj]
     · have := (h4 rfl).1
       simp only [World.frozen?, h1, Bool.and_eq_false_iff, decide_eq_false_iff_not]
       have h5 := hin j hj
       by_cases hlo : fr.1 ≤ ι.sh b + o + j
       · right; intro hhi
         have := this _ hlo hhi
         omega
       · exact .inl hlo
     · rcases hfit with hfit | h0
       · obtain ⟨⟨arr', g1, g2⟩, g3, g4, g5, g6, g7⟩ := setCells_block (ι.blk b) e fr rs (ι.sh b + o) w arr h1 hfit
         have hasz : arr'.size = arr.size := by
          have := congrArg List.length g2
          simp at this
          omega
         have hsame : ∀ b' c', h.get b' = some c' → b' ≠ b → c'.live → (w.setCells (ι.blk b) (ι.sh b + o) rs).heap[ι.blk b']? = w.heap[ι.blk b']? := fun b' c' hb' hne hl => by
          refine g3 _ ?_
          exact fun he => r.sep b b' _ c' hb hb' (Ne.symm hne) rfl hl he.symm
         refine ⟨⟨by simpa using r.n, fun b' c' hb' => ?_, by simpa using r.gn, r.glob, fun b' c' hb' => ?_, fun b1 b2 c1 c2 hb1 hb2 hne hrw hlv => ?_⟩, ?_⟩
         · rw [Hp.get_set] at hb'
           split at hb'
           · rename_i he; rw [he]; exact r.dom b _ hb
           · exact r.dom b' c' hb'
         · rw [Hp.get_set] at hb'
           split at hb'
           · rename_i he
             cases hb'
             rw [he]
             refine ⟨arr', e, fr, g1, by rw [h2, hasz], fun i c hc => ?_, fun _ => ⟨fun j hlo hhi => by rw [hasz]; exact (h4 rfl).1 j hlo hhi, fun j v hj hv => ?_⟩, h4'⟩
             rotate_left
             · rw [length_over hle] at hj
               refine (h4 rfl).2 j v hj ?_
               rw [← Array.getElem?_toList, g2, List.getElem?_append_right (by simp; omega)] at hv
               simp only [List.length_append, List.length_take, Array.length_toList, List.getElem?_drop] at hv
               rw [← Array.getElem?_toList, ← hv]
               congr 1
               omega
             have hR : VRels ι (over cs o vs) (((arr.toList.drop (ι.sh b)).take cs.length).take o ++ rs ++ ((arr.toList.drop (ι.sh b)).take cs.length).drop (o + rs.length)) := by
              refine over_rel (VRels.mk ?_ fun i c hc => ?_) hr o
              · rw [List.length_take, List.length_drop]
                rcases Nat.eq_zero_or_pos cs.length with h0 | h0
                · omega
                · have := hsz (cs.length - 1) (by omega); simp; omega
              · have hi : i < cs.length := (List.getElem?_eq_some_iff.1 hc).1
                obtain ⟨v, h5, h6⟩ := h3 i c hc
                exact ⟨v, by rw [List.getElem?_take, if_pos hi, List.getElem?_drop, Array.getElem?_toList]; exact h5, h6⟩
             obtain ⟨v, h5, h6⟩ := hR.get i c hc
             refine ⟨v, ?_, h6⟩
             have hi : i < cs.length := by have := (List.getElem?_eq_some_iff.1 hc).1; rw [length_over (by omega)] at this; exact this
             rw [← Array.getElem?_toList, g2]
             have hL : (List.take o ((arr.toList.drop (ι.sh b)).take cs.length)).length = o := by
              rw [List.length_take, List.length_take, List.length_drop]
              have : arr.toList.length - ι.sh b ≥ cs.length := by
               rcases Nat.eq_zero_or_pos cs.length with h0 | h0
               · omega
               · have := hsz (cs.length - 1) (by omega); simp; omega
              omega
             have hA : (arr.toList.take (ι.sh b + o)).length = ι.sh b + o := by simp; omega
             rw [List.append_assoc] at h5 ⊢
             by_cases h7 : i < o
             · rw [List.getElem?_append_left (by omega)] at h5
               rw [List.getElem?_append_left (by omega)]
               rw [List.getElem?_take, if_pos h7, List.getElem?_take, if_pos hi, List.getElem?_drop] at h5
               rw [List.getElem?_take, if_pos (by omega)]
               exact h5
             · rw [List.getElem?_append_right (by omega), hL] at h5
               rw [List.getElem?_append_right (by omega), hA, show ι.sh b + i - (ι.sh b + o) = i - o by omega]
               by_cases h8 : i - o < rs.length
               · rw [List.getElem?_append_left h8] at h5 ⊢
                 exact h5
               · rw [List.getElem?_append_right (by omega), List.getElem?_drop, List.getElem?_take, if_pos (by omega), List.getElem?_drop] at h5
                 rw [List.getElem?_append_right (by omega), List.getElem?_drop]
                 rw [← h5]
                 congr 1
                 omega
           · rename_i he
             exact (r.brel b' c' hb').mono (by rw [r.n]; exact r.dom b' c' hb') ι.le_refl fun hl => hsame b' c' hb' he hl
         · rw [Hp.get_set] at hb1 hb2
           have k1 : ∃ c, h.get b1 = some c ∧ c.rw := by
            split at hb1
            · rename_i he; exact ⟨.cells cs false, by rw [he]; exact hb, rfl⟩
            · exact ⟨_, hb1, hrw⟩
           have k2 : ∃ c, h.get b2 = some c ∧ c.live := by
            split at hb2
            · rename_i he; exact ⟨.cells cs false, by rw [he]; exact hb, trivial⟩
            · exact ⟨_, hb2, hlv⟩
           obtain ⟨d1, e1, e2⟩ := k1
           obtain ⟨d2, e3, e4⟩ := k2
           exact r.sep b1 b2 d1 d2 e1 e3 hne e2 e4
         · refine ⟨ι.le_refl, g6, g5, g7, by omega, fun k hk hn => g3 k (fun he => hn b _ hb rfl he.symm), fun b' c' hb' hrw => ?_, by simp, by simp; omega, fun b' h5 h6 => ?_⟩
           · rw [Hp.get_set] at hb'
             split at hb'
             · rename_i he; exact .inr ⟨b, _, hb, rfl, by rw [he]⟩
             · exact .inr ⟨b', c', hb', hrw, rfl⟩
           · simp at h5
             exact Hp.get_set_ne _ _ _ _ (by omega)
       · have : rs = [] := List.eq_nil_of_length_eq_zero h0
         subst this
         have : vs = [] := List.eq_nil_of_length_eq_zero (by simpa using hlen.symm)
         subst this
         have hov : over cs o [] = cs := by simp [over]
         rw [hov]
         have hget : ∀ b', (h.set b (.cells cs false)).get b' = h.get b' := fun b' => by
          rw [Hp.get_set]
          split
          · rename_i he; rw [he, hb]
          · rfl
         refine ⟨⟨by simpa using r.n, fun b' c' hb' => by rw [hget] at hb'; exact r.dom b' c' hb', by simpa using r.gn, r.glob, fun b' c' hb' => by rw [hget] at hb'; exact r.brel b' c' hb',
          fun b1 b2 c1 c2 hb1 hb2 => by rw [hget] at hb1 hb2; exact r.sep b1 b2 c1 c2 hb1 hb2⟩, ?_⟩
         exact ⟨ι.le_refl, rfl, rfl, rfl, Nat.le_refl _, fun _ _ _ => rfl, fun b' c' hb' hrw => by rw [hget] at hb'; exact .inr ⟨b', c', hb', hrw, rfl⟩, by simp, by simp; omega, fun b' _ _ => hget b'⟩
   · cases hw
 · cases hw
theorem store_ok {G : Nat} (r : Rel G ι h w) {b o : Nat} {vs : List AV} {rs : List Value} {h' : AH} (hw : writeCells h b o vs = some h') (hr : VRels ι vs rs) :
    ∃ w', (storeCells ⟨ι.blk b, ι.sh b + o, none⟩ rs).run P w = .ok () w' ∧ Rel G ι h' w' ∧ Stp ι ι h h' w w' := by
 obtain ⟨h1, h2, h3, h4, h5⟩ := write_rel r hw hr
 have := run_storeCells_cells (P := P) (ι.blk b) (ι.sh b + o) rs 0 w (by simpa using h1) (by simpa using h2) h3
 exact ⟨_, this, h4, h5⟩
theorem new_ok {G : Nat} (r : Rel G ι h w) (e : TypeId) {cs : List AV} {arr : Array Value} (hr : ∀ (i : Nat) (c : AV), cs[i]? = some c → ∃ v, arr[i]? = some v ∧ VRel ι c v) (hsp : ∀ (j : Nat) (v : Value), cs.length ≤ j → arr[j]? = some v → Spare v) :
    Rel G (ι.add w.heap.size 0 arr.size e) (h.push (.cells cs false)) (w.alloc (.cells arr e)) ∧ Stp ι (ι.add w.heap.size 0 arr.size e) h (h.push (.cells cs false)) w (w.alloc (.cells arr e)) := by
 refine r.push (.cells cs false) (.cells arr e) arr.size e trivial ?_
 have hn : ι.n = h.n := r.n
 refine ⟨arr, e, (0, 0), ?_, ?_, fun i c hc => ?_, fun _ => ⟨fun j h1 h2 => by omega, fun j v hj hv => hsp j v (by rw [← hn] at hj; simpa using hj) hv⟩, by rw [← hn]; simp⟩
 · rw [← hn]; simp only [Emb.add_blk]; exact heap_alloc_new w _
 · rw [← hn]; simp
 · obtain ⟨v, h1, h2⟩ := hr i c hc
   exact ⟨v, by rw [← hn]; simpa using h1, h2.mono (ι.le_add _ _ _ _)⟩
theorem new_rel {G : Nat} (r : Rel G ι h w) (e : TypeId) {cs : List AV} {arr : Array Value} (hr : VRels ι cs arr.toList) :
    Rel G (ι.add w.heap.size 0 arr.size e) (h.push (.cells cs false)) (w.alloc (.cells arr e)) ∧ Stp ι (ι.add w.heap.size 0 arr.size e) h (h.push (.cells cs false)) w (w.alloc (.cells arr e)) :=
 new_ok r e (fun i c hc => by
  obtain ⟨v, h1, h2⟩ := hr.get i c hc
  exact ⟨v, by rw [← Array.getElem?_toList]; exact h1, h2⟩) fun j v hj hv => by
  have h1 := hr.length
  have h2 := (Array.getElem?_eq_some_iff.1 hv).1
  simp at h1
  omega
theorem new_ptr {G : Nat} (r : Rel G ι h w) (z t : Nat) : VRel (ι.add w.heap.size 0 z t) (.ptr (some (h.n, 0))) (.pointer (some ⟨w.heap.size, 0, none⟩)) := by
 simp only [VRel, ← r.n]
 exact ⟨by simp, by simp⟩
end
end Go.Fs
end

section
/- Append, make, maps, copies. -/
namespace Go.Fs
section
variable {P : Program} {ι : Emb} {h : AH} {w : World}
theorem lenOf_ok {x : AV} {rx : Value} {n : Nat} (hx : VRel ι x rx) (hn : lenOf x = some n) (w : World) : (Builtin.lenOf rx).run P w = .ok n w := by
 cases x <;> simp only [lenOf] at hn <;> first | (cases hn; done) | skip
 · cases hn
   rw [str_of hx]
   have : ∀ s : List UInt8, (⟨s.toArray⟩ : ByteArray).size = s.length := fun s => by simp [ByteArray.size]
   simp [Builtin.lenOf, this]
 · cases hn
   obtain ⟨q, c, rfl⟩ := nil_or_at hx
   simp [Builtin.lenOf]
theorem elems_ok' {G : Nat} (r : Rel G ι h w) {x : AV} {rx : Value} {esz n : Nat} {new : List AV} (hx : VRel ι x rx) (hn : lenOf x = some n) (he : elemsOf esz h x = some new) (k : Nat) (hk : k ≤ n) :
    ∃ arr : Array Value, (∀ w', (∀ a, w'.cell? a = w.cell? a) → (Builtin.firstCells esz k rx).run P w' = .ok arr w') ∧ VRels ι (new.take (k * esz)) arr.toList ∧ new.length = n * esz := by
 cases x <;> simp only [lenOf] at hn <;> first | (cases hn; done) | skip
 · rename_i s
   cases hn
   simp only [elemsOf] at he
   split at he
   · rename_i h1
     cases he
     subst h1
     rw [str_of hx]
     refine ⟨((⟨s.toArray⟩ : ByteArray).extract 0 k).data.map fun b => Value.int .u8 b.toNat, fun w' _ => by simp only [Builtin.firstCells, Sem.run_pure], ?_, by simp [ofBytes]⟩
     have hl : ((⟨s.toArray⟩ : ByteArray).extract 0 k).data.toList = s.take k := by
      simp [List.extract_eq_take_drop]
     rw [Array.toList_map, hl]
     refine VRels.mk (by simp [ofBytes]) fun i c hc => ?_
     rw [Nat.mul_one] at hc
     unfold ofBytes at hc
     rw [← List.map_take] at hc
     simp only [List.getElem?_map, Option.map_eq_some_iff] at hc
     obtain ⟨u, hu, rfl⟩ := hc
     refine ⟨.int .u8 u.toNat, ?_, by simp [VRel]⟩
     rw [List.getElem?_map, hu]
     rfl
   · cases he
 · rename_i xa len cp
   simp only [Option.some.injEq] at hn
   cases xa with
   | none =>
     simp only [elemsOf] at he
     split at he
     · rename_i h0
       cases he
       obtain ⟨q, c, rfl⟩ := nil_or_at hx
       have hk0 : k = 0 := by omega
       have hn0 : n = 0 := by omega
       subst hk0; subst hn0
       refine ⟨#[], fun w' _ => ?_, by simp [VRels], by simp⟩
       cases q <;> simp [Builtin.firstCells, loadCells, loadCellsFrom]
     · cases he
   | some p =>
     obtain ⟨b, o⟩ := p
     simp only [elemsOf] at he
     subst hn
     by_cases hz : len = 0
     · rw [if_pos hz] at he
       cases he
       subst hz
       have hk0 : k = 0 := by omega
       subst hk0
       obtain ⟨q, c, rfl⟩ := nil_or_at hx
       refine ⟨#[], fun w' _ => ?_, by simp [VRels], by simp⟩
       cases q <;> simp [Builtin.firstCells, loadCells, loadCellsFrom]
     rw [if_neg hz] at he
     obtain ⟨vs, h1, h2, h3, h4⟩ := cells_of r he
     rcases Nat.eq_zero_or_pos len with h0 | h0
     · have hk0 : k = 0 := by omega
       subst hk0
       obtain ⟨q, c, rfl⟩ := nil_or_at hx
       refine ⟨#[], fun w' _ => ?_, by simp [VRels], h2⟩
       cases q <;> simp [Builtin.firstCells, loadCells, loadCellsFrom]
     · obtain ⟨hb, c, rfl⟩ := slice_at hx h0
       refine ⟨(vs.take (k * esz)).toArray, fun w' hw' => ?_, by simpa using h3.take _, h2⟩
       have hle : k * esz ≤ len * esz := Nat.mul_le_mul_right _ hk
       have hl : (vs.take (k * esz)).length = k * esz := by rw [List.length_take]; omega
       refine run_firstCells_some w' esz k _ len c _ hl fun j v hv => ?_
       rw [hw']
       rw [List.getElem?_take] at hv
       split at hv
       · exact h4 j v hv
       · cases hv
theorem take_all {l : List AV} {n : Nat} (h : l.length = n) : l.take n = l := List.take_of_length_le (by omega)
structure AppT (P : Program) (ats : Array TypeId) (e : TypeId) (i : TypeInfo) (z : Value) : Prop where
 t : ∃ t, ats[0]? = some t ∧ P.underlying t = some (.slice e)
 x : ats[1]? = none ∨ ∃ u d, ats[1]? = some u ∧ P.underlying u = some d ∧ (d = .string ∨ ∃ e', d = .slice e')
 info : P.info? e = some i
 zero : i.zero = some z
 zs : z.cells.size = i.size
 zv : ∀ (j : Nat) (v : Value), z.cells[j]? = some v → Spare v
 pos : 0 < i.size
theorem append_room {ats : Array TypeId} {e : TypeId} {i : TypeInfo} {z : Value} (T : AppT P ats e i z) (type : TypeId) {base : Option Addr} {sLen sCap n : Nat} {rx : Value} {new : Array Value} {w' : World}
    (hn : (Builtin.lenOf rx).run P w = .ok n w) (hf : (Builtin.firstCells i.size n rx).run P w = .ok new w) (hroom : sLen + n ≤ sCap)
    (hst : match base with | some a => (storeCells (a.add (sLen * i.size)) new.toList).run P w = .ok () w' | none => w' = w) :
    (Builtin.append_ ats type #[.slice base sLen sCap, rx]).run P w = .ok (.slice base (sLen + n) sCap) w' := by
 obtain ⟨t, ht, hu⟩ := T.t
 have hi := T.info
 rcases T.x with hx | ⟨u, d, hx, hud, rfl | ⟨e', rfl⟩⟩
 · cases base with
   | none => simp only at hst; subst hst; simp [Builtin.append_, ht, hx, run_underlying hu, sizeOf, typeInfo, hi, hn, hroom, hf]
   | some a => simp only at hst; simp [Builtin.append_, ht, hx, run_underlying hu, sizeOf, typeInfo, hi, hn, hroom, hf, hst]
 · cases base with
   | none => simp only at hst; subst hst; simp [Builtin.append_, ht, hx, run_underlying hu, run_underlying hud, sizeOf, typeInfo, hi, hn, hroom, hf]
   | some a => simp only at hst; simp [Builtin.append_, ht, hx, run_underlying hu, run_underlying hud, sizeOf, typeInfo, hi, hn, hroom, hf, hst]
 · cases base with
   | none => simp only at hst; subst hst; simp [Builtin.append_, ht, hx, run_underlying hu, run_underlying hud, sizeOf, typeInfo, hi, hn, hroom, hf]
   | some a => simp only at hst; simp [Builtin.append_, ht, hx, run_underlying hu, run_underlying hud, sizeOf, typeInfo, hi, hn, hroom, hf, hst]
theorem append_grow {ats : Array TypeId} {e : TypeId} {i : TypeInfo} {z : Value} (T : AppT P ats e i z) (type : TypeId) {base : Option Addr} {sLen sCap n : Nat} {rx : Value} {old new : Array Value}
    (hn : (Builtin.lenOf rx).run P w = .ok n w) (hf : (Builtin.firstCells i.size n rx).run P w.drew = .ok new w.drew) (ho : (Builtin.firstCells i.size sLen (.slice base sLen sCap)).run P w.drew = .ok old w.drew)
    (hg : sCap < sLen + n) (hb : (sLen + n) * i.bytes ≤ 140737488355328) (h63 : sLen + n ≤ 1152921504606846976) :
    (Builtin.append_ ats type #[.slice base sLen sCap, rx]).run P w =
      .ok (.slice (some ⟨w.heap.size, 0, none⟩) (sLen + n) (grownCap w (sLen + n) sCap e)) (w.drew.alloc (.cells (old ++ new ++ Builtin.zeroCells z.cells (grownCap w (sLen + n) sCap e - (sLen + n))) e)) := by
 obtain ⟨t, ht, hu⟩ := T.t
 have hi := T.info
 have hz := T.zero
 have h1 : ¬ (sLen + n ≤ sCap) := by omega
 have h2 : ¬ (9223372036854775807 < ((sLen : Int) + (n : Int))) := by omega
 have h3 : ¬ (281474976710656 < Builtin.nextslicecap (sLen + n) sCap * i.bytes) := by have := growslice_fits hg hb; omega
 rcases T.x with hx | ⟨u, d, hx, hud, rfl | ⟨e', rfl⟩⟩
 · simp [Builtin.append_, ht, hx, run_underlying hu, sizeOf, typeInfo, zeroValue, hi, hz, hn, h1, h2, h3, Question.forced, hf, ho, newRow, grownCap]
 · simp [Builtin.append_, ht, hx, run_underlying hu, run_underlying hud, sizeOf, typeInfo, zeroValue, hi, hz, hn, h1, h2, h3, Question.forced, hf, ho, newRow, grownCap]
 · simp [Builtin.append_, ht, hx, run_underlying hu, run_underlying hud, sizeOf, typeInfo, zeroValue, hi, hz, hn, h1, h2, h3, Question.forced, hf, ho, newRow, grownCap]
end
end Go.Fs
end

