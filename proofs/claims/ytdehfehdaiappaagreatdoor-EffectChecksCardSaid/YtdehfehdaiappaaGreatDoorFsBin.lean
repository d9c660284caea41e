/- Two operands: arithmetic, strings, equality of all kinds. -/
import Derived.Test.YtdehfehdaiappaaGreatDoorFsEq
import Derived.Laws.Cover3
namespace Go.Fs
section
variable {P : Program} {ι : Emb} {h : AH} {w : World}

theorem sizeT_run {t : TypeId} {s : Nat} (hs : sizeT P t = some s) (w : World) : (sizeOf t).run P w = .ok s w := by
  unfold sizeT at hs
  cases hi : P.info? t with
  | none => simp [hi] at hs
  | some i => simp [hi] at hs; simp [sizeOf, typeInfo, hi, hs]

theorem keyT_fits {kt : TypeId} {q : SK} (h : keyT P kt = some q) : q.fits P kt := by
  unfold keyT at h
  cases hu : P.underlying kt with
  | none => simp [hu] at h
  | some d => cases d <;> simp [hu] at h <;> subst h <;> first | exact hu | exact ⟨_, hu⟩

theorem aggT_of {t : TypeId} {d : TypeDesc} {s : Nat} (hu : P.underlying t = some d) (hs : sizeT P t = some s) (hd : (∃ fs, d = .struct fs) ∨ ∃ n e, d = .array n e) : aggT P t = some (some s) := by
  obtain ⟨i, hi⟩ := aggT_some hu
  unfold sizeT at hs
  simp [hi] at hs
  unfold aggT
  rcases hd with ⟨fs, rfl⟩ | ⟨n, e, rfl⟩ <;> simp [hu, hi, hs]

theorem aeq_agg {op : BinOp} {t : TypeId} {ox oy : Operand} {x y : AV} {rx ry : Value} {b : Bool} {d : TypeDesc} {s : Nat} {l : List (Nat × SK)} (hx : VRel ι x rx) (hy : VRel ι y ry) (hu : P.underlying t = some d)
    (h2 : P.eqGuardType P.depth t = false) (h3 : sizeT P t = some s) (h4 : leavesT P 40 t = some l) (hd : (∃ fs, d = .struct fs) ∨ ∃ n e, d = .array n e) (he : aeq (.agg s l) x y = some b) :
    (eqGuard op t ox oy rx ry).run P w = .ok () w ∧ (Op.equal t rx ry).run P w = .ok b w ∧ (∀ k n, rx ≠ .int k n) ∧ (∀ s, rx ≠ .string s) ∧ (∀ k n, rx ≠ .float k n) ∧ (∀ k n m, rx ≠ .complex k n m) := by
  cases x <;> cases y <;> simp only [aeq] at he <;> first | (cases he; done) | skip
  split at he
  · rename_i as bs hl
    simp only [VRel] at hx hy
    obtain ⟨ra, rfl, ha⟩ := hx
    obtain ⟨rb, rfl, hb⟩ := hy
    have hra : ra.size = s := by have := ha.length; simp at this; omega
    have hrb : rb.size = s := by have := hb.length; simp at this; omega
    have hag := aggT_of hu h3 hd
    refine ⟨run_eqGuard_agg w op t ox oy ra rb h2, ?_, by simp, by simp, by simp, by simp⟩
    exact leaves_ok (P := P) 40 t l h4 ι w 10000 (by omega) as bs ra rb 0 (.agg ra) (.agg rb) b ha hb
      (.inl ⟨s, hag, by rw [Nat.zero_add, ← hra, Array.extract_size]⟩) (.inl ⟨s, hag, by rw [Nat.zero_add, ← hrb, Array.extract_size]⟩)
      (by simpa [shift] using he)
  · cases he

theorem eq10 (t : TypeId) (x y : Value) : (Op.equal t x y).run P w = (Op.equalIn (9999 + 1) t x y).run P w := rfl

/-- The test ahead of '==' lets pass, and the two are held against each other. -/
theorem aeq_ok {op : BinOp} {t : TypeId} {ox oy : Operand} {x y : AV} {rx ry : Value} {b : Bool} (hx : VRel ι x rx) (hy : VRel ι y ry) (hop : op = .eql ∨ op = .neq)
    (he : aeq (eqT P op t ox oy) x y = some b) :
    (eqGuard op t ox oy rx ry).run P w = .ok () w ∧ (Op.equal t rx ry).run P w = .ok b w ∧ (∀ k n, rx ≠ .int k n) ∧ (∀ s, rx ≠ .string s) ∧ (∀ k n, rx ≠ .float k n) ∧ (∀ k n m, rx ≠ .complex k n m) := by
  have hE : eqT P op t ox oy = eqT P .eql t ox oy := by rcases hop with rfl | rfl <;> rfl
  rw [hE] at he
  unfold eqT at he
  simp only at he
  cases hu : P.underlying t with
  | none => simp [hu, aeq] at he
  | some d =>
    cases d <;> simp only [hu] at he <;> first | (simp [aeq] at he; done) | skip
    case bool =>
      cases x <;> cases y <;> simp only [aeq] at he <;> first | (cases he; done) | skip
      cases he
      rw [bool_of hx, bool_of hy]
      refine ⟨by rw [eqGuard_at_bool]; rfl, ?_, by simp, by simp, by simp, by simp⟩
      rw [eq10, Op.equalIn]; simp [run_underlying hu]
    case struct fs =>
      cases hg : P.eqGuardType P.depth t with
      | true => simp [hg, aeq] at he
      | false =>
        cases hs : sizeT P t with
        | none => simp [hg, hs, aeq] at he
        | some s =>
          cases hl : leavesT P 40 t with
          | none => simp [hg, hs, hl, aeq] at he
          | some l =>
            simp only [hg, hs, hl, Bool.false_eq_true, if_false] at he
            exact aeq_agg hx hy hu hg hs hl (.inl ⟨fs, rfl⟩) he
    case array n e =>
      cases hg : P.eqGuardType P.depth t with
      | true => simp [hg, aeq] at he
      | false =>
        cases hs : sizeT P t with
        | none => simp [hg, hs, aeq] at he
        | some s =>
          cases hl : leavesT P 40 t with
          | none => simp [hg, hs, hl, aeq] at he
          | some l =>
            simp only [hg, hs, hl, Bool.false_eq_true, if_false] at he
            exact aeq_agg hx hy hu hg hs hl (.inr ⟨n, e, rfl⟩) he
    case pointer e =>
      cases x <;> first | (simp [aeq] at he; done) | skip
      rename_i xa
      cases y <;> first | (cases xa <;> simp [aeq] at he; done) | skip
      rename_i ya
      cases xa with
      | none =>
        simp only [VRel] at hx
        subst hx
        simp only [aeq, Option.some.injEq] at he
        subst he
        have hry : ∃ q, ry = .pointer q ∧ q.isNone = ya.isNone := by
          cases ya with
          | none => simp only [VRel] at hy; exact ⟨none, hy, rfl⟩
          | some p => obtain ⟨b', o'⟩ := p; simp only [VRel] at hy; exact ⟨_, hy.2, rfl⟩
        obtain ⟨q, rfl, hq⟩ := hry
        refine ⟨by rw [eqGuard_at_pointer]; rfl, ?_, by simp, by simp, by simp, by simp⟩
        rw [eq10, Op.equalIn]; simp [run_underlying hu, hq]
      | some p =>
        obtain ⟨b', o'⟩ := p
        cases ya with
        | some q =>
          obtain ⟨b2, o2⟩ := q
          cases hsz : sizeT P e with
          | none => simp [hsz, aeq] at he
          | some n =>
            by_cases hn : n = 0
            · subst hn; simp [hsz, aeq] at he
            · have hany : ((some n).any fun n => n != 0) = true := by simpa using hn
              rw [hsz, hany] at he
              simp only [aeq] at he
              split at he
              · rename_i hbb
                subst hbb
                simp only [VRel] at hx hy
                obtain ⟨_, rfl⟩ := hx
                obtain ⟨_, rfl⟩ := hy
                cases he
                refine ⟨by rw [eqGuard_at_pointer]; rfl, ?_, by simp, by simp, by simp, by simp⟩
                have haddr : ((⟨ι.blk b', ι.sh b' + o', none⟩ : Addr) == ⟨ι.blk b', ι.sh b' + o2, none⟩) = (o' == o2) := by
                  rw [Bool.eq_iff_iff, beq_iff_eq, beq_iff_eq, Addr.mk.injEq]
                  simp
                rw [eq10, Op.equalIn]; simp [run_underlying hu, sizeT_run hsz, hn, sameAddr, haddr]
              · cases he
        | none =>
          simp only [VRel] at hx hy
          obtain ⟨_, rfl⟩ := hx
          subst hy
          simp only [aeq, Option.some.injEq] at he
          subst he
          refine ⟨by rw [eqGuard_at_pointer]; rfl, ?_, by simp, by simp, by simp, by simp⟩
          rw [eq10, Op.equalIn]; simp [run_underlying hu]
    case slice e =>
      cases x <;> first | (simp [aeq] at he; done) | skip
      rename_i xa xl xc
      cases y <;> first | (cases xa <;> simp [aeq] at he; done) | skip
      rename_i ya yl yc
      have shape : ∀ {za : Option (Nat × Nat)} {zl : Nat} {zc : Cap} {rz : Value}, VRel ι (.slice za zl zc) rz → ∃ q l c, rz = .slice q l c ∧ q.isNone = za.isNone := fun {za zl zc rz} hz => by
        cases za with
        | none => cases zc <;> simp only [VRel] at hz; exact ⟨none, 0, 0, hz.2.2, rfl⟩
        | some p =>
          obtain ⟨b', o'⟩ := p
          cases zc <;> simp only [VRel] at hz
          · obtain ⟨_, _, _, rfl, _⟩ := hz; exact ⟨_, _, _, rfl, rfl⟩
          · obtain ⟨_, _, o2, c2, rfl, _⟩ := hz; exact ⟨_, _, _, rfl, rfl⟩
      obtain ⟨q, l, c, rfl, hq⟩ := shape hx
      obtain ⟨q', l', c', rfl, hq'⟩ := shape hy
      have hb : (q = none ∧ b = q'.isNone) ∨ (q ≠ none ∧ q' = none ∧ b = false) := by
        cases xa with
        | none =>
          simp only [aeq, Option.some.injEq] at he
          left; exact ⟨by simpa using hq, by rw [hq', he]⟩
        | some p =>
          cases ya with
          | none =>
            simp only [aeq, Option.some.injEq] at he
            right; exact ⟨by intro h0; subst h0; simp at hq, by simpa using hq', he.symm⟩
          | some _ => simp [aeq] at he
      refine ⟨by rw [eqGuard_at_slice]; rfl, ?_, by simp, by simp, by simp, by simp⟩
      rcases hb with ⟨rfl, rfl⟩ | ⟨h0, rfl, rfl⟩
      · rw [eq10, Op.equalIn]; simp [run_underlying hu]
      · cases q with
        | none => exact absurd rfl h0
        | some _ => rw [eq10, Op.equalIn]; simp [run_underlying hu]
    case map k e =>
      cases x <;> first | (simp [aeq] at he; done) | skip
      rename_i xa
      cases y <;> first | (cases xa <;> simp [aeq] at he; done) | skip
      rename_i ya
      have shape : ∀ {za : Option Nat} {rz : Value}, VRel ι (.map za) rz → ∃ q, rz = .map q ∧ q.isNone = za.isNone := fun {za rz} hz => by
        cases za <;> simp only [VRel] at hz
        · exact ⟨none, hz, rfl⟩
        · exact ⟨_, hz.2, rfl⟩
      obtain ⟨q, rfl, hq⟩ := shape hx
      obtain ⟨q', rfl, hq'⟩ := shape hy
      refine ⟨by rw [eqGuard_at_map]; rfl, ?_, by simp, by simp, by simp, by simp⟩
      cases xa with
      | none =>
        simp only [aeq, Option.some.injEq] at he
        have : q = none := by simpa using hq
        subst this
        rw [eq10, Op.equalIn]; simp [run_underlying hu, hq', he]
      | some p =>
        cases ya with
        | none =>
          simp only [aeq, Option.some.injEq] at he
          have : q' = none := by simpa using hq'
          subst this
          cases q with
          | none => simp at hq
          | some _ => rw [eq10, Op.equalIn]; simp [run_underlying hu, he]
        | some _ => simp [aeq] at he
    case func ps rs v =>
      cases x <;> first | (simp [aeq] at he; done) | skip
      · rename_i f1 a1 c1
        cases y <;> first | (simp [aeq] at he; done) | skip
        simp only [VRel] at hx hy
        obtain ⟨ra, rc, rfl, _⟩ := hx
        subst hy
        simp only [aeq, Option.some.injEq] at he
        subst he
        refine ⟨by rw [eqGuard_at_func]; rfl, ?_, by simp, by simp, by simp, by simp⟩
        rw [eq10, Op.equalIn]; simp [run_underlying hu]
      · cases y <;> first | (simp [aeq] at he; done) | skip
        · simp only [VRel] at hx hy
          subst hx
          obtain ⟨ra, rc, rfl, _⟩ := hy
          simp only [aeq, Option.some.injEq] at he
          subst he
          refine ⟨by rw [eqGuard_at_nilFunc]; rfl, ?_, by simp, by simp, by simp, by simp⟩
          rw [eq10, Op.equalIn]; simp [run_underlying hu]
        · simp only [VRel] at hx hy
          subst hx; subst hy
          simp only [aeq, Option.some.injEq] at he
          subst he
          refine ⟨by rw [eqGuard_at_nilFunc]; rfl, ?_, by simp, by simp, by simp, by simp⟩
          rw [eq10, Op.equalIn]; simp [run_underlying hu]
    case interface ms =>
      cases x <;> first | (simp [aeq] at he; done) | skip
      · rename_i t1 v1
        cases y <;> first | (simp [aeq] at he; done) | skip
        · rename_i t2 v2
          simp only [VRel] at hx hy
          obtain ⟨r1, rfl, hr1⟩ := hx
          obtain ⟨r2, rfl, hr2⟩ := hy
          refine ⟨by rw [eqGuard_at_iface]; rfl, ?_, by simp, by simp, by simp, by simp⟩
          simp only [aeq] at he
          split at he
          · rename_i htt
            subst htt
            split at he
            · rename_i q hq
              unfold scalT at hq
              split at hq
              · rename_i i hi
                split at hq
                · rename_i hcmp
                  have hf := keyT_fits hq
                  have hs := scalEq_ok (w := w) (d := 9998) hr1 hr2 he hf
                  rw [eq10, Op.equalIn]
                  simp [run_underlying hu, typeInfo, hi, hcmp, hs]
                · cases hq
              · cases hq
            · cases he
          · rename_i htt
            cases he
            rw [eq10, Op.equalIn]
            simp [run_underlying hu, htt]
        simp only [VRel] at hx hy
        obtain ⟨r1, rfl, _⟩ := hx
        subst hy
        simp only [aeq, Option.some.injEq] at he
        subst he
        refine ⟨by rw [eqGuard_at_iface]; rfl, ?_, by simp, by simp, by simp, by simp⟩
        rw [eq10, Op.equalIn]; simp [run_underlying hu]
      · cases y <;> first | (simp [aeq] at he; done) | skip
        · simp only [VRel] at hx hy
          subst hx
          obtain ⟨r1, rfl, _⟩ := hy
          simp only [aeq, Option.some.injEq] at he
          subst he
          refine ⟨by rw [eqGuard_nil_iface]; rfl, ?_, by simp, by simp, by simp, by simp⟩
          rw [eq10, Op.equalIn]; simp [run_underlying hu]
        · simp only [VRel] at hx hy
          subst hx; subst hy
          simp only [aeq] at he
          split at he
          · rename_i hlit
            cases he
            refine ⟨?_, by (rw [eq10, Op.equalIn]; simp [run_underlying hu]), by simp, by simp, by simp, by simp⟩
            simp only [Bool.or_eq_true] at hlit
            rcases hlit with hlit | hlit
            · cases ox <;> simp [isConst] at hlit
              rw [eqGuard_nil_constL]; rfl
            · cases oy <;> simp [isConst] at hlit
              rw [eqGuard_nil_constR]; rfl
          · cases he

theorem bin_ok {op : BinOp} {t : TypeId} {ox oy : Operand} {x y v : AV} {rx ry : Value} (hx : VRel ι x rx) (hy : VRel ι y ry) (hv : abin op (eqT P op t ox oy) x y = some v) :
    ∃ rv, (do eqGuard op t ox oy rx ry; binOp op t rx ry : Sem Value).run P w = .ok rv w ∧ VRel ι v rv := by
  unfold abin at hv
  split at hv
  · rename_i k a k' b
    rw [int_of hx, int_of hy]
    have hg : eqGuard op t ox oy (.int k a) (.int k' b) = pure () := by cases op <;> rfl
    rw [hg]
    split at hv
    · rename_i hs; exact ashift_ok hv hs t
    · rename_i hs
      split at hv
      · rename_i hk; subst hk; exact aint_ok (by simpa using hs) hv t
      · cases hv
  · rw [str_of hx, str_of hy]
    have hg : ∀ s u, eqGuard op t ox oy (.string s) u = pure () := fun s u => by cases op <;> rfl
    rw [hg]
    exact astr_ok hv t
  · split at hv
    · simp only [Option.map_eq_some_iff] at hv
      obtain ⟨b, hb, rfl⟩ := hv
      obtain ⟨h1, h2, h3, h4, h5, h6⟩ := aeq_ok (w := w) hx hy (.inl rfl) hb
      refine ⟨.bool b, ?_, by simp [VRel]⟩
      rw [Sem.run_bind, h1]
      have e : binOp .eql t rx ry = (do pure (.bool (← Op.equal t rx ry))) := by
        cases rx <;> first | rfl | exact absurd rfl (h3 _ _) | exact absurd rfl (h4 _) | exact absurd rfl (h5 _ _) | exact absurd rfl (h6 _ _ _)
      simp only [Result.andThen_ok, e, Sem.run_bind, h2, Sem.run_pure]
    · simp only [Option.map_eq_some_iff] at hv
      obtain ⟨b, hb, rfl⟩ := hv
      obtain ⟨h1, h2, h3, h4, h5, h6⟩ := aeq_ok (w := w) hx hy (.inr rfl) hb
      refine ⟨.bool (!b), ?_, by simp [VRel]⟩
      rw [Sem.run_bind, h1]
      have e : binOp .neq t rx ry = (do pure (.bool (!(← Op.equal t rx ry)))) := by
        cases rx <;> first | rfl | exact absurd rfl (h3 _ _) | exact absurd rfl (h4 _) | exact absurd rfl (h5 _ _) | exact absurd rfl (h6 _ _ _)
      simp only [Result.andThen_ok, e, Sem.run_bind, h2, Sem.run_pure]
    · cases hv
end
end Go.Fs
