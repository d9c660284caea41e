/- A card that is handed in, a part that is handed in: what stands in memory then. -/
import Derived.Test.YtjmhjipacmlojaaGreatDoorFz05
import Derived.Test.YtjmhjipacmlojaaGreatDoorFz05
import Derived.SizedLaws
import Derived.Test.YtjmhjipacmlojaaGreatDoorZcCdMem
namespace Go.Proofs.Cards
open Go Go.Fs
set_option linter.unusedSimpArgs false
section
variable {H : Type}
def Prt.data (p : Prt) : DataW H := .agg [.lit (.int .u8 p.a), .lit (.int .u8 p.b), .lit (.int .u8 p.c), .lit (.int .i64 p.d), .lit (.int .u8 p.e), .lit (.int .u8 p.f), .lit (.int .u8 p.g), .lit (.string p.s)]
def Crd.data (c : Crd) (d : DataW H) : DataW H := .agg [.lit (.string c.name), .lit (.int .u8 c.suit), .lit (.int .u8 c.kind), .lit (.int .i64 c.cost), .lit (.int .i64 c.power), .lit (.int .i64 c.health), .lit (.int .u16 c.traits), .lit (.bool c.token), d]
theorem bytes104 : Tryz.prog.bytesOf 48 = 40 := by kernel_rfl
def Prt.rng (p : Prt) : Prop := (0 ≤ p.e ∧ p.e ≤ 255) ∧ (0 ≤ p.f ∧ p.f ≤ 255) ∧ (0 ≤ p.g ∧ p.g ≤ 255)
def Crd.rng (c : Crd) : Prop := (0 ≤ c.suit ∧ c.suit ≤ 255) ∧ (0 ≤ c.kind ∧ c.kind ≤ 255) ∧ (0 ≤ c.traits ∧ c.traits ≤ 65535)
def Fits (d : DataW H) : Prop := d = .nil ∨ ∃ ps qs : List Prt, d = .slice (ps.map Prt.data) (qs.map Prt.data) ∧ (ps.length + qs.length) * 40 ≤ 140737488351232 ∧ ∀ p ∈ ps, p.rng
theorem fits {c : Crd} {e : DataW H} (he : e = .nil ∨ ∃ ps qs : List Prt, e = .slice (ps.map Prt.data) (qs.map Prt.data) ∧ ps.length + qs.length ≤ maxLen ∧ ∀ p ∈ ps, p.rng)
    (hw : ∀ n ∈ DataW.weights Tryz.prog 28 (c.data e), n ≤ reachBytes) : Fits e := by
 rcases he with rfl | ⟨ps, qs, rfl, _, hr⟩
 · exact .inl rfl
 · refine .inr ⟨ps, qs, rfl, ?_, hr⟩
   have := hw ((ps.length + qs.length) * 40) (by
    simp [DataW.weights, DataW.weightsEach, Crd.data, Tryz.underlying28, Tryz.underlying26, bytes104])
   have e : reachBytes = 140737488351232 := by decide
   omega
end
end Go.Proofs.Cards
