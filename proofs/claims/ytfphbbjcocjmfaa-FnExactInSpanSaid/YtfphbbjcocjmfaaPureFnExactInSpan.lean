/- FnExactInSpan returns true for every span and tick; no condition. -/
import Derived.Test.YtfphbbjcocjmfaaPFnExactInSpanx1
namespace Go.Proofs.Ytfphbbjcocjmfaa.Pure
open Go.RowKit Go.Proofs.Ytfphbbjcocjmfaa.PFnExactInSpan Go.Proofs.YtfphbbjcocjmfaaW.PrintWords Go.Proofs.YtfphbbjcocjmfaaW.PrintLast

theorem FnExactInSpan : ∀ (a0_0 : Int) (a0_1 : Int) (a1 : Int), (Lit.int .i64 a0_0).wf = true → (Lit.int .i64 a0_1).wf = true → (Lit.int .i64 a1).wf = true → laws_FnExactInSpan.f a0_0 a0_1 a1 = some true := by
  intro a b t _ _ _
  unfold laws_FnExactInSpan.f spec_InSpan.f impl_InSpan.f spec_IsSpan.f impl_IsSpan.f laws_toSpan.f
  by_cases h1 : 0 ≤ a <;> by_cases h2 : b ≤ 1000 <;> by_cases h3 : a < b <;> by_cases h4 : a ≤ t <;> simp [h1, h2, h3, h4]

end Go.Proofs.Ytfphbbjcocjmfaa.Pure
