/- FnExactIsSpan returns true for every span; no condition. -/
import Derived.Test.YtfphbbjcocjmfaaPFnExactIsSpanx1
namespace Go.Proofs.Ytfphbbjcocjmfaa.Pure
open Go.RowKit Go.Proofs.Ytfphbbjcocjmfaa.PFnExactIsSpan Go.Proofs.YtfphbbjcocjmfaaW.PrintWords Go.Proofs.YtfphbbjcocjmfaaW.PrintLast

theorem FnExactIsSpan : ∀ (a0_0 : Int) (a0_1 : Int), (Lit.int .i64 a0_0).wf = true → (Lit.int .i64 a0_1).wf = true → laws_FnExactIsSpan.f a0_0 a0_1 = some true := by
  intro a b _ _
  unfold laws_FnExactIsSpan.f spec_IsSpan.f impl_IsSpan.f laws_toSpan.f
  by_cases h1 : 0 ≤ a <;> by_cases h2 : b ≤ 1000 <;> simp [h1, h2]

end Go.Proofs.Ytfphbbjcocjmfaa.Pure
