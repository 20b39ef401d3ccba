/- FnExactCeilDiv returns true for all whole numbers; no condition. -/
import Derived.Test.YtfphbbjcocjmfaaPFnExactCeilDivx1
namespace Go.Proofs.Ytfphbbjcocjmfaa.Pure
open Go.RowKit Go.Proofs.Ytfphbbjcocjmfaa.PFnExactCeilDiv Go.Proofs.YtfphbbjcocjmfaaW.PrintWords Go.Proofs.YtfphbbjcocjmfaaW.PrintLast

/-- YOURS: ∀ (a0 : Int) (a1 : Int), (Lit.int .i64 a0).wf = true → (Lit.int .i64 a1).wf = true → laws_FnExactCeilDiv.f a0 a1 = some true
What it reaches (each with k first where it has rounds; `.mono`: more rounds tell the same; `.l0`, ..: its loops, with `.mono_l`): spec_l1In.f, spec_CeilDiv.f, impl_InRange.f, impl_CeilDiv.f, laws_FnExactCeilDiv.f -/
theorem FnExactCeilDiv : laws_FnExactCeilDiv.Pure := by
  intro a b _ _
  unfold laws_FnExactCeilDiv.f spec_CeilDiv.f impl_CeilDiv.f spec_l1In.f impl_InRange.f
  by_cases h1 : 0 ≤ a <;> by_cases h2 : a ≤ 1000000000000 <;> by_cases h3 : 1 ≤ b <;> by_cases h4 : b ≤ 1000000000000 <;> by_cases h5 : b = 0 <;> simp [h1, h2, h3, h4, h5] <;> omega

end Go.Proofs.Ytfphbbjcocjmfaa.Pure
