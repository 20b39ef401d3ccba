/- FnExactIsValidKey returns true for all whole numbers; no condition. -/
import Derived.Test.YtfphbbjcocjmfaaPFnExactIsValidKeyx1
namespace Go.Proofs.Ytfphbbjcocjmfaa.Pure
open Go.RowKit Go.Proofs.Ytfphbbjcocjmfaa.PFnExactIsValidKey Go.Proofs.YtfphbbjcocjmfaaW.PrintWords Go.Proofs.YtfphbbjcocjmfaaW.PrintLast

/-- YOURS: ∀ (a0 : Int), (Lit.int .i64 a0).wf = true → laws_FnExactIsValidKey.f a0 = some true
What it reaches (each with k first where it has rounds; `.mono`: more rounds tell the same; `.l0`, ..: its loops, with `.mono_l`): spec_l1In.f, spec_IsValidKey.f, impl_InRange.f, impl_IsValidKey.f, laws_FnExactIsValidKey.f -/
theorem FnExactIsValidKey : laws_FnExactIsValidKey.Pure := by
  intro a _
  unfold laws_FnExactIsValidKey.f spec_IsValidKey.f impl_IsValidKey.f spec_l1In.f impl_InRange.f
  by_cases h : 1 ≤ a <;> simp [h]

end Go.Proofs.Ytfphbbjcocjmfaa.Pure
