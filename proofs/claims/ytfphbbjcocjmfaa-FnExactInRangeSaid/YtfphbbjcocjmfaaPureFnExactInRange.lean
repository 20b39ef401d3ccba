/- FnExactInRange returns true for all whole numbers; no condition. -/
import Derived.Test.YtfphbbjcocjmfaaPFnExactInRangex1
namespace Go.Proofs.Ytfphbbjcocjmfaa.Pure
open Go.RowKit Go.Proofs.Ytfphbbjcocjmfaa.PFnExactInRange Go.Proofs.YtfphbbjcocjmfaaW.PrintWords Go.Proofs.YtfphbbjcocjmfaaW.PrintLast

/-- YOURS: ∀ (a0 : Int) (a1 : Int) (a2 : Int), (Lit.int .i64 a0).wf = true → (Lit.int .i64 a1).wf = true → (Lit.int .i64 a2).wf = true → laws_FnExactInRange.f a0 a1 a2 = some true
What it reaches (each with k first where it has rounds; `.mono`: more rounds tell the same; `.l0`, ..: its loops, with `.mono_l`): spec_InRange.f, impl_InRange.f, laws_FnExactInRange.f -/
theorem FnExactInRange : laws_FnExactInRange.Pure := by
  intro a b c _ _ _
  unfold laws_FnExactInRange.f spec_InRange.f impl_InRange.f
  by_cases h : b ≤ a <;> simp [h]

end Go.Proofs.Ytfphbbjcocjmfaa.Pure
