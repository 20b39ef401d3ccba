/- FnExactMin returns true for all whole numbers; no condition. -/
import Derived.Test.YtfphbbjcocjmfaaPFnExactMinx1
namespace Go.Proofs.Ytfphbbjcocjmfaa.Pure
open Go.RowKit Go.Proofs.Ytfphbbjcocjmfaa.PFnExactMin Go.Proofs.YtfphbbjcocjmfaaW.PrintWords Go.Proofs.YtfphbbjcocjmfaaW.PrintLast

/-- YOURS: ∀ (a0 : Int) (a1 : Int), (Lit.int .i64 a0).wf = true → (Lit.int .i64 a1).wf = true → laws_FnExactMin.f a0 a1 = some true
What it reaches (each with k first where it has rounds; `.mono`: more rounds tell the same; `.l0`, ..: its loops, with `.mono_l`): spec_Min.f, impl_Min.f, laws_FnExactMin.f -/
theorem FnExactMin : laws_FnExactMin.Pure := by
  intro a b _ _
  unfold laws_FnExactMin.f spec_Min.f impl_Min.f mn
  split <;> simp_all

end Go.Proofs.Ytfphbbjcocjmfaa.Pure
