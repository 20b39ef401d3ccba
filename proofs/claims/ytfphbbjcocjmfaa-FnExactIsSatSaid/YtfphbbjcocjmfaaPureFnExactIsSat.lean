/- FnExactIsSat returns true for every satellite and number of planes; no condition. -/
import Derived.Test.YtfphbbjcocjmfaaPFnExactIsSatx1
namespace Go.Proofs.Ytfphbbjcocjmfaa.Pure
open Go.RowKit Go.Proofs.Ytfphbbjcocjmfaa.PFnExactIsSat Go.Proofs.YtfphbbjcocjmfaaW.PrintWords Go.Proofs.YtfphbbjcocjmfaaW.PrintLast

theorem FnExactIsSat : ∀ (a0_0 : Int) (a0_1 : Int) (a0_2 : Int) (a0_3 : Int) (a1 : Int), (Lit.int .i64 a0_0).wf = true → (Lit.int .i64 a0_1).wf = true → (Lit.int .i64 a0_2).wf = true → (Lit.int .i64 a0_3).wf = true → (Lit.int .i64 a1).wf = true → laws_FnExactIsSat.f a0_0 a0_1 a0_2 a0_3 a1 = some true := by
  intro a b c d t _ _ _ _ _
  unfold laws_FnExactIsSat.f spec_IsSat.f impl_IsSat.f spec_l1In.f impl_InRange.f laws_toSat.f
  by_cases h1 : 0 ≤ a <;> by_cases h2 : a < t <;> by_cases h3 : 0 ≤ b <;> by_cases h4 : b ≤ 359 <;> by_cases h5 : -60 ≤ c <;> by_cases h6 : c ≤ 60 <;> by_cases h7 : 0 ≤ d <;> simp [h1, h2, h3, h4, h5, h6, h7]

end Go.Proofs.Ytfphbbjcocjmfaa.Pure
