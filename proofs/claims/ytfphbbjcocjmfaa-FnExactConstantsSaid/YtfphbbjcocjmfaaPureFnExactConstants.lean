/- FnExactConstants returns true: every exported constant has its given value; no condition. -/
import Derived.Test.YtfphbbjcocjmfaaPFnExactConstantsx1
namespace Go.Proofs.Ytfphbbjcocjmfaa.Pure
open Go.RowKit Go.Proofs.Ytfphbbjcocjmfaa.PFnExactConstants Go.Proofs.YtfphbbjcocjmfaaW.PrintWords Go.Proofs.YtfphbbjcocjmfaaW.PrintLast

/-- YOURS: laws_FnExactConstants.f  = some true
What it reaches (each with k first where it has rounds; `.mono`: more rounds tell the same; `.l0`, ..: its loops, with `.mono_l`): laws_FnExactConstants.f -/
theorem FnExactConstants : laws_FnExactConstants.Pure := by
  rfl

end Go.Proofs.Ytfphbbjcocjmfaa.Pure
