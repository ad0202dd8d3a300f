/-
  The package is awake: a run by the kernel.
-/
import Derived.Test.YthnnjopilpgakaaGreatTaP
import Derived.KernelRfl
set_option linter.unusedVariables false
set_option linter.unusedSimpArgs false
namespace Go.Proofs.YthnnjopilpgakaaGreat
open Go.Gh
def isT : GV → Bool
  | .d (.lit (.bool b)) => b
  | _ => false
/-- awake answers true. -/
theorem awake_runs : gcall gp 1000200 0 11 [] [] (fun r _ => isT r) = true := by kernel_rfl
end Go.Proofs.YthnnjopilpgakaaGreat
