/- Closed facts on the program that every row of this seat asks. -/
import Derived.Test.YtendgmblgdkiaaaGreatGInternFull0
import Derived.Test.YtendgmblgdkiaaaGreatRows
import Derived.JoinedOf
import Derived.KernelRfl
namespace Go.Proofs.YtendgmblgdkiaaaGreat.Facts
theorem may : Tryz.prog.mayEnter = true := by kernel_rfl
end Go.Proofs.YtendgmblgdkiaaaGreat.Facts
