/- The walk of the law on constants: it returns true. -/
import Derived.Test.YtbojaddojhemeaaChecked
import Derived.WalkKit
namespace Go.Proofs.Ytbojaddojhemeaa
theorem fnConstants (w : World) :
    Calls Try.prog 3 #[] w fun e w' => e = .returned (.bool true) ∧ w = w' := by
  go_enter Try.func3, Try.ntmps3
  go_wp2
  go_ret
  exact ⟨rfl, rfl⟩

end Go.Proofs.Ytbojaddojhemeaa
