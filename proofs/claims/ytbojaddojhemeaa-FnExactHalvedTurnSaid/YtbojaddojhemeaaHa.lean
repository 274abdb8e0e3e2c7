/- Plain law: the numbers of so many halvings, worked out. -/
import Derived.Test.YtbojaddojhemeaaWh
import Derived.KernelRfl
namespace Go.Flt
open Ieee

def hvC : Nat → Nat := fun k => ([0, 1060439283, 1064076127, 1065030847, 1065272429, 1065333007, 1065348163, 1065351953, 1065352900, 1065353137, 1065353196, 1065353211, 1065353215, 1065353216, 1065353216, 1065353216, 1065353216, 1065353216, 1065353216, 1065353216, 1065353216, 1065353216, 1065353216, 1065353216, 1065353216] : List Nat).getD k 0
def hvS : Nat → Nat := fun k => ([1065353216, 1060439283, 1053028117, 1044891073, 1036565813, 1028193071, 1019808431, 1011420815, 1003032455, 994643909, 986255317, 977866713, 969478106, 961089498, 952700890, 944312282, 935923674, 927535066, 919146458, 910757850, 902369242, 893980634, 885592026, 877203418, 868814810] : List Nat).getD k 0
def hvA : Nat → Nat := fun k => ([1065353216, 1071284858, 1073103280, 1073580640, 1073701430, 1073731720, 1073739298, 1073741192, 1073741666, 1073741784, 1073741814, 1073741822, 1073741824, 1073741824, 1073741824, 1073741824, 1073741824, 1073741824, 1073741824, 1073741824, 1073741824, 1073741824, 1073741824, 1073741824] : List Nat).getD k 0
def hvY : Nat → Nat := fun k => ([1056964608, 1062896250, 1064714672, 1065192032, 1065312822, 1065343112, 1065350690, 1065352584, 1065353058, 1065353176, 1065353206, 1065353214, 1065353216, 1065353216, 1065353216, 1065353216, 1065353216, 1065353216, 1065353216, 1065353216, 1065353216, 1065353216, 1065353216, 1065353216] : List Nat).getD k 0
def hvD : Nat → Nat := fun k => ([1068827891, 1072464735, 1073419455, 1073661037, 1073721615, 1073736771, 1073740561, 1073741508, 1073741745, 1073741804, 1073741819, 1073741823, 1073741824, 1073741824, 1073741824, 1073741824, 1073741824, 1073741824, 1073741824, 1073741824, 1073741824, 1073741824, 1073741824, 1073741824] : List Nat).getD k 0

/-- One halving, as a test that can be worked out. -/
def hvStep (k : Nat) : Bool :=
  single.add 1065353216 (hvC k) == some (hvA k) && single.div (hvA k) 1073741824 == some (hvY k) &&
  (match double.sqrt (wid (hvY k)) with | some z => floatToFloatBits .f64 z .f32 == some (hvC (k + 1)) | none => false) &&
  single.add (hvC (k + 1)) (hvC (k + 1)) == some (hvD k) && single.mul 1073741824 (hvC (k + 1)) == some (hvD k) && single.div (hvS k) (hvD k) == some (hvS (k + 1)) &&
  isFin (hvA k) && isFin (hvY k) && isFin (hvC (k + 1)) && isFin (hvD k) && isFin (hvS (k + 1)) &&
  decide (0 < single.rung (hvA k)) && decide (0 < single.rung (hvY k)) && decide (hvY k < 2147483648) && decide (0 < single.rung (hvC (k + 1))) && decide (0 < single.rung (hvD k)) && decide (0 < single.rung (hvS (k + 1)))
def hvAll : Nat → Bool
  | 0 => true
  | n + 1 => hvStep n && hvAll n
set_option maxRecDepth 100000 in
theorem hvAll_24 : hvAll 24 = true := by kernel_rfl
theorem hvAll_of : ∀ n k, hvAll n = true → k < n → hvStep k = true
  | 0, k, _, h => absurd h (Nat.not_lt_zero k)
  | n + 1, k, h, hk => by
    unfold hvAll at h
    rw [Bool.and_eq_true] at h
    rcases Nat.lt_succ_iff_lt_or_eq.1 hk with hk | hk
    · exact hvAll_of n k h.2 hk
    · rw [hk]; exact h.1
theorem hv_step (k : Nat) (hk : k < 24) : hvStep k = true := hvAll_of 24 k hvAll_24 hk
end Go.Flt
