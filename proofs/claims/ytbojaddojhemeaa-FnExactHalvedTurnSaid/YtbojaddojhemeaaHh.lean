/- Halved turns: out of range, by the program; the reference's side. -/
import Derived.Test.YtbojaddojhemeaaHg
import Derived.Test.YtbojaddojhemeaaHc
import Derived.Test.YtbojaddojhemeaaTd
namespace Go.Proofs.Ytbojaddojhemeaa
open Ieee Go.Flt Go.RowKit

set_option maxRecDepth 100000 in
theorem iHT_bad (a k : Int) (h : ¬ ((0 ≤ a ∧ a ≤ 2) ∧ 0 ≤ k ∧ k ≤ 24)) (w : World) :
    Calls Try.prog 33 #[.int .i64 a, .int .i64 k] w fun e w' => e = .returned (.tuple #[.agg #[.complex .f32 0 0, .complex .f32 0 0, .complex .f32 0 0, .complex .f32 0 0], .int .i64 2]) ∧ Grown w w' := by
  by_cases ha : 0 ≤ a ∧ a ≤ 2
  · have ax := isAxis_yes a ha.1 ha.2
    have hv := isHalvings_no k (by omega)
    clear h ha
    go_enter Try.func33, Try.ntmps33
    go_wp2_with (first | (go_at_call 65; (with_reducible refine (ax _).mono ?_); rintro e w' ⟨rfl, rfl⟩) | (go_at_call 66; (with_reducible refine (hv _).mono ?_); rintro e w' ⟨rfl, rfl⟩))
    go_returns
    exact ⟨rfl, by go_grown⟩
  · have ax := isAxis_no a (by omega)
    clear h ha
    go_enter Try.func33, Try.ntmps33
    go_wp2_with (go_at_call 65; (with_reducible refine (ax _).mono ?_); rintro e w' ⟨rfl, rfl⟩)
    go_returns
    exact ⟨rfl, by go_grown⟩
end Go.Proofs.Ytbojaddojhemeaa
