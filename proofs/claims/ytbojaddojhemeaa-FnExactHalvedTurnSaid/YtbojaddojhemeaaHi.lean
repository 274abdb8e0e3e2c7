/- Halved turns, by the reference. -/
import Derived.Test.YtbojaddojhemeaaHh
namespace Go.Proofs.Ytbojaddojhemeaa
open Ieee Go.Flt Go.RowKit

set_option maxRecDepth 100000 in
theorem about_0 (c s : Nat) (w : World) :
    Calls Try.prog 96 #[.int .i64 0, .float .f32 c, .float .f32 s] w fun e w' => e = .returned (.agg #[.complex .f32 c (Op.negFloat .f32 0), .complex .f32 (Op.negFloat .f32 0) (Op.negFloat .f32 s), .complex .f32 0 (Op.negFloat .f32 s), .complex .f32 c 0]) ∧ (w.alloc (.cells #[.complex .f32 c (Op.negFloat .f32 0), .complex .f32 (Op.negFloat .f32 0) (Op.negFloat .f32 s), .complex .f32 0 (Op.negFloat .f32 s), .complex .f32 c 0] 46)).alloc (.cells #[.complex .f32 c (Op.negFloat .f32 0), .complex .f32 (Op.negFloat .f32 0) (Op.negFloat .f32 s), .complex .f32 0 (Op.negFloat .f32 s), .complex .f32 c 0] 46) = w' := by
  have tb := table_any c s 0 0
  go_enter Try.func96, Try.ntmps96
  go_wp2_with (go_at_call 87; (with_reducible refine (tb _).mono ?_); rintro e w' ⟨rfl, rfl⟩)
  go_returns
  exact ⟨rfl, rfl⟩

set_option maxRecDepth 100000 in
theorem about_1 (c s : Nat) (w : World) :
    Calls Try.prog 96 #[.int .i64 1, .float .f32 c, .float .f32 s] w fun e w' => e = .returned (.agg #[.complex .f32 c (Op.negFloat .f32 0), .complex .f32 (Op.negFloat .f32 s) (Op.negFloat .f32 0), .complex .f32 s (Op.negFloat .f32 0), .complex .f32 c 0]) ∧ (w.alloc (.cells #[.complex .f32 c (Op.negFloat .f32 0), .complex .f32 (Op.negFloat .f32 s) (Op.negFloat .f32 0), .complex .f32 s (Op.negFloat .f32 0), .complex .f32 c 0] 46)).alloc (.cells #[.complex .f32 c (Op.negFloat .f32 0), .complex .f32 (Op.negFloat .f32 s) (Op.negFloat .f32 0), .complex .f32 s (Op.negFloat .f32 0), .complex .f32 c 0] 46) = w' := by
  have tb := table_any c 0 s 0
  go_enter Try.func96, Try.ntmps96
  go_wp2_with (go_at_call 87; (with_reducible refine (tb _).mono ?_); rintro e w' ⟨rfl, rfl⟩)
  go_returns
  exact ⟨rfl, rfl⟩

set_option maxRecDepth 100000 in
theorem about_2 (c s : Nat) (w : World) :
    Calls Try.prog 96 #[.int .i64 2, .float .f32 c, .float .f32 s] w fun e w' => e = .returned (.agg #[.complex .f32 c (Op.negFloat .f32 s), .complex .f32 (Op.negFloat .f32 0) (Op.negFloat .f32 0), .complex .f32 0 (Op.negFloat .f32 0), .complex .f32 c s]) ∧ (w.alloc (.cells #[.complex .f32 c (Op.negFloat .f32 s), .complex .f32 (Op.negFloat .f32 0) (Op.negFloat .f32 0), .complex .f32 0 (Op.negFloat .f32 0), .complex .f32 c s] 46)).alloc (.cells #[.complex .f32 c (Op.negFloat .f32 s), .complex .f32 (Op.negFloat .f32 0) (Op.negFloat .f32 0), .complex .f32 0 (Op.negFloat .f32 0), .complex .f32 c s] 46) = w' := by
  have tb := table_any c 0 0 s
  go_enter Try.func96, Try.ntmps96
  go_wp2_with (go_at_call 87; (with_reducible refine (tb _).mono ?_); rintro e w' ⟨rfl, rfl⟩)
  go_returns
  exact ⟨rfl, rfl⟩
end Go.Proofs.Ytbojaddojhemeaa
