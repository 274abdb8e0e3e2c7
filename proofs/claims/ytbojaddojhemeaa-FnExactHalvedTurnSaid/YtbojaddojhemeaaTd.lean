/- Walks: tables: positive zeros of a table. -/
import Derived.Test.YtbojaddojhemeaaTc
namespace Go.Proofs.Ytbojaddojhemeaa
open Ieee Go.Flt Go.RowKit

set_option maxRecDepth 100000 in
set_option maxHeartbeats 1600000 in
theorem turn0 (a b c d k f g h : Nat) (h1 : single.fin a ∧ single.fin b ∧ single.fin c ∧ single.fin d) (h2 : single.fin k ∧ single.fin f ∧ single.fin g ∧ single.fin h) (w : World) :
    Calls Try.prog 57 #[.agg #[.complex .f32 a b, .complex .f32 c d, .complex .f32 k f, .complex .f32 g h]] w fun e w' => e = .returned (.agg #[.complex .f32 (clr a) (clr b), .complex .f32 (clr c) (clr d), .complex .f32 (clr k) (clr f), .complex .f32 (clr g) (clr h)]) ∧ ∃ n, ((((((w.alloc (.cells #[.complex .f32 a b, .complex .f32 c d, .complex .f32 k f, .complex .f32 g h] 46)).alloc (.cells #[.complex .f32 (clr a) (clr b), .complex .f32 (clr c) (clr d), .complex .f32 (clr k) (clr f), .complex .f32 (clr g) (clr h)] 46)).alloc (.cells #[.complex .f32 a b, .complex .f32 c d] 99)).alloc (.cells #[.complex .f32 (clr a) (clr b), .complex .f32 (clr c) (clr d)] 99)).alloc (.cells #[.complex .f32 k f, .complex .f32 g h] 99)).alloc (.cells #[.complex .f32 (clr k) (clr f), .complex .f32 (clr g) (clr h)] 99)).drewN n = w' := by
  have c1 := spinor0 a b c d h1
  have c2 := spinor0 k f g h h2
  clear h1 h2
  go_enter Try.func57, Try.ntmps57
  go_wp2_with fail
  go_region_with (go_at_call 88; (first | (with_reducible refine (c1 _).mono ?_) | (with_reducible refine (c2 _).mono ?_)); rintro e w' ⟨rfl, n, rfl⟩)
  all_goals go_wp2_with fail
  all_goals go_returns
  all_goals exact ⟨rfl, _, rfl⟩
end Go.Proofs.Ytbojaddojhemeaa
